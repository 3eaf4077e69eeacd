/- Words for the law PcmOwn: sounds in memory of their own, one behind the other. -/
import Derived.Test.YtijcecakofmhcaaDoorPcmSpoil
import Derived.Test.YtijcecakofmhcaaDoorPcmSpec
namespace Go.Proofs.YtijcecakofmhcaaDoor
open Go.RowKit

/-- A sound as the cells of a row's element. -/
abbrev Item := Int × Option Addr × Nat × Nat
def kItem : Kd Item where
  size := 2
  dflt := (0, none, 0, 0)
  K := fun _ _ x cs => cs = [.int .i64 x.1, .slice x.2.1 x.2.2.1 x.2.2.2]
  len := fun h => by rw [h]; rfl
  keep := fun _ h => h
  weak := fun _ h => h
theorem kItem_at {e : TypeId} {base : Nat} {ok : Nat → Prop} {w : World} {v : Value} {xs : List Item} (h : OwnK kItem e base ok w v xs) (j : Nat) (hj : j < xs.length) :
    ∃ g cap, v = .slice (some ⟨g, 0, none⟩) xs.length cap ∧ base ≤ g ∧ g < w.heap.size ∧ w.cell? ⟨g, j * 2, none⟩ = some (.int .i64 (nth kItem.dflt xs j).1) ∧ w.cell? ⟨g, j * 2 + 1, none⟩ = some (.slice (nth kItem.dflt xs j).2.1 (nth kItem.dflt xs j).2.2.1 (nth kItem.dflt xs j).2.2.2) := by
  obtain ⟨cells, ho, hr⟩ := h
  have hc := hr.2 j hj
  have hc : (cells.drop (j * 2)).take 2 = [.int .i64 (nth kItem.dflt xs j).1, .slice (nth kItem.dflt xs j).2.1 (nth kItem.dflt xs j).2.2.1 (nth kItem.dflt xs j).2.2.2] := hc
  have h0 : cells[j * 2]? = some (.int .i64 (nth kItem.dflt xs j).1) := by
    have := congrArg (fun l : List Value => l[0]?) hc
    simpa using this
  have h1 : cells[j * 2 + 1]? = some (.slice (nth kItem.dflt xs j).2.1 (nth kItem.dflt xs j).2.2.1 (nth kItem.dflt xs j).2.2.2) := by
    have := congrArg (fun l : List Value => l[1]?) hc
    simpa using this
  have ho' := ho
  rcases ho.2 with ⟨_, hz⟩ | ⟨g, cap, cur, rfl, hb, hh, _⟩
  · omega
  · refine ⟨g, cap, rfl, hb, (Array.getElem?_eq_some_iff.1 hh).1, ?_, ?_⟩
    · have := World.ownsRow.cells ho' (g := g) rfl _ _ h0
      rwa [add_plain] at this
    · have := World.ownsRow.cells ho' (g := g) rfl _ _ h1
      rwa [add_plain] at this

/-- A sound that was returned, and its copy. -/
structure Rec where
  r : Int
  T : List (List Int)
  A : Option Addr
  c : Nat
  A' : Option Addr
  c' : Nat
  lo : Nat
  mid : Nat
  lo2 : Nat
  hi : Nat
def Rec.ok1 (R : Rec) (b : Nat) : Prop := R.lo ≤ b ∧ b < R.mid
def Rec.ok2 (R : Rec) (b : Nat) : Prop := R.lo2 ≤ b ∧ b < R.hi
def Rec.item1 (R : Rec) : Item := (R.r, R.A, R.T.length, R.c)
def Rec.item2 (R : Rec) : Item := (R.r, R.A', R.T.length, R.c')
structure RecAt (w : World) (R : Rec) : Prop where
  a : Sl kT R.ok1 w R.A R.c R.T
  b : Sl (kSl (kInt .i64)) R.ok2 w R.A' R.c' R.T
/-- The records lie one behind the other. -/
def Chain : Nat → List Rec → Nat → Prop
  | n, [], m => n ≤ m
  | n, R :: Rs, m => n ≤ R.lo ∧ R.lo ≤ R.mid ∧ R.mid ≤ R.lo2 ∧ R.lo2 ≤ R.hi ∧ Chain R.hi Rs m
theorem Chain.le {n m : Nat} : ∀ {Rs : List Rec} {n : Nat}, Chain n Rs m → n ≤ m := by
  intro Rs
  induction Rs with
  | nil => intro n h; exact h
  | cons R Rs ih => intro n h; have := ih h.2.2.2.2; have := h.1; have := h.2.1; have := h.2.2.1; have := h.2.2.2.1; omega
theorem chain_le : ∀ {Rs : List Rec} {n m m' : Nat}, Chain n Rs m → m ≤ m' → Chain n Rs m' := by
  intro Rs
  induction Rs with
  | nil => intro n m m' h hm; exact Nat.le_trans h hm
  | cons R Rs ih => intro n m m' h hm; exact ⟨h.1, h.2.1, h.2.2.1, h.2.2.2.1, ih h.2.2.2.2 hm⟩
theorem Chain.mem : ∀ {Rs : List Rec} {n m : Nat}, Chain n Rs m → ∀ R ∈ Rs, n ≤ R.lo ∧ R.lo ≤ R.mid ∧ R.mid ≤ R.lo2 ∧ R.lo2 ≤ R.hi ∧ R.hi ≤ m := by
  intro Rs
  induction Rs with
  | nil => intro n m _ R hR; cases hR
  | cons R Rs ih =>
    intro n m h Q hQ
    rcases List.mem_cons.1 hQ with rfl | hQ
    · exact ⟨h.1, h.2.1, h.2.2.1, h.2.2.2.1, Chain.le (m := m) (n := n) h.2.2.2.2⟩
    · have := ih h.2.2.2.2 Q hQ
      have := h.1; have := h.2.1; have := h.2.2.1; have := h.2.2.2.1
      omega
theorem Chain.snoc : ∀ {Rs : List Rec} {n m : Nat} {R : Rec} {m' : Nat}, Chain n Rs m → m ≤ R.lo → R.lo ≤ R.mid → R.mid ≤ R.lo2 → R.lo2 ≤ R.hi → R.hi ≤ m' → Chain n (Rs ++ [R]) m' := by
  intro Rs
  induction Rs with
  | nil => intro n m R m' h h1 h2 h3 h4 h5; exact ⟨Nat.le_trans h h1, h2, h3, h4, h5⟩
  | cons Q Rs ih => intro n m R m' h h1 h2 h3 h4 h5; exact ⟨h.1, h.2.1, h.2.2.1, h.2.2.2.1, ih h.2.2.2.2 h1 h2 h3 h4 h5⟩
theorem Chain.apart : ∀ {Rs : List Rec} {n m : Nat}, Chain n Rs m → ∀ i j, i < j → j < Rs.length → ∀ d, (nth d Rs i).hi ≤ (nth d Rs j).lo := by
  intro Rs
  induction Rs with
  | nil => intro n m _ i j _ hj; simp at hj
  | cons R Rs ih =>
    intro n m h i j hij hj d
    cases j with
    | zero => omega
    | succ j =>
      have hj' : j < Rs.length := by simpa using hj
      have e2 : nth d (R :: Rs) (j + 1) = nth d Rs j := by simp [nth]
      rw [e2]
      cases i with
      | zero =>
        have e1 : nth d (R :: Rs) 0 = R := by simp [nth]
        rw [e1]
        exact (Chain.mem h.2.2.2.2 _ (nth_mem d Rs j hj')).1
      | succ i =>
        have e1 : nth d (R :: Rs) (i + 1) = nth d Rs i := by simp [nth]
        rw [e1]
        exact ih h.2.2.2.2 i j (by omega) hj' d
/-- What holds between two rounds of the calls. -/
structure OutInv (wL : World) (Rs : List Rec) (vo vw : Value) (w : World) : Prop where
  low : Below wL.heap.size wL w
  chain : Chain wL.heap.size Rs w.heap.size
  at_ : ∀ R ∈ Rs, RecAt w R
  out : OwnK kItem 24 wL.heap.size (fun _ => True) w vo (Rs.map Rec.item1)
  want : OwnK kItem 24 wL.heap.size (fun _ => True) w vw (Rs.map Rec.item2)
  no : ∀ R ∈ Rs, ∀ b, (vo.ownBlock = some b ∨ vw.ownBlock = some b) → ¬ R.ok1 b ∧ ¬ R.ok2 b
  sep : ∀ b, vo.ownBlock = some b → vw.ownBlock ≠ some b
theorem OutInv.start (wL : World) : OutInv wL [] (.slice none 0 0) (.slice none 0 0) wL :=
  ⟨Below.refl _ _, Nat.le_refl _, fun R hR => (by cases hR), OwnK.nil _ _ _ _ _, OwnK.nil _ _ _ _ _, fun R hR => (by cases hR), fun b hb => by cases hb⟩
theorem RecAt.keep {w w' : World} {R : Rec} (h : RecAt w R) {o : Nat → Prop} (hk : Keep o w w') (h1 : ∀ b, R.ok1 b → o b) (h2 : ∀ b, R.ok2 b → o b) : RecAt w' R :=
  ⟨h.a.keep (hk.weak h1), h.b.keep (hk.weak h2)⟩
theorem OwnK.own_keep {α : Type} {k : Kd α} {e : TypeId} {base : Nat} {w w' : World} {v : Value} {xs : List α} (h : OwnK k e base (fun _ => True) w v xs) (hK : ∀ (ok ok' : Nat → Prop) (u u' : World) x cs, k.K ok u x cs → k.K ok' u' x cs)
    {row : Option Nat} (hg : w.grownBy w' row) (hne : v.ownBlock = none ∨ v.ownBlock ≠ row) : OwnK k e base (fun _ => True) w' v xs := by
  obtain ⟨cells, ho, hr⟩ := h
  exact ⟨cells, World.ownsRow.kept ho hg hne, hr.1, fun j hj => hK _ _ _ _ _ _ (hr.2 j hj)⟩
theorem kItem_free (ok ok' : Nat → Prop) (u u' : World) (x : Item) (cs : List Value) (h : kItem.K ok u x cs) : kItem.K ok' u' x cs := h
/-- A round: a call, its result put down, and a copy of it. -/
theorem OutInv.step {wL wr w1 w2 w3 w4 w5 w6 : World} {Rs : List Rec} {vo vw v4 v6 : Value} (I : OutInv wL Rs vo vw wr) {r : Int} {T : List (List Int)} {A : Option Addr} {c : Nat} {A' : Option Addr} {c' : Nat} {g11 : Nat}
    (d1 : Below wr.heap.size wr w1) (hg : g11 = wr.heap.size) (hz : w1.heap.size = g11 + 1) (d2 : Below w1.heap.size w1 w2) (S2 : Sl kT (fun b => w1.heap.size ≤ b) w2 A c T) (t3 : w2.grownBy w3 (some g11)) (r3 : w3.heap.size = w2.heap.size)
    (O4 : OwnK kItem 24 wL.heap.size (fun _ => True) w4 v4 (Rs.map Rec.item1 ++ [(r, A, T.length, c)])) (t4 : w3.grownBy w4 vo.ownBlock) (a4 : ∀ b, v4.ownBlock = some b → vo.ownBlock = some b ∨ w3.heap.size ≤ b)
    (d5 : Below w4.heap.size w4 w5) (S5 : Sl (kSl (kInt .i64)) (fun b => w4.heap.size ≤ b) w5 A' c' T)
    (O6 : OwnK kItem 24 wL.heap.size (fun _ => True) w6 v6 (Rs.map Rec.item2 ++ [(r, A', T.length, c')])) (t6 : w5.grownBy w6 vw.ownBlock) (a6 : ∀ b, v6.ownBlock = some b → vw.ownBlock = some b ∨ w5.heap.size ≤ b) :
    OutInv wL (Rs ++ [⟨r, T, A, c, A', c', w1.heap.size, w2.heap.size, w4.heap.size, w5.heap.size⟩]) v4 v6 w6 := by
  have s1 := d1.size
  have s2 := d2.size
  have s4 := t4.size
  have s5 := d5.size
  have s6 := t6.size
  have sL := I.low.size
  have lo := I.out.lt
  have lw := I.want.lt
  have lo4 := O4.lt
  have k1 := Keep.of_below d1
  have k2 := Keep.of_below d2
  have k3 := Keep.of_grown1 t3
  have k4 := Keep.of_grown t4
  have k5 := Keep.of_below d5
  have k6 := Keep.of_grown t6
  have old : ∀ b, b < wr.heap.size → vo.ownBlock ≠ some b → vw.ownBlock ≠ some b → w6.heap[b]? = wr.heap[b]? := fun b hb h1 h2 =>
    (k6.blk b (by omega) (Ne.symm h2)).trans ((k5.blk b (by omega) (by omega)).trans ((k4.blk b (by omega) (Ne.symm h1)).trans ((k3.blk b (by omega) (by omega)).trans ((k2.blk b (by omega) (by omega)).trans (k1.blk b hb hb)))))
  have kOld : Keep (fun b => b < wr.heap.size ∧ vo.ownBlock ≠ some b ∧ vw.ownBlock ≠ some b) wr w6 := ⟨by omega, fun b hb ho => old b hb ho.2.1 ho.2.2⟩
  refine ⟨⟨?_, ?_, ?_, by omega, fun b hb => ?_⟩, I.chain.snoc (by show _ ≤ w1.heap.size; omega) s2 (by show w2.heap.size ≤ w4.heap.size; omega) s5 s6, fun R hR => ?_, ?_, ?_, fun R hR b hb => ?_, fun b hb he => ?_⟩
  · exact t6.os.trans (d5.os.trans (t4.os.trans (t3.os.trans (d2.os.trans (d1.os.trans I.low.os)))))
  · exact t6.tape.trans (d5.tape.trans (t4.tape.trans (t3.tape.trans (d2.tape.trans (d1.tape.trans I.low.tape)))))
  · exact t6.output.trans (d5.output.trans (t4.output.trans (t3.output.trans (d2.output.trans (d1.output.trans I.low.output)))))
  · exact (old b (by omega) (fun e => by have := lo b e; omega) (fun e => by have := lw b e; omega)).trans (I.low.block b hb)
  · rcases List.mem_append.1 hR with hR | hR
    · have hm := I.chain.mem R hR
      refine (I.at_ R hR).keep kOld (fun b hb => ⟨by have := hb.2; omega, fun e => (I.no R hR b (.inl e)).1 hb, fun e => (I.no R hR b (.inr e)).1 hb⟩) (fun b hb => ⟨by have := hb.2; omega, fun e => (I.no R hR b (.inl e)).2 hb, fun e => (I.no R hR b (.inr e)).2 hb⟩)
    · obtain rfl : R = _ := by simpa using hR
      refine ⟨?_, ?_⟩
      · have h := (S2.weak (ok' := fun b => w1.heap.size ≤ b ∧ b < w2.heap.size) fun b hb ho => ⟨ho, hb⟩)
        exact (((h.keep (k3.weak fun b hb => by have := hb.1; omega)).keep (k4.weak fun b hb e => by have := lo b e.symm; have := hb.1; omega)).keep (k5.weak fun b hb => by have := hb.2; omega)).keep (k6.weak fun b hb e => by have := lw b e.symm; have := hb.1; omega)
      · have h := (S5.weak (ok' := fun b => w4.heap.size ≤ b ∧ b < w5.heap.size) fun b hb ho => ⟨ho, hb⟩)
        exact h.keep (k6.weak fun b hb e => by have := lw b e.symm; have := hb.1; omega)
  · rw [List.map_append]
    refine (O4.own_keep kItem_free (row := none) ⟨d5.os, d5.tape, d5.output, d5.size, fun b hb _ => d5.block b hb⟩ (by cases v4.ownBlock <;> simp)).own_keep kItem_free t6 ?_
    cases h : v4.ownBlock with
    | none => exact .inl rfl
    | some b =>
      refine .inr fun e => ?_
      have hw := lw b e.symm
      rcases a4 b h with h1 | h1
      · exact I.sep b h1 e.symm
      · omega
  · rw [List.map_append]; exact O6
  · rcases List.mem_append.1 hR with hR | hR
    · have hm := I.chain.mem R hR
      rcases hb with hb | hb
      · rcases a4 b hb with h | h
        · exact I.no R hR b (.inl h)
        · exact ⟨fun e => by have := e.2; omega, fun e => by have := e.2; omega⟩
      · rcases a6 b hb with h | h
        · exact I.no R hR b (.inr h)
        · exact ⟨fun e => by have := e.2; omega, fun e => by have := e.2; omega⟩
    · obtain rfl : R = _ := by simpa using hR
      rcases hb with hb | hb
      · have hb4 := lo4 b hb
        rcases a4 b hb with h | h
        · have := lo b h
          exact ⟨fun e => by have := e.1; simp only at this; omega, fun e => by have := e.1; simp only at this; omega⟩
        · exact ⟨fun e => by have := e.2; simp only at this; omega, fun e => by have := e.1; simp only at this; omega⟩
      · rcases a6 b hb with h | h
        · have := lw b h
          exact ⟨fun e => by have := e.1; simp only at this; omega, fun e => by have := e.1; simp only at this; omega⟩
        · exact ⟨fun e => by have := e.2; simp only at this; omega, fun e => by have := e.2; simp only at this; omega⟩
  · have hb4 := lo4 b hb
    rcases a4 b hb with h | h
    · rcases a6 b he with h' | h'
      · exact I.sep b h h'
      · omega
    · rcases a6 b he with h' | h'
      · have := lw b h'; omega
      · omega
theorem OutInv.out3 {wL wr w1 w2 w3 : World} {Rs : List Rec} {vo vw : Value} (I : OutInv wL Rs vo vw wr) {g11 : Nat} (d1 : Below wr.heap.size wr w1) (hg : g11 = wr.heap.size) (d2 : Below w1.heap.size w1 w2) (t3 : w2.grownBy w3 (some g11)) :
    OwnK kItem 24 wL.heap.size (fun _ => True) w3 vo (Rs.map Rec.item1) := by
  refine (((I.out.below d1).below d2)).own_keep kItem_free t3 ?_
  cases h : vo.ownBlock with
  | none => exact .inl rfl
  | some b => exact .inr fun e => by have := I.out.lt b h; have := Option.some.inj e; omega
theorem OutInv.want5 {wL wr w1 w2 w3 w4 w5 : World} {Rs : List Rec} {vo vw : Value} (I : OutInv wL Rs vo vw wr) {g11 : Nat} (d1 : Below wr.heap.size wr w1) (hg : g11 = wr.heap.size) (d2 : Below w1.heap.size w1 w2) (t3 : w2.grownBy w3 (some g11)) (t4 : w3.grownBy w4 vo.ownBlock) (d5 : Below w4.heap.size w4 w5) :
    OwnK kItem 24 wL.heap.size (fun _ => True) w5 vw (Rs.map Rec.item2) := by
  refine OwnK.below (OwnK.own_keep (OwnK.own_keep (((I.want.below d1).below d2)) kItem_free t3 ?_) kItem_free t4 ?_) d5
  · cases h : vw.ownBlock with
    | none => exact .inl rfl
    | some b => exact .inr fun e => by have := I.want.lt b h; have := Option.some.inj e; omega
  · cases h : vw.ownBlock with
    | none => exact .inl rfl
    | some b => exact .inr fun e => I.sep b e.symm h
theorem own_at {v0 : Value} {g n cap m : Nat} (h : v0.ownBlock = some g ∨ m < g) : ∀ b, (Value.slice (some ⟨g, 0, none⟩) n cap).ownBlock = some b → v0.ownBlock = some b ∨ m ≤ b := fun b hb => by
  have hb : some g = some b := hb
  obtain rfl := Option.some.inj hb
  rcases h with h | h
  · exact .inl h
  · exact .inr (Nat.le_of_lt h)
/-! ### Spoiling them one by one -/
def rec0 : Rec := ⟨0, [], none, 0, none, 0, 0, 0, 0, 0⟩
theorem Sp.low {ok : Nat → Prop} {w w1 w2 : World} {B : Nat} (h : Below B w w1) (hB : B ≤ w1.heap.size) (hs : Sp ok w1 w2) (ho : ∀ b, ok b → B ≤ b) : Below B w w2 :=
  ⟨hs.os.trans h.os, hs.tape.trans h.tape, hs.output.trans h.output, Nat.le_trans h.size hs.size, fun b hb => (hs.out b (by omega) (fun e => by have := ho b e; omega)).trans (h.block b hb)⟩
structure Fin (w0 : World) (n0 m : Nat) (Rs : List Rec) (vo vw : Value) (k : Nat) (W : World) : Prop where
  low : Below w0.heap.size w0 W
  lo : w0.heap.size ≤ n0
  chain : Chain n0 Rs m
  no : ∀ R ∈ Rs, ∀ b, (vo.ownBlock = some b ∨ vw.ownBlock = some b) → ¬ R.ok1 b ∧ ¬ R.ok2 b
  out : OwnK kItem 24 n0 (fun _ => True) W vo (Rs.map Rec.item1)
  want : OwnK kItem 24 n0 (fun _ => True) W vw (Rs.map Rec.item2)
  a : ∀ j, j < Rs.length → Sl kT (nth rec0 Rs j).ok1 W (nth rec0 Rs j).A (nth rec0 Rs j).c (if j < k then sevens (nth rec0 Rs j).T else (nth rec0 Rs j).T)
  b : ∀ j, j < Rs.length → k ≤ j → Sl (kSl (kInt .i64)) (nth rec0 Rs j).ok2 W (nth rec0 Rs j).A' (nth rec0 Rs j).c' (nth rec0 Rs j).T
theorem Fin.below {w0 W W1 : World} {n0 m : Nat} {Rs : List Rec} {vo vw : Value} {k : Nat} (F : Fin w0 n0 m Rs vo vw k W) (h : Below W.heap.size W W1) : Fin w0 n0 m Rs vo vw k W1 :=
  ⟨below2 F.low h, F.lo, F.chain, F.no, F.out.below h, F.want.below h, fun j hj => (F.a j hj).below h, fun j hj hk => (F.b j hj hk).below h⟩
theorem own_sp {W W1 : World} {n0 : Nat} {v : Value} {xs : List Item} {ok : Nat → Prop} (h : OwnK kItem 24 n0 (fun _ => True) W v xs) (hs : Sp ok W W1) (hn : ∀ b, v.ownBlock = some b → ¬ ok b) : OwnK kItem 24 n0 (fun _ => True) W1 v xs := by
  obtain ⟨cells, ho, hr⟩ := h
  refine ⟨cells, ⟨ho.1, ?_⟩, hr.1, fun j hj => kItem_free _ _ _ _ _ _ (hr.2 j hj)⟩
  rcases ho.2 with h1 | ⟨g, cap, cur, rfl, hb, hh, rest⟩
  · exact .inl h1
  · exact .inr ⟨g, cap, cur, rfl, hb, (hs.out g (Array.getElem?_eq_some_iff.1 hh).1 (hn g rfl)).trans hh, rest⟩
theorem Fin.start {w0 wL W W1 : World} {Rs : List Rec} {vo vw : Value} {ok : Nat → Prop} (hL : Below w0.heap.size w0 W) (h0 : w0.heap.size ≤ wL.heap.size) (I : OutInv wL Rs vo vw W) (hs : Sp ok W W1) (ho : ∀ b, ok b → w0.heap.size ≤ b ∧ b < wL.heap.size) :
    Fin w0 wL.heap.size W.heap.size Rs vo vw 0 W1 := by
  have nb : ∀ R ∈ Rs, ∀ b, (R.ok1 b ∨ R.ok2 b) → ¬ ok b := fun R hR b hb e => by
    have := I.chain.mem R hR
    have := ho b e
    rcases hb with hb | hb
    · have := hb.1; omega
    · have := hb.1; omega
  refine ⟨Sp.low hL hL.size hs (fun b hb => (ho b hb).1), h0, I.chain, I.no, own_sp I.out hs (fun b hb e => by have := I.out.lt b hb; have := ho b e; omega), own_sp I.want hs (fun b hb e => by have := I.want.lt b hb; have := ho b e; omega), fun j hj => ?_, fun j hj _ => ?_⟩
  · rw [if_neg (by omega)]
    exact (I.at_ _ (nth_mem rec0 Rs j hj)).a.keep (hs.keep.weak fun b hb => nb _ (nth_mem rec0 Rs j hj) b (.inl hb))
  · exact (I.at_ _ (nth_mem rec0 Rs j hj)).b.keep (hs.keep.weak fun b hb => nb _ (nth_mem rec0 Rs j hj) b (.inr hb))
theorem Fin.step {w0 W W1 : World} {n0 m : Nat} {Rs : List Rec} {vo vw : Value} {k : Nat} (F : Fin w0 n0 m Rs vo vw k W) (hk : k < Rs.length) (hs : Sp (nth rec0 Rs k).ok1 W W1) (h7 : Sl kT (nth rec0 Rs k).ok1 W1 (nth rec0 Rs k).A (nth rec0 Rs k).c (sevens (nth rec0 Rs k).T)) :
    Fin w0 n0 m Rs vo vw (k + 1) W1 := by
  have hm := nth_mem rec0 Rs k hk
  have hc := F.chain.mem _ hm
  have key : ∀ j, j < Rs.length → j ≠ k → ∀ b, ((nth rec0 Rs j).ok1 b ∨ (nth rec0 Rs j).ok2 b) → ¬ (nth rec0 Rs k).ok1 b := fun j hj hne b hb e => by
    have hcj := F.chain.mem _ (nth_mem rec0 Rs j hj)
    have e1 := e.1
    have e2 := e.2
    rcases Nat.lt_or_ge j k with h | h
    · have := F.chain.apart j k h hk rec0
      rcases hb with hb | hb
      · have := hb.2; omega
      · have := hb.2; omega
    · have := F.chain.apart k j (by omega) hj rec0
      rcases hb with hb | hb
      · have := hb.1; omega
      · have := hb.1; omega
  refine ⟨Sp.low F.low F.low.size hs (fun b hb => by have := hb.1; have := F.lo; omega), F.lo, F.chain, F.no, own_sp F.out hs (fun b hb => (F.no _ hm b (.inl hb)).1), own_sp F.want hs (fun b hb => (F.no _ hm b (.inr hb)).1), fun j hj => ?_, fun j hj hkj => ?_⟩
  · by_cases h : j = k
    · subst h
      rw [if_pos (by omega)]
      exact h7
    · have ha := F.a j hj
      by_cases hjk : j < k
      · rw [if_pos hjk] at ha
        rw [if_pos (by omega)]
        exact ha.keep (hs.keep.weak fun b hb => key j hj h b (.inl hb))
      · rw [if_neg hjk] at ha
        rw [if_neg (by omega)]
        exact ha.keep (hs.keep.weak fun b hb => key j hj h b (.inl hb))
  · exact (F.b j hj (by omega)).keep (hs.keep.weak fun b hb => key j hj (by omega) b (.inr hb))
/-! ### How long the results are -/
def Bnd (T : List (List Int)) : Prop := T.length ≤ 100000 ∧ ∀ c ∈ T, c.length ≤ 100000
theorem bnd_nil : Bnd [] := ⟨by simp, fun c hc => by cases hc⟩
theorem pad_bnd (r : Int) (s : List (List Int)) : Bnd (padS r s).2.1 := by
  unfold padS
  split
  · rename_i hv
    have V := valid_facts hv
    have h3 := V.len
    have h2 := V.two
    refine ⟨by simp; omega, fun c hc => ?_⟩
    obtain ⟨d, hd, rfl⟩ := List.mem_map.1 hc
    have := V.same d hd
    have : padMore s ≤ 128 := by unfold padMore framesN; omega
    simp; omega
  · exact bnd_nil
theorem mono_bnd (r : Int) (s : List (List Int)) : Bnd (monoS r s).2.1 := by
  unfold monoS
  split
  · rename_i hv
    have h3 := (valid_facts hv).len
    refine ⟨by simp, fun c hc => ?_⟩
    obtain rfl : c = monoL s := by simpa using hc
    simp [monoL]; omega
  · exact bnd_nil
theorem wide_bnd (r : Int) (s : List (List Int)) : Bnd (wideS r s).2.1 := by
  unfold wideS
  split
  · rename_i hv
    have V := valid_facts hv
    have h3 := V.len
    have h1 := V.one
    have e0 := V.same _ (nth_mem [] s 0 (by omega))
    have e1 := V.same _ (nth_mem [] s (s.length - 1) (by omega))
    refine ⟨by simp, fun c hc => ?_⟩
    rcases (by simpa using hc : c = nth [] s 0 ∨ c = nth [] s (s.length - 1)) with rfl | rfl <;> omega
  · exact bnd_nil
theorem cut_bnd (r : Int) (s : List (List Int)) (a b : Int) : Bnd (cutS r s a b).2.1 := by
  unfold cutS
  split
  · rename_i hv
    have V := valid_facts hv
    have h3 := V.len
    have h2 := V.two
    split
    · refine ⟨by simp; omega, fun c hc => ?_⟩
      obtain ⟨d, hd, rfl⟩ := List.mem_map.1 hc
      have := V.same d hd
      rw [List.length_drop, List.length_take]; omega
    · exact bnd_nil
  · exact bnd_nil
theorem join_bnd (r : Int) (s : List (List Int)) (r2 : Int) (s2 : List (List Int)) : Bnd (joinS r s r2 s2).2.1 := by
  unfold joinS
  split
  · rename_i ha
    unfold alikeE at ha
    split at ha
    · rename_i hv
      simp only [Bool.and_eq_true] at hv
      have V := valid_facts hv.1
      have V2 := valid_facts hv.2
      have h2 := V.two
      split
      · refine ⟨by simp; omega, fun c hc => ?_⟩
        obtain ⟨j, hj, rfl⟩ := List.mem_map.1 hc
        have hj := List.mem_range.1 hj
        have hl : s.length = s2.length := by
          by_cases h : r = r2 ∧ s.length = s2.length
          · exact h.2
          · rw [if_neg h] at ha; cases ha
        have := V.same _ (nth_mem [] s j hj)
        have := V2.same _ (nth_mem [] s2 j (by omega))
        rw [List.length_append]; omega
      · exact bnd_nil
    · cases ha
  · exact bnd_nil
theorem mix_bnd (r : Int) (s : List (List Int)) (r2 : Int) (s2 : List (List Int)) (g h : Int) : Bnd (mixS r s r2 s2 g h).2.1 := by
  unfold mixS
  split
  · rename_i hv
    simp only [Bool.and_eq_true] at hv
    have V := valid_facts hv.1.1
    have V2 := valid_facts hv.1.2
    have h2 := V.two
    have h3 := V.len
    have h32 := V2.len
    split
    · refine ⟨by simp; omega, fun c hc => ?_⟩
      obtain ⟨j, _, rfl⟩ := List.mem_map.1 hc
      simp [mixL]; omega
    · exact bnd_nil
  · exact bnd_nil
theorem sl_below {α : Type} {k : Kd α} {ok : Nat → Prop} {w w' : World} {A : Option Addr} {c : Nat} {xs : List α} (h : Sl k ok w A c xs) (hb : Below w.heap.size w w') : Sl k ok w' A c xs := h.below hb
theorem OutInv.below {wL w w' : World} {Rs : List Rec} {vo vw : Value} (I : OutInv wL Rs vo vw w) (h : Below w.heap.size w w') : OutInv wL Rs vo vw w' :=
  ⟨below2 I.low h, chain_le I.chain h.size, fun R hR => ⟨(I.at_ R hR).a.below h, (I.at_ R hR).b.below h⟩, I.out.below h, I.want.below h, I.no, I.sep⟩
end Go.Proofs.YtijcecakofmhcaaDoor
