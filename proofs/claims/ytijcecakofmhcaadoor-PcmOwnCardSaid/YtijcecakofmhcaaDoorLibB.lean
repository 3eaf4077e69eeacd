/- More words: append of a row that is read; append of zeros; make; copy. -/
import Derived.Test.YtijcecakofmhcaaDoorLib
import Derived.Lib.AppendZeros
import Derived.Deep.RegionLaw
import Derived.Deep.AppendLies
import Derived.Deep.OwnRows
namespace Go.Proofs.YtijcecakofmhcaaDoor
open Go.RowKit

section
variable {P : Program} {ops : Array Oper} {rest : List Oper} {o : Oper} {a : Act} {Q : Exit → Act → World → Prop}
/-- append(v, ys...): v a row of the call's own, ys a slice that is read, nil let in. -/
theorem run_append_row {W : World} (base : Nat) (t ty e : TypeId) (k : IntKind) (bytes : Nat)
    (ht : P.underlying t = some (.slice e)) (hinfo : (P.info? e).map (fun i => (i.zero, i.size, i.bytes)) = some (some (.int k 0), 1, bytes)) (hb0 : 0 < bytes)
    (v : Value) (xs ys : List Int) (A : Option Addr) (c : Nat) {ok : Nat → Prop}
    (HO : OwnI e k base W v xs) (HR : Sl (kInt k) ok W A c ys) (hbase : base ≤ W.heap.size) (hl : (xs.length + ys.length) * bytes ≤ 140737488355328) :
    ∃ v1 w1, (Builtin.append_ #[t, t] ty #[v, .slice A ys.length c]).run P W = .ok v1 w1 ∧ OwnI e k base w1 v1 (xs ++ ys) ∧ W.grownBy w1 v.ownBlock ∧ (v1.ownBlock = v.ownBlock ∨ ∃ b, v1.ownBlock = some b ∧ W.heap.size ≤ b) := by
  obtain ⟨i0, hi, hzz⟩ := Option.map_eq_some_iff.1 hinfo
  simp only [Prod.mk.injEq] at hzz
  obtain ⟨hz0, hz1, hz2⟩ := hzz
  have hlen : xs.length + ys.length ≤ 140737488355328 := Nat.le_trans (Nat.le_mul_of_pos_right _ hb0) hl
  rcases A with _ | ad
  · have h0 : ys = [] := by
      rcases Nat.eq_zero_or_pos ys.length with h0 | h0
      · exact List.eq_nil_of_length_eq_zero h0
      · obtain ⟨ad, h, _⟩ := rd_int HR 0 h0
        cases h
    subst h0
    refine ⟨v, W, ?_, by simpa using HO, ⟨rfl, rfl, rfl, Nat.le_refl _, fun _ _ _ => rfl⟩, .inl rfl⟩
    rcases HO.2 with ⟨rfl, hn⟩ | ⟨g, cap, cur, rfl, _, _, hnc, _⟩
    · simp [Builtin.append_, run_underlying ht, sizeOf, typeInfo, hi, Builtin.lenOf, Builtin.firstCells]
    · simp [Builtin.append_, run_underlying ht, sizeOf, typeInfo, hi, Builtin.lenOf, Builtin.firstCells, hnc, storeCells]
  · have hcells : ∀ j u, (nums k ys)[j]? = some u → W.cell? (ad.add j) = some u := by
      intro j u hu
      have hj : j < ys.length := by
        rcases Nat.lt_or_ge j ys.length with h | h
        · exact h
        · simp [nums, List.getElem?_eq_none h] at hu
      obtain ⟨ad', h', hc⟩ := rd_int HR j hj
      injection h' with h'
      subst h'
      rw [nums_get k ys j hj] at hu
      injection hu with hu
      rw [hc, hu]
    obtain ⟨v1, w1, hr, h2, h3, _, h5⟩ := run_append_own_at (P := P) W base t ty e i0 (.int k 0) 1 bytes ht hi hz0 hz1 hz2 rfl (by omega) v xs.length (nums k xs) HO ad ys.length c (nums k ys) (by simp [nums]) hcells
      (by intro u hu; simp only [nums, List.mem_map] at hu; obtain ⟨q, _, rfl⟩ := hu; rfl) (by simp only [maxLen]; omega) hl hbase
    refine ⟨v1, w1, hr, by unfold OwnI; rw [List.length_append, nums_append]; exact h2, h3, ?_⟩
    rcases h5 with h | h
    · exact .inl h
    · exact .inr ⟨_, h, Nat.le_refl _⟩
theorem append_row {w0 W : World} (base : Nat) (hgd : o.guard = none) (s x : Operand) (t e : TypeId) (k : IntKind) (bytes : Nat)
    (ho : o.op = .call { callee := .builtin .append, args := #[s, x], argTypes := #[t, t] })
    (ht : P.underlying t = some (.slice e)) (hinfo : (P.info? e).map (fun i => (i.zero, i.size, i.bytes)) = some (some (.int k 0), 1, bytes)) (hb0 : 0 < bytes)
    (v : Value) (xs ys : List Int) (A : Option Addr) (c : Nat) {ok : Nat → Prop} (hs : a.eval s = v) (hx : a.eval x = .slice A ys.length c)
    (HO : OwnI e k base W v xs) (HR : Sl (kInt k) ok W A c ys) (HB : Below base w0 W) (hbase : base ≤ W.heap.size) (hl : (xs.length + ys.length) * bytes ≤ 140737488355328)
    (h : ∀ v1 w1, OwnI e k base w1 v1 (xs ++ ys) → Below base w0 w1 → W.grownBy w1 v.ownBlock → (v1.ownBlock = v.ownBlock ∨ ∃ b, v1.ownBlock = some b ∧ W.heap.size ≤ b) → wpList P ops Q rest (a.put o.dst v1) w1) :
    wpList P ops Q (o :: rest) a W := by
  obtain ⟨v1, w1, hr, hown, hg, hat⟩ := run_append_row (P := P) base t o.type e k bytes ht hinfo hb0 v xs ys A c HO HR hbase hl
  refine wpList_plain hgd fun K hK => ?_
  unfold Oper.wp execOp
  simp only [ho, resolve, invoke, builtin, Sem.run_bind, Sem.run_pure, Result.andThen_ok, List.map_toArray, List.map_cons, List.map_nil, hs, hx, hr]
  exact hK _ _ (h v1 w1 hown (HB.grown hg hbase HO.base_le) hg hat)
/-- append(v, x), x an element of any kind that lies in a new block. -/
theorem run_append_k {α : Type} {k : Kd α} {W : World} (base : Nat) (t ty e : TypeId) (z : Value) (bytes : Nat) (ok : Nat → Prop)
    (ht : P.underlying t = some (.slice e)) (hinfo : (P.info? e).map (fun i => (i.zero, i.size, i.bytes)) = some (some z, k.size, bytes)) (hz : z.cells.size = k.size) (hk0 : 0 < k.size) (hb0 : 0 < bytes)
    (v : Value) (xs : List α) (x : α) (cs : List Value) (h1 : cs.all (·.oneCell') = true)
    (HO : OwnK k e base ok W v xs) (hx : k.K (fun b => ok b ∧ v.ownBlock ≠ some b) W x cs) (hbase : base ≤ W.heap.size) (hl : (xs.length + 1) * bytes ≤ 140737488355328) :
    ∃ g cap w1, (Builtin.append_ #[t, t] ty #[v, .slice (some ⟨W.heap.size, 0, none⟩) 1 1]).run P (W.alloc (.cells cs.toArray e)) = .ok (.slice (some ⟨g, 0, none⟩) (xs.length + 1) cap) w1 ∧
      OwnK k e base ok w1 (.slice (some ⟨g, 0, none⟩) (xs.length + 1) cap) (xs ++ [x]) ∧ W.grownBy w1 v.ownBlock ∧ base ≤ g ∧ (v.ownBlock = some g ∨ W.heap.size < g) := by
  obtain ⟨i0, hi, hzz⟩ := Option.map_eq_some_iff.1 hinfo
  simp only [Prod.mk.injEq] at hzz
  obtain ⟨hz0, hz1, hz2⟩ := hzz
  obtain ⟨cells, hown, hr⟩ := HO
  have hlen : xs.length + 1 ≤ 140737488355328 := Nat.le_trans (Nat.le_mul_of_pos_right _ hb0) hl
  have hcs : cs.length = k.size := k.len hx
  obtain ⟨g, cap, w1, hrun, h2, h3, h4, h5⟩ := run_append_lies (P := P) (W.alloc (.cells cs.toArray e)) t ty base e i0 z k.size bytes ht hi hz0 hz1 hz2 hz hk0 v xs.length cells (World.ownsRow.alloc hown _)
    ⟨W.heap.size, 0, none⟩ 1 1 cs (by rw [hcs, Nat.one_mul]) (by
      intro j u hu
      rw [add_plain]
      have := World.cell?_alloc_at (w := W) cs.toArray e W.heap.size j rfl
      rw [this]; simpa using hu) (fun u hu => List.all_eq_true.1 h1 u hu) (by omega) (by simp only [maxLen]; omega) hl (by simp; omega) _ rfl
  have hg : W.grownBy w1 v.ownBlock := World.grownBy.trans (World.grownBy_alloc W _ _) h3
  refine ⟨g, cap, w1, hrun, OwnK.snoc hr hx h2 hg ?_, hg, ?_, ?_⟩
  · rcases h4 with h | h
    · exact .inl h.symm
    · exact .inr ⟨g, rfl, by rw [h]; simp⟩
  · rcases h4 with h | h
    · exact (World.ownsRow.lt hown g h).1
    · rw [h]; simp; omega
  · rcases h4 with h | h
    · exact .inl h
    · exact .inr (by rw [h]; simp)
theorem step_append_k {E : Prop} {K : Act → World → Prop} {α : Type} {k : Kd α} {W : World} (base : Nat) (hgd : o.guard = none) (s x0 : Operand) (t e : TypeId) (z : Value) (bytes : Nat) (ok : Nat → Prop)
    (ho : o.op = .call { callee := .builtin .append, args := #[s, x0], argTypes := #[t, t] })
    (ht : P.underlying t = some (.slice e)) (hinfo : (P.info? e).map (fun i => (i.zero, i.size, i.bytes)) = some (some z, k.size, bytes)) (hz : z.cells.size = k.size) (hk0 : 0 < k.size) (hb0 : 0 < bytes)
    (v : Value) (xs : List α) (x : α) (cs : List Value) (h1 : cs.all (·.oneCell') = true) (hs : a.eval s = v) (hx0 : a.eval x0 = .slice (some ⟨W.heap.size, 0, none⟩) 1 1)
    (HO : OwnK k e base ok W v xs) (hx : k.K (fun b => ok b ∧ v.ownBlock ≠ some b) W x cs) (hbase : base ≤ W.heap.size) (hl : (xs.length + 1) * bytes ≤ 140737488355328)
    (h : ∀ g cap w1, OwnK k e base ok w1 (.slice (some ⟨g, 0, none⟩) (xs.length + 1) cap) (xs ++ [x]) → W.grownBy w1 v.ownBlock → base ≤ g → (v.ownBlock = some g ∨ W.heap.size < g) → K (a.put o.dst (.slice (some ⟨g, 0, none⟩) (xs.length + 1) cap)) w1) :
    if Region.wanted o (yielded ops a.tmps) = true then Oper.wp P o a (W.alloc (.cells cs.toArray e)) K Q else E := by
  obtain ⟨g, cap, w1, hr, h2, h3, h4, h5⟩ := run_append_k (P := P) base t o.type e z bytes ok ht hinfo hz hk0 hb0 v xs x cs h1 HO hx hbase hl
  rw [if_pos (by simp [Region.wanted, hgd])]
  unfold Oper.wp execOp
  simp only [ho, resolve, invoke, builtin, Sem.run_bind, Sem.run_pure, Result.andThen_ok, List.map_toArray, List.map_cons, List.map_nil, hs, hx0, hr]
  exact h g cap w1 h2 h3 h4 h5
theorem append_k {α : Type} {k : Kd α} {W : World} (base : Nat) (hgd : o.guard = none) (s x0 : Operand) (t e : TypeId) (z : Value) (bytes : Nat) (ok : Nat → Prop)
    (ho : o.op = .call { callee := .builtin .append, args := #[s, x0], argTypes := #[t, t] })
    (ht : P.underlying t = some (.slice e)) (hinfo : (P.info? e).map (fun i => (i.zero, i.size, i.bytes)) = some (some z, k.size, bytes)) (hz : z.cells.size = k.size) (hk0 : 0 < k.size) (hb0 : 0 < bytes)
    (v : Value) (xs : List α) (x : α) (cs : List Value) (h1 : cs.all (·.oneCell') = true) (hs : a.eval s = v) (hx0 : a.eval x0 = .slice (some ⟨W.heap.size, 0, none⟩) 1 1)
    (HO : OwnK k e base ok W v xs) (hx : k.K (fun b => ok b ∧ v.ownBlock ≠ some b) W x cs) (hbase : base ≤ W.heap.size) (hl : (xs.length + 1) * bytes ≤ 140737488355328)
    (h : ∀ g cap w1, OwnK k e base ok w1 (.slice (some ⟨g, 0, none⟩) (xs.length + 1) cap) (xs ++ [x]) → W.grownBy w1 v.ownBlock → base ≤ g → (v.ownBlock = some g ∨ W.heap.size < g) → wpList P ops Q rest (a.put o.dst (.slice (some ⟨g, 0, none⟩) (xs.length + 1) cap)) w1) :
    wpList P ops Q (o :: rest) a (W.alloc (.cells cs.toArray e)) := by
  obtain ⟨g, cap, w1, hr, h2, h3, h4, h5⟩ := run_append_k (P := P) base t o.type e z bytes ok ht hinfo hz hk0 hb0 v xs x cs h1 HO hx hbase hl
  refine wpList_plain hgd fun K hK => ?_
  unfold Oper.wp execOp
  simp only [ho, resolve, invoke, builtin, Sem.run_bind, Sem.run_pure, Result.andThen_ok, List.map_toArray, List.map_cons, List.map_nil, hs, hx0, hr]
  exact hK _ _ (h g cap w1 h2 h3 h4 h5)
theorem grown_setRow (W : World) (g : Nat) (cells : Array Value) : W.grownBy (W.setRow g cells) (some g) := ⟨rfl, rfl, rfl, by simp, fun k _ hk => setRow_other W g k _ (fun e => hk (by simp [e]))⟩
theorem grown_setCell (W : World) (g i : Nat) (u : Value) : W.grownBy (W.setCell ⟨g, i, none⟩ u) (some g) := ⟨rfl, rfl, rfl, by simp, fun k _ hk => heap_setCell_other W ⟨g, i, none⟩ k u (fun e => hk (by simp [e]))⟩
/-- A whole variable is written: from here on the world is a letter. -/
theorem ev_put {W : World} (cells : Array Value) (hgd : o.guard = none) (ty : TypeId) (x y : Operand) (ho : o.op = .store ty x y) (g : Nat) (t : TypeId) (old : Array Value)
    (hx : a.eval x = .pointer (some ⟨g, 0, none⟩)) (hy : a.eval y = .agg cells) (hk : Blk W g old t) (hi : (P.info? ty).map (·.size) = some cells.size) (hold : old.size = cells.size) (h1 : cells.toList.all (·.oneCell') = true)
    (h : ∀ w1, Blk w1 g cells t → W.grownBy w1 (some g) → Hid (w1.heap.size = W.heap.size) → wpList P ops Q rest (a.put o.dst undef) w1) : wpList P ops Q (o :: rest) a W :=
  wpList_store_row hgd ty x y ho g cells hx hy t old hk hi hold (by rw [← Array.all_toList]; exact h1) (h _ (setRow_heap W g old _ t _ hk) (grown_setRow W g cells) (Lib.hid (by simp)))
/-- One cell of a variable is written. -/
theorem ev_put1 {W : World} (u : Value) (i : Nat) (hgd : o.guard = none) (ty : TypeId) (x y : Operand) (ho : o.op = .store ty x y) (g : Nat) (t : TypeId) (old : Array Value)
    (hx : a.eval x = .pointer (some ⟨g, i, none⟩)) (hy : a.eval y = u) (hk : Blk W g old t) (hi : (P.info? ty).map (·.size) = some 1) (hold : i < old.size) (h1 : u.oneCell' = true)
    (h : ∀ w1, Blk w1 g (old.setIfInBounds i u) t → W.grownBy w1 (some g) → Hid (w1.heap.size = W.heap.size) → wpList P ops Q rest (a.put o.dst undef) w1) : wpList P ops Q (o :: rest) a W := by
  refine wpList_plain hgd fun K hK => ?_
  have hc : W.cell? ⟨g, i, none⟩ = some old[i] := hk.cell i (by simp [hold])
  have hcs : u.cells = #[u] := by cases u <;> first | rfl | (simp [Value.oneCell'] at h1; done)
  have hr : (storeVar ty ⟨g, i, none⟩ u).run P W = .ok () (W.setCell ⟨g, i, none⟩ u) := by
    cases hq : P.info? ty with
    | none => simp [hq] at hi
    | some f =>
      have hs : f.size = 1 := by simpa [hq] using hi
      simp [storeVar, sizeOf, typeInfo, hq, hcs, hs, storeCells, add_zero, run_store P W ⟨g, i, none⟩ u .plain h1, hc, hk.free i]
  unfold Oper.wp execOp
  simp only [ho, hx, hy, Instr.storeAt, Instr.sureAddr, Sem.run_bind, Sem.run_pure, Result.andThen_ok, hr]
  exact hK _ _ (h _ (hk.set i u) (grown_setCell W g i u) (Lib.hid (by simp)))
/-- The row that 'make' gives. -/
theorem own_made (W : World) (e : TypeId) (k : IntKind) (m : Nat) (hm : m ≤ 9223372036854775807) :
    OwnI e k W.heap.size (W.alloc (.cells (madeCells #[.int k 0] m) e)) (.slice (some ⟨W.heap.size, 0, none⟩) m m) (List.replicate m 0) := by
  have h := World.ownsRow_lit (base := W.heap.size) (e := e) (size := 1) W (madeCells #[.int k 0] m) m (Nat.le_refl _) (by simpa [maxLen] using hm) (by simp [size_madeCells])
  have hl : (madeCells #[Value.int k 0] m).toList = nums k (List.replicate m 0) := by
    apply List.ext_getElem
    · simp [nums, madeCells]
    · intro i h1 h2
      simp [nums, madeCells, Nat.mod_one]
  unfold OwnI
  rw [hl] at h
  simpa using h
/-- Laid ahead of go_enter: the walk takes it as a rule. -/
theorem make_row (t e : TypeId) (k : IntKind) (bytes : Nat) (ht : P.underlying t = some (.slice e)) (hinfo : (P.info? e).map (fun i => (i.zero, i.size, i.bytes)) = some (some (.int k 0), 1, bytes)) (hb0 : 0 < bytes)
    (m : Nat) (hn : m * bytes ≤ 281474976710656) :
    ∀ W : World, (Instr.makeSlice t (.int .i64 (m : Int)) (.int .i64 (m : Int))).run P W = .ok (.slice (some ⟨W.heap.size, 0, none⟩) m m) (W.alloc (.cells (madeCells #[.int k 0] m) e)) := by
  intro W
  have hm : m ≤ 281474976710656 := Nat.le_trans (Nat.le_mul_of_pos_right _ hb0) hn
  exact run_make_row' t e (.int k 0) bytes ht hinfo rfl .i64 .i64 m (by rw [Nat.mul_comm]; exact hn) (by omega) W
/-- A literal's row. -/
theorem own_lit (W : World) (e : TypeId) (k : IntKind) (xs : List Int) (hm : xs.length ≤ 9223372036854775807) :
    OwnI e k W.heap.size (W.alloc (.cells (nums k xs).toArray e)) (.slice (some ⟨W.heap.size, 0, none⟩) xs.length xs.length) xs := by
  have h := World.ownsRow_lit (base := W.heap.size) (e := e) (size := 1) W (nums k xs).toArray xs.length (Nat.le_refl _) (by simpa [maxLen] using hm) (by simp [nums])
  unfold OwnI
  simpa using h
/-- append(nil, make([]T, n)...)[:0]. -/
theorem own_grown (W : World) (e : TypeId) (k : IntKind) (n cap : Nat) (hc : cap ≤ 9223372036854775807) (z : Array Value) (hz : z.size = 1) (hn : n ≤ cap) :
    OwnI e k W.heap.size (W.drew.alloc (.cells (Builtin.zeroCells z n ++ Builtin.zeroCells z (cap - n)) e)) (.slice (some ⟨W.heap.size, 0, none⟩) 0 cap) [] := by
  refine ⟨by simp [nums], .inr ⟨W.heap.size, cap, _, rfl, Nat.le_refl _, heap_alloc_new W.drew _, Nat.zero_le _, by simpa [maxLen] using hc, ?_, by simp [nums]⟩⟩
  rw [Array.size_append, size_zeroCells, size_zeroCells, hz]; omega
end

theorem own_sl {e : TypeId} {ik : IntKind} {base n c : Nat} {w : World} {A : Option Addr} {xs : List Int} (h : OwnI e ik base w (.slice A n c) xs) : Sl (kInt ik) AnyB w A c xs := by
  obtain ⟨A', c', he, hs⟩ := h.rd
  injection he with h1 h2 h3
  subst h1; subst h3
  exact hs.any
/-! ### Literals of slices -/
theorem lit_sl1 {α : Type} {k : Kd α} {ok : Nat → Prop} (W : World) (e : TypeId) {A1 : Option Addr} {c1 : Nat} {xs : List α} (h1 : Sl k ok W A1 c1 xs) :
    Sl (kSl k) AnyB (W.alloc (.cells #[.slice A1 xs.length c1] e)) (some ⟨W.heap.size, 0, none⟩) 1 [xs] := by
  have hb := below_alloc (Below.refl W.heap.size W) (.cells #[.slice A1 xs.length c1] e)
  refine ⟨Nat.le_refl _, by omega, fun j hj => ?_⟩
  obtain rfl : j = 0 := by simp at hj; omega
  refine ⟨_, _, rfl, trivial, by simp, ⟨A1, c1, rfl, (h1.below hb).any⟩, fun i v hv => ?_⟩
  match i, hv with
  | 0, hv =>
    simp at hv
    subst hv
    simp [kSl, Addr.add, nth]
theorem lit_sl2 {α : Type} {k : Kd α} {ok ok' : Nat → Prop} (W : World) (e : TypeId) {A1 A2 : Option Addr} {c1 c2 : Nat} {xs ys : List α} (h1 : Sl k ok W A1 c1 xs) (h2 : Sl k ok' W A2 c2 ys) :
    Sl (kSl k) AnyB (W.alloc (.cells #[.slice A1 xs.length c1, .slice A2 ys.length c2] e)) (some ⟨W.heap.size, 0, none⟩) 2 [xs, ys] := by
  have hb := below_alloc (Below.refl W.heap.size W) (.cells #[.slice A1 xs.length c1, .slice A2 ys.length c2] e)
  refine ⟨Nat.le_refl _, by omega, fun j hj => ?_⟩
  match j, hj with
  | 0, _ =>
    refine ⟨_, _, rfl, trivial, by simp, ⟨A1, c1, rfl, (h1.below hb).any⟩, fun i v hv => ?_⟩
    match i, hv with
    | 0, hv =>
      simp at hv
      subst hv
      simp [kSl, Addr.add, nth]
  | 1, _ =>
    refine ⟨_, _, rfl, trivial, by simp, ⟨A2, c2, rfl, (h2.below hb).any⟩, fun i v hv => ?_⟩
    match i, hv with
    | 0, hv =>
      simp at hv
      subst hv
      simp [kSl, Addr.add, nth]
end Go.Proofs.YtijcecakofmhcaaDoor
