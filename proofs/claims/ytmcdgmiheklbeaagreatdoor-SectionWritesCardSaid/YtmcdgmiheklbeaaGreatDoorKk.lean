/- section: bands: what it yields, for any widths and values and memory. · section: cost: what it returns. · section: Cost: what it returns. · section: head: the head of a section, read. · section: read, plain: what is read, band by band, section by section. -/
import Derived.Test.YtmcdgmiheklbeaaGreatDoorKj
import Derived.Test.YtmcdgmiheklbeaaGreatDoorKe
import Derived.Test.YtmcdgmiheklbeaaGreatDoorKi
namespace Go.Proofs.YtmcdgmiheklbeaaGreatDoor
open Go.RowKit
attribute [local go_sem] Oper.semAt_some

set_option maxHeartbeats 1000000 in
theorem bands_any (A B : Option Addr) (n c m d : Nat) (w : World) :
    Calls Tryz.prog 33 #[.slice A n c, .slice B m d] w fun e w' => ∃ g1 g2, e = .returned (.func (.func 59) #[] #[.pointer (some ⟨g1, 0, none⟩), .pointer (some ⟨g2, 0, none⟩)]) ∧ Hid (g1 = w.heap.size) ∧ Hid (g2 = g1 + 1) ∧ Hid (w'.heap.size = g2 + 1) ∧ Blk w' g1 #[.slice A n c] 22 ∧ Blk w' g2 #[.slice B m d] 22 ∧ Below w.heap.size w w' := by
  have h1 : Blk (w.alloc (.cells #[.slice A n c] 22)) w.heap.size #[.slice A n c] 22 := heap_alloc_new w _
  have h2 := h1.below (below_alloc (Below.refl _ _) (.cells #[.slice B m d] 22))
  have h3 : Blk ((w.alloc (.cells #[.slice A n c] 22)).alloc (.cells #[.slice B m d] 22)) (w.alloc (.cells #[.slice A n c] 22)).heap.size #[.slice B m d] 22 := heap_alloc_new _ _
  have h4 := below_alloc (below_alloc (Below.refl w.heap.size w) (.cells #[.slice A n c] 22)) (.cells #[.slice B m d] 22)
  have h5 : (w.alloc (.cells #[.slice A n c] 22)).heap.size = w.heap.size + 1 := by simp
  rw [h5] at h3
  go_enter Tryz.func33, Tryz.ntmps33
  go_wp2
  go_ret
  exact ⟨_, _, rfl, Lib.hid rfl, Lib.hid (by simp), Lib.hid (by simp), h2, h3, h4⟩
theorem sumV_all {ws l : List Int} (h : sumV ws ws.length = l.length) (j : Nat) (hj : j < ws.length) : sumV ws j + widV ws j ≤ l.length := by
  rw [← sumV_succ, ← h]
  have := sumV_mono ws (j + 1) (ws.length - (j + 1))
  rwa [show j + 1 + (ws.length - (j + 1)) = ws.length by omega] at this
theorem okV_at {ws : List Int} (h : ws.all okV = true) (j : Nat) (hj : j < ws.length) : nth 0 ws j = (widV ws j : Int) ∧ 1 ≤ widV ws j ∧ widV ws j ≤ 128 := by
  have h1 := List.all_eq_true.1 h _ (nth_mem 0 ws j hj)
  have h2 : 1 ≤ nth 0 ws j ∧ nth 0 ws j ≤ 128 := by simpa [okV] using h1
  unfold widV
  omega
/-- What comes next. -/
def NextB (q : Nat) (pre : List Nat) (x : Nat) : Prop := x < q ∧ pre = List.range x
/-- A band's values as a value. -/
def bandV (B : Option Addr) (ws : List Int) (j : Nat) : Value := .slice (B.map fun ad => ad.add (sumV ws j)) (widV ws j) (widV ws j)
/-- A band's values. -/
def bndL (ws l : List Int) (j : Nat) : List Int := (l.drop (sumV ws j)).take (widV ws j)

set_option maxHeartbeats 2000000 in
set_option maxRecDepth 100000 in
theorem bands1_yields (g1 g2 : Nat) (A B : Option Addr) (c d : Nat) (ws l : List Int) (w : World) (ok : Nat → Prop) (hS : RI w A c ws) (hT : RI w B d l) (hA : Blk w g1 #[.slice A ws.length c] 22) (hB : Blk w g2 #[.slice B l.length d] 22) (_ok1 : ok g1) (ok2 : ok g2) (hokA : Sl (kInt .i64) ok w A c ws) (n : Nat) (hn : 1 ≤ n) (hok : ws.all okV = true) (hsum : sumV ws ws.length = l.length) (h128 : ws.length ≤ 128) :
    YieldsN Fence.wide n Tryz.prog 59 #[.pointer (some ⟨g1, 0, none⟩), .pointer (some ⟨g2, 0, none⟩)] (fun x : Nat => #[.agg #[.int .i64 (x : Int), bandV B ws x]]) ok (fun _ => False) (fun xs => xs = List.range ws.length) (fun _ => True) (NextB ws.length) w := by
  intro y J Jx W hW hJ hJx hY h0
  have hAW := hA.below hW
  have hBW := hB.below hW
  have hle := hT.le
  have HSW := Lib.hid (hokA.below hW)
  have HBA : Hid (0 < l.length → ∃ ad, B = some ad) := Lib.hid fun h => by
    obtain ⟨ad, h1, _⟩ := rd_int hT 0 h
    exact ⟨ad, h1⟩
  refine callsIn_of_wp Tryz.func59 rfl trivial ?_ rfl
  simp only [Tryz.ntmps59, List.size_toArray, List.length_cons, List.length_nil, Nat.reduceAdd, Nat.reduceSub, Array.replicate_succ, Array.replicate_zero, List.push_toArray, List.append_toArray, List.nil_append, List.cons_append]
  have kA : W.cell? ⟨g1, 0, none⟩ = some (.slice A ws.length c) := hAW.cell 0 rfl
  gi_wp2
  have H0 : Hid (J (List.range 0) W) := Lib.hid h0
  have HY := Lib.hid hY
  clear h0 hY
  have HOK := Lib.hid (fun j (hj : j < ws.length) => okV_at hok j hj)
  have HSM := Lib.hid (fun j (hj : j < ws.length) => sumV_all hsum j hj)
  have HSU := Lib.hid (fun j => sumV_succ ws j)
  have HLE := Lib.hid (show l.length ≤ 16384 by rw [← hsum]; have := sumV_le (ws := ws) ws.length (Nat.le_refl _) (by rw [List.take_length]; exact hok); omega)
  clear hok hsum
  gi_loopw [4, 5, 6, 9] (fun av nv wv iv wr => ∃ j : Nat, j ≤ ws.length ∧ iv = .int .i64 (j : Int) ∧ av = .int .i64 (sumV ws j : Nat) ∧ Hid (J (List.range j) wr) ∧ Keep ok W wr) (fun _ _ _ iv _ => ws.length - (intOf iv).toNat)
  case atStart => exact ⟨0, Nat.zero_le _, rfl, rfl, H0, Keep.refl _ _⟩
  case round =>
    clear H0
    obtain ⟨j, hj, rfl, rfl, HJ, hkp⟩ := hrel
    have kb : wr.cell? ⟨g2, 0, none⟩ = some (.slice B l.length d) := (hBW.keep hkp ok2).cell 0 rfl
    by_cases hlt : j < ws.length
    · have hli : (j : Int) < (ws.length : Int) := by omega
      have hj1 : IntKind.i64.wrap ((j : Int) + 1) = ((j + 1 : Nat) : Int) := by rw [IntWalk.i64_in _ (by omega)]; omega
      obtain ⟨hwn, hw1, hw128⟩ := HOK.out j hlt
      have hle2 := HSM.out j hlt
      have HSX := Lib.hid (HSU.out j)
      obtain ⟨ad, hAD, k0⟩ := rd_int (HSW.out.keep hkp) j hlt
      subst hAD
      rw [hwn] at k0
      obtain ⟨be, hBE⟩ := HBA.out (by omega)
      subst hBE
      obtain ⟨fn, tmps, assign, body, hy, hRd⟩ := HY.out (List.range j) j _ HJ.out ⟨hlt, rfl⟩
      replace hy : (Instr.yield y #[.agg #[.int .i64 (j : Int), .slice (some (be.add (sumV ws j))) (widV ws j) (widV ws j)]]).run Tryz.prog wr = .ok (.round y fn tmps assign body) wr := hy
      obtain ⟨S2, hS2⟩ : ∃ S2, sumV ws (j + 1) = S2 := ⟨_, rfl⟩
      have HS2 := Lib.hid hS2
      rw [hS2] at HSX
      obtain ⟨p, hp⟩ : ∃ p, sumV ws j = p := ⟨_, rfl⟩
      obtain ⟨D, hD⟩ : ∃ D, widV ws j = D := ⟨_, rfl⟩
      rw [hp, hD] at hle2 hy HSX
      rw [hD] at hw1 hw128 k0
      rw [hp]
      have hcut := fun W => cut_grp p D l.length d be hw1 hle2 hle W
      have hwp : IntKind.i64.wrap ((p : Int) + (D : Int)) = ((p + D : Nat) : Int) := by rw [Int.natCast_add]; exact IntWalk.i64_in _ (by have := HLE.out; omega)
      obtain ⟨s, hs⟩ : ∃ s, p + D = s := ⟨_, rfl⟩
      rw [hs] at hcut hwp hle2 HSX
      have hsi : (s : Int) ≤ (l.length : Int) := by omega
      have HS' := Lib.hid (show p + D = s from hs)
      clear hs hp hD hwn
      gi_wp2
      refine hRd.mono ?_
      rintro e W3 (⟨rfl, hJ3, hk3⟩ | ⟨rfl, hJx3⟩)
      · gi_wp2
        go_roundw
        case rel => exact ⟨j + 1, by omega, by first | rfl | go_num, by rw [HS2.out, HSX.out], by rw [List.range_succ]; exact Lib.hid hJ3, hkp.trans hk3⟩
        case measure => simp [intOf] <;> omega
      · gi_wp2
        refine bodyPost_ret (results_none rfl _ _ _) rfl ?_
        exact ⟨⟨_, rfl⟩, .inr ⟨_, trivial, hJx3⟩⟩
    · obtain rfl : j = ws.length := by omega
      gi_wp2
      go_end0
      exact ⟨⟨_, rfl⟩, .inl ⟨_, rfl, HJ.out⟩⟩
end Go.Proofs.YtmcdgmiheklbeaaGreatDoor

namespace Go.Proofs.YtmcdgmiheklbeaaGreatDoor
open Go.RowKit
attribute [local go_sem] Oper.semAt_some

/-- No section has the book of the one ahead. -/
def adjK (s : List (Int × Int)) : Bool := (List.range s.length).all fun i => decide (i = 0) || decide ((nth (0, 0) s i).1 ≠ (nth (0, 0) s (i - 1)).1)
/-- How many bits the heads of the first sections have. -/
def hdN (s : List (Int × Int)) (k : Nat) : Nat := sumTo k fun i => 3 + gamN (nth (0, 0) s i).2.toNat
/-- The cost and the error of a band. -/
def bdC (ws l bs : List Int) (j : Nat) : Int × Int := bkC (nth 0 bs j) (bndL ws l j)
def bdN (ws l bs : List Int) (k : Nat) : Nat := sumTo k fun j => (bkW (nth 0 bs j) (bndL ws l j)).length
def bdOK (ws l bs : List Int) : Bool := (List.range ws.length).all fun j => decide ((bdC ws l bs j).2 = 0)
/-- What sections cost; false: they are not right. -/
def costV (ws l : List Int) (s : List (Int × Int)) : Int × Bool :=
  if booksE s = 0 ∧ (booksL s).length = ws.length ∧ adjK s = true ∧ bdOK ws l (booksL s) = true then (((hdN s s.length + bdN ws l (booksL s) ws.length : Nat) : Int), true) else (0, false)
theorem hdN_succ (s : List (Int × Int)) (k : Nat) : hdN s (k + 1) = hdN s k + (3 + gamN (nth (0, 0) s k).2.toNat) := sumTo_succ _ _
theorem bdN_succ (ws l bs : List Int) (k : Nat) : bdN ws l bs (k + 1) = bdN ws l bs k + (bkW (nth 0 bs k) (bndL ws l k)).length := sumTo_succ _ _
theorem keepsL {B : Nat} {W W' : World} (hb : Below W.heap.size W W') : KeepsFrom B W W' := ⟨hb.size, fun i _ _ hi _ => (hb.block i (Array.getElem?_eq_some_iff.1 hi).1).trans hi⟩
theorem bndL_le (ws l : List Int) (j : Nat) : (bndL ws l j).length ≤ widV ws j := by unfold bndL; rw [List.length_take]; omega
theorem bdN_le (ws l bs : List Int) : ∀ k, bdN ws l bs k ≤ 104 * sumV ws k
  | 0 => Nat.zero_le _
  | k + 1 => by
    have h1 := bdN_le ws l bs k
    have h2 := bkW_len (nth 0 bs k) (bndL ws l k)
    have h3 := bndL_le ws l k
    rw [bdN_succ, sumV_succ]; omega
theorem bdOK_no {ws l bs : List Int} {j : Nat} (hj : j < ws.length) (h : (bdC ws l bs j).2 ≠ 0) : bdOK ws l bs = false := by
  cases hc : bdOK ws l bs
  · rfl
  · have h1 := List.all_eq_true.1 hc j (List.mem_range.2 hj)
    simp [h] at h1
theorem bdOK_yes {ws l bs : List Int} (h : ∀ j, j < ws.length → (bdC ws l bs j).2 = 0) : bdOK ws l bs = true := by
  unfold bdOK
  rw [List.all_eq_true]
  intro j hj
  simp [h j (List.mem_range.1 hj)]
theorem adjK_no {s : List (Int × Int)} {q : Nat} (h : q + 1 < s.length) (e : (nth (0, 0) s (q + 1)).1 = (nth (0, 0) s q).1) : adjK s = false := by
  cases hc : adjK s
  · rfl
  · have h1 := List.all_eq_true.1 hc (q + 1) (List.mem_range.2 h)
    simp [e] at h1
theorem adjK_yes {s : List (Int × Int)} (h : ∀ i, i < s.length → i = 0 ∨ (nth (0, 0) s i).1 ≠ (nth (0, 0) s (i - 1)).1) : adjK s = true := by
  unfold adjK
  rw [List.all_eq_true]
  intro i hi
  rcases h i (List.mem_range.1 hi) with h1 | h1
  · simp [h1]
  · simp [h1]
theorem gamN_le (v : Nat) (h : v ≤ 1000) : gamN v ≤ 41 := by
  unfold gamN
  have := log2_le (v := v) (n := 20) (Nat.lt_of_le_of_lt h (by decide))
  omega
/-- Right sections: few, of few bands. -/
theorem bks_shape {s : List (Int × Int)} (h : booksE s = 0) : s.length ≤ 128 ∧ ∀ i, i < s.length → 0 ≤ (nth (0, 0) s i).1 ∧ (nth (0, 0) s i).1 < 8 ∧ 1 ≤ (nth (0, 0) s i).2 ∧ (nth (0, 0) s i).2 ≤ 128 := by
  have h1 : ∃ m, bksP s = some m := by
    unfold booksE at h
    cases hb : bksP s with
    | none => rw [hb] at h; simp at h
    | some m => exact ⟨m, rfl⟩
  obtain ⟨m, hm⟩ := h1
  have h2 : ∀ k, k ≤ s.length → ∃ o, bksP (s.take k) = some o ∧ k ≤ o.length := by
    intro k
    induction k with
    | zero => exact fun _ => ⟨[], rfl, Nat.zero_le _⟩
    | succ k ih =>
      intro hk
      obtain ⟨o, ho, hl⟩ := ih (by omega)
      have h3 := bks_take s k hk
      rw [ho] at h3
      by_cases hb : (nth (0, 0) s k).1 < 0 ∨ 8 ≤ (nth (0, 0) s k).1 ∨ (nth (0, 0) s k).2 < 1 ∨ 128 - (o.length : Int) < (nth (0, 0) s k).2
      · have e : bksS (some o) (nth (0, 0) s k) = none := if_pos hb
        rw [e] at h3
        rw [bks_stop s (k + 1) h3] at hm; cases hm
      · have e : bksS (some o) (nth (0, 0) s k) = some (o ++ List.replicate (nth (0, 0) s k).2.toNat (nth (0, 0) s k).1) := if_neg hb
        rw [e] at h3
        exact ⟨_, h3, by rw [List.length_append, List.length_replicate]; omega⟩
  refine ⟨?_, fun i hi => ?_⟩
  · obtain ⟨o, ho, hl⟩ := h2 s.length (Nat.le_refl _)
    have := bksP_len ho
    omega
  · obtain ⟨o, ho, hl⟩ := h2 i (by omega)
    have h3 := bks_take s i hi
    rw [ho] at h3
    by_cases hb : (nth (0, 0) s i).1 < 0 ∨ 8 ≤ (nth (0, 0) s i).1 ∨ (nth (0, 0) s i).2 < 1 ∨ 128 - (o.length : Int) < (nth (0, 0) s i).2
    · have e : bksS (some o) (nth (0, 0) s i) = none := if_pos hb
      rw [e] at h3
      rw [bks_stop s (i + 1) h3] at hm; cases hm
    · omega
/-- Of a post, the case that nothing leaves. -/
def normQ (Q : Exit → Act → World → Prop) : Exit → Act → World → Prop := fun e a w => match e with
  | .normal => Q .normal a w
  | _ => False
theorem wpIn_region_N {P : Program} {ops : Array Oper} {n : Nat} {Q : Exit → Act → World → Prop} {id : Nat} {a : Act} {w : World} (N : Nat) (S : World → Prop) (hm : P.follows .mixedOrders = true) (hS : S w.drew)
    (h : S w.drew → wpAnyG P .any ops (normQ Q) S N ops.size (Array.replicate ops.size false) a w.drew) : (Code.region id ops true).wpIn Fence.wide n P Q a w :=
  wpIn_wide.2 (wp_mono (wp_region_G N S hm hS h) fun e a w hq => by cases e <;> first | exact hq | exact hq.elim)
theorem hdN_le {s : List (Int × Int)} (h : s.length ≤ 128 ∧ ∀ i, i < s.length → 0 ≤ (nth (0, 0) s i).1 ∧ (nth (0, 0) s i).1 < 8 ∧ 1 ≤ (nth (0, 0) s i).2 ∧ (nth (0, 0) s i).2 ≤ 128) : ∀ k, k ≤ s.length → hdN s k ≤ 44 * k
  | 0, _ => Nat.le_refl _
  | k + 1, hk => by
    have h1 := hdN_le h k (by omega)
    have h2 := h.2 k hk
    have h3 := gamN_le (nth (0, 0) s k).2.toNat (by omega)
    rw [hdN_succ]; omega
/-- What the call has at hand. -/
structure CqS (w : World) (g6 g7 g8 g10 : Nat) (A8 : Option Addr) (c8 nb : Nat) (bs : List Int) (n : Nat) (W : World) : Prop where
  r6 : Blk W g6 #[.int .i64 0] 3
  r7 : Blk W g7 #[.bool false] 4
  lst : Blk W g8 #[.slice A8 nb c8] 22
  sum : Blk W g10 #[.int .i64 (n : Int)] 3
  nl : bs.length = nb
  own : Sl (kInt .i64) (fun x => x < g8) W A8 c8 bs
  low : Below w.heap.size w W
theorem CqS.below {w W W' : World} {g6 g7 g8 g10 : Nat} {A8 : Option Addr} {c8 nb : Nat} {bs : List Int} {n : Nat} (h : CqS w g6 g7 g8 g10 A8 c8 nb bs n W) (hb : Below W.heap.size W W') : CqS w g6 g7 g8 g10 A8 c8 nb bs n W' :=
  ⟨h.r6.below hb, h.r7.below hb, h.lst.below hb, h.sum.below hb, h.nl, h.own.below hb, below2 h.low hb⟩
theorem CqS.firm {w W W' : World} {g6 g7 g8 g10 : Nat} {A8 : Option Addr} {c8 nb : Nat} {bs : List Int} {n : Nat} (h : CqS w g6 g7 g8 g10 A8 c8 nb bs n W) {row : Option Nat} (hg : W.grownBy W' row) (hO : Other W row) (hr : ∀ r, row = some r → g8 ≤ r ∧ w.heap.size ≤ r) : CqS w g6 g7 g8 g10 A8 c8 nb bs n W' :=
  ⟨h.r6.firm hg hO, h.r7.firm hg hO, h.lst.firm hg hO, h.sum.firm hg hO, h.nl, h.own.keep ((Keep.of_grown hg).weak fun i hi e => by have := (hr i e.symm).1; omega), h.low.grown hg h.low.size fun r e => (hr r e).2⟩
theorem CqS.put {w W : World} {g6 g7 g8 g10 : Nat} {A8 : Option Addr} {c8 nb : Nat} {bs : List Int} {n : Nat} (h : CqS w g6 g7 g8 g10 A8 c8 nb bs n W) (ho : g6 < g7 ∧ g7 < g8 ∧ g8 < g10 ∧ w.heap.size ≤ g10) (m : Nat) (z : Int) (hz : z = (m : Int)) :
    CqS w g6 g7 g8 g10 A8 c8 nb bs m (W.setCell ⟨g10, 0, none⟩ (.int .i64 z)) ∧ Upd (fun x => x = g10) W (W.setCell ⟨g10, 0, none⟩ (.int .i64 z)) := by
  subst hz
  have hu : Upd (fun x => x = g10) W (W.setCell ⟨g10, 0, none⟩ (.int .i64 (m : Int))) := Upd.setCell (fun x => x = g10) _ g10 0 _ rfl
  have hk := hu.keep (ok := fun x => x ≠ g10) fun x h => h
  exact ⟨⟨h.r6.keep hk (by omega), h.r7.keep hk (by omega), h.lst.keep hk (by omega), h.sum.set 0 (.int .i64 (m : Int)), h.nl, h.own.keep (hk.weak fun x hx => by omega), h.low.grown (grown_setCell W g10 0 _) h.low.size (fun r e => by cases e; exact ho.2.2.2)⟩, hu⟩

theorem cost_res (tmps : Array Value) (W : World) (g6 g7 : Nat) (x : Int) (y : Bool) (h6 : tmps[6]?.getD undef = .pointer (some ⟨g6, 0, none⟩)) (h7 : tmps[7]?.getD undef = .pointer (some ⟨g7, 0, none⟩)) (B6 : Blk W g6 #[.int .i64 x] 3) (B7 : Blk W g7 #[.bool y] 4) :
    (results Tryz.f27 tmps).run Tryz.prog W = .ok (.tuple #[.int .i64 x, .bool y]) W := by
  have z4 := B6.cell 0 rfl
  have z5 := B7.cell 0 rfl
  simp [results, Tryz.f27, go_sem, h6, h7, z4, z5]
/-- The results are laid. -/
theorem put_res {W : World} {g6 g7 : Nat} {u v x y : Value} (h6 : Blk W g6 #[u] 3) (h7 : Blk W g7 #[v] 4) (hne : g6 ≠ g7) :
    Blk ((W.setCell ⟨g6, 0, none⟩ x).setCell ⟨g7, 0, none⟩ y) g6 #[x] 3 ∧ Blk ((W.setCell ⟨g6, 0, none⟩ x).setCell ⟨g7, 0, none⟩ y) g7 #[y] 4 ∧ Upd (fun z => z = g6 ∨ z = g7) W ((W.setCell ⟨g6, 0, none⟩ x).setCell ⟨g7, 0, none⟩ y) := by
  have u6 : Upd (fun z => z = g6 ∨ z = g7) W (W.setCell ⟨g6, 0, none⟩ x) := Upd.setCell _ W g6 0 x (.inl rfl)
  have u7 : Upd (fun z => z = g6 ∨ z = g7) (W.setCell ⟨g6, 0, none⟩ x) ((W.setCell ⟨g6, 0, none⟩ x).setCell ⟨g7, 0, none⟩ y) := Upd.setCell _ _ g7 0 y (.inr rfl)
  have k6 : Keep (fun z => z ≠ g6) W (W.setCell ⟨g6, 0, none⟩ x) := (Upd.setCell (fun z => z = g6) W g6 0 x rfl).keep fun z h => h
  have k7 : Keep (fun z => z ≠ g7) (W.setCell ⟨g6, 0, none⟩ x) ((W.setCell ⟨g6, 0, none⟩ x).setCell ⟨g7, 0, none⟩ y) := (Upd.setCell (fun z => z = g7) _ g7 0 y rfl).keep fun z h => h
  exact ⟨(h6.set 0 x).keep k7 hne, (h7.keep k6 (Ne.symm hne)).set 0 y, u6.trans u7 fun _ _ h => h⟩

set_option maxHeartbeats 4000000 in
set_option maxRecDepth 100000 in
theorem cost18_any (A B D : Option Addr) (c d e0 : Nat) (ws l : List Int) (s : List (Int × Int)) (w : World) (hS : RI w A c ws) (hT : RI w B d l) (hR : RS w D e0 s) (hG : GF w) (hGT : GT w) (hok : ws.all okV = true) (hsum : sumV ws ws.length = l.length) (h128 : ws.length ≤ 128) :
    Calls Tryz.prog 27 #[.slice A ws.length c, .slice B l.length d, .slice D s.length e0] w fun e w' => e = .returned (.tuple #[.int .i64 (costV ws l s).1, .bool (costV ws l s).2]) ∧ Below w.heap.size w w' := by
  refine (callsIn_wide (n := 9)).1 ?_
  refine callsIn_of_wp_marks Tryz.func27 rfl trivial ?_ rfl
  simp only [Tryz.ntmps27, List.size_toArray, List.length_cons, List.length_nil, Nat.reduceAdd, Nat.reduceSub, Array.replicate_succ, Array.replicate_zero, List.push_toArray, List.append_toArray, List.nil_append, List.cons_append]
  obtain ⟨g6, hg6⟩ : ∃ g6, w.heap.size = g6 := ⟨_, rfl⟩
  have hb6 := below_alloc (Below.refl w.heap.size w) (.cells #[.int .i64 0] 3)
  have B6 : Blk (w.alloc (.cells #[.int .i64 0] 3)) g6 #[.int .i64 0] 3 := by rw [← hg6]; exact heap_alloc_new w _
  obtain ⟨W0, hW0⟩ : ∃ W0, w.alloc (.cells #[.int .i64 0] 3) = W0 := ⟨_, rfl⟩
  have hz6 : W0.heap.size = g6 + 1 := by rw [← hW0, World.size_alloc, hg6]
  rw [hW0] at hb6 B6
  obtain ⟨g7, hg7⟩ : ∃ g7, g6 + 1 = g7 := ⟨_, rfl⟩
  have hb7 := below_alloc (Below.refl W0.heap.size W0) (.cells #[.bool false] 4)
  have B7 : Blk (W0.alloc (.cells #[.bool false] 4)) g7 #[.bool false] 4 := by rw [← hg7, ← hz6]; exact heap_alloc_new W0 _
  obtain ⟨W1, hW1⟩ : ∃ W1, W0.alloc (.cells #[.bool false] 4) = W1 := ⟨_, rfl⟩
  have hz7 : W1.heap.size = g7 + 1 := by rw [← hW1, World.size_alloc, hz6, hg7]
  rw [hW1] at hb7 B7
  replace B6 := B6.below hb7
  have b1 := below2 hb6 hb7
  have HBK := Lib.hid (books_any D e0 s W1 (hR.below b1))
  have H67 := Lib.hid (And.intro B6 B7)
  have HB1 := Lib.hid b1
  have HZ := Lib.hid (show w.heap.size = g6 ∧ g6 + 1 = g7 ∧ W1.heap.size = g7 + 1 from ⟨hg6, hg7, hz7⟩)
  clear b1 hb6 hb7 B6 B7
  by_cases hE : booksE s = 0
  · by_cases hL : (booksL s).length = ws.length
    · have hBL := booksL s
      clear hBL
      rw [hE] at HBK
      have hne : (((booksL s).length : Int) != (ws.length : Int)) = false := by simp [hL]
      have HOK := Lib.hid (fun j (hj : j < ws.length) => okV_at hok j hj)
      have HE := Lib.hid hE
      have HLB := Lib.hid hL
      have HR := Lib.hid hR
      have hls : s.length ≤ 9223372036854775807 := Nat.le_trans hR.1 hR.cap
      have HLS := Lib.hid (bks_shape hE)
      generalize hbs : booksL s = bs at *
      have HBS := Lib.hid hbs
      clear hE hbs
      gi_wp2_with (refine ⟨trivial, ?_⟩; gi_at_call 19; refine (callsIn_wide.2 HBK.out).mono ?_; rintro e W3 ⟨v, rfl, hO, b3⟩; obtain ⟨A8, c8, rfl, h8⟩ := hO.rd; rw [HLB.out]; have hb8 := below_alloc (Below.refl W3.heap.size W3) (.cells #[.slice A8 ws.length c8] 22); have HQ := Lib.hid (And.intro ((H67.out.1.below b3).below hb8) ((H67.out.2.below b3).below hb8)); have HB8 := Lib.hid (below2 (below2 HB1.out b3) hb8); have H8 := Lib.hid (h8.below hb8); clear hb8)
      obtain ⟨g8, hg8⟩ : ∃ g8, W3.heap.size = g8 := ⟨_, rfl⟩
      have hbA := below_alloc (Below.refl W3.heap.size W3) (.cells #[.slice A8 ws.length c8] 22)
      have B8 : Blk (W3.alloc (.cells #[.slice A8 ws.length c8] 22)) g8 #[.slice A8 ws.length c8] 22 := by rw [← hg8]; exact heap_alloc_new W3 _
      obtain ⟨W4, hW4⟩ : ∃ W4, W3.alloc (.cells #[.slice A8 ws.length c8] 22) = W4 := ⟨_, rfl⟩
      have hz8 : W4.heap.size = g8 + 1 := by rw [← hW4, World.size_alloc, hg8]
      rw [hW4] at hbA B8 HQ HB8 H8
      obtain ⟨g10, hg10⟩ : ∃ g10, g8 + 1 = g10 := ⟨_, rfl⟩
      have hbB := below_alloc (Below.refl W4.heap.size W4) (.cells #[.int .i64 0] 3)
      have B10 : Blk (W4.alloc (.cells #[.int .i64 0] 3)) g10 #[.int .i64 0] 3 := by rw [← hg10, ← hz8]; exact heap_alloc_new W4 _
      have HORD := Lib.hid (show g6 < g7 ∧ g7 < g8 ∧ g8 < g10 ∧ w.heap.size ≤ g10 from by have := HZ.out; have := b3.size; omega)
      have HI0 := Lib.hid (show CqS w g6 g7 g8 g10 A8 c8 ws.length bs (hdN s 0) (W4.alloc (.cells #[.int .i64 0] 3)) from
        ⟨HQ.out.1.below hbB, HQ.out.2.below hbB, B8.below hbB, B10, HLB.out, (((H8.out.weak (ok' := fun x => x < W4.heap.size ∧ x < g8) (fun x hx h => ⟨hx, by have := (hO.lt x h.2).2; omega⟩)).weak (fun x _ h => h.2)).below hbB), below2 HB8.out hbB⟩)
      have HG8 := Lib.hid (And.intro hg8 hg10)
      simp only [hg8, hg10]
      obtain ⟨W5, hW5⟩ : ∃ W5, W4.alloc (.cells #[.int .i64 0] 3) = W5 := ⟨_, rfl⟩
      simp only [hW4, hW5] at HI0 ⊢
      clear hbA hbB B8 B10 hz8 HQ HB8 H8 hO h8 hW4 hW5 b3 hg8 hg10 H67 hg6 hg7 hz6 hz7 hW0 hW1
      gi_loopw [11, 12, 32] (fun nv xv iv wr => ∃ k : Nat, iv = .int .i64 (k : Int) ∧ k ≤ s.length ∧ Hid (CqS w g6 g7 g8 g10 A8 c8 ws.length bs (hdN s k) wr) ∧ Hid (∀ i, i < k → i = 0 ∨ (nth (0, 0) s i).1 ≠ (nth (0, 0) s (i - 1)).1)) (fun _ _ iv _ => s.length - (intOf iv).toNat)
      case atStart => exact ⟨0, rfl, Nat.zero_le _, HI0, Lib.hid (fun i h => by omega)⟩
      case round =>
        obtain ⟨k, rfl, hk, hC, hA⟩ := hrel
        by_cases hlt : k < s.length
        · have hli : (k : Int) < (s.length : Int) := by omega
          have hk1 : IntKind.i64.wrap ((k : Int) + 1) = ((k + 1 : Nat) : Int) := by rw [IntWalk.i64_in _ (by have := HLS.out.1; omega)]; omega
          have hsh := HLS.out.2 k hlt
          have hRW := HR.out.below hC.out.low
          obtain ⟨ad, hAD, _, k0, k1⟩ := rd_se hRW k hlt
          subst hAD
          have HSU := Lib.hid (hdN_succ s k)
          have HHB := Lib.hid (hdN_le HLS.out k hk)
          obtain ⟨x1, hx1⟩ : ∃ x1, (nth (0, 0) s k).1 = x1 := ⟨_, rfl⟩
          obtain ⟨m, hm⟩ : ∃ m : Nat, (nth (0, 0) s k).2 = (m : Int) := ⟨(nth (0, 0) s k).2.toNat, by omega⟩
          have HA3 := Lib.hid (fun (h : k = 0 ∨ x1 ≠ (nth (0, 0) s (k - 1)).1) i (hi : i < k + 1) => show i = 0 ∨ (nth (0, 0) s i).1 ≠ (nth (0, 0) s (i - 1)).1 by
            rcases Nat.lt_or_ge i k with h1 | h1
            · exact hA.out i h1
            · obtain rfl : i = k := by omega
              rw [hx1]; exact h)
          rw [hm, Int.toNat_natCast] at HSU
          rw [hm] at k1 hsh
          rw [hx1] at k0
          have HM := Lib.hid (show 1 ≤ m ∧ m ≤ 128 by omega)
          have HX1 := Lib.hid hx1
          obtain ⟨n0, hn0⟩ : ∃ n0, hdN s k = n0 := ⟨_, rfl⟩
          rw [hn0] at hC HSU HHB
          have hgm := gamN_le m (by have := HM.out; omega)
          have hw3 : IntKind.i64.wrap (3 + (gamN m : Int)) = ((3 + gamN m : Nat) : Int) := by rw [IntWalk.i64_in _ (by omega)]; omega
          have hw4 : IntKind.i64.wrap ((n0 : Int) + ((3 + gamN m : Nat) : Int)) = ((n0 + (3 + gamN m) : Nat) : Int) := by rw [IntWalk.i64_in _ (by have := HHB.out; have := HLS.out.1; omega)]; omega
          have hw5 : IntKind.i64.wrap ((n0 : Int) + (3 + (gamN m : Int))) = (n0 : Int) + (3 + (gamN m : Int)) := IntWalk.i64_in _ (by have := HHB.out; have := HLS.out.1; omega)
          obtain ⟨g12, hg12⟩ : ∃ g12, wr.heap.size = g12 := ⟨_, rfl⟩
          have hv := below_alloc (Below.refl wr.heap.size wr) (.cells #[.int .i64 x1, .int .i64 (m : Int)] 47)
          have B12 : Blk (wr.alloc (.cells #[.int .i64 x1, .int .i64 (m : Int)] 47)) g12 #[.int .i64 x1, .int .i64 (m : Int)] 47 := by rw [← hg12]; exact heap_alloc_new wr _
          obtain ⟨V, hV⟩ : ∃ V, wr.alloc (.cells #[.int .i64 x1, .int .i64 (m : Int)] 47) = V := ⟨_, rfl⟩
          rw [hV] at hv B12
          have HD1 := Lib.hid (show Below wr.heap.size wr V.drew from hv.drew)
          have HD2 := Lib.hid (show Below wr.heap.size wr V.drew.drew from hv.drew.drew)
          have HE1 := Lib.hid (show Below V.heap.size V V.drew from (Below.refl _ _).drew)
          have HE2 := Lib.hid (show Below V.heap.size V V.drew.drew from (Below.refl _ _).drew.drew)
          have HB12 := Lib.hid B12
          have HF := Lib.hid (show ∀ W' : World, Below V.heap.size V W' → (W'.cell? ⟨g10, 0, none⟩ = some (.int .i64 (n0 : Int)) ∧ W'.cell? ⟨g12, 1, none⟩ = some (.int .i64 (m : Int))) from fun W' hb => ⟨(hC.out.sum.below (below2 hv hb)).cell 0 rfl, (B12.below hb).cell 1 rfl⟩)
          have hCV := hC.out.below HD1.out
          have z6 := hCV.r6.cell 0 rfl
          have z7 := hCV.r7.cell 0 rfl
          have f6 := hCV.r6.free 0
          have f7 := hCV.r7.free 0
          have hCV0 := hC.out.below hv
          have z7v := hCV0.r7.cell 0 rfl
          have f7v := hCV0.r7.free 0
          have z6v := hCV0.r6.cell 0 rfl
          have f6v := hCV0.r6.free 0
          clear hCV0
          have ne67 : g6 ≠ g7 := by have := HORD.out; omega
          have HCV := Lib.hid hCV
          clear hm hx1 hn0 hgm hsh hCV
          have hcs : k = 0 ∨ (∃ q, k = q + 1 ∧ x1 ≠ (nth (0, 0) s q).1) ∨ (∃ q, k = q + 1 ∧ x1 = (nth (0, 0) s q).1) := by
            cases k with
            | zero => exact .inl rfl
            | succ q =>
              by_cases h : x1 = (nth (0, 0) s q).1
              · exact .inr (.inr ⟨q, rfl, h⟩)
              · exact .inr (.inl ⟨q, rfl, h⟩)
          rcases hcs with hk0 | ⟨q, hkq, hne⟩ | ⟨q, hkq, heq⟩
          · have HA2 := Lib.hid (HA3.out (.inl hk0))
            have hd0 : decide ((0 : Int) < (k : Int)) = false := decide_eq_false (by omega)
            have hz0 : ¬ 0 < k := by omega
            clear hk0
            gi_upto_region 8 with fail
            try simp only [hV, hg12]
            refine wpIn_region_W 12 (fun _ => True) (by kernel_rfl) trivial (fun hHeld => ?_)
            refine wpAnyG_takeL (i := 0) (.int .i64 (k : Int)) [1, 2, 12] rfl (by kernel_rfl) (fun _ _ _ h => h) hHeld (by rfl) ?_ ?_
            · (intro W' hSw; (try dsimp only at hSw); go_simp)
            try simp only [Act.put, List.setIfInBounds_toArray, List.set_cons_zero, List.set_cons_succ]
            refine wpAnyG_takeL (i := 1) (.bool false) [2, 12] rfl (by kernel_rfl) (fun _ _ _ h => h) hHeld (by rfl) ?_ ?_
            · (intro W' hSw; (try dsimp only at hSw); go_simp)
            try simp only [Act.put, List.setIfInBounds_toArray, List.set_cons_zero, List.set_cons_succ]
            refine wpAnyG_takeL (i := 2) (.bool false) [12] rfl (by kernel_rfl) (fun _ _ _ h => h) hHeld (by rfl) ?_ ?_
            · (intro W' hSw; (try dsimp only at hSw); go_simp)
            try simp only [Act.put, List.setIfInBounds_toArray, List.set_cons_zero, List.set_cons_succ]
            refine wpAnyG_dropL (i := 3) [4, 11, 12] rfl (by kernel_rfl) (fun _ _ _ h => h) hHeld (by rfl) ?_
            try simp only [Act.put, List.setIfInBounds_toArray, List.set_cons_zero, List.set_cons_succ]
            refine wpAnyG_dropL (i := 4) [11, 12] rfl (by kernel_rfl) (fun _ _ _ h => h) hHeld (by rfl) ?_
            try simp only [Act.put, List.setIfInBounds_toArray, List.set_cons_zero, List.set_cons_succ]
            refine wpAnyG_dropL (i := 5) [8, 9, 10, 11, 12] rfl (by kernel_rfl) (fun _ _ _ h => h) hHeld (by rfl) ?_
            try simp only [Act.put, List.setIfInBounds_toArray, List.set_cons_zero, List.set_cons_succ]
            refine wpAnyG_dropL (i := 6) [7, 8, 9, 10, 11, 12] rfl (by kernel_rfl) (fun _ _ _ h => h) hHeld (by rfl) ?_
            try simp only [Act.put, List.setIfInBounds_toArray, List.set_cons_zero, List.set_cons_succ]
            refine wpAnyG_dropL (i := 7) [8, 9, 10, 11, 12] rfl (by kernel_rfl) (fun _ _ _ h => h) hHeld (by rfl) ?_
            try simp only [Act.put, List.setIfInBounds_toArray, List.set_cons_zero, List.set_cons_succ]
            refine wpAnyG_dropL (i := 8) [9, 10, 11, 12] rfl (by kernel_rfl) (fun _ _ _ h => h) hHeld (by rfl) ?_
            try simp only [Act.put, List.setIfInBounds_toArray, List.set_cons_zero, List.set_cons_succ]
            refine wpAnyG_dropL (i := 9) [10, 11, 12] rfl (by kernel_rfl) (fun _ _ _ h => h) hHeld (by rfl) ?_
            try simp only [Act.put, List.setIfInBounds_toArray, List.set_cons_zero, List.set_cons_succ]
            refine wpAnyG_dropL (i := 10) [11, 12] rfl (by kernel_rfl) (fun _ _ _ h => h) hHeld (by rfl) ?_
            try simp only [Act.put, List.setIfInBounds_toArray, List.set_cons_zero, List.set_cons_succ]
            refine wpAnyG_dropL (i := 11) [12] rfl (by kernel_rfl) (fun _ _ _ h => h) hHeld (by rfl) ?_
            try simp only [Act.put, List.setIfInBounds_toArray, List.set_cons_zero, List.set_cons_succ]
            clear hHeld
            refine wpAnyG_oneL (i := 12) (by kernel_rfl) rfl (fun K hK => ?_)
            (go_simp)
            refine hK.out _ _ (fun h => Bool.noConfusion (show true = false from h)) ?_
            clear hK K
            refine wpAnyG_done (by kernel_rfl) ?_ _
            gi_upto_region 10 with fail
            refine wpIn_region_N 6 (fun W' => W'.cell? ⟨g10, 0, none⟩ = some (.int .i64 (n0 : Int)) ∧ W'.cell? ⟨g12, 1, none⟩ = some (.int .i64 (m : Int))) (by kernel_rfl) (HF.out _ HE2.out) (fun hHeld => ?_)
            refine wpAnyG_takeL (i := 0) (.int .i64 (n0 : Int)) [6] rfl (by kernel_rfl) (fun _ _ _ h => h) hHeld (by rfl) ?_ ?_
            · (intro W' hSw; (try dsimp only at hSw); go_simp)
            try simp only [Act.put, List.setIfInBounds_toArray, List.set_cons_zero, List.set_cons_succ]
            refine wpAnyG_takeL (i := 1) (.pointer (some ⟨g12, 1, none⟩)) [6] rfl (by kernel_rfl) (fun _ _ _ h => h) hHeld (by rfl) ?_ ?_
            · (intro W' hSw; (try dsimp only at hSw); go_simp)
            try simp only [Act.put, List.setIfInBounds_toArray, List.set_cons_zero, List.set_cons_succ]
            refine wpAnyG_takeL (i := 2) (.int .i64 (m : Int)) [6] rfl (by kernel_rfl) (fun _ _ _ h => h) hHeld (by rfl) ?_ ?_
            · (intro W' hSw; (try dsimp only at hSw); go_simp)
            try simp only [Act.put, List.setIfInBounds_toArray, List.set_cons_zero, List.set_cons_succ]
            refine wpAnyG_oneL (i := 3) (by kernel_rfl) rfl (fun K hK => ?_)
            (go_simp; go_at_call 38; refine (gamma18_any m _ (by have := HM.out; omega)).mono ?_; rintro e W9 ⟨rfl, rfl⟩)
            refine hK.out _ _ (fun _ => (HF.out _ HE2.out)) ?_
            clear hK K
            try simp only [Act.put, List.setIfInBounds_toArray, List.set_cons_zero, List.set_cons_succ]
            refine wpAnyG_takeL (i := 4) (.int .i64 ((3 + gamN m : Nat) : Int)) [6] rfl (by kernel_rfl) (fun _ _ _ h => h) hHeld (by rfl) ?_ ?_
            · (intro W' hSw; (try dsimp only at hSw); go_simp)
            try simp only [Act.put, List.setIfInBounds_toArray, List.set_cons_zero, List.set_cons_succ]
            refine wpAnyG_takeL (i := 5) (.int .i64 ((n0 + (3 + gamN m) : Nat) : Int)) [6] rfl (by kernel_rfl) (fun _ _ _ h => h) hHeld (by rfl) ?_ ?_
            · (intro W' hSw; (try dsimp only at hSw); go_simp)
            try simp only [Act.put, List.setIfInBounds_toArray, List.set_cons_zero, List.set_cons_succ]
            have k10 := hHeld.1
            have f10 := (hC.out.sum.below HD2.out).free 0
            refine wpAnyG_oneL (i := 6) (by kernel_rfl) rfl (fun K hK => ?_)
            go_simp
            refine hK.out _ _ (fun h => Bool.noConfusion (show true = false from h)) ?_
            clear hK K
            refine wpAnyG_done (by kernel_rfl) ?_ _
            dsimp only [normQ]
            gi_wp2_with fail
            go_roundw
            case rel => exact ⟨k + 1, by first | rfl | go_num, by omega, Lib.hid (by rw [HSU.out]; exact ((hC.out.below HD2.out).put HORD.out (n0 + (3 + gamN m)) _ (by omega)).1), HA2⟩
            case measure => simp [intOf] <;> omega
          · have HA2 := Lib.hid (HA3.out (.inr (by rw [hkq, Nat.add_sub_cancel]; exact hne)))
            obtain ⟨ad', hAD, _, q0, _⟩ := rd_se hRW q (by omega)
            cases hAD
            obtain ⟨y1, hy1⟩ : ∃ y1, (nth (0, 0) s q).1 = y1 := ⟨_, rfl⟩
            rw [hy1] at q0 hne
            have hxy : (x1 == y1) = false := by simp [hne]
            have hd0 : decide ((0 : Int) < (k : Int)) = true := decide_eq_true (by omega)
            have hz0 : 0 < k := by omega
            have hwq : IntKind.i64.wrap ((k : Int) - 1) = (q : Int) := by rw [IntWalk.i64_in _ (by have := HLS.out.1; omega)]; omega
            have hqi : (q : Int) < (s.length : Int) := by omega
            have hq0 : (0 : Int) ≤ (q : Int) := by omega
            have HF2 := Lib.hid (show ∀ W' : World, Below V.heap.size V W' → (W'.cell? ⟨g12, 0, none⟩ = some (.int .i64 x1) ∧ W'.cell? (ad.add (q * 2)) = some (.int .i64 y1)) from fun W' hb => ⟨(B12.below hb).cell 0 rfl, cell_below (below2 hv hb) q0⟩)
            clear hkq hy1 q0
            gi_upto_region 8 with fail
            try simp only [hV, hg12]
            refine wpIn_region_W 12 (fun W' => W'.cell? ⟨g12, 0, none⟩ = some (.int .i64 x1) ∧ W'.cell? (ad.add (q * 2)) = some (.int .i64 y1)) (by kernel_rfl) (HF2.out _ HE1.out) (fun hHeld => ?_)
            refine wpAnyG_takeL (i := 0) (.int .i64 (k : Int)) [1, 2, 12] rfl (by kernel_rfl) (fun _ _ _ h => h) hHeld (by rfl) ?_ ?_
            · (intro W' hSw; (try dsimp only at hSw); go_simp)
            try simp only [Act.put, List.setIfInBounds_toArray, List.set_cons_zero, List.set_cons_succ]
            refine wpAnyG_takeL (i := 1) (.bool true) [2, 12] rfl (by kernel_rfl) (fun _ _ _ h => h) hHeld (by rfl) ?_ ?_
            · (intro W' hSw; (try dsimp only at hSw); go_simp)
            try simp only [Act.put, List.setIfInBounds_toArray, List.set_cons_zero, List.set_cons_succ]
            refine wpAnyG_takeL (i := 2) (.bool true) [12] rfl (by kernel_rfl) (fun _ _ _ h => h) hHeld (by rfl) ?_ ?_
            · (intro W' hSw; (try dsimp only at hSw); go_simp)
            try simp only [Act.put, List.setIfInBounds_toArray, List.set_cons_zero, List.set_cons_succ]
            refine wpAnyG_takeL (i := 3) (.pointer (some ⟨g12, 0, none⟩)) [4, 11, 12] rfl (by kernel_rfl) (fun _ _ _ h => h) hHeld (by rfl) ?_ ?_
            · (intro W' hSw; (try dsimp only at hSw); go_simp)
            try simp only [Act.put, List.setIfInBounds_toArray, List.set_cons_zero, List.set_cons_succ]
            refine wpAnyG_takeL (i := 4) (.int .i64 x1) [11, 12] rfl (by kernel_rfl) (fun _ _ _ h => h) hHeld (by rfl) ?_ ?_
            · (intro W' hSw; (try dsimp only at hSw); go_simp)
            try simp only [Act.put, List.setIfInBounds_toArray, List.set_cons_zero, List.set_cons_succ]
            refine wpAnyG_takeL (i := 5) (.slice (some ad) s.length e0) [8, 9, 10, 11, 12] rfl (by kernel_rfl) (fun _ _ _ h => h) hHeld (by rfl) ?_ ?_
            · (intro W' hSw; (try dsimp only at hSw); go_simp)
            try simp only [Act.put, List.setIfInBounds_toArray, List.set_cons_zero, List.set_cons_succ]
            refine wpAnyG_takeL (i := 6) (.int .i64 (k : Int)) [7, 8, 9, 10, 11, 12] rfl (by kernel_rfl) (fun _ _ _ h => h) hHeld (by rfl) ?_ ?_
            · (intro W' hSw; (try dsimp only at hSw); go_simp)
            try simp only [Act.put, List.setIfInBounds_toArray, List.set_cons_zero, List.set_cons_succ]
            refine wpAnyG_takeL (i := 7) (.int .i64 (q : Int)) [8, 9, 10, 11, 12] rfl (by kernel_rfl) (fun _ _ _ h => h) hHeld (by rfl) ?_ ?_
            · (intro W' hSw; (try dsimp only at hSw); go_simp)
            try simp only [Act.put, List.setIfInBounds_toArray, List.set_cons_zero, List.set_cons_succ]
            refine wpAnyG_takeL (i := 8) (.pointer (some (ad.add (q * 2)))) [9, 10, 11, 12] rfl (by kernel_rfl) (fun _ _ _ h => h) hHeld (by rfl) ?_ ?_
            · (intro W' hSw; (try dsimp only at hSw); go_simp)
            try simp only [Act.put, List.setIfInBounds_toArray, List.set_cons_zero, List.set_cons_succ]
            refine wpAnyG_takeL (i := 9) (.pointer (some (ad.add (q * 2)))) [10, 11, 12] rfl (by kernel_rfl) (fun _ _ _ h => h) hHeld (by rfl) ?_ ?_
            · (intro W' hSw; (try dsimp only at hSw); go_simp)
            try simp only [Act.put, List.setIfInBounds_toArray, List.set_cons_zero, List.set_cons_succ]
            refine wpAnyG_takeL (i := 10) (.int .i64 y1) [11, 12] rfl (by kernel_rfl) (fun _ _ _ h => h) hHeld (by rfl) ?_ ?_
            · (intro W' hSw; (try dsimp only at hSw); go_simp)
            try simp only [Act.put, List.setIfInBounds_toArray, List.set_cons_zero, List.set_cons_succ]
            refine wpAnyG_takeL (i := 11) (.bool false) [12] rfl (by kernel_rfl) (fun _ _ _ h => h) hHeld (by rfl) ?_ ?_
            · (intro W' hSw; (try dsimp only at hSw); go_simp)
            try simp only [Act.put, List.setIfInBounds_toArray, List.set_cons_zero, List.set_cons_succ]
            clear hHeld
            refine wpAnyG_oneL (i := 12) (by kernel_rfl) rfl (fun K hK => ?_)
            (go_simp)
            refine hK.out _ _ (fun h => Bool.noConfusion (show true = false from h)) ?_
            clear hK K
            refine wpAnyG_done (by kernel_rfl) ?_ _
            gi_upto_region 10 with fail
            refine wpIn_region_N 6 (fun W' => W'.cell? ⟨g10, 0, none⟩ = some (.int .i64 (n0 : Int)) ∧ W'.cell? ⟨g12, 1, none⟩ = some (.int .i64 (m : Int))) (by kernel_rfl) (HF.out _ HE2.out) (fun hHeld => ?_)
            refine wpAnyG_takeL (i := 0) (.int .i64 (n0 : Int)) [6] rfl (by kernel_rfl) (fun _ _ _ h => h) hHeld (by rfl) ?_ ?_
            · (intro W' hSw; (try dsimp only at hSw); go_simp)
            try simp only [Act.put, List.setIfInBounds_toArray, List.set_cons_zero, List.set_cons_succ]
            refine wpAnyG_takeL (i := 1) (.pointer (some ⟨g12, 1, none⟩)) [6] rfl (by kernel_rfl) (fun _ _ _ h => h) hHeld (by rfl) ?_ ?_
            · (intro W' hSw; (try dsimp only at hSw); go_simp)
            try simp only [Act.put, List.setIfInBounds_toArray, List.set_cons_zero, List.set_cons_succ]
            refine wpAnyG_takeL (i := 2) (.int .i64 (m : Int)) [6] rfl (by kernel_rfl) (fun _ _ _ h => h) hHeld (by rfl) ?_ ?_
            · (intro W' hSw; (try dsimp only at hSw); go_simp)
            try simp only [Act.put, List.setIfInBounds_toArray, List.set_cons_zero, List.set_cons_succ]
            refine wpAnyG_oneL (i := 3) (by kernel_rfl) rfl (fun K hK => ?_)
            (go_simp; go_at_call 38; refine (gamma18_any m _ (by have := HM.out; omega)).mono ?_; rintro e W9 ⟨rfl, rfl⟩)
            refine hK.out _ _ (fun _ => (HF.out _ HE2.out)) ?_
            clear hK K
            try simp only [Act.put, List.setIfInBounds_toArray, List.set_cons_zero, List.set_cons_succ]
            refine wpAnyG_takeL (i := 4) (.int .i64 ((3 + gamN m : Nat) : Int)) [6] rfl (by kernel_rfl) (fun _ _ _ h => h) hHeld (by rfl) ?_ ?_
            · (intro W' hSw; (try dsimp only at hSw); go_simp)
            try simp only [Act.put, List.setIfInBounds_toArray, List.set_cons_zero, List.set_cons_succ]
            refine wpAnyG_takeL (i := 5) (.int .i64 ((n0 + (3 + gamN m) : Nat) : Int)) [6] rfl (by kernel_rfl) (fun _ _ _ h => h) hHeld (by rfl) ?_ ?_
            · (intro W' hSw; (try dsimp only at hSw); go_simp)
            try simp only [Act.put, List.setIfInBounds_toArray, List.set_cons_zero, List.set_cons_succ]
            have k10 := hHeld.1
            have f10 := (hC.out.sum.below HD2.out).free 0
            refine wpAnyG_oneL (i := 6) (by kernel_rfl) rfl (fun K hK => ?_)
            go_simp
            refine hK.out _ _ (fun h => Bool.noConfusion (show true = false from h)) ?_
            clear hK K
            refine wpAnyG_done (by kernel_rfl) ?_ _
            dsimp only [normQ]
            gi_wp2_with fail
            go_roundw
            case rel => exact ⟨k + 1, by first | rfl | go_num, by omega, Lib.hid (by rw [HSU.out]; exact ((hC.out.below HD2.out).put HORD.out (n0 + (3 + gamN m)) _ (by omega)).1), HA2⟩
            case measure => simp [intOf] <;> omega
          · have HV0 := Lib.hid (show costV ws l s = (0, false) by unfold costV; rw [if_neg (fun h => by rw [adjK_no (q := q) (by omega) (by rw [← heq, ← HX1.out, hkq])] at h; exact absurd h.2.2.1 (by simp))])
            obtain ⟨ad', hAD, _, q0, _⟩ := rd_se hRW q (by omega)
            cases hAD
            obtain ⟨y1, hy1⟩ : ∃ y1, (nth (0, 0) s q).1 = y1 := ⟨_, rfl⟩
            rw [hy1] at q0 heq
            subst heq
            have hxy : (x1 == x1) = true := by simp
            have hd0 : decide ((0 : Int) < (k : Int)) = true := decide_eq_true (by omega)
            have hz0 : 0 < k := by omega
            have hwq : IntKind.i64.wrap ((k : Int) - 1) = (q : Int) := by rw [IntWalk.i64_in _ (by have := HLS.out.1; omega)]; omega
            have hqi : (q : Int) < (s.length : Int) := by omega
            have hq0 : (0 : Int) ≤ (q : Int) := by omega
            have HF2 := Lib.hid (show ∀ W' : World, Below V.heap.size V W' → (W'.cell? ⟨g12, 0, none⟩ = some (.int .i64 x1) ∧ W'.cell? (ad.add (q * 2)) = some (.int .i64 x1)) from fun W' hb => ⟨(B12.below hb).cell 0 rfl, cell_below (below2 hv hb) q0⟩)
            clear hkq hy1 q0
            gi_upto_region 8 with fail
            try simp only [hV, hg12]
            refine wpIn_region_W 12 (fun W' => W'.cell? ⟨g12, 0, none⟩ = some (.int .i64 x1) ∧ W'.cell? (ad.add (q * 2)) = some (.int .i64 x1)) (by kernel_rfl) (HF2.out _ HE1.out) (fun hHeld => ?_)
            refine wpAnyG_takeL (i := 0) (.int .i64 (k : Int)) [1, 2, 12] rfl (by kernel_rfl) (fun _ _ _ h => h) hHeld (by rfl) ?_ ?_
            · (intro W' hSw; (try dsimp only at hSw); go_simp)
            try simp only [Act.put, List.setIfInBounds_toArray, List.set_cons_zero, List.set_cons_succ]
            refine wpAnyG_takeL (i := 1) (.bool true) [2, 12] rfl (by kernel_rfl) (fun _ _ _ h => h) hHeld (by rfl) ?_ ?_
            · (intro W' hSw; (try dsimp only at hSw); go_simp)
            try simp only [Act.put, List.setIfInBounds_toArray, List.set_cons_zero, List.set_cons_succ]
            refine wpAnyG_takeL (i := 2) (.bool true) [12] rfl (by kernel_rfl) (fun _ _ _ h => h) hHeld (by rfl) ?_ ?_
            · (intro W' hSw; (try dsimp only at hSw); go_simp)
            try simp only [Act.put, List.setIfInBounds_toArray, List.set_cons_zero, List.set_cons_succ]
            refine wpAnyG_takeL (i := 3) (.pointer (some ⟨g12, 0, none⟩)) [4, 11, 12] rfl (by kernel_rfl) (fun _ _ _ h => h) hHeld (by rfl) ?_ ?_
            · (intro W' hSw; (try dsimp only at hSw); go_simp)
            try simp only [Act.put, List.setIfInBounds_toArray, List.set_cons_zero, List.set_cons_succ]
            refine wpAnyG_takeL (i := 4) (.int .i64 x1) [11, 12] rfl (by kernel_rfl) (fun _ _ _ h => h) hHeld (by rfl) ?_ ?_
            · (intro W' hSw; (try dsimp only at hSw); go_simp)
            try simp only [Act.put, List.setIfInBounds_toArray, List.set_cons_zero, List.set_cons_succ]
            refine wpAnyG_takeL (i := 5) (.slice (some ad) s.length e0) [8, 9, 10, 11, 12] rfl (by kernel_rfl) (fun _ _ _ h => h) hHeld (by rfl) ?_ ?_
            · (intro W' hSw; (try dsimp only at hSw); go_simp)
            try simp only [Act.put, List.setIfInBounds_toArray, List.set_cons_zero, List.set_cons_succ]
            refine wpAnyG_takeL (i := 6) (.int .i64 (k : Int)) [7, 8, 9, 10, 11, 12] rfl (by kernel_rfl) (fun _ _ _ h => h) hHeld (by rfl) ?_ ?_
            · (intro W' hSw; (try dsimp only at hSw); go_simp)
            try simp only [Act.put, List.setIfInBounds_toArray, List.set_cons_zero, List.set_cons_succ]
            refine wpAnyG_takeL (i := 7) (.int .i64 (q : Int)) [8, 9, 10, 11, 12] rfl (by kernel_rfl) (fun _ _ _ h => h) hHeld (by rfl) ?_ ?_
            · (intro W' hSw; (try dsimp only at hSw); go_simp)
            try simp only [Act.put, List.setIfInBounds_toArray, List.set_cons_zero, List.set_cons_succ]
            refine wpAnyG_takeL (i := 8) (.pointer (some (ad.add (q * 2)))) [9, 10, 11, 12] rfl (by kernel_rfl) (fun _ _ _ h => h) hHeld (by rfl) ?_ ?_
            · (intro W' hSw; (try dsimp only at hSw); go_simp)
            try simp only [Act.put, List.setIfInBounds_toArray, List.set_cons_zero, List.set_cons_succ]
            refine wpAnyG_takeL (i := 9) (.pointer (some (ad.add (q * 2)))) [10, 11, 12] rfl (by kernel_rfl) (fun _ _ _ h => h) hHeld (by rfl) ?_ ?_
            · (intro W' hSw; (try dsimp only at hSw); go_simp)
            try simp only [Act.put, List.setIfInBounds_toArray, List.set_cons_zero, List.set_cons_succ]
            refine wpAnyG_takeL (i := 10) (.int .i64 x1) [11, 12] rfl (by kernel_rfl) (fun _ _ _ h => h) hHeld (by rfl) ?_ ?_
            · (intro W' hSw; (try dsimp only at hSw); go_simp)
            try simp only [Act.put, List.setIfInBounds_toArray, List.set_cons_zero, List.set_cons_succ]
            refine wpAnyG_takeL (i := 11) (.bool true) [12] rfl (by kernel_rfl) (fun _ _ _ h => h) hHeld (by rfl) ?_ ?_
            · (intro W' hSw; (try dsimp only at hSw); go_simp)
            try simp only [Act.put, List.setIfInBounds_toArray, List.set_cons_zero, List.set_cons_succ]
            clear hHeld
            refine wpAnyG_oneL (i := 12) (by kernel_rfl) rfl (fun K hK => ?_)
            (go_simp)
            refine hK.out _ _ (fun h => Bool.noConfusion (show true = false from h)) ?_
            clear hK K
            refine wpAnyG_done (by kernel_rfl) ?_ _
            gi_wp2_with fail
            obtain ⟨r6, r7, ru⟩ := put_res (x := .int .i64 0) (y := .bool false) HCV.out.r6 HCV.out.r7 ne67
            refine ⟨_, cost_res _ _ g6 g7 0 false rfl rfl r6 r7, ?_⟩
            rw [HV0.out]
            exact ⟨rfl, HCV.out.low.trans (ru.below (n := w.heap.size) HCV.out.low.size (fun x _ h => by have := HZ.out; omega))⟩
        · obtain rfl : k = s.length := by omega
          have HADJ := Lib.hid (adjK_yes hA.out)
          have HHB := Lib.hid (hdN_le HLS.out s.length (Nat.le_refl _))
          obtain ⟨n1, hn1⟩ : ∃ n1, hdN s s.length = n1 := ⟨_, rfl⟩
          rw [hn1] at hC HHB
          have HN1 := Lib.hid hn1
          have HGG := Lib.hid (And.intro hG hGT)
          have HSA := Lib.hid hS
          have HTB := Lib.hid hT
          have HSUM := Lib.hid hsum
          have HOKA := Lib.hid hok
          have HLL := Lib.hid (show l.length ≤ 16384 by rw [← hsum]; have := sumV_le (ws := ws) ws.length (Nat.le_refl _) (by rw [List.take_length]; exact hok); omega)
          clear hA hlt hk hn1 hG hGT hS hT hok hsum
          gi_wp2_with (refine ⟨trivial, ?_⟩; gi_at_call 33; refine (callsIn_wide.2 (bands_any A B ws.length c l.length d _)).mono ?_; rintro e W6 ⟨h1, h2, rfl, e1, e2, e3, bF, bS, b3⟩)
          have he1 := e1.out
          have he2 := e2.out
          have he3 := e3.out
          have hC6 := hC.out.below b3
          have hS6 := HSA.out.below hC6.low
          have hT6 := HTB.out.below hC6.low
          have hwz := hC.out.low.size
          have hg10 := hC.out.sum.lt
          have HN := Lib.hid (show g10 < h1 ∧ h1 + 1 = h2 ∧ W6.heap.size = h2 + 1 ∧ w.heap.size ≤ h1 from ⟨by omega, by omega, by omega, by omega⟩)
          have q1 : h1 < W6.heap.size := by omega
          have q2 : h2 < W6.heap.size := by omega
          have q0 : w.heap.size ≤ W6.heap.size := by omega
          have hok6 : Sl (kInt .i64) (fun x => x = h1 ∨ x = h2 ∨ x < w.heap.size) W6 A c ws := ((HSA.out.weak (ok' := fun x => x < w.heap.size) (fun x hx _ => hx)).below hC6.low).weak fun x _ h => .inr (.inr h)
          clear e1 e2 e3 he1 he2 he3 hwz hg10 b3 hC
          refine range_next rfl (by decide) (gf := 59) (lb := #[.pointer (some ⟨h1, 0, none⟩), .pointer (some ⟨h2, 0, none⟩)]) rfl trivial (enters_of Tryz.func59 (by kernel_rfl) rfl)
            (bands1_yields h1 h2 A B c d ws l W6 (fun x => x = h1 ∨ x = h2 ∨ x < w.heap.size) hS6 hT6 bF bS (.inl rfl) (.inr (.inl rfl)) hok6 8 (by decide) HOKA.out HSUM.out h128) (fun r h => h.elim) (fun r h => by omega) (Below.refl _ _) (fun _ => rfl)
            (fun pre W => CqS w g6 g7 g8 g10 A8 c8 ws.length bs (n1 + bdN ws l bs pre.length) W ∧ ∀ j, j < pre.length → (bdC ws l bs j).2 = 0) (fun cd _ W => cd = .ret ∧ Blk W g6 #[.int .i64 0] 3 ∧ Blk W g7 #[.bool false] 4 ∧ Below w.heap.size w W ∧ costV ws l s = (0, false)) ?hI ?hIx ⟨by rw [show n1 + bdN ws l bs ([] : List Nat).length = n1 from rfl]; exact hC6, fun j h => by simp at h⟩
            (fun x a' W => ∃ g13, g10 < g13 ∧ Blk W g13 #[.int .i64 (x : Int), bandV B ws x] 73 ∧ a' = { tmps := (.slice A ws.length c :: .slice B l.length d :: .slice D s.length e0 :: undef :: undef :: undef :: .pointer (some ⟨g6, 0, none⟩) :: .pointer (some ⟨g7, 0, none⟩) :: .pointer (some ⟨g8, 0, none⟩) :: .int .i64 0 :: .pointer (some ⟨g10, 0, none⟩) :: u11 :: u12 :: .pointer (some ⟨g13, 0, none⟩) :: undef :: undef :: .tuple #[.slice A8 ws.length c8, .int .i64 0] :: .slice D s.length e0 :: .tuple #[.slice A8 ws.length c8, .int .i64 0] :: .slice A8 ws.length c8 :: .int .i64 0 :: .int .i64 0 :: .bool false :: .bool false :: .slice A8 ws.length c8 :: .int .i64 (ws.length : Int) :: .slice A ws.length c :: .int .i64 (ws.length : Int) :: .bool false :: .bool false :: .slice D s.length e0 :: .int .i64 (s.length : Int) :: .int .i64 (s.length : Int) :: .bool false :: u34 :: u35 :: u36 :: u37 :: u38 :: u39 :: u40 :: u41 :: u42 :: u43 :: u44 :: u45 :: u46 :: u47 :: u48 :: u49 :: u50 :: u51 :: u52 :: u53 :: u54 :: u55 :: u56 :: .slice A ws.length c :: .slice B l.length d :: .func (.func 59) #[] #[.pointer (some ⟨h1, 0, none⟩), .pointer (some ⟨h2, 0, none⟩)] :: .agg #[.int .i64 (x : Int), bandV B ws x] :: undef :: undef :: undef :: undef :: undef :: undef :: undef :: undef :: undef :: undef :: undef :: undef :: undef :: undef :: undef :: undef :: undef :: []).toArray, defers := [] })
            ?hAx ?assign ?body ?done ?stop
          case hI =>
            rintro pre X Y row ⟨hs, he⟩ hg hr
            have hO : Other X row := fun r e => by
              rcases hr r e with h | ⟨_, x, hx, hc⟩
              · exact h.elim
              · exact ⟨x, hx, hc⟩
            refine ⟨hs.firm hg hO (fun r e => ?_), he⟩
            rcases hr r e with h | ⟨h, _⟩
            · exact h.elim
            · have := HN.out; have := HORD.out; omega
          case hIx =>
            rintro cd pre X Y row ⟨h1, h2, h3, h4, h5⟩ hg hr
            have hO : Other X row := fun r e => by
              rcases hr r e with h | ⟨_, x, hx, hc⟩
              · exact h.elim
              · exact ⟨x, hx, hc⟩
            refine ⟨h1, h2.firm hg hO, h3.firm hg hO, h4.grown hg h4.size (fun r e => ?_), h5⟩
            rcases hr r e with h | ⟨h, _⟩
            · exact h.elim
            · omega
          case hAx =>
            rintro x a' _ X Y row ⟨g13, h1, h2, h3⟩ hg hr
            have hO : Other X row := fun r e => by
              rcases hr r e with h | ⟨_, x, hx, hc⟩
              · exact h.elim
              · exact ⟨x, hx, hc⟩
            exact ⟨g13, h1, h2.firm hg hO, h3⟩
          case assign =>
            intro r pre x W K hi _ hK
            simp only [bandV]
            gi_wp2
            have hb := below_alloc (Below.refl W.heap.size W) (.cells #[.int .i64 (x : Int), bandV B ws x] 73)
            exact hK _ _ (keepsL hb) ⟨hb.size, fun i hi _ => hb.block i hi⟩ ⟨hi.1.below hb, hi.2⟩ ⟨_, hi.1.sum.lt, heap_alloc_new W _, rfl⟩
          case body =>
            rintro r pre j a' W ⟨hs, hE0⟩ ⟨g13, hg13, B13, rfl⟩ ⟨hj, hpre⟩
            have hpl : pre.length = j := by rw [hpre, List.length_range]
            rw [hpl] at hs hE0
            obtain ⟨hwn, hw1, hw128⟩ := okV_at HOKA.out j hj
            have hle2 := sumV_all HSUM.out j hj
            obtain ⟨ad, hBE, _⟩ := rd_int HTB.out 0 (by omega)
            subst hBE
            obtain ⟨a8, hA8, k8⟩ := rd_int hs.own j (by rw [hs.nl]; exact hj)
            subst hA8
            have hbl : (bndL ws l j).length = widV ws j := by unfold bndL; rw [List.length_take, List.length_drop]; omega
            have hRB : RI w (some (ad.add (sumV ws j))) (widV ws j) (bndL ws l j) := by
              have h := grp_sl HTB.out (sumV ws j) (widV ws j) hle2
              rw [show sumV ws j * (kInt .i64).size = sumV ws j from Nat.mul_one _] at h
              have e : (l.take (sumV ws j + widV ws j)).drop (sumV ws j) = bndL ws l j := by unfold bndL; rw [List.drop_take]; congr 1; omega
              rwa [e] at h
            have HBC := Lib.hid (fun W' (hb : Below w.heap.size w W') => bCost_any (some (ad.add (sumV ws j))) (widV ws j) (nth 0 bs j) (bndL ws l j) W' (hRB.below hb) (HGG.out.1.below hb) (HGG.out.2.below hb) (by rw [hbl]; omega))
            rw [hbl] at HBC
            have HLOW := Lib.hid hs.low
            obtain ⟨n0, hn0⟩ : ∃ n0, n1 + bdN ws l bs j = n0 := ⟨_, rfl⟩
            have HNJ := Lib.hid (show n1 + bdN ws l bs (pre ++ [j]).length = n0 + (bkW (nth 0 bs j) (bndL ws l j)).length by rw [List.length_append, hpl]; show n1 + bdN ws l bs (j + 1) = _; rw [bdN_succ]; omega)
            have HCL := Lib.hid (bkC_len (nth 0 bs j) (bndL ws l j))
            have HBN := Lib.hid (show n0 + (bkW (nth 0 bs j) (bndL ws l j)).length ≤ 10000000 by
              have h1 := bdN_le ws l bs j
              have h2 := bkW_len (nth 0 bs j) (bndL ws l j)
              have h3 := HHB.out
              have h4 := HLS.out.1
              have h5 := HLL.out
              omega)
            have HPL := Lib.hid (show (pre ++ [j]).length = j + 1 by rw [List.length_append, hpl]; rfl)
            rw [hn0] at hs
            have hE1 := Lib.hid (show ∀ v, (bkC (nth 0 bs j) (bndL ws l j)).2 = v → v ≠ 0 → costV ws l s = (0, false) from fun v e h => by
              unfold costV
              rw [if_neg]
              intro hc
              rw [HBS.out, bdOK_no hj (show (bdC ws l bs j).2 ≠ 0 by unfold bdC; rw [e]; exact h)] at hc
              exact Bool.noConfusion hc.2.2.2)
            have hE2 := Lib.hid (show ∀ v, (bkC (nth 0 bs j) (bndL ws l j)).2 = v → v = 0 → ∀ i, i < (pre ++ [j]).length → (bdC ws l bs i).2 = 0 from fun v e h i hi => by
              rw [HPL.out] at hi
              rcases Nat.lt_or_ge i j with h1 | h1
              · exact hE0 i h1
              · obtain rfl : i = j := by omega
                unfold bdC; rw [e, h])
            obtain ⟨V1, hV1⟩ : ∃ V1, (bkW (nth 0 bs j) (bndL ws l j)).length = V1 := ⟨_, rfl⟩
            rw [hV1] at HNJ HBN HCL
            obtain ⟨V2, hV2⟩ : ∃ V2, (bkC (nth 0 bs j) (bndL ws l j)).2 = V2 := ⟨_, rfl⟩
            rw [HCL.out, hV2] at HBC
            have HE1 := Lib.hid (hE1.out V2 hV2)
            have HE2 := Lib.hid (hE2.out V2 hV2)
            generalize nth 0 bs j = N0 at k8 HBC
            have hw4 : IntKind.i64.wrap ((n0 : Int) + (V1 : Int)) = (n0 : Int) + (V1 : Int) := IntWalk.i64_in _ (by have := HBN.out; omega)
            have hji : (j : Int) < (ws.length : Int) := by omega
            have hbv : bandV (some ad) ws j = .slice (some (ad.add (sumV ws j))) (widV ws j) (widV ws j) := rfl
            simp only [hbv] at B13
            simp only [hbv]
            have ne67 : g6 ≠ g7 := by have := HORD.out; omega
            have HB13 := Lib.hid B13
            have HW := Lib.hid hs
            have HG13 := Lib.hid hg13
            have HKJ := Lib.hid k8
            clear hE0 hE1 hE2 hV1 hV2 hn0 hwn hle2 hRB hpl hpre hbl hbv hs B13 hg13 k8 hj HPL HCL
            have hd := (Below.refl W.heap.size W).drew
            have HF := Lib.hid (show ∀ W' : World, Below W.heap.size W W' → (W'.cell? ⟨g8, 0, none⟩ = some (.slice (some a8) ws.length c8) ∧ W'.cell? ⟨g13, 0, none⟩ = some (.int .i64 (j : Int)) ∧ W'.cell? ⟨g13, 1, none⟩ = some (.slice (some (ad.add (sumV ws j))) (widV ws j) (widV ws j)) ∧ W'.cell? (a8.add j) = some (.int .i64 N0)) from fun W' hb => ⟨(HW.out.lst.below hb).cell 0 rfl, (HB13.out.below hb).cell 0 rfl, (HB13.out.below hb).cell 1 rfl, cell_below hb HKJ.out⟩)
            gi_upto_region 14 with fail
            refine wpIn_region_G 12 (fun W' => W'.cell? ⟨g8, 0, none⟩ = some (.slice (some a8) ws.length c8) ∧ W'.cell? ⟨g13, 0, none⟩ = some (.int .i64 (j : Int)) ∧ W'.cell? ⟨g13, 1, none⟩ = some (.slice (some (ad.add (sumV ws j))) (widV ws j) (widV ws j)) ∧ W'.cell? (a8.add j) = some (.int .i64 N0)) (by kernel_rfl) (by kernel_rfl) (fun ⟨_, _, h⟩ => h) (HF.out _ hd) (fun hHeld => ?_)
            refine wpAnyG_takeL (i := 0) (.slice (some a8) ws.length c8) [12] rfl (by kernel_rfl) (fun _ _ _ h => h) hHeld (by rfl) ?_ ?_
            · (intro W' hSw; (try dsimp only at hSw); go_simp)
            try simp only [Act.put, List.setIfInBounds_toArray, List.set_cons_zero, List.set_cons_succ]
            refine wpAnyG_takeL (i := 1) (.pointer (some ⟨g13, 0, none⟩)) [12] rfl (by kernel_rfl) (fun _ _ _ h => h) hHeld (by rfl) ?_ ?_
            · (intro W' hSw; (try dsimp only at hSw); go_simp)
            try simp only [Act.put, List.setIfInBounds_toArray, List.set_cons_zero, List.set_cons_succ]
            refine wpAnyG_takeL (i := 2) (.int .i64 (j : Int)) [12] rfl (by kernel_rfl) (fun _ _ _ h => h) hHeld (by rfl) ?_ ?_
            · (intro W' hSw; (try dsimp only at hSw); go_simp)
            try simp only [Act.put, List.setIfInBounds_toArray, List.set_cons_zero, List.set_cons_succ]
            refine wpAnyG_takeL (i := 3) (.pointer (some (a8.add j))) [12] rfl (by kernel_rfl) (fun _ _ _ h => h) hHeld (by rfl) ?_ ?_
            · (intro W' hSw; (try dsimp only at hSw); go_simp)
            try simp only [Act.put, List.setIfInBounds_toArray, List.set_cons_zero, List.set_cons_succ]
            refine wpAnyG_takeL (i := 4) (.int .i64 N0) [12] rfl (by kernel_rfl) (fun _ _ _ h => h) hHeld (by rfl) ?_ ?_
            · (intro W' hSw; (try dsimp only at hSw); go_simp)
            try simp only [Act.put, List.setIfInBounds_toArray, List.set_cons_zero, List.set_cons_succ]
            refine wpAnyG_takeL (i := 5) (.pointer (some ⟨g13, 1, none⟩)) [12] rfl (by kernel_rfl) (fun _ _ _ h => h) hHeld (by rfl) ?_ ?_
            · (intro W' hSw; (try dsimp only at hSw); go_simp)
            try simp only [Act.put, List.setIfInBounds_toArray, List.set_cons_zero, List.set_cons_succ]
            refine wpAnyG_takeL (i := 6) (.slice (some (ad.add (sumV ws j))) (widV ws j) (widV ws j)) [12] rfl (by kernel_rfl) (fun _ _ _ h => h) hHeld (by rfl) ?_ ?_
            · (intro W' hSw; (try dsimp only at hSw); go_simp)
            try simp only [Act.put, List.setIfInBounds_toArray, List.set_cons_zero, List.set_cons_succ]
            refine wpAnyG_oneL (i := 7) (by kernel_rfl) rfl (fun K hK => ?_)
            (go_simp; go_at_call 54; refine (HBC.out _ (HLOW.out.trans (hd.mono HLOW.out.size))).mono ?_; rintro e W9 ⟨rfl, b9⟩)
            refine hK.out _ _ (fun _ => (HF.out _ (below2 hd b9))) ?_
            clear hK K
            try simp only [Act.put, List.setIfInBounds_toArray, List.set_cons_zero, List.set_cons_succ]
            clear hHeld
            have hHeld := HF.out _ (below2 hd b9)
            refine wpAnyG_takeL (i := 8) (.tuple #[.int .i64 (V1 : Int), .int .i64 V2]) [12] rfl (by kernel_rfl) (fun _ _ _ h => h) hHeld (by rfl) ?_ ?_
            · (intro W' hSw; (try dsimp only at hSw); go_simp)
            try simp only [Act.put, List.setIfInBounds_toArray, List.set_cons_zero, List.set_cons_succ]
            refine wpAnyG_takeL (i := 9) (.int .i64 (V1 : Int)) [12] rfl (by kernel_rfl) (fun _ _ _ h => h) hHeld (by rfl) ?_ ?_
            · (intro W' hSw; (try dsimp only at hSw); go_simp)
            try simp only [Act.put, List.setIfInBounds_toArray, List.set_cons_zero, List.set_cons_succ]
            refine wpAnyG_takeL (i := 10) (.int .i64 V2) [12] rfl (by kernel_rfl) (fun _ _ _ h => h) hHeld (by rfl) ?_ ?_
            · (intro W' hSw; (try dsimp only at hSw); go_simp)
            try simp only [Act.put, List.setIfInBounds_toArray, List.set_cons_zero, List.set_cons_succ]
            refine wpAnyG_takeL (i := 11) (.int .i64 (V1 : Int)) [12] rfl (by kernel_rfl) (fun _ _ _ h => h) hHeld (by rfl) ?_ ?_
            · (intro W' hSw; (try dsimp only at hSw); go_simp)
            try simp only [Act.put, List.setIfInBounds_toArray, List.set_cons_zero, List.set_cons_succ]
            refine wpAnyG_oneL (i := 12) (by kernel_rfl) rfl (fun K hK => ?_)
            go_simp
            refine hK.out _ _ (fun h => Bool.noConfusion (show true = false from h)) ?_
            clear hK K
            refine wpAnyG_done (by kernel_rfl) ?_ _
            have HC9 := Lib.hid (HW.out.below (below2 hd b9))
            have z6 := HC9.out.r6.cell 0 rfl
            have z7 := HC9.out.r7.cell 0 rfl
            have z10 := HC9.out.sum.cell 0 rfl
            have f6 := HC9.out.r6.free 0
            have f7 := HC9.out.r7.free 0
            have f10 := HC9.out.sum.free 0
            have HB9 := Lib.hid (below2 hd b9)
            clear hHeld hd b9
            by_cases hv2 : V2 = 0
            · have hve : (V2 != 0) = false := by simp [hv2]
              have hEv := HE2.out hv2
              gi_wp2_with fail
              obtain ⟨q1, q2⟩ := HC9.out.put HORD.out (n0 + V1) ((n0 : Int) + (V1 : Int)) (by omega)
              refine ⟨(keepsL HB9.out).trans (keepsU q2 (fun x _ e => by have := HN.out; omega)), (show Keep _ _ _ from ⟨HB9.out.size, fun i hi _ => HB9.out.block i hi⟩).trans (q2.keep (fun i hi e => by have := HN.out; have := HORD.out; omega)), ?_, hEv⟩
              rw [HNJ.out]
              exact q1
            · have hve : (V2 != 0) = true := by simp [hv2]
              have hEv := HE1.out hv2
              gi_wp2_with fail
              obtain ⟨r6, r7, ru⟩ := put_res (x := .int .i64 0) (y := .bool false) HC9.out.r6 HC9.out.r7 ne67
              refine ⟨(keepsL HB9.out).trans (keepsU ru (fun x _ e => by have := HN.out; have := HORD.out; omega)), rfl, r6, r7, ?_, hEv⟩
              exact HC9.out.low.trans (ru.below (n := w.heap.size) HC9.out.low.size (fun x _ h => by have := HZ.out; omega))
          case done =>
            rintro D2 xs W hD rfl ⟨hs, hE⟩ hK
            rw [List.length_range] at hs hE
            obtain ⟨m, hm⟩ : ∃ m, n1 + bdN ws l bs ws.length = m := ⟨_, rfl⟩
            rw [hm] at hs
            have HV := Lib.hid (show costV ws l s = ((m : Int), true) by unfold costV; rw [if_pos ⟨HE.out, by rw [HBS.out]; exact hL, HADJ.out, by rw [HBS.out]; exact bdOK_yes hE⟩, HBS.out, HN1.out, hm])
            have z6 := hs.r6.cell 0 rfl
            have z7 := hs.r7.cell 0 rfl
            have z10 := hs.sum.cell 0 rfl
            have f6 := hs.r6.free 0
            have f7 := hs.r7.free 0
            have ne67 : g6 ≠ g7 := by have := HORD.out; omega
            have HS2 := Lib.hid hs
            have HK := Lib.hid hK
            clear hs hE hm hK
            gi_wp2
            obtain ⟨r6, r7, ru⟩ := put_res (x := .int .i64 (m : Int)) (y := .bool true) HS2.out.r6 HS2.out.r7 ne67
            have hK2 := (ru.blk D2 (Array.getElem?_eq_some_iff.1 HK.out).1 (fun e => by have := HN.out; have := HORD.out; omega)).trans HK.out
            refine ⟨by simp, .inl ⟨_, _, rfl, run_takeDeferred hK2, ?_⟩⟩
            have hO : Other _ (some D2) := fun r e => by cases e; exact ⟨_, hK2, rfl⟩
            refine ⟨_, cost_res _ _ g6 g7 (m : Int) true rfl rfl (r6.firm (grownBy_putObj' _ D2 _) hO) (r7.firm (grownBy_putObj' _ D2 _) hO), ?_⟩
            rw [HV.out]
            have hbl := HS2.out.low.trans (ru.below (n := w.heap.size) HS2.out.low.size (fun x _ h => by have := HZ.out; omega))
            exact ⟨rfl, hbl.grown (grownBy_putObj' _ D2 _) hbl.size (fun r e => by cases e; have := HN.out; omega)⟩
          case stop =>
            rintro D2 cd xs W hD _ ⟨rfl, h6, h7, hbl, hV⟩ hK
            gi_wp2
            refine ⟨by simp, .inl ⟨_, _, rfl, run_takeDeferred hK, ?_⟩⟩
            have hO : Other _ (some D2) := fun r e => by cases e; exact ⟨_, hK, rfl⟩
            refine ⟨_, cost_res _ _ g6 g7 0 false rfl rfl (h6.firm (grownBy_putObj' _ D2 _) hO) (h7.firm (grownBy_putObj' _ D2 _) hO), ?_⟩
            rw [hV]
            exact ⟨rfl, hbl.grown (grownBy_putObj' _ D2 _) hbl.size (fun r e => by cases e; have := HN.out; omega)⟩
    · have HV := Lib.hid (show costV ws l s = (0, false) by unfold costV; rw [if_neg (fun h => hL h.2.1)])
      have hne : (((booksL s).length : Int) != (ws.length : Int)) = true := by simp; omega
      rw [hE] at HBK
      clear hE hL
      gi_wp2_with (refine ⟨trivial, ?_⟩; gi_at_call 19; refine (callsIn_wide.2 HBK.out).mono ?_; rintro e W3 ⟨v, rfl, hO, b3⟩; obtain ⟨A8, c8, rfl, h8⟩ := hO.rd; have hb8 := below_alloc (Below.refl W3.heap.size W3) (.cells #[.slice A8 (booksL s).length c8] 22); have q6 := (H67.out.1.below b3).below hb8; have q7 := (H67.out.2.below b3).below hb8; have z6 := q6.cell 0 rfl; have z7 := q7.cell 0 rfl; have f6 := q6.free 0; have f7 := q7.free 0; have ne67 : g6 ≠ g7 := (by have := HZ.out; omega); have HQ := Lib.hid (And.intro q6 q7); have HB8 := Lib.hid (below2 (below2 HB1.out b3) hb8); clear q6 q7 hb8)
      obtain ⟨r6, r7, ru⟩ := put_res (x := .int .i64 0) (y := .bool false) HQ.out.1 HQ.out.2 ne67
      refine ⟨_, cost_res _ _ g6 g7 0 false rfl rfl r6 r7, ?_⟩
      rw [HV.out]
      exact ⟨rfl, HB8.out.trans (ru.below (n := w.heap.size) HB8.out.size (fun x _ h => by have := HZ.out; omega))⟩
  · have HV := Lib.hid (show costV ws l s = (0, false) by unfold costV; rw [if_neg (fun h => hE h.1)])
    have he4 : booksE s = 4 := by unfold booksE at hE ⊢; split at hE <;> simp_all
    rw [he4] at HBK
    clear hE he4
    gi_wp2_with (refine ⟨trivial, ?_⟩; gi_at_call 19; refine (callsIn_wide.2 HBK.out).mono ?_; rintro e W3 ⟨v, rfl, hO, b3⟩; obtain ⟨A8, c8, rfl, h8⟩ := hO.rd; have hb8 := below_alloc (Below.refl W3.heap.size W3) (.cells #[.slice A8 (booksL s).length c8] 22); have q6 := (H67.out.1.below b3).below hb8; have q7 := (H67.out.2.below b3).below hb8; have z6 := q6.cell 0 rfl; have z7 := q7.cell 0 rfl; have f6 := q6.free 0; have f7 := q7.free 0; have ne67 : g6 ≠ g7 := (by have := HZ.out; omega); have HQ := Lib.hid (And.intro q6 q7); have HB8 := Lib.hid (below2 (below2 HB1.out b3) hb8); clear q6 q7 hb8)
    obtain ⟨r6, r7, ru⟩ := put_res (x := .int .i64 0) (y := .bool false) HQ.out.1 HQ.out.2 ne67
    refine ⟨_, cost_res _ _ g6 g7 0 false rfl rfl r6 r7, ?_⟩
    rw [HV.out]
    exact ⟨rfl, HB8.out.trans (ru.below (n := w.heap.size) HB8.out.size (fun x _ h => by have := HZ.out; omega))⟩
end Go.Proofs.YtmcdgmiheklbeaaGreatDoor

namespace Go.Proofs.YtmcdgmiheklbeaaGreatDoor
open Go.RowKit
attribute [local go_sem] Oper.semAt_some

/-- What Cost returns. -/
def costQ (ws l : List Int) (s : List (Int × Int)) : Int × Int := if sureE ws l ≠ 0 then (0, sureE ws l) else if (costV ws l s).2 = false then (0, 4) else ((costV ws l s).1, 0)
theorem sureE_ok {ws l : List Int} (h : sureE ws l = 0) : ws.all okV = true ∧ ws.length ≤ 128 ∧ sumV ws ws.length = l.length ∧ quantB l = true := by
  unfold sureE at h
  split at h
  · rename_i h1
    split at h
    · rename_i h2
      exact ⟨h1.1, h1.2.1, h1.2.2, h2⟩
    · omega
  · omega
set_option maxHeartbeats 1000000 in
theorem sCost_any (A B D : Option Addr) (c d e0 : Nat) (ws l : List Int) (s : List (Int × Int)) (w : World) (hS : RI w A c ws) (hT : RI w B d l) (hR : RS w D e0 s) (hG : GF w) (hGT : GT w) (hw : ws.length ≤ 100000) :
    Calls Tryz.prog 8 #[.slice A ws.length c, .slice B l.length d, .slice D s.length e0] w fun e w' => e = .returned (.tuple #[.int .i64 (costQ ws l s).1, .int .i64 (costQ ws l s).2]) ∧ Below w.heap.size w w' := by
  have HC := Lib.hid (checked18_any A B c d ws l w hS hT hw hG)
  by_cases h : sureE ws l = 0
  · obtain ⟨hok, h128, hsum, _⟩ := sureE_ok h
    have HV := Lib.hid (show costQ ws l s = if (costV ws l s).2 = false then ((0 : Int), (4 : Int)) else ((costV ws l s).1, 0) by unfold costQ; rw [if_neg (by simp [h])])
    rw [h] at HC
    have HK := Lib.hid (fun W (hb : Below w.heap.size w W) => cost18_any A B D c d e0 ws l s W (hS.below hb) (hT.below hb) (hR.below hb) (hG.below hb) (hGT.below hb) hok hsum h128)
    obtain ⟨⟨v, b⟩, hv⟩ : ∃ v, costV ws l s = v := ⟨_, rfl⟩
    rw [hv] at HV HK
    clear h hok h128 hsum hv hS hT hR hG hGT
    cases b
    all_goals
      go_enter Tryz.func8, Tryz.ntmps8
      go_wp2_with (first | (go_at_call 26; refine HC.out.mono ?_; rintro e w2 ⟨rfl, b2⟩) | (go_at_call 27; refine (HK.out _ b2).mono ?_; rintro e w4 ⟨rfl, b4⟩))
      go_ret2
      exact ⟨by rw [HV.out]; rfl, below2 b2 b4⟩
  · have HV := Lib.hid (show costQ ws l s = (0, sureE ws l) by unfold costQ; rw [if_pos h])
    have hne : (sureE ws l == 0) = false := by simp [h]
    generalize sureE ws l = E at *
    clear h
    go_enter Tryz.func8, Tryz.ntmps8
    go_wp2_with (first | (go_at_call 26; refine HC.out.mono ?_; rintro e w2 ⟨rfl, b2⟩))
    go_ret2
    exact ⟨by rw [HV.out]; rfl, b2⟩
end Go.Proofs.YtmcdgmiheklbeaaGreatDoor

namespace Go.Proofs.YtmcdgmiheklbeaaGreatDoor
open Go.RowKit
attribute [local go_sem] Oper.semAt_some

/-- The head of a section: the section, the error, how many bits. -/
def headV (left last : Int) (D : List Bool) : (Int × Int) × Int × Nat :=
  if D.length < 3 then ((0, 0), 3, 0)
  else if (gamF (D.drop 3)).2.1 ≠ 0 then ((0, 0), (gamF (D.drop 3)).2.1, 3)
  else if ((valB (D.take 3) : Nat) : Int) = last ∨ left < ((gamF (D.drop 3)).1 : Nat) then ((0, 0), 4, 3 + (gamF (D.drop 3)).2.2)
  else ((((valB (D.take 3) : Nat) : Int), ((gamF (D.drop 3)).1 : Int)), 0, 3 + (gamF (D.drop 3)).2.2)
theorem gam_zero (D : List Bool) (h : (gamF D).2.1 ≠ 0) : (gamF D).2.2 = 0 := by
  unfold gamF at h ⊢
  split
  · rfl
  · rename_i h1
    rw [if_neg h1] at h
    split
    · rfl
    · rename_i h2
      rw [if_neg h2] at h
      exact absurd rfl h
theorem head_res (tmps : Array Value) (W : World) (g6 : Nat) (x y z : Int) (h6 : tmps[6]?.getD undef = .pointer (some ⟨g6, 0, none⟩)) (h7 : tmps[7]?.getD undef = .int .i64 z) (B6 : Blk W g6 #[.int .i64 x, .int .i64 y] 47) :
    (results Tryz.f80 tmps).run Tryz.prog W = .ok (.tuple #[.agg #[.int .i64 x, .int .i64 y], .int .i64 z]) W := by
  have z4 := B6.cell 0 rfl
  have z5 := B6.cell 1 rfl
  simp [results, Tryz.f80, go_sem, h6, h7, z4, z5]
theorem head_end {o : Nat → Prop} {g i : Nat} {l : List Bool} {w W : World} (hr : Rr o W g l i) (hu : Upd (fun x => x = g) w W) (ho : ∀ x, o x → x < w.heap.size) (x y : Value) :
    Rr o ((W.setCell ⟨w.heap.size, 0, none⟩ x).setCell ⟨w.heap.size, 1, none⟩ y) g l i ∧ Upd (fun x => x = g) w ((W.setCell ⟨w.heap.size, 0, none⟩ x).setCell ⟨w.heap.size, 1, none⟩ y) := by
  have h1 := (Upd.setCell (fun b => b = w.heap.size) W w.heap.size 0 x rfl).trans (Upd.setCell (fun b => b = w.heap.size) _ w.heap.size 1 y rfl) fun _ _ h => h
  exact ⟨hr.upd h1 fun b _ hb e => by have := ho b hb; omega, hu.trans (h1.weak (o' := fun b => b = w.heap.size) fun _ _ h => h) fun b hb e => by omega⟩
set_option maxHeartbeats 4000000 in
theorem head_any (o : Nat → Prop) (g i : Nat) (left last : Int) (l : List Bool) (w : World) (h : Rr o w g l i) (ho : ∀ x, o x → x < w.heap.size) :
    Calls Tryz.prog 80 #[.pointer (some ⟨g, 0, none⟩), .int .i64 left, .int .i64 last] w
      fun e w' => e = .returned (.tuple #[.agg #[.int .i64 (headV left last (l.drop i)).1.1, .int .i64 (headV left last (l.drop i)).1.2], .int .i64 (headV left last (l.drop i)).2.1]) ∧ Rr o w' g l (i + (headV left last (l.drop i)).2.2) ∧ Upd (fun x => x = g) w w' := by
  have hlt := h.lt
  have hle := h.le
  have hba := below_alloc (Below.refl w.heap.size w) (.cells #[.int .i64 0, .int .i64 0] 47)
  have B6 : Blk (w.alloc (.cells #[.int .i64 0, .int .i64 0] 47)) w.heap.size #[.int .i64 0, .int .i64 0] 47 := heap_alloc_new w _
  have HC := Lib.hid (rget_any o g i 3 l _ (h.below hba) (by decide))
  have ne6 : g ≠ w.heap.size := by omega
  have HBA := Lib.hid hba
  have HO := Lib.hid ho
  by_cases hs : l.length < i + 3
  · have HV := Lib.hid (show headV left last (l.drop i) = ((0, 0), 3, 0) by unfold headV; rw [if_pos (by rw [List.length_drop]; omega)])
    rw [show getV l i 3 = 0 by unfold getV; rw [if_pos hs], show getE l i 3 = 3 by unfold getE; rw [if_pos hs], show getI l i 3 = i by unfold getI; rw [if_pos hs]] at HC
    rw [HV.out]
    clear hs h hle ho
    go_enter Tryz.func80, Tryz.ntmps80
    go_wp2_with (first
      | (go_at_call 109; refine HC.out.mono ?_; rintro e W2 ⟨rfl, hr2, hu2⟩; have B62 := B6.keep (hu2.keep (ok := fun x => x ≠ g) fun _ h => h) (Ne.symm ne6); have z0 := B62.cell 0 rfl; have z1 := B62.cell 1 rfl; have f0 := B62.free 0; have f1 := B62.free 1))
    refine bodyPost_ret (head_res _ _ w.heap.size 0 0 3 rfl rfl ((B62.set 0 (.int .i64 0)).set 1 (.int .i64 0))) rfl ?_
    exact ⟨rfl, head_end hr2 ((Upd.of_below HBA.out (fun x => x = g)).trans hu2 fun _ _ h => h) HO.out _ _⟩
  · have HX := Lib.hid (show headV left last (l.drop i) = if (gamF (l.drop (i + 3))).2.1 ≠ 0 then ((0, 0), (gamF (l.drop (i + 3))).2.1, 3)
      else if ((valB ((l.drop i).take 3) : Nat) : Int) = last ∨ left < ((gamF (l.drop (i + 3))).1 : Nat) then ((0, 0), 4, 3 + (gamF (l.drop (i + 3))).2.2)
      else ((((valB ((l.drop i).take 3) : Nat) : Int), ((gamF (l.drop (i + 3))).1 : Int)), 0, 3 + (gamF (l.drop (i + 3))).2.2) by unfold headV; rw [if_neg (by rw [List.length_drop]; omega), List.drop_drop])
    rw [show getV l i 3 = valB ((l.drop i).take 3) by unfold getV; rw [if_neg hs], show getE l i 3 = 0 by unfold getE; rw [if_neg hs], show getI l i 3 = i + 3 by unfold getI; rw [if_neg hs]] at HC
    have HG := Lib.hid (fun W (hr : Rr o W g l (i + 3)) => rdgamma_any o g (i + 3) l W hr)
    obtain ⟨q, hq⟩ : ∃ q, i + 3 = q := ⟨_, rfl⟩
    have hz0 := gam_zero (l.drop (i + 3))
    rw [hq] at HX HG HC hz0
    obtain ⟨b, hb⟩ : ∃ b, valB ((l.drop i).take 3) = b := ⟨_, rfl⟩
    rw [hb] at HX HC
    generalize headV left last (l.drop i) = V at *
    generalize gamF (l.drop q) = G at *
    obtain ⟨n, E, cnt⟩ := G
    simp only at HX HG hz0
    have HQ := Lib.hid hq
    clear hs h hle ho hb hq
    by_cases hE : E = 0
    · subst hE
      by_cases hbl : (b : Int) = last
      · have HV := Lib.hid (show V = ((0, 0), 4, 3 + cnt) by rw [HX.out, if_neg (by simp), if_pos (.inl hbl)])
        subst hbl
        rw [HV.out]
        clear HX
        go_enter Tryz.func80, Tryz.ntmps80
        go_wp2_with (first
          | (go_at_call 109; refine HC.out.mono ?_; rintro e W2 ⟨rfl, hr2, hu2⟩)
          | (go_at_call 110; refine (HG.out _ hr2).mono ?_; rintro e W3 ⟨rfl, hr3, hu3⟩; have B62 := (B6.keep (hu2.keep (ok := fun x => x ≠ g) fun _ h => h) (Ne.symm ne6)).keep (hu3.keep (ok := fun x => x ≠ g) fun _ h => h) (Ne.symm ne6); have z0 := B62.cell 0 rfl; have z1 := B62.cell 1 rfl; have f0 := B62.free 0; have f1 := B62.free 1))
        refine bodyPost_ret (head_res _ _ w.heap.size 0 0 4 rfl rfl ((B62.set 0 (.int .i64 0)).set 1 (.int .i64 0))) rfl ?_
        rw [← HQ.out, Nat.add_assoc] at hr3
        exact ⟨rfl, head_end hr3 (((Upd.of_below HBA.out (fun x => x = g)).trans hu2 fun _ _ h => h).trans hu3 fun _ _ h => h) HO.out _ _⟩
      · have hbe : ((b : Int) == last) = false := by simp [hbl]
        by_cases hn : left < (n : Int)
        · have HV := Lib.hid (show V = ((0, 0), 4, 3 + cnt) by rw [HX.out, if_neg (by simp), if_pos (.inr hn)])
          have hdn : decide (left < (n : Int)) = true := decide_eq_true hn
          rw [HV.out]
          clear HX
          go_enter Tryz.func80, Tryz.ntmps80
          go_wp2_with (first
            | (go_at_call 109; refine HC.out.mono ?_; rintro e W2 ⟨rfl, hr2, hu2⟩)
            | (go_at_call 110; refine (HG.out _ hr2).mono ?_; rintro e W3 ⟨rfl, hr3, hu3⟩; have B62 := (B6.keep (hu2.keep (ok := fun x => x ≠ g) fun _ h => h) (Ne.symm ne6)).keep (hu3.keep (ok := fun x => x ≠ g) fun _ h => h) (Ne.symm ne6); have z0 := B62.cell 0 rfl; have z1 := B62.cell 1 rfl; have f0 := B62.free 0; have f1 := B62.free 1))
          refine bodyPost_ret (head_res _ _ w.heap.size 0 0 4 rfl rfl ((B62.set 0 (.int .i64 0)).set 1 (.int .i64 0))) rfl ?_
          rw [← HQ.out, Nat.add_assoc] at hr3
          exact ⟨rfl, head_end hr3 (((Upd.of_below HBA.out (fun x => x = g)).trans hu2 fun _ _ h => h).trans hu3 fun _ _ h => h) HO.out _ _⟩
        · have HV := Lib.hid (show V = (((b : Int), (n : Int)), 0, 3 + cnt) by rw [HX.out, if_neg (by simp), if_neg (by omega)])
          have hdn : decide (left < (n : Int)) = false := decide_eq_false hn
          rw [HV.out]
          clear HX
          go_enter Tryz.func80, Tryz.ntmps80
          go_wp2_with (first
            | (go_at_call 109; refine HC.out.mono ?_; rintro e W2 ⟨rfl, hr2, hu2⟩)
            | (go_at_call 110; refine (HG.out _ hr2).mono ?_; rintro e W3 ⟨rfl, hr3, hu3⟩; have B62 := (B6.keep (hu2.keep (ok := fun x => x ≠ g) fun _ h => h) (Ne.symm ne6)).keep (hu3.keep (ok := fun x => x ≠ g) fun _ h => h) (Ne.symm ne6); have z0 := B62.cell 0 rfl; have z1 := B62.cell 1 rfl; have f0 := B62.free 0; have f1 := B62.free 1))
          refine bodyPost_ret (head_res _ _ w.heap.size (b : Int) (n : Int) 0 rfl rfl ((B62.set 0 (.int .i64 (b : Int))).set 1 (.int .i64 (n : Int)))) rfl ?_
          rw [← HQ.out, Nat.add_assoc] at hr3
          exact ⟨rfl, head_end hr3 (((Upd.of_below HBA.out (fun x => x = g)).trans hu2 fun _ _ h => h).trans hu3 fun _ _ h => h) HO.out _ _⟩
    · have HV := Lib.hid (show V = ((0, 0), E, 3) by rw [HX.out, if_pos hE])
      have hne : (E == 0) = false := by simp [hE]
      obtain rfl : cnt = 0 := hz0 hE
      rw [HV.out]
      clear HX
      go_enter Tryz.func80, Tryz.ntmps80
      go_wp2_with (first
        | (go_at_call 109; refine HC.out.mono ?_; rintro e W2 ⟨rfl, hr2, hu2⟩)
        | (go_at_call 110; refine (HG.out _ hr2).mono ?_; rintro e W3 ⟨rfl, hr3, hu3⟩; have B62 := (B6.keep (hu2.keep (ok := fun x => x ≠ g) fun _ h => h) (Ne.symm ne6)).keep (hu3.keep (ok := fun x => x ≠ g) fun _ h => h) (Ne.symm ne6); have z0 := B62.cell 0 rfl; have z1 := B62.cell 1 rfl; have f0 := B62.free 0; have f1 := B62.free 1))
      refine bodyPost_ret (head_res _ _ w.heap.size 0 0 E rfl rfl ((B62.set 0 (.int .i64 0)).set 1 (.int .i64 0))) rfl ?_
      rw [← HQ.out] at hr3
      exact ⟨rfl, head_end hr3 (((Upd.of_below HBA.out (fun x => x = g)).trans hu2 fun _ _ h => h).trans hu3 fun _ _ h => h) HO.out _ _⟩
end Go.Proofs.YtmcdgmiheklbeaaGreatDoor

namespace Go.Proofs.YtmcdgmiheklbeaaGreatDoor
open Go.RowKit

/-- A band of a section more: the values, the error, how many bits. -/
def rbS (b : Int) (ws : List Int) (at_ : Nat) (D : List Bool) (st : List Int × Int × Nat) (j : Nat) : List Int × Int × Nat :=
  if st.2.1 ≠ 0 then st else (st.1 ++ brdL b (nth 0 ws (at_ + j)) (D.drop st.2.2), brdE b (nth 0 ws (at_ + j)) (D.drop st.2.2), st.2.2 + brdN b (nth 0 ws (at_ + j)) (D.drop st.2.2))
/-- The first bands of a section. -/
def rbP (b : Int) (ws : List Int) (at_ : Nat) (D : List Bool) : Nat → List Int × Int × Nat
  | 0 => ([], 0, 0)
  | k + 1 => rbS b ws at_ D (rbP b ws at_ D k) k
theorem rbP_next (b : Int) (ws : List Int) (at_ : Nat) (D : List Bool) (k : Nat) {L : List Int} {m : Nat} (h : rbP b ws at_ D k = (L, 0, m)) :
    rbP b ws at_ D (k + 1) = (L ++ brdL b (nth 0 ws (at_ + k)) (D.drop m), brdE b (nth 0 ws (at_ + k)) (D.drop m), m + brdN b (nth 0 ws (at_ + k)) (D.drop m)) := by
  show rbS b ws at_ D (rbP b ws at_ D k) k = _
  rw [h]; unfold rbS; rw [if_neg (by simp)]
theorem rbP_err (b : Int) (ws : List Int) (at_ : Nat) (D : List Bool) (k : Nat) (h : (rbP b ws at_ D k).2.1 ≠ 0) : ∀ q, k ≤ q → rbP b ws at_ D q = rbP b ws at_ D k := by
  intro q hq
  induction q with
  | zero => obtain rfl : k = 0 := by omega
            rfl
  | succ q ih =>
    rcases Nat.lt_or_ge k (q + 1) with h1 | h1
    · have h2 := ih (by omega)
      show rbS b ws at_ D (rbP b ws at_ D q) q = _
      rw [h2]; unfold rbS; rw [if_pos h]
    · obtain rfl : k = q + 1 := by omega
      rfl
/-- What is read behind the sections so far: the values, the sections, the error, how many bits in all. -/
def rdQ (ws : List Int) (D : List Bool) : Nat → Nat → Int → List Int → List (Int × Int) → Nat → List Int × List (Int × Int) × Int × Nat
  | 0, _, _, vs, ss, m => (vs, ss, 0, m)
  | f + 1, at_, last, vs, ss, m =>
    if ws.length ≤ at_ then (vs, ss, 0, m)
    else
      let H := headV ((ws.length - at_ : Nat) : Int) last (D.drop m)
      if H.2.1 ≠ 0 then ([], [], H.2.1, 0)
      else
        let R := rbP H.1.1 ws at_ (D.drop (m + H.2.2)) H.1.2.toNat
        if R.2.1 ≠ 0 then ([], [], R.2.1, 0)
        else rdQ ws D f (at_ + H.1.2.toNat) H.1.1 (vs ++ R.1) (ss ++ [H.1]) (m + H.2.2 + R.2.2)
theorem rdQ_done (ws : List Int) (D : List Bool) (f at_ : Nat) (last : Int) (vs : List Int) (ss : List (Int × Int)) (m : Nat) (h : ws.length ≤ at_) : rdQ ws D f at_ last vs ss m = (vs, ss, 0, m) := by
  cases f with
  | zero => rfl
  | succ f => exact if_pos h
theorem rdQ_head (ws : List Int) (D : List Bool) (f at_ : Nat) (last : Int) (vs : List Int) (ss : List (Int × Int)) (m : Nat) (h : ¬ ws.length ≤ at_) (he : (headV ((ws.length - at_ : Nat) : Int) last (D.drop m)).2.1 ≠ 0) :
    rdQ ws D (f + 1) at_ last vs ss m = ([], [], (headV ((ws.length - at_ : Nat) : Int) last (D.drop m)).2.1, 0) := by
  show (if _ then _ else _) = _
  rw [if_neg h]
  exact if_pos he
theorem rdQ_step (ws : List Int) (D : List Bool) (f at_ : Nat) (last : Int) (vs : List Int) (ss : List (Int × Int)) (m : Nat) (h : ¬ ws.length ≤ at_) {b n : Int} {c : Nat} (he : headV ((ws.length - at_ : Nat) : Int) last (D.drop m) = ((b, n), 0, c)) :
    rdQ ws D (f + 1) at_ last vs ss m = if (rbP b ws at_ (D.drop (m + c)) n.toNat).2.1 ≠ 0 then ([], [], (rbP b ws at_ (D.drop (m + c)) n.toNat).2.1, 0)
      else rdQ ws D f (at_ + n.toNat) b (vs ++ (rbP b ws at_ (D.drop (m + c)) n.toNat).1) (ss ++ [(b, n)]) (m + c + (rbP b ws at_ (D.drop (m + c)) n.toNat).2.2) := by
  show (if _ then _ else _) = _
  rw [if_neg h, he]
  exact if_neg (by simp)
theorem gamF_pos {D : List Bool} (h : (gamF D).2.1 = 0) : 1 ≤ (gamF D).1 := by
  unfold gamF at h ⊢
  split
  · rename_i h1; rw [if_pos h1] at h; exact absurd h h1
  · rename_i h1
    rw [if_neg h1] at h
    split
    · rename_i h2; rw [if_pos h2] at h; simp at h
    · have := Nat.two_pow_pos (zerF D 0).1
      show 1 ≤ 2 ^ (zerF D 0).1 + _
      omega
/-- A head that is right. -/
theorem headV_ok {left last : Int} {D : List Bool} (h : (headV left last D).2.1 = 0) : ∃ (b n : Nat), (headV left last D).1 = ((b : Int), (n : Int)) ∧ b < 8 ∧ 1 ≤ n ∧ (n : Int) ≤ left ∧ (b : Int) ≠ last := by
  unfold headV at h ⊢
  split
  · rename_i h1; rw [if_pos h1] at h; simp at h
  · rename_i h1
    rw [if_neg h1] at h
    split
    · rename_i h2; rw [if_pos h2] at h; exact absurd h h2
    · rename_i h2
      rw [if_neg h2] at h
      split
      · rename_i h3; rw [if_pos h3] at h; simp at h
      · rename_i h3
        have h4 := valB_lt (D.take 3)
        rw [List.length_take, Nat.min_eq_left (by omega)] at h4
        have h5 := gamF_pos (D := D.drop 3) (by omega)
        exact ⟨_, _, rfl, h4, h5, by omega, by omega⟩
theorem brdL_len {n m : Int} {D : List Bool} (h : brdE n m D = 0) : (brdL n m D).length = m.toNat := by
  unfold brdL
  rw [if_neg (by simp [h])]
  unfold brdE at h
  split at h
  · simp at h
  · split at h
    · simp at h
    · rename_i h1 h2
      unfold bkRL
      rw [if_neg (by simp [h])]
      unfold bkRE at h
      rw [grpP_len _ _ _ h]
      have h3 : m.toNat % dimB n.toNat = 0 := by omega
      have := Nat.div_add_mod m.toNat (dimB n.toNat)
      rw [h3, Nat.mul_comm] at this
      omega
theorem rbP_len (b : Int) (ws : List Int) (at_ : Nat) (D : List Bool) : ∀ k, (rbP b ws at_ D k).2.1 = 0 → (rbP b ws at_ D k).1.length = sumTo k fun i => widV ws (at_ + i)
  | 0, _ => rfl
  | k + 1, h => by
    have h0 : (rbP b ws at_ D k).2.1 = 0 := Decidable.byContradiction fun hn => by rw [rbP_err b ws at_ D k hn (k + 1) (Nat.le_succ _)] at h; exact hn h
    have ih := rbP_len b ws at_ D k h0
    obtain ⟨⟨L, E, m⟩, hr⟩ : ∃ R, rbP b ws at_ D k = R := ⟨_, rfl⟩
    rw [hr] at h0 ih
    simp only at h0 ih
    subst h0
    rw [rbP_next b ws at_ D k hr] at h ⊢
    rw [sumTo_succ, List.length_append, ih, brdL_len h]
    rfl
end Go.Proofs.YtmcdgmiheklbeaaGreatDoor
