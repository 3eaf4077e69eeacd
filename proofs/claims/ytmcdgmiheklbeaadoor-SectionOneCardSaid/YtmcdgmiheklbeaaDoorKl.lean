/- section: Choose: the ways as they lie in memory; a literal with sections behind it; what the best ways are. -/
import Derived.Test.YtmcdgmiheklbeaaDoorKk
namespace Go.Proofs.YtmcdgmiheklbeaaDoor
open Go.RowKit

/-- A way's cells in a row of ways; its lists lie behind the row's block. -/
def WayIn (W : World) (g9 : Nat) (cells : Array Value) (j : Nat) (x : Way) : Prop :=
  ∃ A a B b, cells[j * 3]? = some (.int .i64 x.cost) ∧ cells[j * 3 + 1]? = some (.slice A x.secs.length a) ∧ cells[j * 3 + 2]? = some (.slice B x.books.length b) ∧ Sl kSe (fun i => g9 < i) W A a x.secs ∧ Sl (kInt .i64) (fun i => g9 < i) W B b x.books
/-- The row of ways: from a band on it holds the best ones. -/
structure WaysI (n : Nat) (R : Nat → Way) (g9 lo : Nat) (W : World) : Prop where
  row : ∃ cells, Blk W g9 cells 101 ∧ cells.size = (n + 1) * 3 ∧ ∀ j, lo ≤ j → j ≤ n → WayIn W g9 cells j (R j)
theorem WaysI.below {n g9 lo : Nat} {R : Nat → Way} {W W' : World} (h : WaysI n R g9 lo W) (hb : Below W.heap.size W W') : WaysI n R g9 lo W' := by
  obtain ⟨cells, h1, h2, h3⟩ := h.row
  refine ⟨cells, h1.below hb, h2, fun j hl hn => ?_⟩
  obtain ⟨A, a, B, b, q0, q1, q2, q3, q4⟩ := h3 j hl hn
  exact ⟨A, a, B, b, q0, q1, q2, q3.below hb, q4.below hb⟩
/-- A best way, as it is read. -/
theorem WaysI.at_ {n g9 lo : Nat} {R : Nat → Way} {W : World} (h : WaysI n R g9 lo W) (j : Nat) (hl : lo ≤ j) (hn : j ≤ n) : ∃ A a B b, W.cell? ⟨g9, j * 3, none⟩ = some (.int .i64 (R j).cost) ∧ W.cell? ⟨g9, j * 3 + 1, none⟩ = some (.slice A (R j).secs.length a) ∧ W.cell? ⟨g9, j * 3 + 2, none⟩ = some (.slice B (R j).books.length b) ∧ Sl kSe (fun i => g9 < i) W A a (R j).secs ∧ Sl (kInt .i64) (fun i => g9 < i) W B b (R j).books := by
  obtain ⟨cells, h1, h2, h3⟩ := h.row
  obtain ⟨A, a, B, b, q0, q1, q2, q3, q4⟩ := h3 j hl hn
  exact ⟨A, a, B, b, h1.cell _ q0, h1.cell _ q1, h1.cell _ q2, q3, q4⟩
/-- 'ways[i] = *top'. -/
theorem WaysI.put {n g9 i : Nat} {R : Nat → Way} {W : World} (h : WaysI n R g9 (i + 1) W) (hi : i ≤ n) {A : Option Addr} {a : Nat} {B : Option Addr} {b : Nat} (h1 : Sl kSe (fun x => g9 < x) W A a (R i).secs) (h2 : Sl (kInt .i64) (fun x => g9 < x) W B b (R i).books) :
    WaysI n R g9 i (((W.setCell ⟨g9, i * 3, none⟩ (.int .i64 (R i).cost)).setCell ⟨g9, i * 3 + 1, none⟩ (.slice A (R i).secs.length a)).setCell ⟨g9, i * 3 + 2, none⟩ (.slice B (R i).books.length b)) ∧
    Upd (fun x => x = g9) W (((W.setCell ⟨g9, i * 3, none⟩ (.int .i64 (R i).cost)).setCell ⟨g9, i * 3 + 1, none⟩ (.slice A (R i).secs.length a)).setCell ⟨g9, i * 3 + 2, none⟩ (.slice B (R i).books.length b)) := by
  obtain ⟨cells, c1, c2, c3⟩ := h.row
  have hu : Upd (fun x => x = g9) W (((W.setCell ⟨g9, i * 3, none⟩ (.int .i64 (R i).cost)).setCell ⟨g9, i * 3 + 1, none⟩ (.slice A (R i).secs.length a)).setCell ⟨g9, i * 3 + 2, none⟩ (.slice B (R i).books.length b)) :=
    ((Upd.setCell (fun z => z = g9) W g9 (i * 3) _ rfl).trans (Upd.setCell (fun z => z = g9) _ g9 (i * 3 + 1) _ rfl) fun _ _ h => h).trans (Upd.setCell (fun z => z = g9) _ g9 (i * 3 + 2) _ rfl) fun _ _ h => h
  have hk := hu.keep (ok := fun x => g9 < x) fun x h e => by omega
  refine ⟨⟨((cells.setIfInBounds (i * 3) (.int .i64 (R i).cost)).setIfInBounds (i * 3 + 1) (.slice A (R i).secs.length a)).setIfInBounds (i * 3 + 2) (.slice B (R i).books.length b), ((c1.set _ _).set _ _).set _ _, by simp [c2], fun j hl hn => ?_⟩, hu⟩
  by_cases e : j = i
  · subst e
    refine ⟨A, a, B, b, ?_, ?_, ?_, h1.keep hk, h2.keep hk⟩
    · rw [Array.getElem?_setIfInBounds_ne (by omega), Array.getElem?_setIfInBounds_ne (by omega), Array.getElem?_setIfInBounds_self_of_lt (by rw [c2]; omega)]
    · rw [Array.getElem?_setIfInBounds_ne (by omega), Array.getElem?_setIfInBounds_self_of_lt (by simp [c2]; omega)]
    · rw [Array.getElem?_setIfInBounds_self_of_lt (by simp [c2]; omega)]
  · obtain ⟨A', a', B', b', q0, q1, q2, q3, q4⟩ := c3 j (by omega) hn
    refine ⟨A', a', B', b', ?_, ?_, ?_, q3.keep hk, q4.keep hk⟩
    · rw [Array.getElem?_setIfInBounds_ne (by omega), Array.getElem?_setIfInBounds_ne (by omega), Array.getElem?_setIfInBounds_ne (by omega)]; exact q0
    · rw [Array.getElem?_setIfInBounds_ne (by omega), Array.getElem?_setIfInBounds_ne (by omega), Array.getElem?_setIfInBounds_ne (by omega)]; exact q1
    · rw [Array.getElem?_setIfInBounds_ne (by omega), Array.getElem?_setIfInBounds_ne (by omega), Array.getElem?_setIfInBounds_ne (by omega)]; exact q2
theorem infoWay : (Tryd.prog.info? 101).map (fun i => (i.zero, i.size, i.bytes)) = some (some (.agg #[.int .i64 0, .slice none 0 0, .slice none 0 0]), 3, 56) := by kernel_rfl
/-- 'make([]way, m)'. -/
theorem make_ways (m : Nat) (hm : m ≤ 1000) : ∀ W : World, (Instr.makeSlice 96 (.int .i64 (m : Int)) (.int .i64 (m : Int))).run Tryd.prog W = .ok (.slice (some ⟨W.heap.size, 0, none⟩) m m) (W.alloc (.cells (madeCells #[.int .i64 0, .slice none 0 0, .slice none 0 0] (m * 3)) 101)) := by
  intro W
  obtain ⟨i, hi, hz⟩ := Option.map_eq_some_iff.1 infoWay
  simp only [Prod.mk.injEq] at hz
  have := run_make (P := Tryd.prog) W 96 101 i _ Tryd.underlying96 hi hz.1 .i64 .i64 (m : Int) (m : Int) (Int.natCast_nonneg _) (Int.le_refl _) (by rw [hz.2.2]; omega) (by omega)
  rw [hz.2.1, Int.toNat_natCast] at this
  exact this
theorem ways_start (n : Nat) (R : Nat → Way) (W : World) (hR : R n = ⟨0, [], []⟩) : WaysI n R W.heap.size n (W.alloc (.cells (madeCells #[.int .i64 0, .slice none 0 0, .slice none 0 0] ((n + 1) * 3)) 101)) := by
  refine ⟨_, heap_alloc_new W _, size_madeCells _ _, fun j hl hn => ?_⟩
  obtain rfl : j = n := by omega
  rw [hR]
  have key : ∀ i, i < (j + 1) * 3 → (madeCells #[Value.int .i64 0, .slice none 0 0, .slice none 0 0] ((j + 1) * 3))[i]? = some (#[Value.int .i64 0, .slice none 0 0, .slice none 0 0][i % 3]!) := fun i hi => by
    unfold madeCells
    rw [Array.getElem?_map, Array.getElem?_range, if_pos hi]; rfl
  refine ⟨none, 0, none, 0, ?_, ?_, ?_, ⟨Nat.le_refl _, by omega, Kd.Rd.nil _ _ _ _⟩, ⟨Nat.le_refl _, by omega, Kd.Rd.nil _ _ _ _⟩⟩
  · rw [key _ (by omega), show j * 3 % 3 = 0 by omega]; rfl
  · rw [key _ (by omega), show (j * 3 + 1) % 3 = 1 by omega]; rfl
  · rw [key _ (by omega), show (j * 3 + 2) % 3 = 2 by omega]; rfl
/-- The best way so far, by its pointer. -/
def TopAt (g9 : Nat) (W : World) (v : Value) (o : Option Way) : Prop := match o with
  | none => v = .pointer none
  | some t => ∃ g A a B b, v = .pointer (some ⟨g, 0, none⟩) ∧ Blk W g (wayC A a B b t) 101 ∧ Sl kSe (fun x => g9 < x) W A a t.secs ∧ Sl (kInt .i64) (fun x => g9 < x) W B b t.books
theorem TopAt.below {g9 : Nat} {W W' : World} {v : Value} {o : Option Way} (h : TopAt g9 W v o) (hb : Below W.heap.size W W') : TopAt g9 W' v o := by
  cases o with
  | none => exact h
  | some t =>
    obtain ⟨g, A, a, B, b, h1, h2, h3, h4⟩ := h
    exact ⟨g, A, a, B, b, h1, h2.below hb, h3.below hb, h4.below hb⟩
/-- 'append([]Section{x}, ys...)'. -/
theorem run_append_lit {W : World} (g : Nat) (x : Int × Int) (ys : List (Int × Int)) (A : Option Addr) (c : Nat) {ok : Nat → Prop} (ty : TypeId) (hB : Blk W g #[.int .i64 x.1, .int .i64 x.2] 67) (hS : Sl kSe ok W A c ys) (hl : ys.length ≤ 1000000) :
    ∃ v1 w1, (Builtin.append_ #[31, 31] ty #[.slice (some ⟨g, 0, none⟩) 1 1, .slice A ys.length c]).run Tryd.prog W = .ok v1 w1 ∧ (∃ A1 a1, v1 = .slice A1 (ys.length + 1) a1 ∧ Sl kSe (fun b => b = g ∨ W.heap.size ≤ b) w1 A1 a1 (x :: ys)) ∧ Below W.heap.size W w1 := by
  obtain ⟨i0, hi, hzz⟩ := Option.map_eq_some_iff.1 infoSe
  simp only [Prod.mk.injEq] at hzz
  obtain ⟨hz0, hz1, hz2⟩ := hzz
  have hx0 : W.cell? ⟨g, 0, none⟩ = some (.int .i64 x.1) := hB.cell 0 rfl
  have hx1 : W.cell? ⟨g, 1, none⟩ = some (.int .i64 x.2) := hB.cell 1 rfl
  by_cases h0 : ys = []
  · subst h0
    refine ⟨.slice (some ⟨g, 0, none⟩) 1 1, W, ?_, ⟨some ⟨g, 0, none⟩, 1, rfl, Nat.le_refl _, by omega, fun j hj => ?_⟩, Below.refl _ _⟩
    · cases A <;> simp [Builtin.append_, run_underlying Tryd.underlying31, sizeOf, typeInfo, hi, Builtin.lenOf, Builtin.firstCells, storeCells, loadCells, loadCellsFrom, Result.andThen]
    · obtain rfl : j = 0 := by simp at hj; omega
      refine ⟨_, [.int .i64 x.1, .int .i64 x.2], rfl, .inl rfl, hB.lt, rfl, fun i v hv => ?_⟩
      match i, hv with
      | 0, hv => cases hv; rw [add_plain]; exact hx0
      | 1, hv => cases hv; rw [add_plain]; exact hx1
  · have hpos : 0 < ys.length := by cases ys; exact absurd rfl h0; simp
    obtain ⟨ad, hAD, _⟩ := rd_se hS 0 hpos
    subst hAD
    have hcells : ∀ j u, (flat2 ys)[j]? = some u → W.cell? (ad.add j) = some u := fun j u hu => by
      have hj : j < ys.length * 2 := by
        rcases Nat.lt_or_ge j (ys.length * 2) with h | h
        · exact h
        · rw [List.getElem?_eq_none (by rw [flat2_length]; exact h)] at hu; cases hu
      obtain ⟨ad', cs, e, _, _, hK, hc⟩ := hS.rd (j / 2) (by omega)
      cases e
      have hg := flat2_get ys (j / 2) (by omega)
      have hK : cs = [.int .i64 (nth (0, 0) ys (j / 2)).1, .int .i64 (nth (0, 0) ys (j / 2)).2] := hK
      subst hK
      rcases Nat.mod_two_eq_zero_or_one j with hm | hm
      · have h1 := hc 0 _ rfl
        rw [show j / 2 * kSe.size + 0 = j from by show j / 2 * 2 + 0 = j; omega] at h1
        have h2 := hg.1
        rw [show j / 2 * 2 = j by omega] at h2
        rw [h2] at hu; cases hu
        exact h1
      · have h1 := hc 1 _ rfl
        rw [show j / 2 * kSe.size + 1 = j from by show j / 2 * 2 + 1 = j; omega] at h1
        have h2 := hg.2
        rw [show j / 2 * 2 + 1 = j by omega] at h2
        rw [h2] at hu; cases hu
        exact h1
    obtain ⟨v1, w1, hrun, hown, hgr⟩ := run_append_arg_grows (P := Tryd.prog) (w := W) 31 ty 67 i0 (.agg #[.int .i64 0, .int .i64 0]) 2 16 Tryd.underlying31 hi hz0 hz1 hz2 rfl (by decide) ⟨g, 0, none⟩ 1 1 [.int .i64 x.1, .int .i64 x.2] rfl (fun j u hu => by
        rw [add_plain]
        match j, hu with
        | 0, hu => cases hu; exact hx0
        | 1, hu => cases hu; exact hx1) ad ys.length c (flat2 ys) (flat2_length ys) hcells (by omega) (by simp only [maxLen]; omega) (by omega)
    have hb : Below W.heap.size W w1 := (Below.refl W.heap.size W).grown hgr (Nat.le_refl _) (fun k e => by cases e)
    have hf : [Value.int .i64 x.1, .int .i64 x.2] ++ flat2 ys = flat2 (x :: ys) := rfl
    rw [hf] at hown
    have hO : OwnS W.heap.size w1 v1 (x :: ys) := ⟨flat2 (x :: ys), by rw [List.length_cons, Nat.add_comm]; exact hown, reps_flat _⟩
    obtain ⟨A1, a1, e, hs⟩ := own_rs hO
    exact ⟨v1, w1, hrun, ⟨A1, a1, e, hs.weak fun b _ h => .inr h⟩, hb⟩
section
variable {ops : Array Oper} {Q : Exit → Act → World → Prop}
theorem step_append_lit {E : Prop} {K : Act → World → Prop} {o : Oper} {a : Act} {W : World} (hgd : o.guard = none) (s x0 : Operand) (ho : o.op = .call { callee := .builtin .append, args := #[s, x0], argTypes := #[31, 31] })
    (g : Nat) (x : Int × Int) (ys : List (Int × Int)) (A : Option Addr) (c : Nat) {ok : Nat → Prop} (hs : a.eval s = .slice (some ⟨g, 0, none⟩) 1 1) (hx : a.eval x0 = .slice A ys.length c) (hB : Blk W g #[.int .i64 x.1, .int .i64 x.2] 67) (hS : Sl kSe ok W A c ys) (hl : ys.length ≤ 1000000)
    (h : ∀ A1 a1 w1, Sl kSe (fun b => b = g ∨ W.heap.size ≤ b) w1 A1 a1 (x :: ys) → Below W.heap.size W w1 → K (a.put o.dst (.slice A1 (ys.length + 1) a1)) w1) :
    if Region.wanted o (yielded ops a.tmps) = true then Oper.wp Tryd.prog o a W K Q else E := by
  obtain ⟨v1, w1, hr, ⟨A1, a1, rfl, h1⟩, h2⟩ := run_append_lit g x ys A c o.type hB hS hl
  rw [if_pos (by simp [Region.wanted, hgd])]
  unfold Oper.wp execOp
  simp only [ho, resolve, invoke, builtin, Sem.run_bind, Sem.run_pure, Result.andThen_ok, List.map_toArray, List.map_cons, List.map_nil, hs, hx, hr]
  exact h A1 a1 w1 h1 h2
end
/-- Two lists side by side, as a slice of slices. -/
theorem blk_r2 {W : World} {g : Nat} {A B : Option Addr} {a b : Nat} {xs ys : List Int} (h : Blk W g #[.slice A xs.length a, .slice B ys.length b] 25) (hA : RI W A a xs) (hB : RI W B b ys) : R2 W (some ⟨g, 0, none⟩) 2 [xs, ys] := by
  refine ⟨Nat.le_refl _, by omega, fun j hj => ?_⟩
  match j, hj with
  | 0, _ => exact ⟨_, [.slice A xs.length a], rfl, trivial, h.lt, ⟨A, a, rfl, hA⟩, fun i v hv => by
      match i, hv with
      | 0, hv => cases hv; rw [add_plain]; exact h.cell 0 rfl⟩
  | 1, _ => exact ⟨_, [.slice B ys.length b], rfl, trivial, h.lt, ⟨B, b, rfl, hB⟩, fun i v hv => by
      match i, hv with
      | 0, hv => cases hv; rw [add_plain]; exact h.cell 1 rfl⟩

/-- The best way from a band on. -/
def bestW (ws l : List Int) (j : Nat) : Way := (waysW ws.length (cstV ws l) gamN ws.length).getD j default
theorem waysW_drop (n : Nat) (cst : Nat → Int → Int) (gam : Nat → Nat) (q : Nat) : ∀ m, m ≤ q → (waysW n cst gam q).drop m = waysW n cst gam (q - m)
  | 0, _ => rfl
  | m + 1, h => by
    obtain ⟨q', rfl⟩ : ∃ q', q = q' + 1 := ⟨q - 1, by omega⟩
    have := waysW_drop n cst gam q' m (by omega)
    show (waysW n cst gam q').drop m = _
    rw [this, show q' + 1 - (m + 1) = q' - m by omega]
theorem waysW_getD (n : Nat) (cst : Nat → Int → Int) (gam : Nat → Nat) {q j : Nat} (hj : j ≤ q) (hq : q ≤ n) : (waysW n cst gam q).getD j default = (waysW n cst gam n).getD (n - q + j) default := by
  have h := waysW_drop n cst gam n (n - q) (by omega)
  rw [show n - (n - q) = q by omega] at h
  rw [← h, List.getD_eq_getElem?_getD, List.getD_eq_getElem?_getD, List.getElem?_drop]
theorem bestW_last (ws l : List Int) : bestW ws l ws.length = ⟨0, [], []⟩ := by
  unfold bestW
  have := waysW_getD ws.length (cstV ws l) gamN (q := 0) (j := 0) (Nat.le_refl _) (Nat.zero_le _)
  rw [Nat.sub_zero, Nat.add_zero] at this
  rw [← this]; rfl
theorem bestW_at {ws l : List Int} {i : Nat} (hi : i < ws.length) : bestW ws l i = (topW ws.length (cstV ws l) gamN i (waysW ws.length (cstV ws l) gamN (ws.length - (i + 1))) 8).getD default := by
  unfold bestW
  have := waysW_getD ws.length (cstV ws l) gamN (q := ws.length - i) (j := 0) (Nat.zero_le _) (by omega)
  rw [show ws.length - (ws.length - i) + 0 = i by omega] at this
  rw [← this]
  obtain ⟨q, hq⟩ : ∃ q, ws.length - i = q + 1 := ⟨ws.length - i - 1, by omega⟩
  rw [hq, show ws.length - (i + 1) = q by omega]
  show (topW ws.length (cstV ws l) gamN (ws.length - (q + 1)) (waysW ws.length (cstV ws l) gamN q) 8).getD default = _
  rw [show ws.length - (q + 1) = i by omega]
theorem bestW_tl {ws l : List Int} {i m : Nat} (hi : i + (m + 1) ≤ ws.length) : (waysW ws.length (cstV ws l) gamN (ws.length - (i + 1))).getD m default = bestW ws l (i + (m + 1)) := by
  rw [waysW_getD _ _ _ (by omega) (by omega)]
  unfold bestW
  congr 1; omega
theorem bestW_opt {ws l : List Int} (h : sureE ws l = 0) (j : Nat) (hj : j ≤ ws.length) : Opt ws.length (cstV ws l) gamN j (bestW ws l j) := by
  have hF := fairV h
  have := waysW_opt hF.sub hF.fit ws.length (Nat.le_refl _) j hj
  rwa [Nat.sub_self, Nat.zero_add] at this
theorem bestW_bd {ws l : List Int} (h : sureE ws l = 0) (j : Nat) (hj : j ≤ ws.length) : 0 ≤ (bestW ws l j).cost ∧ (bestW ws l j).cost ≤ 1800000 ∧ (bestW ws l j).secs.length ≤ 128 ∧ (bestW ws l j).books.length = ws.length - j := by
  have hO := bestW_opt h j hj
  obtain ⟨hok, h128, _, _⟩ := sureE_facts h
  have h1 := hO.is.bound hok h128
  have h3 := (bks_ways h128 hO.is (List.replicate j 0) (by simp)).2
  refine ⟨hO.is.pos, by have := h1.2; omega, ?_, by rw [hO.books, h3]⟩
  have : ∀ {i : Nat} {s : List (Int × Int)} {c : Int}, Ways ws.length (cstV ws l) gamN i s c → s.length ≤ ws.length - i := by
    intro i s c hw
    induction hw with
    | nil => simp
    | @cons i k m s c h0 h8 h1 hn hf hd hs ih => rw [List.length_cons]; omega
  have := this hO.is
  omega
/-- What Choose returns. -/
def chooseR (ws l : List Int) : List (Int × Int) × Int × Int := if sureE ws l ≠ 0 then ([], 0, sureE ws l) else ((bestW ws l 0).secs, (bestW ws l 0).cost, 0)
end Go.Proofs.YtmcdgmiheklbeaaDoor
