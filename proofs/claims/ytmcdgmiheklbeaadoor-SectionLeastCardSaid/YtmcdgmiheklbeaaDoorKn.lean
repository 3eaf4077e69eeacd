/- section: what Choose returns is right and costs least. · What the arguments of a law read as: []bool, the statements' Bytes and Room. · What the arguments of a law read as: []api.Section, the statements' Cut. · The laws of section: the two variables that the rows list. · The document's section: Take: what it returns, and where the tape is then. · section: what Choose returns costs at least what each band costs in its best book. -/
import Derived.Test.YtmcdgmiheklbeaaDoorKm
import Derived.Test.YtmcdgmiheklbeaaDoorKj
import Derived.Test.YtmcdgmiheklbeaaDoorKd
import Derived.Deep.Grids
import Derived.Test.YtmcdgmiheklbeaaDoorKc
import Derived.Test.YtmcdgmiheklbeaaDoorKk
import Derived.Test.YtmcdgmiheklbeaaDoorRows
import Derived.OpenShut
import Derived.MakeChecks
import Derived.Test.YtmcdgmiheklbeaaDoorKg
namespace Go.Proofs.YtmcdgmiheklbeaaDoor
open Go.RowKit

theorem chooseR_err {ws l : List Int} (h : (chooseR ws l).2.2 ≠ 0) : chooseR ws l = ([], 0, (chooseR ws l).2.2) := by
  unfold chooseR at h ⊢
  split
  · rfl
  · rename_i h1
    rw [if_neg h1] at h
    exact absurd rfl h
theorem chooseR_ok {ws l : List Int} (h : (chooseR ws l).2.2 = 0) : sureE ws l = 0 ∧ chooseR ws l = ((bestW ws l 0).secs, (bestW ws l 0).cost, 0) := by
  unfold chooseR at h ⊢
  by_cases h1 : sureE ws l = 0
  · exact ⟨h1, by rw [if_neg (by simp [h1])]⟩
  · rw [if_pos h1] at h; exact absurd h h1
theorem costQ_ways {ws l : List Int} {s : List (Int × Int)} {c : Int} (hs : sureE ws l = 0) (h : Ways ws.length (cstV ws l) gamN 0 s c) : costQ ws l s = (c, 0) := by
  have h1 := cost_of_ways (sureE_facts hs).2.1 h
  unfold costQ
  rw [if_neg (by simp [hs]), h1, if_neg (by simp)]
theorem ways_costQ {ws l : List Int} {s : List (Int × Int)} (h : (costQ ws l s).2 = 0) : Ways ws.length (cstV ws l) gamN 0 s (costQ ws l s).1 := by
  obtain ⟨hs, hc, _⟩ := costQ_ok h
  have h2 := ways_of_cost hc
  rw [costQ_ways hs h2]
  exact h2
/-- Choose's sections are right and cost what it says. -/
theorem choose_cost {ws l : List Int} (h : (chooseR ws l).2.2 = 0) : costQ ws l (chooseR ws l).1 = ((chooseR ws l).2.1, 0) := by
  obtain ⟨hs, e⟩ := chooseR_ok h
  rw [e]
  exact costQ_ways hs (bestW_opt hs 0 (Nat.zero_le _)).is
/-- No right sections cost less. -/
theorem choose_least {ws l : List Int} {s : List (Int × Int)} (h : (chooseR ws l).2.2 = 0) (hc : (costQ ws l s).2 = 0) : (chooseR ws l).2.1 ≤ (costQ ws l s).1 := by
  obtain ⟨hs, e⟩ := chooseR_ok h
  rw [e]
  have h1 := (bestW_opt hs 0 (Nat.zero_le _)).least s _ (ways_costQ hc)
  unfold Way.less at h1
  show (bestW ws l 0).cost ≤ _
  generalize (bestW ws l 0).cost = C at *
  split at h1
  · rename_i h2
    have h3 : (costQ ws l s).1 = C := h2
    omega
  · have h3 : ¬ (costQ ws l s).1 < C := of_decide_eq_false h1
    omega
/-- What SectionLeast asks. -/
theorem least_facts18 (ws l : List Int) (s : List (Int × Int)) : ((chooseR ws l).2.2 ≠ 0 → (chooseR ws l).1.length = 0 ∧ (chooseR ws l).2.1 = 0) ∧ ((chooseR ws l).2.2 = 0 → costQ ws l (chooseR ws l).1 = ((chooseR ws l).2.1, 0) ∧ ((costQ ws l s).2 = 0 → (chooseR ws l).2.1 ≤ (costQ ws l s).1)) :=
  ⟨fun h => by rw [chooseR_err h]; exact ⟨rfl, rfl⟩, fun h => ⟨choose_cost h, fun hc => choose_least h hc⟩⟩
end Go.Proofs.YtmcdgmiheklbeaaDoor

namespace Go.Proofs.YtmcdgmiheklbeaaDoor
open Go.ChangeShapes Go.WideShapes Go.ChangeAt Go.WideMaps Go.WideElems Go.RowKit Go.Deep

section
variable {H : Type} {enc : TypeId × Value → H} {W : World}
end
end Go.Proofs.YtmcdgmiheklbeaaDoor

namespace Go.Proofs.YtmcdgmiheklbeaaDoor
open Go.ChangeShapes Go.WideShapes Go.ChangeAt Go.WideMaps Go.WideElems Go.RowKit Go.Deep

section
variable {H : Type} {enc : TypeId × Value → H} {W : World}
set_option maxRecDepth 100000 in
theorem section_read {m : Nat} {cs : List Value} {x : DataW H × List MemPlace} (h : DataW.trod enc Tryd.prog W 0 (fun _ => true) true m 67 cs = some x) :
    ∃ n1 n2 : Int, cs = [.int .i64 n1, .int .i64 n2] := by
  obtain ⟨zs, n, _, rfl, hl, hlen, hf⟩ := DataW.trod_struct Tryd.underlying67 h
  rw [show Tryd.prog.cellsOf 67 = 2 by kernel_rfl] at hl
  match zs, hlen with
  | [y0, y1], _ =>
    have h0 : DataW.trod enc Tryd.prog W 0 (fun _ => true) true n 3 ((cs.drop 0).take (Tryd.prog.cellsOf 3)) = some y0 := hf 0 _ rfl
    have h1 : DataW.trod enc Tryd.prog W 0 (fun _ => true) true n 3 ((cs.drop 1).take (Tryd.prog.cellsOf 3)) = some y1 := hf 1 _ rfl
    rw [show Tryd.prog.cellsOf 3 = 1 by kernel_rfl] at h0 h1
    obtain ⟨n1, e1, _⟩ := DataW.trod_int (P := Tryd.prog) Tryd.underlying3 h0
    obtain ⟨n2, e2, _⟩ := DataW.trod_int (P := Tryd.prog) Tryd.underlying3 h1
    match cs, hl with
    | [c0, c1], _ =>
      replace e1 : [c0] = [.int .i64 n1] := e1
      replace e2 : [c1] = [.int .i64 n2] := e2
      injection e1 with e1 _
      injection e2 with e2 _
      exact ⟨n1, n2, by rw [e1, e2]⟩
set_option maxRecDepth 100000 in
/-- A []api.Section. -/
theorem open_S {fuel : Nat} {v : Value} {x : DataW H × List MemPlace} (h : DataW.trod enc Tryd.prog W 0 (fun _ => true) true fuel 31 [v] = some x) :
    ∃ A c xs, v = .slice A xs.length c ∧ RS W A c xs := by
  rcases DataW.trod_slice Tryd.underlying31 h with ⟨hcs, _⟩ | ⟨a, len, cap, elems, rest, n, _, hcs, _, _, hl, hm, hel, hi, _⟩
  · injection hcs with hv _
    exact ⟨none, 0, [], hv, ⟨Nat.le_refl _, by omega, Kd.Rd.nil _ _ _ _⟩⟩
  · injection hcs with hv _
    rw [show Tryd.prog.cellsOf 67 = 2 by kernel_rfl] at hi
    have key : ∀ i, ∃ p : Int × Int, i < len → W.cell? (a.add (i * 2)) = some (.int .i64 p.1) ∧ W.cell? (a.add (i * 2 + 1)) = some (.int .i64 p.2) := fun i => by
      by_cases hlt : i < len
      · have h1 := hi i hlt
        rw [List.getElem?_eq_getElem (by omega)] at h1
        obtain ⟨cs, hc, ht⟩ := Option.bind_eq_some_iff.1 h1
        obtain ⟨n1, n2, rfl⟩ := section_read ht
        obtain ⟨_, hlc, hg⟩ := World.cells?_some hc
        refine ⟨(n1, n2), fun _ => ⟨?_, ?_⟩⟩
        · have := hg 0 (by omega)
          rw [add_add, Nat.add_zero] at this
          exact this
        · have := hg 1 (by omega)
          rw [add_add] at this
          exact this
      · exact ⟨(0, 0), fun h => absurd h hlt⟩
    have hx : ∃ f : Nat → Int × Int, ∀ i, i < len → W.cell? (a.add (i * 2)) = some (.int .i64 (f i).1) ∧ W.cell? (a.add (i * 2 + 1)) = some (.int .i64 (f i).2) := ⟨fun i => Classical.choose (key i), fun i h => Classical.choose_spec (key i) h⟩
    obtain ⟨f, hf⟩ := hx
    have hlen : ((List.range len).map f).length = len := by simp
    have hn : ∀ i, i < len → nth (0, 0) ((List.range len).map f) i = f i := fun i h => by rw [nth_eq _ _ i (by rw [hlen]; exact h)]; simp
    refine ⟨some a, cap, (List.range len).map f, by rw [hlen]; exact hv, by rw [hlen]; exact hl, by simpa [maxLen] using hm, fun j hj => ?_⟩
    rw [hlen] at hj
    obtain ⟨q0, q1⟩ := hf j hj
    refine ⟨a, [.int .i64 (f j).1, .int .i64 (f j).2], rfl, trivial, by have := World.block_lt_of_cell? W _ q0; rwa [add_block] at this, by show _ = [Value.int .i64 (nth (0, 0) _ j).1, .int .i64 (nth (0, 0) _ j).2]; rw [hn j hj], fun i v hv => ?_⟩
    match i, hv with
    | 0, hv => injection hv with hv; rw [← hv]; exact q0
    | 1, hv => injection hv with hv; rw [← hv]; exact q1
set_option maxRecDepth 100000 in
/-- Widths, values and sections. -/
theorem open_C {r : Reach} {b0 : Nat} {v : Value} {d : DataW H} {p : List MemPlace} (hv : Value.okWide Tryd.prog W r b0 51 v) (h : DataW.Trod enc Tryd.prog W 0 (fun _ => true) true 51 v d p) :
    ∃ (A : Option Addr) (c : Nat) (a : List Int) (B : Option Addr) (c1 : Nat) (b : List Int) (D : Option Addr) (c2 : Nat) (s : List (Int × Int)), v = .agg #[.slice A a.length c, .slice B b.length c1, .slice D s.length c2] ∧ RI W A c a ∧ RI W B c1 b ∧ RS W D c2 s := by
  obtain ⟨v0, v1, v2, y0, y1, y2, n, rfl, rfl, rfl, h0, h1, h2⟩ := Joins.open_agg3 (P := Tryd.prog) Tryd.underlying51 (by kernel_rfl) (by kernel_rfl) hv h
  obtain ⟨A, c, a, rfl, h3, _⟩ := open_I h0
  obtain ⟨B, c1, b, rfl, h4, _⟩ := open_I h1
  obtain ⟨D, c2, s, rfl, h5⟩ := open_S h2
  exact ⟨A, c, a, B, c1, b, D, c2, s, rfl, h3, h4, h5⟩
end
end Go.Proofs.YtmcdgmiheklbeaaDoor

namespace Go.Proofs.YtmcdgmiheklbeaaDoor
open Go.ChangeShapes Go.WideShapes Go.ChangeAt Go.WideMaps Go.WideElems Go.RowKit Go.Deep

/-- What the rows list. -/
abbrev laidBk : List (String × DataW Unit) := [("shawm/book.forms", Rows.laid_shawm_book_forms), ("shawm/book.tables", Rows.laid_shawm_book_tables)]
theorem ownBk : ownKnob Tryd.prog.godebug = none := by kernel_rfl
theorem gForms : Tryd.prog.globalNamed "shawm/book.forms" = some 0 := by kernel_rfl
theorem tForms : (Tryd.prog.globals[0]?).map (·.type) = some 110 := by kernel_rfl
theorem gTabs : Tryd.prog.globalNamed "shawm/book.tables" = some 1 := by kernel_rfl
theorem tTabs : (Tryd.prog.globals[1]?).map (·.type) = some 145 := by kernel_rfl
theorem door_bk (os : Os) (args : Array Value) : laidMetH Tryd.prog laidBk ((World.doorLaid Tryd.prog 400 os).forCall (fun _ _ => 0) ⟨#[], args, []⟩).memory :=
  laidMetH_of_parts3 (fuel := 8) (laidMet_of_run' 8 (by kernel_rfl) (by kernel_rfl)) (by kernel_rfl) (by kernel_rfl)
theorem drop_cell {l : List Value} {a n j : Nat} {v : Value} (h : (((l.drop a).take n).drop j).take 1 = [v]) : l[a + j]? = some v := by
  have h1 := congrArg (fun x : List Value => x[0]?) h
  simp only [List.getElem?_take, List.getElem?_drop, List.getElem?_cons_zero, Nat.add_zero, Nat.zero_lt_one, if_true] at h1
  split at h1
  · exact h1
  · cases h1
theorem drop_cell1 {l : List Value} {a : Nat} {v : Value} (h : (l.drop a).take 1 = [v]) : l[a]? = some v := by
  have h1 := congrArg (fun x : List Value => x[0]?) h
  simpa only [List.getElem?_take, List.getElem?_drop, List.getElem?_cons_zero, Nat.add_zero, Nat.zero_lt_one, if_true] using h1
theorem agg_at {H : Type} {xs : List (DataW H × List MemPlace)} {ys : List (DataW H)} (h : xs.map (·.1) = ys) {i : Nat} {x : DataW H × List MemPlace} (hx : xs[i]? = some x) : ys[i]? = some x.1 := by
  rw [← h, List.getElem?_map, hx]; rfl
theorem form_read {H : Type} {enc : TypeId × Value → H} {w : World} {held : Nat → Bool} {m : Nat} {cs : List Value} {x : DataW H × List MemPlace} (h : DataW.trod enc Tryd.prog w 0 held false m 109 cs = some x) :
    ∃ n1 n2 b, (cs.drop 0).take 1 = [.int .i64 n1] ∧ (cs.drop 1).take 1 = [.int .i64 n2] ∧ (cs.drop 2).take 1 = [.bool b] ∧ x.1 = .agg [.lit (.int .i64 n1), .lit (.int .i64 n2), .lit (.bool b)] := by
  obtain ⟨zs, n, _, rfl, hl, hlen, hf⟩ := DataW.trod_struct Tryd.underlying109 h
  match zs, hlen with
  | [y0, y1, y2], _ =>
    have h0 : DataW.trod enc Tryd.prog w 0 held false n 3 ((cs.drop 0).take (Tryd.prog.cellsOf 3)) = some y0 := hf 0 _ rfl
    have h1 : DataW.trod enc Tryd.prog w 0 held false n 3 ((cs.drop 1).take (Tryd.prog.cellsOf 3)) = some y1 := hf 1 _ rfl
    have h2 : DataW.trod enc Tryd.prog w 0 held false n 4 ((cs.drop 2).take (Tryd.prog.cellsOf 4)) = some y2 := hf 2 _ rfl
    rw [show Tryd.prog.cellsOf 3 = 1 by kernel_rfl] at h0 h1
    rw [show Tryd.prog.cellsOf 4 = 1 by kernel_rfl] at h2
    obtain ⟨n1, e1, f1, _⟩ := DataW.trod_int (P := Tryd.prog) Tryd.underlying3 h0
    obtain ⟨n2, e2, f2, _⟩ := DataW.trod_int (P := Tryd.prog) Tryd.underlying3 h1
    obtain ⟨b, e3, f3⟩ := DataW.trod_bool (P := Tryd.prog) Tryd.underlying4 h2
    subst f1 f2 f3
    exact ⟨n1, n2, b, e1, e2, e3, rfl⟩
/-- The lines of the first table, as data. -/
def formsD : List (DataW Unit) := (List.range 8).map fun b => .agg [.lit (.int .i64 (dimB b)), .lit (.int .i64 (mostB b)), .lit (.bool (escB b))]
def tabsD : List (DataW Unit) := (List.range 8).map fun b => .lit (.string (txtK b).data.toList)
theorem forms_eq : (Rows.laid_shawm_book_forms : DataW Unit) = .agg formsD := by kernel_rfl
theorem tabs_eq : (Rows.laid_shawm_book_tables : DataW Unit) = .agg tabsD := by kernel_rfl
theorem formsD_at {b : Nat} (h : b < 8) : formsD[b]? = some (.agg [.lit (.int .i64 (dimB b)), .lit (.int .i64 (mostB b)), .lit (.bool (escB b))]) := by
  unfold formsD; rw [List.getElem?_map, List.getElem?_range h]; rfl
theorem tabsD_at {b : Nat} (h : b < 8) : tabsD[b]? = some (.lit (.string (txtK b).data.toList)) := by
  unfold tabsD; rw [List.getElem?_map, List.getElem?_range h]; rfl
theorem gf_of_laid {W : World} (h : laidMetH Tryd.prog laidBk W) : GF W ∧ GT W := by
  rw [MakeChecks.laidMetH_plain _ _ _ (by kernel_rfl)] at h
  obtain ⟨ps, ⟨g0, t0, cs0, f0, p0, q0, hg0, ht0, hv0, hd0, ⟨g1, t1, cs1, f1, p1, q1, hg1, ht1, hv1, hd1, _⟩, _⟩, _, _⟩ := h
  obtain rfl := Option.some.inj (gForms.symm.trans hg0)
  obtain rfl := Option.some.inj (tForms.symm.trans ht0)
  obtain rfl := Option.some.inj (gTabs.symm.trans hg1)
  obtain rfl := Option.some.inj (tTabs.symm.trans ht1)
  obtain ⟨xs, m1, rfl, hx1, _, hn3, hel⟩ := DataW.trod_array Tryd.underlying110 hd0
  obtain ⟨ys, m2, rfl, hy1, _, hn4, hem⟩ := DataW.trod_array Tryd.underlying145 hd1
  have ex : xs.map (·.1) = formsD := by
    have := congrArg Prod.fst hx1
    rw [forms_eq] at this
    exact (DataW.agg.inj this).symm
  have ey : ys.map (·.1) = tabsD := by
    have := congrArg Prod.fst hy1
    rw [tabs_eq] at this
    exact (DataW.agg.inj this).symm
  have cf : Tryd.prog.cellsOf 109 = 3 := by kernel_rfl
  have ct : Tryd.prog.cellsOf 9 = 1 := by kernel_rfl
  have kf : ∀ b, b < 8 → cs0[b * 3]? = some (.int .i64 (dimB b)) ∧ cs0[b * 3 + 1]? = some (.int .i64 (mostB b)) ∧ cs0[b * 3 + 2]? = some (.bool (escB b)) := fun b h8 => by
    have h1 := hel b h8
    have hb : b < xs.length := by omega
    rw [cf, List.getElem?_eq_getElem hb] at h1
    obtain ⟨n1, n2, q, e1, e2, e3, e4⟩ := form_read h1
    have h2 := agg_at ex (List.getElem?_eq_getElem hb)
    rw [formsD_at h8, e4] at h2
    injection h2 with h2
    injection h2 with h2
    injection h2 with a1 h2
    injection h2 with a2 h2
    injection h2 with a3 h2
    injection a1 with a1; injection a1 with _ a1
    injection a2 with a2; injection a2 with _ a2
    injection a3 with a3; injection a3 with a3
    rw [a1, a2, a3]
    simp only [← Array.getElem?_toList]
    exact ⟨drop_cell (a := b * 3) (n := 3) (j := 0) e1, drop_cell e2, drop_cell e3⟩
  have kt : ∀ b, b < 8 → cs1[b]? = some (.string (txtK b)) := fun b h8 => by
    have h1 := hem b h8
    have hb : b < ys.length := by omega
    rw [ct, Nat.mul_one, List.getElem?_eq_getElem hb] at h1
    obtain ⟨t, e1, e2, _⟩ := DataW.trod_string (P := Tryd.prog) Tryd.underlying9 h1
    have h2 := agg_at ey (List.getElem?_eq_getElem hb)
    rw [tabsD_at h8, e2] at h2
    replace h2 := Lit.string.inj (DataW.lit.inj (Option.some.inj h2))
    have h3 : txtK b = t := ByteArray.ext (Array.toList_inj.1 h2)
    rw [h3]
    simp only [← Array.getElem?_toList]
    exact drop_cell1 e1
  refine ⟨⟨fun b h8 => ?_, fun b h8 => ?_, fun b h8 => ?_⟩, ⟨fun b h8 => ?_⟩⟩
  · rw [World.var?_cell hg0 hv0]; exact (kf b h8).1
  · rw [World.var?_cell hg0 hv0]; exact (kf b h8).2.1
  · rw [World.var?_cell hg0 hv0]; exact (kf b h8).2.2
  · rw [World.var?_cell hg1 hv1]; exact kt b h8
end Go.Proofs.YtmcdgmiheklbeaaDoor

namespace Go.Proofs.YtmcdgmiheklbeaaDoor
open Go.RowKit
attribute [local go_sem] Oper.semAt_some

/-- xs[lo:lo+d], with what is behind it as capacity. -/
theorem cut_lh (lo d n c : Nat) (ad : Addr) (hd : 1 ≤ d) (h2 : lo + d ≤ n) (hnc : n ≤ c) (W : World) :
    (Instr.slice 25 (.slice (some ad) n c) (some (.int .i64 (lo : Int))) (some (.int .i64 ((lo + d : Nat) : Int))) none).run Tryd.prog W = .ok (.slice (some (ad.add lo)) d (c - lo)) W := by
  obtain ⟨i, hi, hz⟩ := Option.map_eq_some_iff.1 infoI
  have hel : Tryd.prog.elem 25 = 3 := by simp [Program.elem, Tryd.underlying25]
  have hu : Tryd.prog.underlying 25 = some (.slice (Tryd.prog.elem 25)) := by rw [hel]; exact Tryd.underlying25
  have h1 : i.size = 1 := by simp at hz; exact hz.2.1
  rw [run_slice_lh W 25 (some ad) n c hu .i64 .i64 (lo : Int) ((lo + d : Nat) : Int) (Int.natCast_nonneg _) (by omega) (by omega), hel]
  have e1 : ¬ (c = lo) := by omega
  have e2 : lo + d - lo = d := by omega
  simp [sizeOf, typeInfo, hi, sliced, Result.andThen, h1, e1, e2]
  omega
end Go.Proofs.YtmcdgmiheklbeaaDoor

namespace Go.Proofs.YtmcdgmiheklbeaaDoor
open Go.RowKit

/-- The sum of the least costs of the first bands. -/
def sumB (ws l : List Int) : Nat → Int
  | 0 => 0
  | j + 1 => sumB ws l j + (bestV (bndL ws l j)).2
theorem ways_ge {n : Nat} {cst : Nat → Int → Int} {gam : Nat → Nat} {i : Nat} {s : List (Int × Int)} {c : Int} (h : Ways n cst gam i s c) (B S : Nat → Int) (hS : ∀ j, S (j + 1) = S j + B j) (hB : ∀ (j : Nat) (k : Int), j < n → 0 ≤ k → k < 8 → 0 ≤ cst j k → B j ≤ cst j k) : S n ≤ S i + c := by
  induction h with
  | nil => omega
  | @cons i k m s c h0 h8 h1 hn hf hd hs ih =>
    have key : ∀ t, t ≤ m → S (i + t) ≤ S i + sumK cst i k t := by
      intro t
      induction t with
      | zero => intro _; simp [sumK]
      | succ t iht =>
        intro ht
        have a1 := iht (by omega)
        have a2 := hB (i + t) k (by omega) h0 h8 (hf t (by omega))
        have a3 := hS (i + t)
        rw [Nat.add_assoc] at a3
        simp only [sumK]
        omega
    have := key m (Nat.le_refl _)
    omega
theorem quantB_band {ws l : List Int} (h : quantB l = true) (j : Nat) : quantB (bndL ws l j) = true := by
  unfold quantB at *
  rw [List.all_eq_true] at *
  exact fun x hx => h x (List.mem_of_mem_drop (List.mem_of_mem_take hx))
/-- The best book's cost of a band. -/
theorem band_best {ws l : List Int} (hok : ws.all okV = true) (hq : quantB l = true) (j : Nat) (hj : j < ws.length) : bestE (bndL ws l j) = 0 ∧ 0 ≤ (bestV (bndL ws l j)).2 ∧ (bestV (bndL ws l j)).2 ≤ 13312 ∧ ∀ k : Int, 0 ≤ k → k < 8 → 0 ≤ cstV ws l j k → (bestV (bndL ws l j)).2 ≤ cstV ws l j k := by
  have hqb := quantB_band (ws := ws) hq j
  obtain ⟨b, hb8, hbf, hbv, hbl, _⟩ := best_first hqb
  have hc := (bkC_at hqb b hb8).2.2
  rw [if_pos hbf] at hc
  have hc1 := bkC_len (b : Int) (bndL ws l j)
  rw [hc] at hc1
  have hc2 : ((rowK b (bndL ws l j)).length : Int) = ((bkW (b : Int) (bndL ws l j)).length : Int) := hc1
  have hw := bkW_len (b : Int) (bndL ws l j)
  have hbn := bndL_le ws l j
  have h128 := (okV_at hok j hj).2.2
  refine ⟨by unfold bestE; rw [if_neg (by simp [hqb])], by rw [hbv]; exact Int.natCast_nonneg _, by rw [hbv]; show ((rowK b (bndL ws l j)).length : Int) ≤ 13312; omega, fun k h0 h8 hk => ?_⟩
  obtain ⟨kn, rfl⟩ := Int.eq_ofNat_of_zero_le h0
  have hkc := (bkC_at hqb kn (by omega)).2.2
  unfold cstV at hk ⊢
  by_cases hf : fitB kn (bndL ws l j) = true
  · rw [if_pos hf] at hkc
    rw [hkc, if_pos rfl, hbv]
    have := hbl kn (by omega) hf
    show ((rowK b (bndL ws l j)).length : Int) ≤ ((rowK kn (bndL ws l j)).length : Int)
    omega
  · rw [if_neg hf] at hkc
    rw [hkc, if_neg (by show ¬ (4 : Int) = 0; omega)] at hk
    omega
theorem sumB_bd {ws l : List Int} (hok : ws.all okV = true) (hq : quantB l = true) : ∀ j, j ≤ ws.length → 0 ≤ sumB ws l j ∧ sumB ws l j ≤ 13312 * (j : Int)
  | 0, _ => ⟨Int.le_refl _, by simp [sumB]⟩
  | j + 1, h => by
    have h1 := sumB_bd hok hq j (by omega)
    have h2 := band_best hok hq j (by omega)
    have e : sumB ws l (j + 1) = sumB ws l j + (bestV (bndL ws l j)).2 := rfl
    omega
/-- What SectionOne asks. -/
theorem one_facts {ws l : List Int} (h : (chooseR ws l).2.2 = 0) : (∀ s, (costQ ws l s).2 = 0 → (chooseR ws l).2.1 ≤ (costQ ws l s).1) ∧ sumB ws l ws.length ≤ (chooseR ws l).2.1 ∧ ws.all okV = true ∧ ws.length ≤ 128 ∧ sumV ws ws.length = l.length ∧ quantB l = true := by
  obtain ⟨hs, e⟩ := chooseR_ok h
  obtain ⟨hok, h128, hsum, hq⟩ := sureE_facts hs
  refine ⟨fun s hc => choose_least h hc, ?_, hok, h128, hsum, hq⟩
  rw [e]
  have h1 := (bestW_opt hs 0 (Nat.zero_le _)).is
  have h2 := ways_ge h1 (fun j => (bestV (bndL ws l j)).2) (sumB ws l) (fun j => rfl) (fun j k hj h0 h8 hk => (band_best hok hq j hj).2.2.2 k h0 h8 hk)
  have h3 : sumB ws l 0 = 0 := rfl
  show _ ≤ (bestW ws l 0).cost
  omega
/-- Best of a band, cut out of the values. -/
theorem best_band (B : Option Addr) (d : Nat) (ws l : List Int) (w : World) (hT : RI w B d l) (hG : GF w) (hGT : GT w) (hok : ws.all okV = true) (hsum : sumV ws ws.length = l.length) (hq : quantB l = true) (j : Nat) (hj : j < ws.length) :
    ∃ bd, B = some bd ∧ ∀ W, Below w.heap.size w W → Calls Tryd.prog 31 #[.slice (some (bd.add (sumV ws j))) (widV ws j) (d - sumV ws j)] W fun e w' => e = .returned (.tuple #[.int .i64 (bestV (bndL ws l j)).1, .int .i64 (bestV (bndL ws l j)).2, .int .i64 0]) ∧ Below W.heap.size W w' := by
  obtain ⟨_, hw1, hw128⟩ := okV_at hok j hj
  have hle2 := sumV_all hsum j hj
  obtain ⟨bd, hBD, _⟩ := rd_int hT 0 (by omega)
  subst hBD
  have hbl : (bndL ws l j).length = widV ws j := by unfold bndL; rw [List.length_take, List.length_drop]; omega
  have hRB : RI w (some (bd.add (sumV ws j))) (widV ws j) (bndL ws l j) := by
    have h := grp_sl hT (sumV ws j) (widV ws j) hle2
    rw [show sumV ws j * (kInt .i64).size = sumV ws j from Nat.mul_one _] at h
    have e : (l.take (sumV ws j + widV ws j)).drop (sumV ws j) = bndL ws l j := by unfold bndL; rw [List.drop_take]; congr 1; omega
    rwa [e] at h
  have hRC : RI w (some (bd.add (sumV ws j))) (d - sumV ws j) (bndL ws l j) := ⟨by have := hT.le; omega, by have := hT.cap; omega, hRB.rd⟩
  refine ⟨bd, rfl, fun W hb => ?_⟩
  have h := bBest_any (some (bd.add (sumV ws j))) (d - sumV ws j) (bndL ws l j) W (hRC.below hb) (hG.below hb) (hGT.below hb) (by rw [hbl]; omega)
  rw [hbl, (band_best hok hq j hj).1] at h
  exact h
end Go.Proofs.YtmcdgmiheklbeaaDoor
