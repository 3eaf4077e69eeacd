/- The law BookCosts of layer 17 (book): it returns true for every input, at every world in which book's two tables read as the program's text lays them. The row, and its tied card. -/
import Derived.Test.YtciknejchglmoaaDoorKo
import Derived.Test.YtciknejchglmoaaDoorCards
import Derived.Test.YtciknejchglmoaaDoorTie
import Derived.SevenTiedAt
import Derived.OpenShut
import Derived.Carry
import Derived.SizedLaws
namespace Go.Proofs.YtciknejchglmoaaDoor
open Go.RowKit

set_option maxHeartbeats 4000000 in
set_option maxRecDepth 100000 in
theorem bookCosts_walk (n0 : Int) (A1 : Option Addr) (c1 : Nat) (s1 : List Int) (W : World) (hG : GF W) (hT : GT W) (hR1 : RI W A1 c1 s1) :
    Calls Tryd.prog 4 #[.int .i64 n0, .slice A1 s1.length c1] W fun e W' => e = .returned (.bool true) ∧ Below W.heap.size W W' := by
  by_cases g0 : (600 : Int) < (s1.length : Int)
  · have d0 : decide ((600 : Int) < (s1.length : Int)) = true := decide_eq_true g0
    clear g0
    go_enter Tryd.func4, Tryd.ntmps4
    go_wp2_with fail
    refine (awake17_any _ hG hT).mono ?_
    rintro e w1 ⟨rfl, b⟩
    replace hG := hG.below b
    replace hT := hT.below b
    replace hR1 := hR1.below b
    have BX := b; clear b
    go_wp2_with fail
    go_ret
    exact ⟨rfl, BX⟩
  · have d0 : decide ((600 : Int) < (s1.length : Int)) = false := decide_eq_false g0
    go_enter Tryd.func4, Tryd.ntmps4
    have HL := Lib.hid (show s1.length ≤ 600 by omega); clear g0
    go_wp2_with fail
    refine (copy17_any A1 c1 s1 _ hR1 (by have := HL.out; omega)).mono ?_
    rintro e w1 ⟨v1, rfl, O1, b⟩
    replace hG := hG.below b
    replace hT := hT.below b
    replace hR1 := hR1.below b
    have BX := b; clear b
    obtain ⟨A5, c5, rfl, H5⟩ := own_ri O1; clear O1
    obtain ⟨fv, hfv⟩ : ∃ x, fitsV n0 s1 = x := ⟨_, rfl⟩
    obtain ⟨ck, hck⟩ : ∃ x, checkedK n0 s1 = x := ⟨_, rfl⟩
    go_wp2_with fail
    refine (bfits_any A5 c5 n0 s1 _ H5 hG).mono ?_
    rw [hfv]
    rw [hck]
    rintro e w2 ⟨rfl, b⟩
    replace hG := hG.below b
    replace hT := hT.below b
    replace hR1 := hR1.below b
    replace H5 := H5.below b
    replace BX := below2 BX b; clear b
    go_wp2_with fail
    refine (rfits_any A1 c1 n0 s1 _ hR1).mono ?_
    rw [hfv]
    rw [hck]
    rintro e w3 ⟨rfl, b⟩
    replace hG := hG.below b
    replace hT := hT.below b
    replace hR1 := hR1.below b
    replace H5 := H5.below b
    replace BX := below2 BX b; clear b
    obtain ⟨⟨cn, ce⟩, hcc⟩ : ∃ x, bkC n0 s1 = x := ⟨_, rfl⟩
    go_wp2_with fail
    refine (bCost_any A5 c5 n0 s1 _ H5 hG hT (by have := HL.out; omega)).mono ?_
    rw [hcc]
    rintro e w4 ⟨rfl, b⟩
    replace hG := hG.below b
    replace hT := hT.below b
    replace hR1 := hR1.below b
    replace H5 := H5.below b
    replace BX := below2 BX b; clear b
    go_wp2_with fail
    refine (rCost_any A1 c1 n0 s1 _ hR1 (by have := HL.out; omega)).mono ?_
    rw [hcc]
    rintro e w5 ⟨rfl, b⟩
    replace hG := hG.below b
    replace hT := hT.below b
    replace hR1 := hR1.below b
    replace H5 := H5.below b
    replace BX := below2 BX b; clear b
    obtain ⟨⟨bn, bc⟩, hbb⟩ : ∃ x, bestV s1 = x := ⟨_, rfl⟩
    obtain ⟨be, hbe⟩ : ∃ x, bestE s1 = x := ⟨_, rfl⟩
    go_wp2_with fail
    refine (bBest_any A5 c5 s1 _ H5 hG hT (by have := HL.out; omega)).mono ?_
    rw [hbb]
    rw [hbe]
    rintro e w6 ⟨rfl, b⟩
    replace hG := hG.below b
    replace hT := hT.below b
    replace hR1 := hR1.below b
    replace H5 := H5.below b
    replace BX := below2 BX b; clear b
    go_wp2_with fail
    refine (rBest_any A1 c1 s1 _ hR1 (by have := HL.out; omega)).mono ?_
    rw [hbb]
    rw [hbe]
    rintro e w7 ⟨rfl, b⟩
    replace hG := hG.below b
    replace hT := hT.below b
    replace hR1 := hR1.below b
    replace H5 := H5.below b
    replace BX := below2 BX b; clear b
    clear hfv hck hcc hbb hbe
    go_wp2_with fail
    refine (same17_any A5 A1 c5 c1 s1 s1 _ H5 hR1).mono ?_
    rw [show sameL s1 s1 = true by simp [sameL]]
    rintro e w8 ⟨rfl, b⟩
    replace hG := hG.below b
    replace hT := hT.below b
    replace hR1 := hR1.below b
    replace H5 := H5.below b
    replace BX := below2 BX b; clear b
    go_wp2_with fail
    refine (awake17_any _ hG hT).mono ?_
    rintro e w9 ⟨rfl, b⟩
    replace hG := hG.below b
    replace hT := hT.below b
    replace hR1 := hR1.below b
    replace H5 := H5.below b
    replace BX := below2 BX b; clear b
    go_wp2_with fail
    go_ret
    exact ⟨rfl, BX⟩
end Go.Proofs.YtciknejchglmoaaDoor

namespace Go.Proofs.YtciknejchglmoaaDoor
open Go.ChangeShapes Go.WideShapes Go.ChangeAt Go.WideMaps Go.WideElems Go.RowKit Go.Deep

theorem laidOut_bookCosts : laidOutB Tryd.prog = true := by kernel_rfl
set_option maxRecDepth 100000 in
theorem lifted_bookCosts (os : Os) (started : os.Started) (H : Type) (enc : TypeId × Value → H) :
    ReturnsInHanded {} Tryd.checked os 4 .any (fun w args => (Rows.bookCostsSpec.pre enc Tryd.prog Tryd.f4 [] false w args ∧ laidMetH Tryd.prog laidBk w) ∧ sizedMet enc Tryd.prog Tryd.f4 (OpenSpec.ofChange Rows.bookCostsSpec) false w args)
      (Rows.bookCostsSpec.post enc Tryd.prog Tryd.f4 false true false false) := by
  refine returnsInHanded_of_change_and (C := Tryd.checked) (X := fun w _ => laidMetH Tryd.prog laidBk w) (fun _ _ _ hh h => h.of_heap hh) ownBk started (by kernel_rfl) Tryd.func4
    (ChangeSpec.witness_shaped (enc := enc) (C := Tryd.checked) (os := os) (X := fun w _ => laidMetH Tryd.prog laidBk w) false (World.doorLaid Tryd.prog 400 os) #[.int .i64 0, .slice none 0 0] 8 rfl (World.shaped_of_RefB (by kernel_rfl) (by kernel_rfl)) (by kernel_rfl) (by kernel_rfl) (by kernel_rfl) (door_bk os _)) ?_
  intro W base args ds gs before hval0 hW _ hsz0 hL _
  obtain ⟨hG, hT⟩ := gf_of_laid hL
  have hval : ∀ (j : Nat) t v, Tryd.f4.params[j]? = some t → args[j]? = some v → Value.okWide Tryd.prog W .any base t v := hval0
  have hW' := hW
  obtain ⟨p, q, hA0, hV, rfl, hfz, hnd⟩ := hW
  have hA : DataW.TrodAll enc Tryd.prog W 0 (fun _ => true) true Tryd.f4.params.toList args.toList ds p := hA0
  have hsz : (DataW.weightsEach Tryd.prog (Tryd.f4.params.toList ++ Rows.bookCostsSpec.plain.varTypes Tryd.prog) (ds ++ gs)).all (· ≤ reachBytes) = true := hsz0
  rw [Tryd.params4] at hA hval hsz
  obtain ⟨v0, vs0, d0, ds0, p0, q0, hargs, rfl, rfl, h0, r0⟩ := trodAll_cons hA
  obtain ⟨v1, vs1, d1, ds1, p1, q1, rfl, rfl, rfl, h1, r1⟩ := trodAll_cons r0
  obtain ⟨rfl, rfl, rfl⟩ := trodAll_nil r1
  obtain rfl : args = #[v0, v1] := by cases args; simp_all
  obtain ⟨rfl, rfl⟩ := trodVars_none hV
  have lt0 : ∀ x ∈ p0, x.block < W.heap.size := by obtain ⟨m, hm⟩ := h0; exact DataW.trod_lt m _ _ _ hm
  have y0 : ∀ m ∈ d0.weights Tryd.prog 3, m ≤ reachBytes := fun m hm => of_decide_eq_true (List.all_eq_true.1 hsz m (DataW.weights_mem_each (j := 0) rfl rfl m hm))
  obtain ⟨a0, rfl, _, _, w0⟩ := open_int Tryd.underlying3 (hval 0 3 v0 rfl rfl) h0
  have lt1 : ∀ x ∈ p1, x.block < W.heap.size := by obtain ⟨m, hm⟩ := h1; exact DataW.trod_lt m _ _ _ hm
  have y1 : ∀ m ∈ d1.weights Tryd.prog 25, m ≤ reachBytes := fun m hm => of_decide_eq_true (List.all_eq_true.1 hsz m (DataW.weights_mem_each (j := 1) rfl rfl m hm))
  obtain ⟨B1, l1, e1, rfl⟩ := okWide_slice Tryd.underlying25 (hval 1 25 v1 rfl rfl)
  obtain ⟨A1, c1, s1, hv1, hR1, hB1⟩ : ∃ A c xs, Value.slice B1 l1 e1 = .slice A xs.length c ∧ RI W A c xs ∧ ((∀ m ∈ d1.weights Tryd.prog 25, m ≤ reachBytes) → xs.length ≤ 140737488355328) := by obtain ⟨fuel, hf⟩ := h1; exact open_I hf
  have hwalk := bookCosts_walk a0 A1 c1 s1 W hG hT hR1
  rw [← hv1] at hwalk
  refine hwalk.mono fun e W' ⟨he, bel⟩ => ?_
  subst he
  exact ⟨_, rfl, _, _, _, [], _, [], hW', trodAll_mk1 (shut_bool Tryd.underlying4 _), (trodAll_cons_mk (Below.trod laidOut_bookCosts (by kernel_rfl) (of_decide_eq_true (by kernel_rfl)) h0 bel lt0) (trodAll_cons_mk (Below.trod laidOut_bookCosts (by kernel_rfl) (of_decide_eq_true (by kernel_rfl)) h1 bel lt1) trodAll_mk0)), rfl, bel.frame _, fun h => by cases h⟩
theorem bookCosts_said : Rows.BookCostsSaid :=
  OpenClaim.holds_of_wide 4 Tryd.f4 rfl rfl rfl rfl rfl rfl rfl ⟨rfl, rfl, rfl, rfl, rfl⟩ rfl rfl rfl rfl rfl (by kernel_rfl) Tryd.func4 (by kernel_rfl)
    (of_decide_eq_true (by kernel_rfl)) (by unfold Func.isWrapper; first | (rw [if_pos (by decide +kernel)]; kernel_rfl) | (rw [if_neg (by decide +kernel)]; exact ⟨rfl, rfl⟩))
    (fun os started H enc _ => lifted_bookCosts os started H enc)
theorem bookCosts_card : Rows.BookCostsCardSaid :=
  Claim7.holds_tied_plain_at .later [] [.wider, .data] true Rows.bookCostsCard.stood.harness false
    bookCosts_said (fun _ h => by cases h) (by kernel_rfl) (fun _ h => by cases h) bookCosts_row_tie rfl ⟨rfl, rfl⟩ (by kernel_rfl) rfl
    (fun f fn hf hfn => by
      obtain rfl : f = 4 := Option.some.inj ((show Tryd.prog.funcNamed "shawm/shawmlaw17.BookCosts" = some 4 by kernel_rfl).symm.trans hf) |>.symm
      obtain rfl : fn = Tryd.f4 := (Option.some.inj (Tryd.func4.symm.trans hfn)).symm
      exact ⟨by kernel_rfl, fun j t ht => by
        rw [Tryd.params4] at ht
        have hm : t ∈ [3, 25] := by simpa using Array.mem_of_getElem? ht
        have hall : ([3, 25].all fun u => !Tryd.prog.wantsStandIn u) = true := by kernel_rfl
        exact (show Tryd.prog.wantsStandIn t = false by simpa using List.all_eq_true.1 hall t hm)⟩)
    (by kernel_rfl)
#print axioms bookCosts_card
end Go.Proofs.YtciknejchglmoaaDoor
