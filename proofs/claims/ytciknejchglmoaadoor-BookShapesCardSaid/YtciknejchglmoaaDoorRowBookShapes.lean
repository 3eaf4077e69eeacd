/- The law BookShapes of layer 17 (book): it returns true for every input, at every world in which book's two tables read as the program's text lays them. The row, and its tied card. -/
import Derived.Test.YtciknejchglmoaaDoorKo
import Derived.Test.YtciknejchglmoaaDoorCards
import Derived.Test.YtciknejchglmoaaDoorTie
import Derived.SevenTiedAt
import Derived.OpenShut
import Derived.Carry
import Derived.SizedLaws
namespace Go.Proofs.YtciknejchglmoaaDoor
open Go.RowKit

set_option maxHeartbeats 4000000 in
set_option maxRecDepth 100000 in
theorem bookShapes_walk (n0 : Int) (W : World) (hG : GF W) (hT : GT W) :
    Calls Tryd.prog 3 #[.int .i64 n0] W fun e W' => e = .returned (.bool true) ∧ Below W.heap.size W W' := by
  by_cases h : n0 < 0 ∨ 8 ≤ n0
  · have HN := Lib.hid h; clear h
    go_enter Tryd.func3, Tryd.ntmps3
    have b := Below.refl W.heap.size W
    replace hG := hG.below b
    replace hT := hT.below b
    have BX := b; clear b
    go_wp2_with fail
    refine (shape_no _ _ HN.out).mono ?_
    rintro e w1 ⟨rfl, rfl⟩
    go_wp2_with fail
    refine (rshape_no _ _ HN.out).mono ?_
    rintro e w2 ⟨rfl, rfl⟩
    go_wp2_with fail
    refine (blengths_no _ _ HN.out).mono ?_
    rintro e w3 ⟨rfl, rfl⟩
    go_wp2_with fail
    refine (rlen17_no _ _ HN.out).mono ?_
    rintro e w4 ⟨rfl, rfl⟩
    go_wp2_with fail
    refine (same17_any none none 0 0 [] [] _ (sl_nil _) (sl_nil _)).mono ?_
    rw [show sameL ([] : List Int) [] = true from rfl]
    rintro e w5 ⟨rfl, b⟩
    replace hG := hG.below b
    replace hT := hT.below b
    replace BX := below2 BX b; clear b
    go_wp2_with fail
    refine (awake17_any _ hG hT).mono ?_
    rintro e w6 ⟨rfl, b⟩
    replace hG := hG.below b
    replace hT := hT.below b
    replace BX := below2 BX b; clear b
    go_wp2_with fail
    go_ret
    exact ⟨rfl, BX⟩
  · obtain ⟨n, rfl⟩ : ∃ n : Nat, n0 = (n : Int) := ⟨n0.toNat, by omega⟩
    have HN := Lib.hid (show n < 8 by omega); clear h
    go_enter Tryd.func3, Tryd.ntmps3
    go_wp2_with fail
    refine (shape_ok _ _ hG HN.out).mono ?_
    rintro e w1 ⟨rfl, b⟩
    replace hG := hG.below b
    replace hT := hT.below b
    have BX := b; clear b
    go_wp2_with fail
    refine (rshape_ok _ _ HN.out).mono ?_
    rintro e w2 ⟨rfl, b⟩
    replace hG := hG.below b
    replace hT := hT.below b
    replace BX := below2 BX b; clear b
    go_wp2_with fail
    refine (blengths_ok _ _ hT HN.out).mono ?_
    rintro e w3 ⟨v3, rfl, O3, b⟩
    replace hG := hG.below b
    replace hT := hT.below b
    replace BX := below2 BX b; clear b
    obtain ⟨A5, c5, rfl, H5⟩ := own_ri O3; clear O3
    go_wp2_with fail
    refine (rlen17_ok _ _ HN.out).mono ?_
    rintro e w4 ⟨A6, c6, rfl, h6, b⟩
    replace hG := hG.below b
    replace hT := hT.below b
    replace H5 := H5.below b
    replace BX := below2 BX b; clear b
    have H6 := h6.any; clear h6
    go_wp2_with fail
    refine (same17_any A5 A6 c5 c6 (tabKI n) (tabKI n) _ H5 H6).mono ?_
    rw [show sameL (tabKI n) (tabKI n) = true by simp [sameL]]
    rintro e w5 ⟨rfl, b⟩
    replace hG := hG.below b
    replace hT := hT.below b
    replace H5 := H5.below b
    replace H6 := H6.below b
    replace BX := below2 BX b; clear b
    go_wp2_with fail
    refine (awake17_any _ hG hT).mono ?_
    rintro e w6 ⟨rfl, b⟩
    replace hG := hG.below b
    replace hT := hT.below b
    replace H5 := H5.below b
    replace H6 := H6.below b
    replace BX := below2 BX b; clear b
    go_wp2_with fail
    go_ret
    exact ⟨rfl, BX⟩
end Go.Proofs.YtciknejchglmoaaDoor

namespace Go.Proofs.YtciknejchglmoaaDoor
open Go.ChangeShapes Go.WideShapes Go.ChangeAt Go.WideMaps Go.WideElems Go.RowKit Go.Deep

theorem laidOut_bookShapes : laidOutB Tryd.prog = true := by kernel_rfl
set_option maxRecDepth 100000 in
theorem lifted_bookShapes (os : Os) (started : os.Started) (H : Type) (enc : TypeId × Value → H) :
    ReturnsInHanded {} Tryd.checked os 3 .any (fun w args => (Rows.bookShapesSpec.pre enc Tryd.prog Tryd.f3 [] false w args ∧ laidMetH Tryd.prog laidBk w) ∧ sizedMet enc Tryd.prog Tryd.f3 (OpenSpec.ofChange Rows.bookShapesSpec) false w args)
      (Rows.bookShapesSpec.post enc Tryd.prog Tryd.f3 false true false false) := by
  refine returnsInHanded_of_change_and (C := Tryd.checked) (X := fun w _ => laidMetH Tryd.prog laidBk w) (fun _ _ _ hh h => h.of_heap hh) ownBk started (by kernel_rfl) Tryd.func3
    (ChangeSpec.witness_shaped (enc := enc) (C := Tryd.checked) (os := os) (X := fun w _ => laidMetH Tryd.prog laidBk w) false (World.doorLaid Tryd.prog 400 os) #[.int .i64 0] 8 rfl (World.shaped_of_RefB (by kernel_rfl) (by kernel_rfl)) (by kernel_rfl) (by kernel_rfl) (by kernel_rfl) (door_bk os _)) ?_
  intro W base args ds gs before hval0 hW _ hsz0 hL _
  obtain ⟨hG, hT⟩ := gf_of_laid hL
  have hval : ∀ (j : Nat) t v, Tryd.f3.params[j]? = some t → args[j]? = some v → Value.okWide Tryd.prog W .any base t v := hval0
  have hW' := hW
  obtain ⟨p, q, hA0, hV, rfl, hfz, hnd⟩ := hW
  have hA : DataW.TrodAll enc Tryd.prog W 0 (fun _ => true) true Tryd.f3.params.toList args.toList ds p := hA0
  have hsz : (DataW.weightsEach Tryd.prog (Tryd.f3.params.toList ++ Rows.bookShapesSpec.plain.varTypes Tryd.prog) (ds ++ gs)).all (· ≤ reachBytes) = true := hsz0
  rw [Tryd.params3] at hA hval hsz
  obtain ⟨v0, vs0, d0, ds0, p0, q0, hargs, rfl, rfl, h0, r0⟩ := trodAll_cons hA
  obtain ⟨rfl, rfl, rfl⟩ := trodAll_nil r0
  obtain rfl : args = #[v0] := by cases args; simp_all
  obtain ⟨rfl, rfl⟩ := trodVars_none hV
  have lt0 : ∀ x ∈ p0, x.block < W.heap.size := by obtain ⟨m, hm⟩ := h0; exact DataW.trod_lt m _ _ _ hm
  have y0 : ∀ m ∈ d0.weights Tryd.prog 3, m ≤ reachBytes := fun m hm => of_decide_eq_true (List.all_eq_true.1 hsz m (DataW.weights_mem_each (j := 0) rfl rfl m hm))
  obtain ⟨a0, rfl, _, _, w0⟩ := open_int Tryd.underlying3 (hval 0 3 v0 rfl rfl) h0
  have hwalk := bookShapes_walk a0 W hG hT 
  refine hwalk.mono fun e W' ⟨he, bel⟩ => ?_
  subst he
  exact ⟨_, rfl, _, _, _, [], _, [], hW', trodAll_mk1 (shut_bool Tryd.underlying4 _), (trodAll_cons_mk (Below.trod laidOut_bookShapes (by kernel_rfl) (of_decide_eq_true (by kernel_rfl)) h0 bel lt0) trodAll_mk0), rfl, bel.frame _, fun h => by cases h⟩
theorem bookShapes_said : Rows.BookShapesSaid :=
  OpenClaim.holds_of_wide 3 Tryd.f3 rfl rfl rfl rfl rfl rfl rfl ⟨rfl, rfl, rfl, rfl, rfl⟩ rfl rfl rfl rfl rfl (by kernel_rfl) Tryd.func3 (by kernel_rfl)
    (of_decide_eq_true (by kernel_rfl)) (by unfold Func.isWrapper; first | (rw [if_pos (by decide +kernel)]; kernel_rfl) | (rw [if_neg (by decide +kernel)]; exact ⟨rfl, rfl⟩))
    (fun os started H enc _ => lifted_bookShapes os started H enc)
theorem bookShapes_card : Rows.BookShapesCardSaid :=
  Claim7.holds_tied_plain_at .later [] [.wider, .data] true Rows.bookShapesCard.stood.harness false
    bookShapes_said (fun _ h => by cases h) (by kernel_rfl) (fun _ h => by cases h) bookShapes_row_tie rfl ⟨rfl, rfl⟩ (by kernel_rfl) rfl
    (fun f fn hf hfn => by
      obtain rfl : f = 3 := Option.some.inj ((show Tryd.prog.funcNamed "shawm/shawmlaw17.BookShapes" = some 3 by kernel_rfl).symm.trans hf) |>.symm
      obtain rfl : fn = Tryd.f3 := (Option.some.inj (Tryd.func3.symm.trans hfn)).symm
      exact ⟨by kernel_rfl, fun j t ht => by
        rw [Tryd.params3] at ht
        have hm : t ∈ [3] := by simpa using Array.mem_of_getElem? ht
        have hall : ([3].all fun u => !Tryd.prog.wantsStandIn u) = true := by kernel_rfl
        exact (show Tryd.prog.wantsStandIn t = false by simpa using List.all_eq_true.1 hall t hm)⟩)
    (by kernel_rfl)
#print axioms bookShapes_card
end Go.Proofs.YtciknejchglmoaaDoor
