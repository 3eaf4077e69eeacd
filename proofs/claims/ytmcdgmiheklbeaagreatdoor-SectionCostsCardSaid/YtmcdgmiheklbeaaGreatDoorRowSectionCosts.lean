/- The law SectionCosts of layer 18 (section): it returns true for every input, at every world in which book's two tables read as the program's text lays them. The row, and its tied card. -/
import Derived.Test.YtmcdgmiheklbeaaGreatDoorKm
import Derived.Test.YtmcdgmiheklbeaaGreatDoorKl
import Derived.Test.YtmcdgmiheklbeaaGreatDoorKn
import Derived.Test.YtmcdgmiheklbeaaGreatDoorCards
import Derived.Test.YtmcdgmiheklbeaaGreatDoorTie
import Derived.SevenTiedAt
import Derived.OpenShut
import Derived.Carry
import Derived.SizedLaws
namespace Go.Proofs.YtmcdgmiheklbeaaGreatDoor
open Go.RowKit

set_option maxHeartbeats 8000000 in
set_option maxRecDepth 100000 in
theorem sectionCosts_walk (Aw : Option Addr) (cw : Nat) (ws : List Int) (Al : Option Addr) (cl : Nat) (l : List Int) (As : Option Addr) (cs : Nat) (s : List (Int × Int)) (W : World) (hG : GF W) (hT : GT W) (hRw : RI W Aw cw ws) (hRl : RI W Al cl l) (hRs : RS W As cs s) :
    Calls Tryz.prog 3 #[.agg #[.slice Aw ws.length cw, .slice Al l.length cl, .slice As s.length cs]] W fun e W' => e = .returned (.bool true) ∧ Below W.heap.size W W' := by
  have hb2 := below_alloc (Below.refl W.heap.size W) (.cells #[.slice Aw ws.length cw, .slice Al l.length cl, .slice As s.length cs] 25)
  have B3 : Blk (W.alloc (.cells #[.slice Aw ws.length cw, .slice Al l.length cl, .slice As s.length cs] 25)) W.heap.size #[.slice Aw ws.length cw, .slice Al l.length cl, .slice As s.length cs] 25 := heap_alloc_new W _
  obtain ⟨g3, hg3⟩ : ∃ g3, W.heap.size = g3 := ⟨_, rfl⟩
  obtain ⟨Wb, hWb⟩ : ∃ Wb, W.alloc (.cells #[.slice Aw ws.length cw, .slice Al l.length cl, .slice As s.length cs] 25) = Wb := ⟨_, rfl⟩
  rw [hWb] at hb2 B3
  rw [hg3] at B3
  have HBA := Lib.hid hb2
  have HBY := Lib.hid B3
  have HS0 := Lib.hid ((GS.of hG hT).below HBA.out)
  have HRW := Lib.hid (hRw.below hb2)
  have HRL := Lib.hid (hRl.below hb2)
  have HRS := Lib.hid (hRs.below hb2)
  have y0 := B3.cell 0 rfl
  have y1 := B3.cell 1 rfl
  have y2 := B3.cell 2 rfl
  clear hG hT hRw hRl hRs hb2 B3
  cases hfew : few18B ws.length l.length s.length
  · have HFW := Lib.hid hfew; clear hfew
    go_enter Tryz.func3, Tryz.ntmps3
    go_upto_region 1 with fail
    try simp only [hWb, hg3]
    clear hWb hg3
    have hS := HS0.out
    have BX := HBA.out
    go_wp2_with fail
    refine (few18_any Aw Al As ws.length cw l.length cl s.length cs _).mono ?_
    rw [HFW.out]
    rintro e w1 ⟨rfl, b⟩
    replace BX := below2 BX b
    have PC := HBY.out.below b
    have rW := HRW.out.below b
    have rL := HRL.out.below b
    have rS := HRS.out.below b
    replace hS := hS.below b
    clear b y0 y1 y2
    have y0 := PC.cell 0 rfl
    have y1 := PC.cell 1 rfl
    have y2 := PC.cell 2 rfl
    go_wp2_with fail
    refine (awake18_any _ hS.f hS.t).mono ?_
    rintro e w9 ⟨rfl, b⟩
    replace BX := below2 BX b
    clear b
    go_wp2_with fail
    go_ret
    exact ⟨rfl, BX⟩
  · have HFW := Lib.hid hfew
    have hfd : ws.length ≤ 140 ∧ l.length ≤ 600 ∧ s.length ≤ 200 := by
      unfold few18B at hfew
      rw [Bool.and_eq_true, Bool.and_eq_true, decide_eq_true_eq, decide_eq_true_eq, decide_eq_true_eq] at hfew
      exact ⟨hfew.1.1, hfew.1.2, hfew.2⟩
    have HFD := Lib.hid hfd
    clear hfew hfd
    go_enter Tryz.func3, Tryz.ntmps3
    go_upto_region 1 with fail
    try simp only [hWb, hg3]
    clear hWb hg3
    have hS := HS0.out
    have BX := HBA.out
    go_wp2_with fail
    refine (few18_any Aw Al As ws.length cw l.length cl s.length cs _).mono ?_
    rw [HFW.out]
    rintro e w1 ⟨rfl, b⟩
    replace BX := below2 BX b
    have PC := HBY.out.below b
    have rW := HRW.out.below b
    have rL := HRL.out.below b
    have rS := HRS.out.below b
    replace hS := hS.below b
    clear b y0 y1 y2
    have y0 := PC.cell 0 rfl
    have y1 := PC.cell 1 rfl
    have y2 := PC.cell 2 rfl
    go_wp2_with fail
    refine (sCost_any Aw Al As cw cl cs ws l s _ rW rL rS hS.f hS.t (by have := HFD.out; omega)).mono ?_
    rintro e w2 ⟨rfl, b⟩
    replace BX := below2 BX b; replace PC := PC.below b; replace rW := rW.below b; replace rL := rL.below b; replace rS := rS.below b; replace hS := hS.below b; clear b y0 y1 y2
    have y0 := PC.cell 0 rfl
    have y1 := PC.cell 1 rfl
    have y2 := PC.cell 2 rfl
    go_wp2_with fail
    refine (rCost18_any Aw Al As cw cl cs ws l s _ rW rL rS (by have := HFD.out; omega)).mono ?_
    rintro e w3 ⟨rfl, b⟩
    replace BX := below2 BX b; replace PC := PC.below b; replace rW := rW.below b; replace rL := rL.below b; replace rS := rS.below b; replace hS := hS.below b; clear b y0 y1 y2
    have y0 := PC.cell 0 rfl
    have y1 := PC.cell 1 rfl
    have y2 := PC.cell 2 rfl
    generalize costQ ws l s = Z at *
    have hz1 : (Z.1 == Z.1) = true := by simp
    have hz2 : (Z.2 == Z.2) = true := by simp
    go_wp2_with fail
    refine (awake18_any _ hS.f hS.t).mono ?_
    rintro e w9 ⟨rfl, b⟩
    replace BX := below2 BX b
    clear b
    go_wp2_with fail
    go_ret
    exact ⟨rfl, BX⟩
end Go.Proofs.YtmcdgmiheklbeaaGreatDoor

namespace Go.Proofs.YtmcdgmiheklbeaaGreatDoor
open Go.ChangeShapes Go.WideShapes Go.ChangeAt Go.WideMaps Go.WideElems Go.RowKit Go.Deep

theorem laidOut_sectionCosts : laidOutB Tryz.prog = true := by kernel_rfl
set_option maxRecDepth 100000 in
theorem lifted_sectionCosts (os : Os) (started : os.Started) (H : Type) (enc : TypeId × Value → H) :
    ReturnsInHanded {} Tryz.checked os 3 .any (fun w args => (Rows.sectionCostsSpec.pre enc Tryz.prog Tryz.f3 [] false w args ∧ laidMetH Tryz.prog laidBk w) ∧ sizedMet enc Tryz.prog Tryz.f3 (OpenSpec.ofChange Rows.sectionCostsSpec) false w args)
      (Rows.sectionCostsSpec.post enc Tryz.prog Tryz.f3 false true false false) := by
  refine returnsInHanded_of_change_and (C := Tryz.checked) (X := fun w _ => laidMetH Tryz.prog laidBk w) (fun _ _ _ hh h => h.of_heap hh) ownBk started (by kernel_rfl) Tryz.func3
    (ChangeSpec.witness_shaped (enc := enc) (C := Tryz.checked) (os := os) (X := fun w _ => laidMetH Tryz.prog laidBk w) false (World.doorLaid Tryz.prog 400 os) #[.agg #[.slice none 0 0, .slice none 0 0, .slice none 0 0]] 8 rfl (World.shaped_of_RefB (by kernel_rfl) (by kernel_rfl)) (by kernel_rfl) (by kernel_rfl) (by kernel_rfl) (door_bk os _)) ?_
  intro W base args ds gs before hval0 hW _ hsz0 hL _
  obtain ⟨hG, hT⟩ := gf_of_laid hL
  have hval : ∀ (j : Nat) t v, Tryz.f3.params[j]? = some t → args[j]? = some v → Value.okWide Tryz.prog W .any base t v := hval0
  have hW' := hW
  obtain ⟨p, q, hA0, hV, rfl, hfz, hnd⟩ := hW
  have hA : DataW.TrodAll enc Tryz.prog W 0 (fun _ => true) true Tryz.f3.params.toList args.toList ds p := hA0
  have hsz : (DataW.weightsEach Tryz.prog (Tryz.f3.params.toList ++ Rows.sectionCostsSpec.plain.varTypes Tryz.prog) (ds ++ gs)).all (· ≤ reachBytes) = true := hsz0
  rw [Tryz.params3] at hA hval hsz
  obtain ⟨v0, vs0, d0, ds0, p0, q0, hargs, rfl, rfl, h0, r0⟩ := trodAll_cons hA
  obtain ⟨rfl, rfl, rfl⟩ := trodAll_nil r0
  obtain rfl : args = #[v0] := by cases args; simp_all
  obtain ⟨rfl, rfl⟩ := trodVars_none hV
  have lt0 : ∀ x ∈ p0, x.block < W.heap.size := by obtain ⟨m, hm⟩ := h0; exact DataW.trod_lt m _ _ _ hm
  have y0 : ∀ m ∈ d0.weights Tryz.prog 25, m ≤ reachBytes := fun m hm => of_decide_eq_true (List.all_eq_true.1 hsz m (DataW.weights_mem_each (j := 0) rfl rfl m hm))
  obtain ⟨A0, c0, s0, A0b, c0b, s0b, A0c, c0c, s0c, rfl, hR0, hQ0, hP0⟩ := open_C (hval 0 25 v0 rfl rfl) h0
  have hwalk := sectionCosts_walk A0 c0 s0 A0b c0b s0b A0c c0c s0c W hG hT hR0 hQ0 hP0
  refine hwalk.mono fun e W' ⟨he, bel⟩ => ?_
  subst he
  exact ⟨_, rfl, _, _, _, [], _, [], hW', trodAll_mk1 (shut_bool Tryz.underlying4 _), (trodAll_cons_mk (Below.trod laidOut_sectionCosts (by kernel_rfl) (of_decide_eq_true (by kernel_rfl)) h0 bel lt0) trodAll_mk0), rfl, bel.frame _, fun h => by cases h⟩
theorem sectionCosts_said : Rows.SectionCostsSaid :=
  OpenClaim.holds_of_wide 3 Tryz.f3 rfl rfl rfl rfl rfl rfl rfl ⟨rfl, rfl, rfl, rfl, rfl⟩ rfl rfl rfl rfl rfl (by kernel_rfl) Tryz.func3 (by kernel_rfl)
    (of_decide_eq_true (by kernel_rfl)) (by unfold Func.isWrapper; first | (rw [if_pos (by decide +kernel)]; kernel_rfl) | (rw [if_neg (by decide +kernel)]; exact ⟨rfl, rfl⟩))
    (fun os started H enc _ => lifted_sectionCosts os started H enc)
theorem sectionCosts_card : Rows.SectionCostsCardSaid :=
  Claim7.holds_tied_plain_at .later [] [.wider, .data] true Rows.sectionCostsCard.stood.harness false
    sectionCosts_said (fun _ h => by cases h) (by kernel_rfl) (fun _ h => by cases h) sectionCosts_row_tie rfl ⟨rfl, rfl⟩ (by kernel_rfl) rfl
    (fun f fn hf hfn => by
      obtain rfl : f = 3 := Option.some.inj ((show Tryz.prog.funcNamed "shawm/shawmlaw18.SectionCosts" = some 3 by kernel_rfl).symm.trans hf) |>.symm
      obtain rfl : fn = Tryz.f3 := (Option.some.inj (Tryz.func3.symm.trans hfn)).symm
      exact ⟨by kernel_rfl, fun j t ht => by
        rw [Tryz.params3] at ht
        have hm : t ∈ [25] := by simpa using Array.mem_of_getElem? ht
        have hall : ([25].all fun u => !Tryz.prog.wantsStandIn u) = true := by kernel_rfl
        exact (show Tryz.prog.wantsStandIn t = false by simpa using List.all_eq_true.1 hall t hm)⟩)
    (by kernel_rfl)
#print axioms sectionCosts_card
end Go.Proofs.YtmcdgmiheklbeaaGreatDoor
