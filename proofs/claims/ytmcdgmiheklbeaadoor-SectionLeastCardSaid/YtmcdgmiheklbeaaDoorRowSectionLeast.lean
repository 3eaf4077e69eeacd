/- The law SectionLeast of layer 18 (section): it returns true for every input, at every world in which book's two tables read as the program's text lays them. The row, and its tied card. -/
import Derived.Test.YtmcdgmiheklbeaaDoorKk
import Derived.Test.YtmcdgmiheklbeaaDoorKj
import Derived.Test.YtmcdgmiheklbeaaDoorKn
import Derived.Test.YtmcdgmiheklbeaaDoorCards
import Derived.Test.YtmcdgmiheklbeaaDoorTie
import Derived.SevenTiedAt
import Derived.OpenShut
import Derived.Carry
import Derived.SizedLaws
namespace Go.Proofs.YtmcdgmiheklbeaaDoor
open Go.RowKit

set_option maxHeartbeats 8000000 in
set_option maxRecDepth 100000 in
theorem sectionLeast_walk (Aw : Option Addr) (cw : Nat) (ws : List Int) (Al : Option Addr) (cl : Nat) (l : List Int) (As : Option Addr) (cs : Nat) (s : List (Int × Int)) (W : World) (hG : GF W) (hT : GT W) (hRw : RI W Aw cw ws) (hRl : RI W Al cl l) (hRs : RS W As cs s) :
    Calls Tryd.prog 6 #[.agg #[.slice Aw ws.length cw, .slice Al l.length cl, .slice As s.length cs]] W fun e W' => e = .returned (.bool true) ∧ Below W.heap.size W W' := by
  have hb2 := below_alloc (Below.refl W.heap.size W) (.cells #[.slice Aw ws.length cw, .slice Al l.length cl, .slice As s.length cs] 51)
  have B3 : Blk (W.alloc (.cells #[.slice Aw ws.length cw, .slice Al l.length cl, .slice As s.length cs] 51)) W.heap.size #[.slice Aw ws.length cw, .slice Al l.length cl, .slice As s.length cs] 51 := heap_alloc_new W _
  obtain ⟨g3, hg3⟩ : ∃ g3, W.heap.size = g3 := ⟨_, rfl⟩
  obtain ⟨Wb, hWb⟩ : ∃ Wb, W.alloc (.cells #[.slice Aw ws.length cw, .slice Al l.length cl, .slice As s.length cs] 51) = Wb := ⟨_, rfl⟩
  rw [hWb] at hb2 B3
  rw [hg3] at B3
  have HBA := Lib.hid hb2
  have HBY := Lib.hid B3
  have HS0 := Lib.hid ((GS.of hG hT).below HBA.out)
  have HRW := Lib.hid (hRw.below hb2)
  have HRL := Lib.hid (hRl.below hb2)
  have HRS := Lib.hid (hRs.below hb2)
  have HPL := Lib.hid (least_facts18 ws l s)
  have y0 := B3.cell 0 rfl
  have y1 := B3.cell 1 rfl
  have y2 := B3.cell 2 rfl
  clear hG hT hRw hRl hRs hb2 B3
  cases hfew : few18B ws.length l.length s.length
  · have HFW := Lib.hid hfew; clear hfew
    go_enter Tryd.func6, Tryd.ntmps6
    go_upto_region 1 with fail
    try simp only [hWb, hg3]
    clear hWb hg3
    have hS := HS0.out
    have BX := HBA.out
    go_wp2_with fail
    refine (few18_any Aw Al As ws.length cw l.length cl s.length cs _).mono ?_
    rw [HFW.out]
    rintro e w1 ⟨rfl, b⟩
    replace BX := below2 BX b
    have PC := HBY.out.below b
    have rW := HRW.out.below b
    have rL := HRL.out.below b
    have rS := HRS.out.below b
    replace hS := hS.below b
    clear b y0 y1 y2
    have y0 := PC.cell 0 rfl
    have y1 := PC.cell 1 rfl
    have y2 := PC.cell 2 rfl
    go_wp2_with fail
    refine (awake18_any _ hS.f hS.t).mono ?_
    rintro e w9 ⟨rfl, b⟩
    replace BX := below2 BX b
    clear b
    go_wp2_with fail
    go_ret
    exact ⟨rfl, BX⟩
  · have HFW := Lib.hid hfew
    have hfd : ws.length ≤ 140 ∧ l.length ≤ 600 ∧ s.length ≤ 200 := by
      unfold few18B at hfew
      rw [Bool.and_eq_true, Bool.and_eq_true, decide_eq_true_eq, decide_eq_true_eq, decide_eq_true_eq] at hfew
      exact ⟨hfew.1.1, hfew.1.2, hfew.2⟩
    have HFD := Lib.hid hfd
    clear hfew hfd
    go_enter Tryd.func6, Tryd.ntmps6
    go_upto_region 1 with fail
    try simp only [hWb, hg3]
    clear hWb hg3
    have hS := HS0.out
    have BX := HBA.out
    go_wp2_with fail
    refine (few18_any Aw Al As ws.length cw l.length cl s.length cs _).mono ?_
    rw [HFW.out]
    rintro e w1 ⟨rfl, b⟩
    replace BX := below2 BX b
    have PC := HBY.out.below b
    have rW := HRW.out.below b
    have rL := HRL.out.below b
    have rS := HRS.out.below b
    replace hS := hS.below b
    clear b y0 y1 y2
    have y0 := PC.cell 0 rfl
    have y1 := PC.cell 1 rfl
    have y2 := PC.cell 2 rfl
    go_wp2_with fail
    refine (sChoose_any Aw Al cw cl ws l _ rW rL hS.f hS.t (by have := HFD.out; omega)).mono ?_
    rintro e w2 ⟨Ac, ac, rfl, hsc, b⟩
    have rC := hsc.any
    clear hsc
    replace BX := below2 BX b; replace PC := PC.below b; replace rW := rW.below b; replace rL := rL.below b; replace rS := rS.below b; replace hS := hS.below b; clear b y0 y1 y2
    have y0 := PC.cell 0 rfl
    have y1 := PC.cell 1 rfl
    have y2 := PC.cell 2 rfl
    obtain ⟨cS, hcS⟩ : ∃ cS, (chooseR ws l).1 = cS := ⟨_, rfl⟩
    obtain ⟨cC, hcC⟩ : ∃ cC, (chooseR ws l).2.1 = cC := ⟨_, rfl⟩
    obtain ⟨cE, hcE⟩ : ∃ cE, (chooseR ws l).2.2 = cE := ⟨_, rfl⟩
    rw [hcS, hcC, hcE] at HPL
    rw [hcS] at rC
    rw [hcS, hcC, hcE]
    clear hcS hcC hcE
    by_cases hE : cE = 0
    · subst hE
      obtain ⟨hF1, hF2⟩ := HPL.out.2 rfl
      have HF1 := Lib.hid hF1
      have HF2 := Lib.hid hF2
      clear HPL hF1 hF2
      have hcc : (cC != cC) = false := by simp
      go_wp2_with fail
      refine (sCost_any Aw Al Ac cw cl ac ws l cS _ rW rL rC hS.f hS.t (by have := HFD.out; omega)).mono ?_
      rw [HF1.out]
      rintro e w3 ⟨rfl, b⟩
      replace BX := below2 BX b; replace PC := PC.below b; replace rW := rW.below b; replace rL := rL.below b; replace rS := rS.below b; replace hS := hS.below b; clear b y0 y1 y2
      have y0 := PC.cell 0 rfl
      have y1 := PC.cell 1 rfl
      have y2 := PC.cell 2 rfl
      go_wp2_with fail
      refine (sCost_any Aw Al As cw cl cs ws l s _ rW rL rS hS.f hS.t (by have := HFD.out; omega)).mono ?_
      rintro e w4 ⟨rfl, b⟩
      replace BX := below2 BX b; replace PC := PC.below b; replace rW := rW.below b; replace rL := rL.below b; replace rS := rS.below b; replace hS := hS.below b; clear b y0 y1 y2
      have y0 := PC.cell 0 rfl
      have y1 := PC.cell 1 rfl
      have y2 := PC.cell 2 rfl
      obtain ⟨nC, hnC⟩ : ∃ nC, (costQ ws l s).1 = nC := ⟨_, rfl⟩
      obtain ⟨nE, hnE⟩ : ∃ nE, (costQ ws l s).2 = nE := ⟨_, rfl⟩
      rw [hnC, hnE] at HF2
      rw [hnC, hnE]
      clear hnC hnE
      by_cases hn : nE = 0
      · subst hn
        have hle := HF2.out rfl
        have hge : decide (cC ≤ nC) = true := decide_eq_true hle
        go_wp2_with fail
        refine (awake18_any _ hS.f hS.t).mono ?_
        rintro e w9 ⟨rfl, b⟩
        replace BX := below2 BX b
        clear b
        go_wp2_with fail
        go_ret
        exact ⟨rfl, BX⟩
      · have hnb : (nE != 0) = true := by simp [hn]
        go_wp2_with fail
        refine (awake18_any _ hS.f hS.t).mono ?_
        rintro e w9 ⟨rfl, b⟩
        replace BX := below2 BX b
        clear b
        go_wp2_with fail
        go_ret
        exact ⟨rfl, BX⟩
    · have hEb : (cE != 0) = true := by simp [hE]
      obtain ⟨hF1, hF2⟩ := HPL.out.1 hE
      rw [hF1, hF2]
      clear HPL hF1 hF2
      go_wp2_with fail
      refine (awake18_any _ hS.f hS.t).mono ?_
      rintro e w9 ⟨rfl, b⟩
      replace BX := below2 BX b
      clear b
      go_wp2_with fail
      go_ret
      exact ⟨rfl, BX⟩
end Go.Proofs.YtmcdgmiheklbeaaDoor

namespace Go.Proofs.YtmcdgmiheklbeaaDoor
open Go.ChangeShapes Go.WideShapes Go.ChangeAt Go.WideMaps Go.WideElems Go.RowKit Go.Deep

theorem laidOut_sectionLeast : laidOutB Tryd.prog = true := by kernel_rfl
set_option maxRecDepth 100000 in
theorem lifted_sectionLeast (os : Os) (started : os.Started) (H : Type) (enc : TypeId × Value → H) :
    ReturnsInHanded {} Tryd.checked os 6 .any (fun w args => (Rows.sectionLeastSpec.pre enc Tryd.prog Tryd.f6 [] false w args ∧ laidMetH Tryd.prog laidBk w) ∧ sizedMet enc Tryd.prog Tryd.f6 (OpenSpec.ofChange Rows.sectionLeastSpec) false w args)
      (Rows.sectionLeastSpec.post enc Tryd.prog Tryd.f6 false true false false) := by
  refine returnsInHanded_of_change_and (C := Tryd.checked) (X := fun w _ => laidMetH Tryd.prog laidBk w) (fun _ _ _ hh h => h.of_heap hh) ownBk started (by kernel_rfl) Tryd.func6
    (ChangeSpec.witness_shaped (enc := enc) (C := Tryd.checked) (os := os) (X := fun w _ => laidMetH Tryd.prog laidBk w) false (World.doorLaid Tryd.prog 400 os) #[.agg #[.slice none 0 0, .slice none 0 0, .slice none 0 0]] 8 rfl (World.shaped_of_RefB (by kernel_rfl) (by kernel_rfl)) (by kernel_rfl) (by kernel_rfl) (by kernel_rfl) (door_bk os _)) ?_
  intro W base args ds gs before hval0 hW _ hsz0 hL _
  obtain ⟨hG, hT⟩ := gf_of_laid hL
  have hval : ∀ (j : Nat) t v, Tryd.f6.params[j]? = some t → args[j]? = some v → Value.okWide Tryd.prog W .any base t v := hval0
  have hW' := hW
  obtain ⟨p, q, hA0, hV, rfl, hfz, hnd⟩ := hW
  have hA : DataW.TrodAll enc Tryd.prog W 0 (fun _ => true) true Tryd.f6.params.toList args.toList ds p := hA0
  have hsz : (DataW.weightsEach Tryd.prog (Tryd.f6.params.toList ++ Rows.sectionLeastSpec.plain.varTypes Tryd.prog) (ds ++ gs)).all (· ≤ reachBytes) = true := hsz0
  rw [Tryd.params6] at hA hval hsz
  obtain ⟨v0, vs0, d0, ds0, p0, q0, hargs, rfl, rfl, h0, r0⟩ := trodAll_cons hA
  obtain ⟨rfl, rfl, rfl⟩ := trodAll_nil r0
  obtain rfl : args = #[v0] := by cases args; simp_all
  obtain ⟨rfl, rfl⟩ := trodVars_none hV
  have lt0 : ∀ x ∈ p0, x.block < W.heap.size := by obtain ⟨m, hm⟩ := h0; exact DataW.trod_lt m _ _ _ hm
  have y0 : ∀ m ∈ d0.weights Tryd.prog 51, m ≤ reachBytes := fun m hm => of_decide_eq_true (List.all_eq_true.1 hsz m (DataW.weights_mem_each (j := 0) rfl rfl m hm))
  obtain ⟨A0, c0, s0, A0b, c0b, s0b, A0c, c0c, s0c, rfl, hR0, hQ0, hP0⟩ := open_C (hval 0 51 v0 rfl rfl) h0
  have hwalk := sectionLeast_walk A0 c0 s0 A0b c0b s0b A0c c0c s0c W hG hT hR0 hQ0 hP0
  refine hwalk.mono fun e W' ⟨he, bel⟩ => ?_
  subst he
  exact ⟨_, rfl, _, _, _, [], _, [], hW', trodAll_mk1 (shut_bool Tryd.underlying4 _), (trodAll_cons_mk (Below.trod laidOut_sectionLeast (by kernel_rfl) (of_decide_eq_true (by kernel_rfl)) h0 bel lt0) trodAll_mk0), rfl, bel.frame _, fun h => by cases h⟩
theorem sectionLeast_said : Rows.SectionLeastSaid :=
  OpenClaim.holds_of_wide 6 Tryd.f6 rfl rfl rfl rfl rfl rfl rfl ⟨rfl, rfl, rfl, rfl, rfl⟩ rfl rfl rfl rfl rfl (by kernel_rfl) Tryd.func6 (by kernel_rfl)
    (of_decide_eq_true (by kernel_rfl)) (by unfold Func.isWrapper; first | (rw [if_pos (by decide +kernel)]; kernel_rfl) | (rw [if_neg (by decide +kernel)]; exact ⟨rfl, rfl⟩))
    (fun os started H enc _ => lifted_sectionLeast os started H enc)
theorem sectionLeast_card : Rows.SectionLeastCardSaid :=
  Claim7.holds_tied_plain_at .later [] [.wider, .data] true Rows.sectionLeastCard.stood.harness false
    sectionLeast_said (fun _ h => by cases h) (by kernel_rfl) (fun _ h => by cases h) sectionLeast_row_tie rfl ⟨rfl, rfl⟩ (by kernel_rfl) rfl
    (fun f fn hf hfn => by
      obtain rfl : f = 6 := Option.some.inj ((show Tryd.prog.funcNamed "shawm/shawmlaw18.SectionLeast" = some 6 by kernel_rfl).symm.trans hf) |>.symm
      obtain rfl : fn = Tryd.f6 := (Option.some.inj (Tryd.func6.symm.trans hfn)).symm
      exact ⟨by kernel_rfl, fun j t ht => by
        rw [Tryd.params6] at ht
        have hm : t ∈ [51] := by simpa using Array.mem_of_getElem? ht
        have hall : ([51].all fun u => !Tryd.prog.wantsStandIn u) = true := by kernel_rfl
        exact (show Tryd.prog.wantsStandIn t = false by simpa using List.all_eq_true.1 hall t hm)⟩)
    (by kernel_rfl)
#print axioms sectionLeast_card
end Go.Proofs.YtmcdgmiheklbeaaDoor
