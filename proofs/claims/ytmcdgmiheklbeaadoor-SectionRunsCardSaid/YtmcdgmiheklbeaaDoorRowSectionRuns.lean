/- The law SectionRuns of layer 18 (section): it returns true for every input, at every world in which book's two tables read as the program's text lays them. The row, and its tied card. -/
import Derived.Test.YtmcdgmiheklbeaaDoorKk
import Derived.Test.YtmcdgmiheklbeaaDoorCards
import Derived.Test.YtmcdgmiheklbeaaDoorTie
import Derived.SevenTiedAt
import Derived.OpenShut
import Derived.Carry
import Derived.SizedLaws
namespace Go.Proofs.YtmcdgmiheklbeaaDoor
open Go.RowKit

set_option maxHeartbeats 4000000 in
set_option maxRecDepth 100000 in
theorem sectionRuns_walk (A0 : Option Addr) (c0 : Nat) (s0 : List (Int × Int)) (A1 : Option Addr) (c1 : Nat) (l1 : List Int) (W : World) (hG : GF W) (hT : GT W) (hR0 : RS W A0 c0 s0) (hR1 : RI W A1 c1 l1) :
    Calls Tryd.prog 4 #[.slice A0 s0.length c0, .slice A1 l1.length c1] W fun e W' => e = .returned (.bool true) ∧ Below W.heap.size W W' := by
  have hS := GS.of hG hT
  have BX := Below.refl W.heap.size W
  clear hG hT
  by_cases hsm : s0.length ≤ 200 ∧ l1.length ≤ 200
  · have d1 : decide ((200 : Int) < (s0.length : Int)) = false := decide_eq_false (by omega)
    have d2 : decide ((200 : Int) < (l1.length : Int)) = false := decide_eq_false (by omega)
    clear hsm
    go_enter Tryd.func4, Tryd.ntmps4
    go_wp2_with fail
    refine (books_any A0 c0 s0 _ hR0).mono ?_
    rintro e w1 ⟨v1, rfl, hO, b⟩
    obtain ⟨B1, e1, rfl, h1⟩ := own_ri hO
    replace hR0 := hR0.below b; replace hR1 := hR1.below b; replace hS := hS.below b; replace BX := below2 BX b
    clear hO b
    go_wp2_with fail
    refine (rbooks_any A0 c0 s0 _ hR0).mono ?_
    rintro e w2 ⟨v2, rfl, hO, b⟩
    obtain ⟨B2, e2, rfl, h2⟩ := own_ri hO
    replace h1 := h1.below b; replace hR1 := hR1.below b; replace hS := hS.below b; replace BX := below2 BX b
    clear hO b
    go_wp2_with fail
    refine (runs_any A1 c1 l1 _ hR1).mono ?_
    rintro e w3 ⟨v3, rfl, hO, b⟩
    obtain ⟨B3, e3, rfl, h3⟩ := own_rs hO
    replace h3 := h3.any
    replace h1 := h1.below b; replace h2 := h2.below b; replace hR1 := hR1.below b; replace hS := hS.below b; replace BX := below2 BX b
    clear hO b
    go_wp2_with fail
    refine (rRuns_any A1 c1 l1 _ hR1).mono ?_
    rintro e w4 ⟨v4, rfl, hO, b⟩
    obtain ⟨B4, e4, rfl, h4⟩ := own_rs hO
    replace h4 := h4.any
    replace h1 := h1.below b; replace h2 := h2.below b; replace h3 := h3.below b; replace hR1 := hR1.below b; replace hS := hS.below b; replace BX := below2 BX b
    clear hO b
    have hee : (booksE s0 != booksE s0) = false := by simp
    have hrr : (runsE l1 != runsE l1) = false := by simp
    go_wp2_with fail
    refine (ints_ref B1 B2 e1 e2 _ _ _ h1 h2).mono ?_
    rintro e w5 ⟨rfl, b⟩
    rw [sameL_refl]
    replace h3 := h3.below b; replace h4 := h4.below b; replace hR1 := hR1.below b; replace hS := hS.below b; replace BX := below2 BX b
    clear b h1 h2
    go_wp2_with fail
    refine (rsame_any B3 B4 e3 e4 _ _ _ h3 h4).mono ?_
    rintro e w6 ⟨rfl, b⟩
    rw [sameS_refl]
    replace h3 := h3.below b; replace hR1 := hR1.below b; replace hS := hS.below b; replace BX := below2 BX b
    clear b h4
    by_cases he : runsE l1 = 0
    · have HBR := Lib.hid (books_runs he)
      rw [he]
      clear he hrr
      go_wp2_with fail
      refine (books_any B3 e3 _ _ h3).mono ?_
      rw [HBR.out.2.1, HBR.out.2.2]
      rintro e w7 ⟨v7, rfl, hO, b⟩
      obtain ⟨B7, e7, rfl, h7⟩ := own_ri hO
      replace hR1 := hR1.below b; replace hS := hS.below b; replace BX := below2 BX b
      clear hO b
      go_wp2_with fail
      refine (ints_ref B7 A1 e7 c1 l1 l1 _ h7 hR1).mono ?_
      rintro e w8 ⟨rfl, b⟩
      rw [sameL_refl]
      replace hS := hS.below b; replace BX := below2 BX b
      clear b
      go_wp2_with fail
      refine (awake18_any _ hS.f hS.t).mono ?_
      rintro e w9 ⟨rfl, b⟩
      replace BX := below2 BX b
      go_wp2_with fail
      go_ret
      exact ⟨rfl, BX⟩
    · have hne : (runsE l1 != 0) = true := by simp [he]
      go_wp2_with fail
      refine (awake18_any _ hS.f hS.t).mono ?_
      rintro e w9 ⟨rfl, b⟩
      replace BX := below2 BX b
      go_wp2_with fail
      go_ret
      exact ⟨rfl, BX⟩
  · by_cases h1 : 200 < s0.length
    · have d1 : decide ((200 : Int) < (s0.length : Int)) = true := decide_eq_true (by omega)
      clear hsm h1
      go_enter Tryd.func4, Tryd.ntmps4
      go_wp2_with fail
      refine (awake18_any _ hS.f hS.t).mono ?_
      rintro e w9 ⟨rfl, b⟩
      replace BX := below2 BX b
      go_wp2_with fail
      go_ret
      exact ⟨rfl, BX⟩
    · have d1 : decide ((200 : Int) < (s0.length : Int)) = false := decide_eq_false (by omega)
      have d2 : decide ((200 : Int) < (l1.length : Int)) = true := decide_eq_true (by omega)
      clear hsm h1
      go_enter Tryd.func4, Tryd.ntmps4
      go_wp2_with fail
      refine (awake18_any _ hS.f hS.t).mono ?_
      rintro e w9 ⟨rfl, b⟩
      replace BX := below2 BX b
      go_wp2_with fail
      go_ret
      exact ⟨rfl, BX⟩
end Go.Proofs.YtmcdgmiheklbeaaDoor

namespace Go.Proofs.YtmcdgmiheklbeaaDoor
open Go.ChangeShapes Go.WideShapes Go.ChangeAt Go.WideMaps Go.WideElems Go.RowKit Go.Deep

theorem laidOut_sectionRuns : laidOutB Tryd.prog = true := by kernel_rfl
set_option maxRecDepth 100000 in
theorem lifted_sectionRuns (os : Os) (started : os.Started) (H : Type) (enc : TypeId × Value → H) :
    ReturnsInHanded {} Tryd.checked os 4 .any (fun w args => (Rows.sectionRunsSpec.pre enc Tryd.prog Tryd.f4 [] false w args ∧ laidMetH Tryd.prog laidBk w) ∧ sizedMet enc Tryd.prog Tryd.f4 (OpenSpec.ofChange Rows.sectionRunsSpec) false w args)
      (Rows.sectionRunsSpec.post enc Tryd.prog Tryd.f4 false true false false) := by
  refine returnsInHanded_of_change_and (C := Tryd.checked) (X := fun w _ => laidMetH Tryd.prog laidBk w) (fun _ _ _ hh h => h.of_heap hh) ownBk started (by kernel_rfl) Tryd.func4
    (ChangeSpec.witness_shaped (enc := enc) (C := Tryd.checked) (os := os) (X := fun w _ => laidMetH Tryd.prog laidBk w) false (World.doorLaid Tryd.prog 400 os) #[.slice none 0 0, .slice none 0 0] 8 rfl (World.shaped_of_RefB (by kernel_rfl) (by kernel_rfl)) (by kernel_rfl) (by kernel_rfl) (by kernel_rfl) (door_bk os _)) ?_
  intro W base args ds gs before hval0 hW _ hsz0 hL _
  obtain ⟨hG, hT⟩ := gf_of_laid hL
  have hval : ∀ (j : Nat) t v, Tryd.f4.params[j]? = some t → args[j]? = some v → Value.okWide Tryd.prog W .any base t v := hval0
  have hW' := hW
  obtain ⟨p, q, hA0, hV, rfl, hfz, hnd⟩ := hW
  have hA : DataW.TrodAll enc Tryd.prog W 0 (fun _ => true) true Tryd.f4.params.toList args.toList ds p := hA0
  have hsz : (DataW.weightsEach Tryd.prog (Tryd.f4.params.toList ++ Rows.sectionRunsSpec.plain.varTypes Tryd.prog) (ds ++ gs)).all (· ≤ reachBytes) = true := hsz0
  rw [Tryd.params4] at hA hval hsz
  obtain ⟨v0, vs0, d0, ds0, p0, q0, hargs, rfl, rfl, h0, r0⟩ := trodAll_cons hA
  obtain ⟨v1, vs1, d1, ds1, p1, q1, rfl, rfl, rfl, h1, r1⟩ := trodAll_cons r0
  obtain ⟨rfl, rfl, rfl⟩ := trodAll_nil r1
  obtain rfl : args = #[v0, v1] := by cases args; simp_all
  obtain ⟨rfl, rfl⟩ := trodVars_none hV
  have lt0 : ∀ x ∈ p0, x.block < W.heap.size := by obtain ⟨m, hm⟩ := h0; exact DataW.trod_lt m _ _ _ hm
  have y0 : ∀ m ∈ d0.weights Tryd.prog 31, m ≤ reachBytes := fun m hm => of_decide_eq_true (List.all_eq_true.1 hsz m (DataW.weights_mem_each (j := 0) rfl rfl m hm))
  obtain ⟨B0, l0, e0, rfl⟩ := okWide_slice Tryd.underlying31 (hval 0 31 v0 rfl rfl)
  obtain ⟨A0, c0, s0, hv0, hR0⟩ : ∃ A c xs, Value.slice B0 l0 e0 = .slice A xs.length c ∧ RS W A c xs := by obtain ⟨fuel, hf⟩ := h0; exact open_S hf
  have lt1 : ∀ x ∈ p1, x.block < W.heap.size := by obtain ⟨m, hm⟩ := h1; exact DataW.trod_lt m _ _ _ hm
  have y1 : ∀ m ∈ d1.weights Tryd.prog 25, m ≤ reachBytes := fun m hm => of_decide_eq_true (List.all_eq_true.1 hsz m (DataW.weights_mem_each (j := 1) rfl rfl m hm))
  obtain ⟨B1, l1, e1, rfl⟩ := okWide_slice Tryd.underlying25 (hval 1 25 v1 rfl rfl)
  obtain ⟨A1, c1, s1, hv1, hR1, hB1⟩ : ∃ A c xs, Value.slice B1 l1 e1 = .slice A xs.length c ∧ RI W A c xs ∧ ((∀ m ∈ d1.weights Tryd.prog 25, m ≤ reachBytes) → xs.length ≤ 140737488355328) := by obtain ⟨fuel, hf⟩ := h1; exact open_I hf
  have hwalk := sectionRuns_walk A0 c0 s0 A1 c1 s1 W hG hT hR0 hR1
  rw [← hv0] at hwalk
  rw [← hv1] at hwalk
  refine hwalk.mono fun e W' ⟨he, bel⟩ => ?_
  subst he
  exact ⟨_, rfl, _, _, _, [], _, [], hW', trodAll_mk1 (shut_bool Tryd.underlying4 _), (trodAll_cons_mk (Below.trod laidOut_sectionRuns (by kernel_rfl) (of_decide_eq_true (by kernel_rfl)) h0 bel lt0) (trodAll_cons_mk (Below.trod laidOut_sectionRuns (by kernel_rfl) (of_decide_eq_true (by kernel_rfl)) h1 bel lt1) trodAll_mk0)), rfl, bel.frame _, fun h => by cases h⟩
theorem sectionRuns_said : Rows.SectionRunsSaid :=
  OpenClaim.holds_of_wide 4 Tryd.f4 rfl rfl rfl rfl rfl rfl rfl ⟨rfl, rfl, rfl, rfl, rfl⟩ rfl rfl rfl rfl rfl (by kernel_rfl) Tryd.func4 (by kernel_rfl)
    (of_decide_eq_true (by kernel_rfl)) (by unfold Func.isWrapper; first | (rw [if_pos (by decide +kernel)]; kernel_rfl) | (rw [if_neg (by decide +kernel)]; exact ⟨rfl, rfl⟩))
    (fun os started H enc _ => lifted_sectionRuns os started H enc)
theorem sectionRuns_card : Rows.SectionRunsCardSaid :=
  Claim7.holds_tied_plain_at .later [] [.wider, .data] true Rows.sectionRunsCard.stood.harness false
    sectionRuns_said (fun _ h => by cases h) (by kernel_rfl) (fun _ h => by cases h) sectionRuns_row_tie rfl ⟨rfl, rfl⟩ (by kernel_rfl) rfl
    (fun f fn hf hfn => by
      obtain rfl : f = 4 := Option.some.inj ((show Tryd.prog.funcNamed "shawm/shawmlaw18.SectionRuns" = some 4 by kernel_rfl).symm.trans hf) |>.symm
      obtain rfl : fn = Tryd.f4 := (Option.some.inj (Tryd.func4.symm.trans hfn)).symm
      exact ⟨by kernel_rfl, fun j t ht => by
        rw [Tryd.params4] at ht
        have hm : t ∈ [31, 25] := by simpa using Array.mem_of_getElem? ht
        have hall : ([31, 25].all fun u => !Tryd.prog.wantsStandIn u) = true := by kernel_rfl
        exact (show Tryd.prog.wantsStandIn t = false by simpa using List.all_eq_true.1 hall t hm)⟩)
    (by kernel_rfl)
#print axioms sectionRuns_card
end Go.Proofs.YtmcdgmiheklbeaaDoor
