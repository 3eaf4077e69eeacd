/- The law ScaleChooses: it returns true for every input, and its arguments read as before. No conditions. -/
import Derived.Test.YtkfgomhhenmmeaaKi
import Derived.Test.YtkfgomhhenmmeaaRows
import Derived.OpenShut
import Derived.Carry
import Derived.SizedLaws
namespace Go.Proofs.Ytkfgomhhenmmeaa
open Go.RowKit

set_option maxHeartbeats 4000000 in
set_option maxRecDepth 100000 in
theorem scaleChooses_walk (A0 : Option Addr) (c0 : Nat) (s0 : List Int) (A1 : Option Addr) (c1 : Nat) (s1 : List Int) (A2 : Option Addr) (c2 : Nat) (s2 : List Bool) (W : World) (hR0 : RI W A0 c0 s0) (hl0 : s0.length ≤ 140737488355328) (hR1 : RI W A1 c1 s1) (hl1 : s1.length ≤ 140737488355328) (hR2 : RB W A2 c2 s2) :
    Calls Try.prog 5 #[.slice A0 s0.length c0, .slice A1 s1.length c1, .slice A2 s2.length c2] W fun e W' => e = .returned (.bool true) ∧ Below W.heap.size W W' := by
  cases hfew : fewB s2.length [s0, s1]
  · have HF := Lib.hid hfew; clear hfew
    go_enter Try.func5, Try.ntmps5
    go_wp2_with fail
    refine (few2_any A0 A1 A2 c0 c1 c2 s0 s1 s2 _ hR0 hR1).mono ?_
    rw [HF.out]
    rintro e w1 ⟨rfl, b⟩
    replace hR0 := hR0.below b
    replace hR1 := hR1.below b
    replace hR2 := hR2.below b
    have BX := b; clear b
    go_wp2_with fail
    refine (awake_any _).mono ?_
    rintro e w2 ⟨rfl, b⟩
    replace hR0 := hR0.below b
    replace hR1 := hR1.below b
    replace hR2 := hR2.below b
    replace BX := below2 BX b; clear b
    go_wp2_with fail
    go_ret
    exact ⟨rfl, BX⟩
  · have HF := Lib.hid hfew; clear hfew
    go_enter Try.func5, Try.ntmps5
    go_wp2_with fail
    refine (few2_any A0 A1 A2 c0 c1 c2 s0 s1 s2 _ hR0 hR1).mono ?_
    rw [HF.out]
    rintro e w1 ⟨rfl, b⟩
    replace hR0 := hR0.below b
    replace hR1 := hR1.below b
    replace hR2 := hR2.below b
    have BX := b; clear b
    by_cases g0 : 40 < s2.length ∧ s2.length ≤ 128
    · have d0 : decide ((40 : Int) < (s2.length : Int)) = true := decide_eq_true (by omega)
      have d1 : decide ((s2.length : Int) ≤ 128) = true := decide_eq_true (by omega)
      have d0N : decide (40 < s2.length) = true := decide_eq_true (by omega)
      have d1N : decide (s2.length ≤ 128) = true := decide_eq_true (by omega)
      clear g0
      go_wp2_with fail
      refine (awake_any _).mono ?_
      rintro e w2 ⟨rfl, b⟩
      replace hR0 := hR0.below b
      replace hR1 := hR1.below b
      replace hR2 := hR2.below b
      replace BX := below2 BX b; clear b
      go_wp2_with fail
      go_ret
      exact ⟨rfl, BX⟩
    · have hcs : (decide ((40 : Int) < (s2.length : Int)) = false ∧ decide (40 < s2.length) = false) ∨ (decide ((40 : Int) < (s2.length : Int)) = true ∧ decide (40 < s2.length) = true ∧ decide ((s2.length : Int) ≤ 128) = false ∧ decide (s2.length ≤ 128) = false) := by
        by_cases h : 40 < s2.length
        · exact .inr ⟨decide_eq_true (by omega), decide_eq_true h, decide_eq_false (by omega), decide_eq_false (by omega)⟩
        · exact .inl ⟨decide_eq_false (by omega), decide_eq_false h⟩
      clear g0
      rcases hcs with ⟨d0, d0N⟩ | ⟨d0, d0N, d1, d1N⟩
      all_goals
        go_wp2_with fail
        refine (schoose_any A0 A1 A2 c0 c1 c2 s0 s1 s2 _ hR0 hR1 hR2).mono ?_
        rintro e w2 ⟨v7, rfl, O7, b⟩
        replace hR0 := hR0.below b
        replace hR1 := hR1.below b
        replace hR2 := hR2.below b
        replace BX := below2 BX b; clear b
        obtain ⟨A7, c7, rfl, H7⟩ := own_ri O7; clear O7
        go_wp2_with fail
        refine (rchoose_any A0 A1 A2 c0 c1 c2 s0 s1 s2 _ hR0 hR1 hR2).mono ?_
        rintro e w3 ⟨v8, rfl, O8, b⟩
        replace hR0 := hR0.below b
        replace hR1 := hR1.below b
        replace hR2 := hR2.below b
        replace H7 := H7.below b
        replace BX := below2 BX b; clear b
        obtain ⟨A8, c8, rfl, H8⟩ := own_ri O8; clear O8
        generalize chooseN s0 s1 s2 = cn
        generalize chooseE s0 s1 s2 = ce
        go_wp2_with fail
        refine (ints_ref A7 A8 c7 c8 _ _ _ H7 H8).mono ?_
        rw [show sameL (chooseO s0 s1 s2) (chooseO s0 s1 s2) = true by simp [sameL]]
        rintro e w4 ⟨rfl, b⟩
        replace hR0 := hR0.below b
        replace hR1 := hR1.below b
        replace hR2 := hR2.below b
        replace H7 := H7.below b
        replace H8 := H8.below b
        replace BX := below2 BX b; clear b
        go_wp2_with fail
        refine (awake_any _).mono ?_
        rintro e w5 ⟨rfl, b⟩
        replace hR0 := hR0.below b
        replace hR1 := hR1.below b
        replace hR2 := hR2.below b
        replace H7 := H7.below b
        replace H8 := H8.below b
        replace BX := below2 BX b; clear b
        go_wp2_with fail
        go_ret
        exact ⟨rfl, BX⟩
end Go.Proofs.Ytkfgomhhenmmeaa

namespace Go.Proofs.Ytkfgomhhenmmeaa
open Go.ChangeShapes Go.WideShapes Go.ChangeAt Go.WideMaps Go.WideElems Go.RowKit Go.Deep

theorem laidOut_scaleChooses : laidOutB Try.prog = true := by kernel_rfl
set_option maxRecDepth 100000 in
theorem lifted_scaleChooses (os : Os) (started : os.Started) (H : Type) (enc : TypeId × Value → H) :
    ReturnsInHanded {} Try.checked os 5 .any (Rows.scaleChoosesSpec.pre6 enc Try.prog Try.f5 [] false) (Rows.scaleChoosesSpec.post enc Try.prog Try.f5 false true false false) := by
  refine returnsInHanded_of_change_sized (C := Try.checked) own started (by kernel_rfl) Try.func5
    (ChangeSpec.witness6 (enc := enc) (C := Try.checked) false ⟨#[], #[.slice none 0 0, .slice none 0 0, .slice none 0 0], []⟩ 8 (by kernel_rfl) (by kernel_rfl) (by kernel_rfl) (by kernel_rfl)) ?_
  intro W base args ds gs before hval0 hW _ hsz0 _
  have hval : ∀ (j : Nat) t v, Try.f5.params[j]? = some t → args[j]? = some v → Value.okWide Try.prog W .any base t v := hval0
  have hW' := hW
  obtain ⟨p, q, hA0, hV, rfl, hfz, hnd⟩ := hW
  have hA : DataW.TrodAll enc Try.prog W 0 (fun _ => true) true Try.f5.params.toList args.toList ds p := hA0
  have hsz : (DataW.weightsEach Try.prog (Try.f5.params.toList ++ Rows.scaleChoosesSpec.plain.varTypes Try.prog) (ds ++ gs)).all (· ≤ reachBytes) = true := hsz0
  rw [Try.params5] at hA hval hsz
  obtain ⟨v0, vs0, d0, ds0, p0, q0, hargs, rfl, rfl, h0, r0⟩ := trodAll_cons hA
  obtain ⟨v1, vs1, d1, ds1, p1, q1, rfl, rfl, rfl, h1, r1⟩ := trodAll_cons r0
  obtain ⟨v2, vs2, d2, ds2, p2, q2, rfl, rfl, rfl, h2, r2⟩ := trodAll_cons r1
  obtain ⟨rfl, rfl, rfl⟩ := trodAll_nil r2
  obtain rfl : args = #[v0, v1, v2] := by cases args; simp_all
  obtain ⟨rfl, rfl⟩ := trodVars_none hV
  have lt0 : ∀ x ∈ p0, x.block < W.heap.size := by obtain ⟨m, hm⟩ := h0; exact DataW.trod_lt m _ _ _ hm
  have y0 : ∀ m ∈ d0.weights Try.prog 22, m ≤ reachBytes := fun m hm => of_decide_eq_true (List.all_eq_true.1 hsz m (DataW.weights_mem_each (j := 0) rfl rfl m hm))
  obtain ⟨B0, l0, e0, rfl⟩ := okWide_slice Try.underlying22 (hval 0 22 v0 rfl rfl)
  obtain ⟨A0, c0, s0, hv0, hR0, hB0⟩ : ∃ A c xs, Value.slice B0 l0 e0 = .slice A xs.length c ∧ RI W A c xs ∧ ((∀ m ∈ d0.weights Try.prog 22, m ≤ reachBytes) → xs.length ≤ 140737488355328) := by obtain ⟨fuel, hf⟩ := h0; exact open_I hf
  have lt1 : ∀ x ∈ p1, x.block < W.heap.size := by obtain ⟨m, hm⟩ := h1; exact DataW.trod_lt m _ _ _ hm
  have y1 : ∀ m ∈ d1.weights Try.prog 22, m ≤ reachBytes := fun m hm => of_decide_eq_true (List.all_eq_true.1 hsz m (DataW.weights_mem_each (j := 1) rfl rfl m hm))
  obtain ⟨B1, l1, e1, rfl⟩ := okWide_slice Try.underlying22 (hval 1 22 v1 rfl rfl)
  obtain ⟨A1, c1, s1, hv1, hR1, hB1⟩ : ∃ A c xs, Value.slice B1 l1 e1 = .slice A xs.length c ∧ RI W A c xs ∧ ((∀ m ∈ d1.weights Try.prog 22, m ≤ reachBytes) → xs.length ≤ 140737488355328) := by obtain ⟨fuel, hf⟩ := h1; exact open_I hf
  have lt2 : ∀ x ∈ p2, x.block < W.heap.size := by obtain ⟨m, hm⟩ := h2; exact DataW.trod_lt m _ _ _ hm
  have y2 : ∀ m ∈ d2.weights Try.prog 23, m ≤ reachBytes := fun m hm => of_decide_eq_true (List.all_eq_true.1 hsz m (DataW.weights_mem_each (j := 2) rfl rfl m hm))
  obtain ⟨B2, l2, e2, rfl⟩ := okWide_slice Try.underlying23 (hval 2 23 v2 rfl rfl)
  obtain ⟨A2, c2, s2, hv2, hR2⟩ : ∃ A c xs, Value.slice B2 l2 e2 = .slice A xs.length c ∧ RB W A c xs := by obtain ⟨fuel, hf⟩ := h2; exact open_B hf
  have hwalk := scaleChooses_walk A0 c0 s0 A1 c1 s1 A2 c2 s2 W hR0 (hB0 y0) hR1 (hB1 y1) hR2
  rw [← hv0] at hwalk
  rw [← hv1] at hwalk
  rw [← hv2] at hwalk
  refine hwalk.mono fun e W' ⟨he, bel⟩ => ?_
  subst he
  exact ⟨_, rfl, _, _, _, [], _, [], hW', trodAll_mk1 (shut_bool Try.underlying4 _), (trodAll_cons_mk (Below.trod laidOut_scaleChooses (by kernel_rfl) (of_decide_eq_true (by kernel_rfl)) h0 bel lt0) (trodAll_cons_mk (Below.trod laidOut_scaleChooses (by kernel_rfl) (of_decide_eq_true (by kernel_rfl)) h1 bel lt1) (trodAll_cons_mk (Below.trod laidOut_scaleChooses (by kernel_rfl) (of_decide_eq_true (by kernel_rfl)) h2 bel lt2) trodAll_mk0))), rfl, bel.frame _, fun h => by cases h⟩
theorem scaleChooses_holds : Rows.ScaleChoosesSaid :=
  OpenClaim.holds_of_wide 5 Try.f5 rfl rfl rfl rfl rfl rfl rfl ⟨rfl, rfl, rfl, rfl, rfl⟩ rfl rfl rfl rfl rfl (by kernel_rfl) Try.func5 (by kernel_rfl)
    (of_decide_eq_true (by kernel_rfl)) (by unfold Func.isWrapper; first | (rw [if_pos (by decide +kernel)]; kernel_rfl) | (rw [if_neg (by decide +kernel)]; exact ⟨rfl, rfl⟩))
    (fun os started H enc _ => lifted_scaleChooses os started H enc)
#print axioms scaleChooses_holds
end Go.Proofs.Ytkfgomhhenmmeaa
