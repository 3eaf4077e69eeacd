/- The law ScaleUsed: it returns true for every input, and its arguments read as before. No conditions. -/
import Derived.Test.YtkfgomhhenmmeaaKi
import Derived.Test.YtkfgomhhenmmeaaKg
import Derived.Test.YtkfgomhhenmmeaaKd
import Derived.Test.YtkfgomhhenmmeaaRows
import Derived.OpenShut
import Derived.Carry
import Derived.SizedLaws
namespace Go.Proofs.Ytkfgomhhenmmeaa
open Go.RowKit

set_option maxHeartbeats 4000000 in
set_option maxRecDepth 100000 in
theorem scaleUsed_walk (A0 : Option Addr) (c0 : Nat) (s0 : List Int) (A1 : Option Addr) (c1 : Nat) (s1 : List Int) (W : World) (hR0 : RI W A0 c0 s0) (hl0 : s0.length ≤ 140737488355328) (hR1 : RI W A1 c1 s1) (hl1 : s1.length ≤ 140737488355328) :
    Calls Try.prog 6 #[.slice A0 s0.length c0, .slice A1 s1.length c1] W fun e W' => e = .returned (.bool true) ∧ Below W.heap.size W W' := by
  by_cases g0 : (200 : Int) < (s0.length : Int)
  · have d0 : decide ((200 : Int) < (s0.length : Int)) = true := decide_eq_true g0
    clear g0
    go_enter Try.func6, Try.ntmps6
    go_wp2_with fail
    refine (awake_any _).mono ?_
    rintro e w1 ⟨rfl, b⟩
    replace hR0 := hR0.below b
    replace hR1 := hR1.below b
    have BX := b; clear b
    go_wp2_with fail
    go_ret
    exact ⟨rfl, BX⟩
  · have d0 : decide ((200 : Int) < (s0.length : Int)) = false := decide_eq_false g0
    by_cases g1 : (600 : Int) < (s1.length : Int)
    · have d1 : decide ((600 : Int) < (s1.length : Int)) = true := decide_eq_true g1
      clear g1
      go_enter Try.func6, Try.ntmps6
      go_wp2_with fail
      refine (awake_any _).mono ?_
      rintro e w1 ⟨rfl, b⟩
      replace hR0 := hR0.below b
      replace hR1 := hR1.below b
      have BX := b; clear b
      go_wp2_with fail
      go_ret
      exact ⟨rfl, BX⟩
    · have d1 : decide ((600 : Int) < (s1.length : Int)) = false := decide_eq_false g1
      go_enter Try.func6, Try.ntmps6
      have l0 : s0.length ≤ 100000 := by omega
      have l1 : s1.length ≤ 100000 := by omega
      clear g0 g1
      obtain ⟨ue, hue⟩ : ∃ x, usedE s0 s1 = x := ⟨_, rfl⟩
      go_wp2_with fail
      refine (used_any A0 A1 c0 c1 s0 s1 _ hR0 hR1 l0 l1).mono ?_
      rw [hue]
      rintro e w1 ⟨A7, c7, rfl, H7, b⟩
      replace hR0 := hR0.below b
      replace hR1 := hR1.below b
      have BX := b; clear b
      go_wp2_with fail
      refine (rused_any A0 A1 c0 c1 s0 s1 _ hR0 hR1 l0 l1).mono ?_
      rw [hue]
      rintro e w2 ⟨A8, c8, rfl, H8, b⟩
      replace hR0 := hR0.below b
      replace hR1 := hR1.below b
      replace H7 := H7.below b
      replace BX := below2 BX b; clear b
      clear hue
      go_wp2_with fail
      refine (bools_any A7 A8 c7 c8 _ _ _ H7 H8).mono ?_
      rw [show sameBo (usedB s0 s1) (usedB s0 s1) = true by simp [sameBo]]
      rintro e w3 ⟨rfl, b⟩
      replace hR0 := hR0.below b
      replace hR1 := hR1.below b
      replace H7 := H7.below b
      replace H8 := H8.below b
      replace BX := below2 BX b; clear b
      go_wp2_with fail
      refine (awake_any _).mono ?_
      rintro e w4 ⟨rfl, b⟩
      replace hR0 := hR0.below b
      replace hR1 := hR1.below b
      replace H7 := H7.below b
      replace H8 := H8.below b
      replace BX := below2 BX b; clear b
      go_wp2_with fail
      go_ret
      exact ⟨rfl, BX⟩
end Go.Proofs.Ytkfgomhhenmmeaa

namespace Go.Proofs.Ytkfgomhhenmmeaa
open Go.ChangeShapes Go.WideShapes Go.ChangeAt Go.WideMaps Go.WideElems Go.RowKit Go.Deep

theorem laidOut_scaleUsed : laidOutB Try.prog = true := by kernel_rfl
set_option maxRecDepth 100000 in
theorem lifted_scaleUsed (os : Os) (started : os.Started) (H : Type) (enc : TypeId × Value → H) :
    ReturnsInHanded {} Try.checked os 6 .any (Rows.scaleUsedSpec.pre6 enc Try.prog Try.f6 [] false) (Rows.scaleUsedSpec.post enc Try.prog Try.f6 false true false false) := by
  refine returnsInHanded_of_change_sized (C := Try.checked) own started (by kernel_rfl) Try.func6
    (ChangeSpec.witness6 (enc := enc) (C := Try.checked) false ⟨#[], #[.slice none 0 0, .slice none 0 0], []⟩ 8 (by kernel_rfl) (by kernel_rfl) (by kernel_rfl) (by kernel_rfl)) ?_
  intro W base args ds gs before hval0 hW _ hsz0 _
  have hval : ∀ (j : Nat) t v, Try.f6.params[j]? = some t → args[j]? = some v → Value.okWide Try.prog W .any base t v := hval0
  have hW' := hW
  obtain ⟨p, q, hA0, hV, rfl, hfz, hnd⟩ := hW
  have hA : DataW.TrodAll enc Try.prog W 0 (fun _ => true) true Try.f6.params.toList args.toList ds p := hA0
  have hsz : (DataW.weightsEach Try.prog (Try.f6.params.toList ++ Rows.scaleUsedSpec.plain.varTypes Try.prog) (ds ++ gs)).all (· ≤ reachBytes) = true := hsz0
  rw [Try.params6] at hA hval hsz
  obtain ⟨v0, vs0, d0, ds0, p0, q0, hargs, rfl, rfl, h0, r0⟩ := trodAll_cons hA
  obtain ⟨v1, vs1, d1, ds1, p1, q1, rfl, rfl, rfl, h1, r1⟩ := trodAll_cons r0
  obtain ⟨rfl, rfl, rfl⟩ := trodAll_nil r1
  obtain rfl : args = #[v0, v1] := by cases args; simp_all
  obtain ⟨rfl, rfl⟩ := trodVars_none hV
  have lt0 : ∀ x ∈ p0, x.block < W.heap.size := by obtain ⟨m, hm⟩ := h0; exact DataW.trod_lt m _ _ _ hm
  have y0 : ∀ m ∈ d0.weights Try.prog 22, m ≤ reachBytes := fun m hm => of_decide_eq_true (List.all_eq_true.1 hsz m (DataW.weights_mem_each (j := 0) rfl rfl m hm))
  obtain ⟨B0, l0, e0, rfl⟩ := okWide_slice Try.underlying22 (hval 0 22 v0 rfl rfl)
  obtain ⟨A0, c0, s0, hv0, hR0, hB0⟩ : ∃ A c xs, Value.slice B0 l0 e0 = .slice A xs.length c ∧ RI W A c xs ∧ ((∀ m ∈ d0.weights Try.prog 22, m ≤ reachBytes) → xs.length ≤ 140737488355328) := by obtain ⟨fuel, hf⟩ := h0; exact open_I hf
  have lt1 : ∀ x ∈ p1, x.block < W.heap.size := by obtain ⟨m, hm⟩ := h1; exact DataW.trod_lt m _ _ _ hm
  have y1 : ∀ m ∈ d1.weights Try.prog 22, m ≤ reachBytes := fun m hm => of_decide_eq_true (List.all_eq_true.1 hsz m (DataW.weights_mem_each (j := 1) rfl rfl m hm))
  obtain ⟨B1, l1, e1, rfl⟩ := okWide_slice Try.underlying22 (hval 1 22 v1 rfl rfl)
  obtain ⟨A1, c1, s1, hv1, hR1, hB1⟩ : ∃ A c xs, Value.slice B1 l1 e1 = .slice A xs.length c ∧ RI W A c xs ∧ ((∀ m ∈ d1.weights Try.prog 22, m ≤ reachBytes) → xs.length ≤ 140737488355328) := by obtain ⟨fuel, hf⟩ := h1; exact open_I hf
  have hwalk := scaleUsed_walk A0 c0 s0 A1 c1 s1 W hR0 (hB0 y0) hR1 (hB1 y1)
  rw [← hv0] at hwalk
  rw [← hv1] at hwalk
  refine hwalk.mono fun e W' ⟨he, bel⟩ => ?_
  subst he
  exact ⟨_, rfl, _, _, _, [], _, [], hW', trodAll_mk1 (shut_bool Try.underlying4 _), (trodAll_cons_mk (Below.trod laidOut_scaleUsed (by kernel_rfl) (of_decide_eq_true (by kernel_rfl)) h0 bel lt0) (trodAll_cons_mk (Below.trod laidOut_scaleUsed (by kernel_rfl) (of_decide_eq_true (by kernel_rfl)) h1 bel lt1) trodAll_mk0)), rfl, bel.frame _, fun h => by cases h⟩
theorem scaleUsed_holds : Rows.ScaleUsedSaid :=
  OpenClaim.holds_of_wide 6 Try.f6 rfl rfl rfl rfl rfl rfl rfl ⟨rfl, rfl, rfl, rfl, rfl⟩ rfl rfl rfl rfl rfl (by kernel_rfl) Try.func6 (by kernel_rfl)
    (of_decide_eq_true (by kernel_rfl)) (by unfold Func.isWrapper; first | (rw [if_pos (by decide +kernel)]; kernel_rfl) | (rw [if_neg (by decide +kernel)]; exact ⟨rfl, rfl⟩))
    (fun os started H enc _ => lifted_scaleUsed os started H enc)
#print axioms scaleUsed_holds
end Go.Proofs.Ytkfgomhhenmmeaa
