/- The law ScaleCosts: it returns true for every input, and its arguments read as before. No conditions. -/
import Derived.Test.YtkfgomhhenmmeaaKi
import Derived.Test.YtkfgomhhenmmeaaKf
import Derived.Test.YtkfgomhhenmmeaaRows
import Derived.OpenShut
import Derived.Carry
import Derived.SizedLaws
namespace Go.Proofs.Ytkfgomhhenmmeaa
open Go.RowKit

set_option maxHeartbeats 4000000 in
set_option maxRecDepth 100000 in
theorem scaleCosts_walk (A0 : Option Addr) (c0 : Nat) (s0 : List Int) (A1 : Option Addr) (c1 : Nat) (s1 : List Bool) (W : World) (hR0 : RI W A0 c0 s0) (hl0 : s0.length ≤ 140737488355328) (hR1 : RB W A1 c1 s1) :
    Calls Try.prog 3 #[.slice A0 s0.length c0, .slice A1 s1.length c1] W fun e W' => e = .returned (.bool true) ∧ Below W.heap.size W W' := by
  cases hfew : fewB s1.length [s0]
  · have HF := Lib.hid hfew; clear hfew
    go_enter Try.func3, Try.ntmps3
    go_wp2_with fail
    refine (few1_any A0 A1 c0 c1 s0 s1 _ hR0).mono ?_
    rw [HF.out]
    rintro e w1 ⟨rfl, b⟩
    replace hR0 := hR0.below b
    replace hR1 := hR1.below b
    have BX := b; clear b
    go_wp2_with fail
    refine (awake_any _).mono ?_
    rintro e w2 ⟨rfl, b⟩
    replace hR0 := hR0.below b
    replace hR1 := hR1.below b
    replace BX := below2 BX b; clear b
    go_wp2_with fail
    go_ret
    exact ⟨rfl, BX⟩
  · have HF := Lib.hid hfew; clear hfew
    go_enter Try.func3, Try.ntmps3
    go_wp2_with fail
    refine (few1_any A0 A1 c0 c1 s0 s1 _ hR0).mono ?_
    rw [HF.out]
    rintro e w1 ⟨rfl, b⟩
    replace hR0 := hR0.below b
    replace hR1 := hR1.below b
    have BX := b; clear b
    obtain ⟨⟨cn, ce⟩, hcc⟩ : ∃ x, costS s0 s1 = x := ⟨_, rfl⟩
    go_wp2_with fail
    refine (scost_any A0 A1 c0 c1 s0 s1 _ hR0 hR1).mono ?_
    rw [hcc]
    rintro e w2 ⟨rfl, b⟩
    replace hR0 := hR0.below b
    replace hR1 := hR1.below b
    replace BX := below2 BX b; clear b
    go_wp2_with fail
    refine (rscost_any A0 A1 c0 c1 s0 s1 _ hR0 hR1).mono ?_
    rw [hcc]
    rintro e w3 ⟨rfl, b⟩
    replace hR0 := hR0.below b
    replace hR1 := hR1.below b
    replace BX := below2 BX b; clear b
    clear hcc
    go_wp2_with fail
    refine (slengths_any _).mono ?_
    rintro e w4 ⟨v4, rfl, O4, b⟩
    replace hR0 := hR0.below b
    replace hR1 := hR1.below b
    replace BX := below2 BX b; clear b
    obtain ⟨A5, c5, rfl, H5⟩ := own_ri O4; clear O4
    go_wp2_with fail
    refine (rslengths_any _).mono ?_
    rintro e w5 ⟨v5, rfl, O5, b⟩
    replace hR0 := hR0.below b
    replace hR1 := hR1.below b
    replace H5 := H5.below b
    replace BX := below2 BX b; clear b
    obtain ⟨A6, c6, rfl, H6⟩ := own_ri O5; clear O5
    go_wp2_with fail
    refine (ints_ref A5 A6 c5 c6 tabI tabI _ H5 H6).mono ?_
    rw [show sameL tabI tabI = true by simp [sameL]]
    rintro e w6 ⟨rfl, b⟩
    replace hR0 := hR0.below b
    replace hR1 := hR1.below b
    replace H5 := H5.below b
    replace H6 := H6.below b
    replace BX := below2 BX b; clear b
    go_wp2_with fail
    refine (awake_any _).mono ?_
    rintro e w7 ⟨rfl, b⟩
    replace hR0 := hR0.below b
    replace hR1 := hR1.below b
    replace H5 := H5.below b
    replace H6 := H6.below b
    replace BX := below2 BX b; clear b
    go_wp2_with fail
    go_ret
    exact ⟨rfl, BX⟩
end Go.Proofs.Ytkfgomhhenmmeaa

namespace Go.Proofs.Ytkfgomhhenmmeaa
open Go.ChangeShapes Go.WideShapes Go.ChangeAt Go.WideMaps Go.WideElems Go.RowKit Go.Deep

theorem laidOut_scaleCosts : laidOutB Try.prog = true := by kernel_rfl
set_option maxRecDepth 100000 in
theorem lifted_scaleCosts (os : Os) (started : os.Started) (H : Type) (enc : TypeId × Value → H) :
    ReturnsInHanded {} Try.checked os 3 .any (Rows.scaleCostsSpec.pre6 enc Try.prog Try.f3 [] false) (Rows.scaleCostsSpec.post enc Try.prog Try.f3 false true false false) := by
  refine returnsInHanded_of_change_sized (C := Try.checked) own started (by kernel_rfl) Try.func3
    (ChangeSpec.witness6 (enc := enc) (C := Try.checked) false ⟨#[], #[.slice none 0 0, .slice none 0 0], []⟩ 8 (by kernel_rfl) (by kernel_rfl) (by kernel_rfl) (by kernel_rfl)) ?_
  intro W base args ds gs before hval0 hW _ hsz0 _
  have hval : ∀ (j : Nat) t v, Try.f3.params[j]? = some t → args[j]? = some v → Value.okWide Try.prog W .any base t v := hval0
  have hW' := hW
  obtain ⟨p, q, hA0, hV, rfl, hfz, hnd⟩ := hW
  have hA : DataW.TrodAll enc Try.prog W 0 (fun _ => true) true Try.f3.params.toList args.toList ds p := hA0
  have hsz : (DataW.weightsEach Try.prog (Try.f3.params.toList ++ Rows.scaleCostsSpec.plain.varTypes Try.prog) (ds ++ gs)).all (· ≤ reachBytes) = true := hsz0
  rw [Try.params3] at hA hval hsz
  obtain ⟨v0, vs0, d0, ds0, p0, q0, hargs, rfl, rfl, h0, r0⟩ := trodAll_cons hA
  obtain ⟨v1, vs1, d1, ds1, p1, q1, rfl, rfl, rfl, h1, r1⟩ := trodAll_cons r0
  obtain ⟨rfl, rfl, rfl⟩ := trodAll_nil r1
  obtain rfl : args = #[v0, v1] := by cases args; simp_all
  obtain ⟨rfl, rfl⟩ := trodVars_none hV
  have lt0 : ∀ x ∈ p0, x.block < W.heap.size := by obtain ⟨m, hm⟩ := h0; exact DataW.trod_lt m _ _ _ hm
  have y0 : ∀ m ∈ d0.weights Try.prog 22, m ≤ reachBytes := fun m hm => of_decide_eq_true (List.all_eq_true.1 hsz m (DataW.weights_mem_each (j := 0) rfl rfl m hm))
  obtain ⟨B0, l0, e0, rfl⟩ := okWide_slice Try.underlying22 (hval 0 22 v0 rfl rfl)
  obtain ⟨A0, c0, s0, hv0, hR0, hB0⟩ : ∃ A c xs, Value.slice B0 l0 e0 = .slice A xs.length c ∧ RI W A c xs ∧ ((∀ m ∈ d0.weights Try.prog 22, m ≤ reachBytes) → xs.length ≤ 140737488355328) := by obtain ⟨fuel, hf⟩ := h0; exact open_I hf
  have lt1 : ∀ x ∈ p1, x.block < W.heap.size := by obtain ⟨m, hm⟩ := h1; exact DataW.trod_lt m _ _ _ hm
  have y1 : ∀ m ∈ d1.weights Try.prog 23, m ≤ reachBytes := fun m hm => of_decide_eq_true (List.all_eq_true.1 hsz m (DataW.weights_mem_each (j := 1) rfl rfl m hm))
  obtain ⟨B1, l1, e1, rfl⟩ := okWide_slice Try.underlying23 (hval 1 23 v1 rfl rfl)
  obtain ⟨A1, c1, s1, hv1, hR1⟩ : ∃ A c xs, Value.slice B1 l1 e1 = .slice A xs.length c ∧ RB W A c xs := by obtain ⟨fuel, hf⟩ := h1; exact open_B hf
  have hwalk := scaleCosts_walk A0 c0 s0 A1 c1 s1 W hR0 (hB0 y0) hR1
  rw [← hv0] at hwalk
  rw [← hv1] at hwalk
  refine hwalk.mono fun e W' ⟨he, bel⟩ => ?_
  subst he
  exact ⟨_, rfl, _, _, _, [], _, [], hW', trodAll_mk1 (shut_bool Try.underlying4 _), (trodAll_cons_mk (Below.trod laidOut_scaleCosts (by kernel_rfl) (of_decide_eq_true (by kernel_rfl)) h0 bel lt0) (trodAll_cons_mk (Below.trod laidOut_scaleCosts (by kernel_rfl) (of_decide_eq_true (by kernel_rfl)) h1 bel lt1) trodAll_mk0)), rfl, bel.frame _, fun h => by cases h⟩
theorem scaleCosts_holds : Rows.ScaleCostsSaid :=
  OpenClaim.holds_of_wide 3 Try.f3 rfl rfl rfl rfl rfl rfl rfl ⟨rfl, rfl, rfl, rfl, rfl⟩ rfl rfl rfl rfl rfl (by kernel_rfl) Try.func3 (by kernel_rfl)
    (of_decide_eq_true (by kernel_rfl)) (by unfold Func.isWrapper; first | (rw [if_pos (by decide +kernel)]; kernel_rfl) | (rw [if_neg (by decide +kernel)]; exact ⟨rfl, rfl⟩))
    (fun os started H enc _ => lifted_scaleCosts os started H enc)
#print axioms scaleCosts_holds
end Go.Proofs.Ytkfgomhhenmmeaa
