/- The law PrefixLengths: it returns true for every input, and its arguments read as before. No conditions. -/
import Derived.Test.YtlbgkkkcbnagbaaKk
import Derived.Test.YtlbgkkkcbnagbaaKm
import Derived.Test.YtlbgkkkcbnagbaaRows
import Derived.OpenShut
import Derived.Carry
import Derived.SizedLaws
namespace Go.Proofs.Ytlbgkkkcbnagbaa
open Go.RowKit

set_option maxHeartbeats 4000000 in
set_option maxRecDepth 100000 in
theorem prefixLengths_walk (A0 : Option Addr) (c0 : Nat) (s0 : List Int) (most : Int) (W : World) (hR0 : RI W A0 c0 s0) (hl0 : s0.length ≤ 140737488355328) :
    Calls Try.prog 4 #[.slice A0 s0.length c0, .int .i64 most] W fun e W' => e = .returned (.bool true) ∧ Below W.heap.size W W' := by
  by_cases g0 : (400 : Int) < (s0.length : Int)
  · have d0 : decide ((400 : Int) < (s0.length : Int)) = true := decide_eq_true g0
    clear g0
    go_enter Try.func4, Try.ntmps4
    go_wp2_with fail
    refine (awake_any _).mono ?_
    rintro e w1 ⟨rfl, b⟩
    replace hR0 := hR0.below b
    have BX := b; clear b
    go_wp2_with fail
    go_ret
    exact ⟨rfl, BX⟩
  · have d0 : decide ((400 : Int) < (s0.length : Int)) = false := decide_eq_false g0
    go_enter Try.func4, Try.ntmps4
    go_wp2_with fail
    refine (lengths_all A0 c0 s0 most _ hR0).mono ?_
    rintro e w1 ⟨v1, rfl, O1, b⟩
    replace hR0 := hR0.below b
    have BX := b; clear b
    obtain ⟨Aa, ca, rfl, Ha⟩ := own_ri O1; clear O1
    go_wp2_with fail
    refine (rlengths_all A0 c0 s0 most _ hR0).mono ?_
    rintro e w2 ⟨v2, rfl, O2, b⟩
    replace hR0 := hR0.below b
    replace Ha := Ha.below b
    replace BX := below2 BX b; clear b
    obtain ⟨Ab, cb, rfl, Hb⟩ := own_ri O2; clear O2
    go_wp2_with fail
    refine (ints_ref Aa Ab ca cb _ _ _ Ha Hb).mono ?_
    rw [sameL_refl]
    rintro e w3 ⟨rfl, b⟩
    replace hR0 := hR0.below b
    replace Ha := Ha.below b
    replace Hb := Hb.below b
    replace BX := below2 BX b; clear b
    go_wp2_with fail
    refine (awake_any _).mono ?_
    rintro e w4 ⟨rfl, b⟩
    replace hR0 := hR0.below b
    replace Ha := Ha.below b
    replace Hb := Hb.below b
    replace BX := below2 BX b; clear b
    go_wp2_with fail
    go_ret
    exact ⟨rfl, BX⟩
end Go.Proofs.Ytlbgkkkcbnagbaa

namespace Go.Proofs.Ytlbgkkkcbnagbaa
open Go.ChangeShapes Go.WideShapes Go.ChangeAt Go.WideMaps Go.WideElems Go.RowKit Go.Deep

theorem laidOut_prefixLengths : laidOutB Try.prog = true := by kernel_rfl
set_option maxRecDepth 100000 in
theorem lifted_prefixLengths (os : Os) (started : os.Started) (H : Type) (enc : TypeId × Value → H) :
    ReturnsInHanded {} Try.checked os 4 .any (Rows.prefixLengthsSpec.pre6 enc Try.prog Try.f4 [] false) (Rows.prefixLengthsSpec.post enc Try.prog Try.f4 false true false false) := by
  refine returnsInHanded_of_change_sized (C := Try.checked) own started (by kernel_rfl) Try.func4
    (ChangeSpec.witness6 (enc := enc) (C := Try.checked) false ⟨#[], #[.slice none 0 0, .int .i64 0], []⟩ 8 (by kernel_rfl) (by kernel_rfl) (by kernel_rfl) (by kernel_rfl)) ?_
  intro W base args ds gs before hval0 hW _ hsz0 _
  have hval : ∀ (j : Nat) t v, Try.f4.params[j]? = some t → args[j]? = some v → Value.okWide Try.prog W .any base t v := hval0
  have hW' := hW
  obtain ⟨p, q, hA0, hV, rfl, hfz, hnd⟩ := hW
  have hA : DataW.TrodAll enc Try.prog W 0 (fun _ => true) true Try.f4.params.toList args.toList ds p := hA0
  have hsz : (DataW.weightsEach Try.prog (Try.f4.params.toList ++ Rows.prefixLengthsSpec.plain.varTypes Try.prog) (ds ++ gs)).all (· ≤ reachBytes) = true := hsz0
  rw [Try.params4] at hA hval hsz
  obtain ⟨v0, vs0, d0, ds0, p0, q0, hargs, rfl, rfl, h0, r0⟩ := trodAll_cons hA
  obtain ⟨v1, vs1, d1, ds1, p1, q1, rfl, rfl, rfl, h1, r1⟩ := trodAll_cons r0
  obtain ⟨rfl, rfl, rfl⟩ := trodAll_nil r1
  obtain rfl : args = #[v0, v1] := by cases args; simp_all
  obtain ⟨rfl, rfl⟩ := trodVars_none hV
  have lt0 : ∀ x ∈ p0, x.block < W.heap.size := by obtain ⟨m, hm⟩ := h0; exact DataW.trod_lt m _ _ _ hm
  have y0 : ∀ m ∈ d0.weights Try.prog 22, m ≤ reachBytes := fun m hm => of_decide_eq_true (List.all_eq_true.1 hsz m (DataW.weights_mem_each (j := 0) rfl rfl m hm))
  obtain ⟨B0, l0, e0, rfl⟩ := okWide_slice Try.underlying22 (hval 0 22 v0 rfl rfl)
  obtain ⟨A0, c0, s0, hv0, hR0, hB0⟩ : ∃ A c xs, Value.slice B0 l0 e0 = .slice A xs.length c ∧ RI W A c xs ∧ ((∀ m ∈ d0.weights Try.prog 22, m ≤ reachBytes) → xs.length ≤ 140737488355328) := by obtain ⟨fuel, hf⟩ := h0; exact open_I hf
  have lt1 : ∀ x ∈ p1, x.block < W.heap.size := by obtain ⟨m, hm⟩ := h1; exact DataW.trod_lt m _ _ _ hm
  have y1 : ∀ m ∈ d1.weights Try.prog 3, m ≤ reachBytes := fun m hm => of_decide_eq_true (List.all_eq_true.1 hsz m (DataW.weights_mem_each (j := 1) rfl rfl m hm))
  obtain ⟨a1, rfl, _, _, w1⟩ := open_int Try.underlying3 (hval 1 3 v1 rfl rfl) h1
  have hwalk := prefixLengths_walk A0 c0 s0 a1 W hR0 (hB0 y0)
  rw [← hv0] at hwalk
  refine hwalk.mono fun e W' ⟨he, bel⟩ => ?_
  subst he
  exact ⟨_, rfl, _, _, _, [], _, [], hW', trodAll_mk1 (shut_bool Try.underlying4 _), (trodAll_cons_mk (Below.trod laidOut_prefixLengths (by kernel_rfl) (of_decide_eq_true (by kernel_rfl)) h0 bel lt0) (trodAll_cons_mk (Below.trod laidOut_prefixLengths (by kernel_rfl) (of_decide_eq_true (by kernel_rfl)) h1 bel lt1) trodAll_mk0)), rfl, bel.frame _, fun h => by cases h⟩
theorem prefixLengths_holds : Rows.PrefixLengthsSaid :=
  OpenClaim.holds_of_wide 4 Try.f4 rfl rfl rfl rfl rfl rfl rfl ⟨rfl, rfl, rfl, rfl, rfl⟩ rfl rfl rfl rfl rfl (by kernel_rfl) Try.func4 (by kernel_rfl)
    (of_decide_eq_true (by kernel_rfl)) (by unfold Func.isWrapper; first | (rw [if_pos (by decide +kernel)]; kernel_rfl) | (rw [if_neg (by decide +kernel)]; exact ⟨rfl, rfl⟩))
    (fun os started H enc _ => lifted_prefixLengths os started H enc)
#print axioms prefixLengths_holds
end Go.Proofs.Ytlbgkkkcbnagbaa
