/- The law PrefixFree: it returns true for every input, and its arguments read as before. No conditions. -/
import Derived.Test.YtlbgkkkcbnagbaaKk
import Derived.Test.YtlbgkkkcbnagbaaKg
import Derived.Test.YtlbgkkkcbnagbaaRows
import Derived.OpenShut
import Derived.Carry
import Derived.SizedLaws
namespace Go.Proofs.Ytlbgkkkcbnagbaa
open Go.RowKit

set_option maxHeartbeats 4000000 in
set_option maxRecDepth 100000 in
theorem prefixFree_walk (A0 : Option Addr) (c0 : Nat) (s0 : List Int) (W : World) (hR0 : RI W A0 c0 s0) (hl0 : s0.length ≤ 140737488355328) :
    Calls Try.prog 7 #[.slice A0 s0.length c0] W fun e W' => e = .returned (.bool true) ∧ Below W.heap.size W W' := by
  have H0 := Lib.hid hR0
  clear hR0
  by_cases hg : (300 : Int) < (s0.length : Int)
  · have d0 : decide ((300 : Int) < (s0.length : Int)) = true := decide_eq_true hg
    clear hg
    go_enter Try.func7, Try.ntmps7
    go_wp2_with fail
    refine (awake_any _).mono ?_
    rintro e w1 ⟨rfl, b1⟩
    go_wp2_with fail
    go_ret
    exact ⟨rfl, b1⟩
  · have d0 : decide ((300 : Int) < (s0.length : Int)) = false := decide_eq_false hg
    clear hg
    by_cases hE : checkN s0 = 0
    · have hr := (checkN_right s0).1 hE
      have HR := Lib.hid hr
      have h256 := hr.len
      have HE := Lib.hid hE
      have HC := Lib.hid (codes_any A0 c0 s0)
      have HCO := Lib.hid (show codesR s0 = codesL s0 by simp [codesR, hE])
      have HCL := Lib.hid (codesL_length s0)
      clear hE hr
      go_enter Try.func7, Try.ntmps7
      go_wp2_with fail
      refine (rcheck_any A0 c0 s0 _ H0.out).mono ?_
      rw [HE.out]
      rintro e w1 ⟨rfl, rfl⟩
      go_wp2_with fail
      refine (HC.out _ H0.out).mono ?_
      rw [HE.out, HCO.out]
      rintro e w2 ⟨v2, rfl, O2, BX⟩
      obtain ⟨A2, c2, rfl, H2⟩ := own_ri O2
      rw [HCL.out]
      have HS2 := Lib.hid H2
      have HB := Lib.hid BX
      clear O2 BX H2 HC
      go_wp2_with fail
      go_loopw [34] (fun iv wr => ∃ i : Nat, iv = .int .i64 (i : Int) ∧ i ≤ s0.length ∧ Hid (RI wr A2 c2 (codesL s0)) ∧ Hid (Below W.heap.size W wr)) (fun iv _ => s0.length - (intOf iv).toNat)
      case atStart => exact ⟨0, rfl, Nat.zero_le _, HS2, HB⟩
      case round =>
        clear HS2 HB
        obtain ⟨i, rfl, hi, hS, hB⟩ := hrel
        by_cases hlt : i < s0.length
        · obtain ⟨ad, rfl, hc⟩ := rd_int (H0.out.below hB.out) i hlt
          obtain ⟨ad2, rfl, hc2⟩ := rd_int hS.out i (by rw [HCL.out]; exact hlt)
          rw [codesL_nth _ _ hlt] at hc2
          have hcl := code_lt HR.out.ok.len16 HR.out.full hlt
          have hin := HR.out.ok.at i
          have h16 := HR.out.ok.len16 i
          obtain ⟨k, hk⟩ : ∃ k : Nat, lenOf s0 i = k := ⟨_, rfl⟩
          have hx : nth 0 s0 i = (k : Int) := by rw [← hk]; unfold lenOf; have := hin.1; omega
          rw [hx] at hc
          rw [hk] at hcl h16
          obtain ⟨C, hC⟩ : ∃ C, codeN s0 i = C := ⟨_, rfl⟩
          rw [hC] at hc2 hcl
          have HKK := Lib.hid (show lenOf s0 i = k ∧ codeN s0 i = C from ⟨hk, hC⟩)
          obtain ⟨Q, hQ⟩ : ∃ Q : Nat, 2 ^ k = Q := ⟨_, rfl⟩
          have hQ6 : Q ≤ 65536 := by rw [← hQ]; have := Nat.pow_le_pow_right (n := 2) (by decide) h16; simpa using this
          have hwq : IntKind.i64.wrap ((2 : Int) ^ k) = (Q : Int) := by rw [show (2 : Int) ^ k = (Q : Int) by rw [← hQ]; simp]; exact IntWalk.i64_in _ (by omega)
          rw [hQ] at hcl
          have hii : (i : Int) < (s0.length : Int) := by omega
          have dC : decide ((C : Int) < 0) = false := decide_eq_false (by omega)
          have dQ : decide ((Q : Int) ≤ (C : Int)) = false := decide_eq_false (by omega)
          clear hx hk hC hQ hin
          go_wp2
          go_quiet (fail)
          go_wp2
          have HB2 := Lib.hid (below_drewN hB.out nq)
          have HS2 := Lib.hid (hS.out.below (below_drewN (Below.refl wr.heap.size wr) nq))
          clear hB hS dC dQ hwq hQ6 hcl hc hc2
          obtain ⟨wo, rfl⟩ : ∃ wo, wo = wr := ⟨_, rfl⟩
          go_loopw [55] (fun iv wr => ∃ j : Nat, iv = .int .i64 (j : Int) ∧ j ≤ s0.length ∧ Hid (RI wr (some ad2) c2 (codesL s0)) ∧ Hid (Below W.heap.size W wr)) (fun iv _ => s0.length - (intOf iv).toNat)
          case atStart => exact ⟨0, rfl, Nat.zero_le _, HS2, HB2⟩
          case round =>
            clear HS2 HB2
            obtain ⟨j, rfl, hj, hS, hB⟩ := hrel
            by_cases hjt : j < s0.length
            · obtain ⟨ad', e', hc⟩ := rd_int (H0.out.below hB.out) j hjt
              injection e' with e'; subst e'
              obtain ⟨ad', e', hc2⟩ := rd_int hS.out i (by rw [HCL.out]; exact hlt)
              injection e' with e'; subst e'
              obtain ⟨ad', e', hc3⟩ := rd_int hS.out j (by rw [HCL.out]; exact hjt)
              injection e' with e'; subst e'
              rw [codesL_nth _ _ hlt, HKK.out.2] at hc2
              rw [codesL_nth _ _ hjt] at hc3
              have hin := HR.out.ok.at j
              have hm16 := HR.out.ok.len16 j
              obtain ⟨m, hm⟩ : ∃ m : Nat, lenOf s0 j = m := ⟨_, rfl⟩
              have hx : nth 0 s0 j = (m : Int) := by rw [← hm]; unfold lenOf; have := hin.1; omega
              rw [hx] at hc
              rw [hm] at hm16
              obtain ⟨D, hD⟩ : ∃ D, codeN s0 j = D := ⟨_, rfl⟩
              rw [hD] at hc3
              have hfree : i ≠ j → 0 < k → k ≤ m → D / 2 ^ (m - k) ≠ C := fun h1 h2 h3 => by
                have := code_free HR.out.ok.len16 hlt hjt h1 (by rw [HKK.out.1]; exact h2) (by rw [HKK.out.1, hm]; exact h3)
                rwa [HKK.out.1, HKK.out.2, hm, hD] at this
              have hji : (j : Int) < (s0.length : Int) := by omega
              clear hx hm hD hin
              have HFR := Lib.hid hfree
              clear hfree
              by_cases h1 : i = j
              · have h1b : ((i : Int) != (j : Int)) = false := by simp [h1]
                have H1 := Lib.hid h1
                clear h1
                go_wp2
                go_quiet (fail)
                go_wp2
                go_roundw
                case rel => exact ⟨j + 1, by go_num, by omega, Lib.hid (hS.out.below (below_drewN (Below.refl wr.heap.size wr) _)), Lib.hid (below_drewN hB.out _)⟩
                case measure => simp [intOf]; omega
              · have h1b : ((i : Int) != (j : Int)) = true := by simp only [bne_iff_ne, ne_eq]; omega
                by_cases h2 : 0 < k
                · have h2b : decide ((0 : Int) < (k : Int)) = true := decide_eq_true (by omega)
                  have h2c : decide (0 < k) = true := decide_eq_true (by omega)
                  by_cases h3 : k ≤ m
                  · have h3b : decide ((k : Int) ≤ (m : Int)) = true := decide_eq_true (by omega)
                    have h3c : decide (k ≤ m) = true := decide_eq_true (by omega)
                    have hne := HFR.out h1 h2 h3
                    obtain ⟨d, hd⟩ : ∃ d : Nat, m - k = d := ⟨_, rfl⟩
                    rw [hd] at hne
                    have hw1 : IntKind.i64.wrap ((m : Int) - (k : Int)) = (d : Int) := by rw [IntWalk.i64_in _ (by omega)]; omega
                    have hd16 : d ≤ 16 := by omega
                    have hneb : ((D : Int) / 2 ^ d == (C : Int)) = false := by
                      have : (D : Int) / 2 ^ d = ((D / 2 ^ d : Nat) : Int) := by simp
                      rw [this]; simp only [beq_eq_false_iff_ne, ne_eq]; omega
                    clear h1 h2 h3 hd hne
                    go_wp2
                    go_quiet (fail)
                    go_wp2
                    go_roundw
                    case rel => exact ⟨j + 1, by go_num, by omega, Lib.hid (hS.out.below (below_drewN (Below.refl wr.heap.size wr) _)), Lib.hid (below_drewN hB.out _)⟩
                    case measure => simp [intOf]; omega
                  · have h3b : decide ((k : Int) ≤ (m : Int)) = false := decide_eq_false (by omega)
                    have h3c : decide (k ≤ m) = false := decide_eq_false (by omega)
                    clear h1 h2 h3
                    go_wp2
                    go_quiet (fail)
                    go_wp2
                    go_roundw
                    case rel => exact ⟨j + 1, by go_num, by omega, Lib.hid (hS.out.below (below_drewN (Below.refl wr.heap.size wr) _)), Lib.hid (below_drewN hB.out _)⟩
                    case measure => simp [intOf]; omega
                · have h2b : decide ((0 : Int) < (k : Int)) = false := decide_eq_false (by omega)
                  have h2c : decide (0 < k) = false := decide_eq_false (by omega)
                  clear h1 h2
                  go_wp2
                  go_quiet (fail)
                  go_wp2
                  go_roundw
                  case rel => exact ⟨j + 1, by go_num, by omega, Lib.hid (hS.out.below (below_drewN (Below.refl wr.heap.size wr) _)), Lib.hid (below_drewN hB.out _)⟩
                  case measure => simp [intOf]; omega
            · obtain rfl : j = s0.length := by omega
              go_wp2
              go_roundw
              case rel => exact ⟨i + 1, by go_num, by omega, hS, hB⟩
              case measure => simp [intOf]; omega
        · obtain rfl : i = s0.length := by omega
          go_wp2_with fail
          refine (awake_any _).mono ?_
          rintro e w9 ⟨rfl, b⟩
          go_wp2_with fail
          go_ret
          exact ⟨rfl, below2 hB.out b⟩
    · have hEb : (checkN s0 != 0) = true := by simp [hE]
      clear hE
      go_enter Try.func7, Try.ntmps7
      go_wp2_with fail
      refine (rcheck_any A0 c0 s0 _ H0.out).mono ?_
      rintro e w1 ⟨rfl, rfl⟩
      go_wp2_with fail
      refine (awake_any _).mono ?_
      rintro e w1 ⟨rfl, b1⟩
      go_wp2_with fail
      go_ret
      exact ⟨rfl, b1⟩
end Go.Proofs.Ytlbgkkkcbnagbaa

namespace Go.Proofs.Ytlbgkkkcbnagbaa
open Go.ChangeShapes Go.WideShapes Go.ChangeAt Go.WideMaps Go.WideElems Go.RowKit Go.Deep

theorem laidOut_prefixFree : laidOutB Try.prog = true := by kernel_rfl
set_option maxRecDepth 100000 in
theorem lifted_prefixFree (os : Os) (started : os.Started) (H : Type) (enc : TypeId × Value → H) :
    ReturnsInHanded {} Try.checked os 7 .any (Rows.prefixFreeSpec.pre6 enc Try.prog Try.f7 [] false) (Rows.prefixFreeSpec.post enc Try.prog Try.f7 false true false false) := by
  refine returnsInHanded_of_change_sized (C := Try.checked) own started (by kernel_rfl) Try.func7
    (ChangeSpec.witness6 (enc := enc) (C := Try.checked) false ⟨#[], #[.slice none 0 0], []⟩ 8 (by kernel_rfl) (by kernel_rfl) (by kernel_rfl) (by kernel_rfl)) ?_
  intro W base args ds gs before hval0 hW _ hsz0 _
  have hval : ∀ (j : Nat) t v, Try.f7.params[j]? = some t → args[j]? = some v → Value.okWide Try.prog W .any base t v := hval0
  have hW' := hW
  obtain ⟨p, q, hA0, hV, rfl, hfz, hnd⟩ := hW
  have hA : DataW.TrodAll enc Try.prog W 0 (fun _ => true) true Try.f7.params.toList args.toList ds p := hA0
  have hsz : (DataW.weightsEach Try.prog (Try.f7.params.toList ++ Rows.prefixFreeSpec.plain.varTypes Try.prog) (ds ++ gs)).all (· ≤ reachBytes) = true := hsz0
  rw [Try.params7] at hA hval hsz
  obtain ⟨v0, vs0, d0, ds0, p0, q0, hargs, rfl, rfl, h0, r0⟩ := trodAll_cons hA
  obtain ⟨rfl, rfl, rfl⟩ := trodAll_nil r0
  obtain rfl : args = #[v0] := by cases args; simp_all
  obtain ⟨rfl, rfl⟩ := trodVars_none hV
  have lt0 : ∀ x ∈ p0, x.block < W.heap.size := by obtain ⟨m, hm⟩ := h0; exact DataW.trod_lt m _ _ _ hm
  have y0 : ∀ m ∈ d0.weights Try.prog 22, m ≤ reachBytes := fun m hm => of_decide_eq_true (List.all_eq_true.1 hsz m (DataW.weights_mem_each (j := 0) rfl rfl m hm))
  obtain ⟨B0, l0, e0, rfl⟩ := okWide_slice Try.underlying22 (hval 0 22 v0 rfl rfl)
  obtain ⟨A0, c0, s0, hv0, hR0, hB0⟩ : ∃ A c xs, Value.slice B0 l0 e0 = .slice A xs.length c ∧ RI W A c xs ∧ ((∀ m ∈ d0.weights Try.prog 22, m ≤ reachBytes) → xs.length ≤ 140737488355328) := by obtain ⟨fuel, hf⟩ := h0; exact open_I hf
  have hwalk := prefixFree_walk A0 c0 s0 W hR0 (hB0 y0)
  rw [← hv0] at hwalk
  refine hwalk.mono fun e W' ⟨he, bel⟩ => ?_
  subst he
  exact ⟨_, rfl, _, _, _, [], _, [], hW', trodAll_mk1 (shut_bool Try.underlying4 _), (trodAll_cons_mk (Below.trod laidOut_prefixFree (by kernel_rfl) (of_decide_eq_true (by kernel_rfl)) h0 bel lt0) trodAll_mk0), rfl, bel.frame _, fun h => by cases h⟩
theorem prefixFree_holds : Rows.PrefixFreeSaid :=
  OpenClaim.holds_of_wide 7 Try.f7 rfl rfl rfl rfl rfl rfl rfl ⟨rfl, rfl, rfl, rfl, rfl⟩ rfl rfl rfl rfl rfl (by kernel_rfl) Try.func7 (by kernel_rfl)
    (of_decide_eq_true (by kernel_rfl)) (by unfold Func.isWrapper; first | (rw [if_pos (by decide +kernel)]; kernel_rfl) | (rw [if_neg (by decide +kernel)]; exact ⟨rfl, rfl⟩))
    (fun os started H enc _ => lifted_prefixFree os started H enc)
#print axioms prefixFree_holds
end Go.Proofs.Ytlbgkkkcbnagbaa
