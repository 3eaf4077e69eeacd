/- The law PrefixOrder: it returns true for every input, and its arguments read as before. No conditions. -/
import Derived.Test.YtlbgkkkcbnagbaaKk
import Derived.Test.YtlbgkkkcbnagbaaKl
import Derived.Test.YtlbgkkkcbnagbaaRows
import Derived.OpenShut
import Derived.Carry
import Derived.SizedLaws
namespace Go.Proofs.Ytlbgkkkcbnagbaa
open Go.RowKit

set_option maxHeartbeats 4000000 in
set_option maxRecDepth 100000 in
theorem prefixOrder_walk (A0 : Option Addr) (c0 : Nat) (s0 : List Int) (most : Int) (W : World) (hR0 : RI W A0 c0 s0) (_ : s0.length ≤ 140737488355328) :
    Calls Try.prog 8 #[.slice A0 s0.length c0, .int .i64 most] W fun e W' => e = .returned (.bool true) ∧ Below W.heap.size W W' := by
  have H0 := Lib.hid hR0
  clear hR0
  by_cases hg : (300 : Int) < (s0.length : Int)
  · have d0 : decide ((300 : Int) < (s0.length : Int)) = true := decide_eq_true hg
    clear hg
    go_enter Try.func8, Try.ntmps8
    go_wp2_with fail
    refine (awake_any _).mono ?_
    rintro e w1 ⟨rfl, b1⟩
    go_wp2_with fail
    go_ret
    exact ⟨rfl, b1⟩
  · have d0 : decide ((300 : Int) < (s0.length : Int)) = false := decide_eq_false hg
    have h300 : s0.length ≤ 300 := by omega
    clear hg
    by_cases hE : lengthsE s0 most = 0
    · obtain ⟨m, rfl, hin⟩ := lengthsE_in hE
      have HIN := Lib.hid hin
      have HE := Lib.hid hE
      have HVL := Lib.hid (lengthsV_length hE)
      have HC := Lib.hid (lengths_all A0 c0 s0 m W H0.out)
      rw [hE] at HC
      clear hE hin
      go_enter Try.func8, Try.ntmps8
      go_wp2_with fail
      refine HC.out.mono ?_
      rintro e w2 ⟨v2, rfl, O2, BX⟩
      obtain ⟨A2, c2, rfl, H2⟩ := own_ri O2
      rw [HVL.out]
      have HS2 := Lib.hid H2
      have HB := Lib.hid BX
      clear O2 BX H2 HC
      go_wp2_with fail
      go_loopw [31] (fun iv wr => ∃ i : Nat, iv = .int .i64 (i : Int) ∧ i ≤ s0.length ∧ Hid (RI wr A2 c2 (lengthsV s0 m)) ∧ Hid (Below W.heap.size W wr)) (fun iv _ => s0.length - (intOf iv).toNat)
      case atStart => exact ⟨0, rfl, Nat.zero_le _, HS2, HB⟩
      case round =>
        clear HS2 HB
        obtain ⟨i, rfl, hi, hS, hB⟩ := hrel
        by_cases hlt : i < s0.length
        · obtain ⟨ad, rfl, hc⟩ := rd_int (H0.out.below hB.out) i hlt
          obtain ⟨ad2, rfl, _⟩ := rd_int hS.out i (by rw [HVL.out]; exact hlt)
          have hii : (i : Int) < (s0.length : Int) := by omega
          obtain ⟨x, hx⟩ : ∃ x, nth 0 s0 i = x := ⟨_, rfl⟩
          have HX := Lib.hid hx
          rw [hx] at hc
          clear hx
          go_wp2
          obtain ⟨wo, rfl⟩ : ∃ wo, wo = wr := ⟨_, rfl⟩
          go_loopw [38] (fun iv wr => ∃ j : Nat, iv = .int .i64 (j : Int) ∧ j ≤ s0.length ∧ Hid (RI wr (some ad2) c2 (lengthsV s0 m)) ∧ Hid (Below W.heap.size W wr)) (fun iv _ => s0.length - (intOf iv).toNat)
          case atStart => exact ⟨0, rfl, Nat.zero_le _, hS, hB⟩
          case round =>
            clear hS hB hc
            obtain ⟨j, rfl, hj, hS, hB⟩ := hrel
            by_cases hjt : j < s0.length
            · obtain ⟨ad', e', hc⟩ := rd_int (H0.out.below hB.out) j hjt
              injection e' with e'; subst e'
              obtain ⟨ad', e', hc2⟩ := rd_int hS.out i (by rw [HVL.out]; exact hlt)
              injection e' with e'; subst e'
              obtain ⟨ad', e', hc3⟩ := rd_int hS.out j (by rw [HVL.out]; exact hjt)
              injection e' with e'; subst e'
              rw [lengthsV_at HE.out hlt] at hc2
              rw [lengthsV_at HE.out hjt] at hc3
              have hord : 0 < nth 0 s0 j → nth 0 s0 j < nth 0 s0 i → lenN s0 m i ≤ lenN s0 m j := lenN_order HIN.out
              rw [HX.out] at hord
              have hji : (j : Int) < (s0.length : Int) := by omega
              generalize nth 0 s0 j = y at hc hord
              generalize lenN s0 m i = P at hc2 hord
              generalize lenN s0 m j = Q at hc3 hord
              by_cases h1 : y < x
              · have h1b : decide (y < x) = true := decide_eq_true h1
                by_cases h2 : 0 < y
                · have h2b : decide (0 < y) = true := decide_eq_true h2
                  have hPQ := hord h2 h1
                  have h3b : decide (Q < P) = false := decide_eq_false (by omega)
                  have h3c : decide ((Q : Int) < (P : Int)) = false := decide_eq_false (by omega)
                  clear h1 h2 hord hPQ
                  go_wp2
                  go_quiet (fail)
                  go_wp2
                  go_roundw
                  case rel => exact ⟨j + 1, by go_num, by omega, Lib.hid (hS.out.below (below_drewN (Below.refl wr.heap.size wr) _)), Lib.hid (below_drewN hB.out _)⟩
                  case measure => simp [intOf]; omega
                · have h2b : decide (0 < y) = false := decide_eq_false h2
                  clear h1 h2 hord
                  go_wp2
                  go_quiet (fail)
                  go_wp2
                  go_roundw
                  case rel => exact ⟨j + 1, by go_num, by omega, Lib.hid (hS.out.below (below_drewN (Below.refl wr.heap.size wr) _)), Lib.hid (below_drewN hB.out _)⟩
                  case measure => simp [intOf]; omega
              · have h1b : decide (y < x) = false := decide_eq_false h1
                clear h1 hord
                go_wp2
                go_quiet (fail)
                go_wp2
                go_roundw
                case rel => exact ⟨j + 1, by go_num, by omega, Lib.hid (hS.out.below (below_drewN (Below.refl wr.heap.size wr) _)), Lib.hid (below_drewN hB.out _)⟩
                case measure => simp [intOf]; omega
            · obtain rfl : j = s0.length := by omega
              go_wp2
              go_roundw
              case rel => exact ⟨i + 1, by go_num, by omega, hS, hB⟩
              case measure => simp [intOf]; omega
        · obtain rfl : i = s0.length := by omega
          go_wp2_with fail
          refine (awake_any _).mono ?_
          rintro e w9 ⟨rfl, b⟩
          go_wp2_with fail
          go_ret
          exact ⟨rfl, below2 hB.out b⟩
    · have hEb : (lengthsE s0 most != 0) = true := by simp [hE]
      clear hE
      go_enter Try.func8, Try.ntmps8
      go_wp2_with fail
      refine (lengths_all A0 c0 s0 most _ H0.out).mono ?_
      rintro e w2 ⟨v2, rfl, _, BX⟩
      go_wp2_with fail
      refine (awake_any _).mono ?_
      rintro e w1 ⟨rfl, b1⟩
      go_wp2_with fail
      go_ret
      exact ⟨rfl, below2 BX b1⟩
end Go.Proofs.Ytlbgkkkcbnagbaa

namespace Go.Proofs.Ytlbgkkkcbnagbaa
open Go.ChangeShapes Go.WideShapes Go.ChangeAt Go.WideMaps Go.WideElems Go.RowKit Go.Deep

theorem laidOut_prefixOrder : laidOutB Try.prog = true := by kernel_rfl
set_option maxRecDepth 100000 in
theorem lifted_prefixOrder (os : Os) (started : os.Started) (H : Type) (enc : TypeId × Value → H) :
    ReturnsInHanded {} Try.checked os 8 .any (Rows.prefixOrderSpec.pre6 enc Try.prog Try.f8 [] false) (Rows.prefixOrderSpec.post enc Try.prog Try.f8 false true false false) := by
  refine returnsInHanded_of_change_sized (C := Try.checked) own started (by kernel_rfl) Try.func8
    (ChangeSpec.witness6 (enc := enc) (C := Try.checked) false ⟨#[], #[.slice none 0 0, .int .i64 0], []⟩ 8 (by kernel_rfl) (by kernel_rfl) (by kernel_rfl) (by kernel_rfl)) ?_
  intro W base args ds gs before hval0 hW _ hsz0 _
  have hval : ∀ (j : Nat) t v, Try.f8.params[j]? = some t → args[j]? = some v → Value.okWide Try.prog W .any base t v := hval0
  have hW' := hW
  obtain ⟨p, q, hA0, hV, rfl, hfz, hnd⟩ := hW
  have hA : DataW.TrodAll enc Try.prog W 0 (fun _ => true) true Try.f8.params.toList args.toList ds p := hA0
  have hsz : (DataW.weightsEach Try.prog (Try.f8.params.toList ++ Rows.prefixOrderSpec.plain.varTypes Try.prog) (ds ++ gs)).all (· ≤ reachBytes) = true := hsz0
  rw [Try.params8] at hA hval hsz
  obtain ⟨v0, vs0, d0, ds0, p0, q0, hargs, rfl, rfl, h0, r0⟩ := trodAll_cons hA
  obtain ⟨v1, vs1, d1, ds1, p1, q1, rfl, rfl, rfl, h1, r1⟩ := trodAll_cons r0
  obtain ⟨rfl, rfl, rfl⟩ := trodAll_nil r1
  obtain rfl : args = #[v0, v1] := by cases args; simp_all
  obtain ⟨rfl, rfl⟩ := trodVars_none hV
  have lt0 : ∀ x ∈ p0, x.block < W.heap.size := by obtain ⟨m, hm⟩ := h0; exact DataW.trod_lt m _ _ _ hm
  have y0 : ∀ m ∈ d0.weights Try.prog 22, m ≤ reachBytes := fun m hm => of_decide_eq_true (List.all_eq_true.1 hsz m (DataW.weights_mem_each (j := 0) rfl rfl m hm))
  obtain ⟨B0, l0, e0, rfl⟩ := okWide_slice Try.underlying22 (hval 0 22 v0 rfl rfl)
  obtain ⟨A0, c0, s0, hv0, hR0, hB0⟩ : ∃ A c xs, Value.slice B0 l0 e0 = .slice A xs.length c ∧ RI W A c xs ∧ ((∀ m ∈ d0.weights Try.prog 22, m ≤ reachBytes) → xs.length ≤ 140737488355328) := by obtain ⟨fuel, hf⟩ := h0; exact open_I hf
  have lt1 : ∀ x ∈ p1, x.block < W.heap.size := by obtain ⟨m, hm⟩ := h1; exact DataW.trod_lt m _ _ _ hm
  have y1 : ∀ m ∈ d1.weights Try.prog 3, m ≤ reachBytes := fun m hm => of_decide_eq_true (List.all_eq_true.1 hsz m (DataW.weights_mem_each (j := 1) rfl rfl m hm))
  obtain ⟨a1, rfl, _, _, w1⟩ := open_int Try.underlying3 (hval 1 3 v1 rfl rfl) h1
  have hwalk := prefixOrder_walk A0 c0 s0 a1 W hR0 (hB0 y0)
  rw [← hv0] at hwalk
  refine hwalk.mono fun e W' ⟨he, bel⟩ => ?_
  subst he
  exact ⟨_, rfl, _, _, _, [], _, [], hW', trodAll_mk1 (shut_bool Try.underlying4 _), (trodAll_cons_mk (Below.trod laidOut_prefixOrder (by kernel_rfl) (of_decide_eq_true (by kernel_rfl)) h0 bel lt0) (trodAll_cons_mk (Below.trod laidOut_prefixOrder (by kernel_rfl) (of_decide_eq_true (by kernel_rfl)) h1 bel lt1) trodAll_mk0)), rfl, bel.frame _, fun h => by cases h⟩
theorem prefixOrder_holds : Rows.PrefixOrderSaid :=
  OpenClaim.holds_of_wide 8 Try.f8 rfl rfl rfl rfl rfl rfl rfl ⟨rfl, rfl, rfl, rfl, rfl⟩ rfl rfl rfl rfl rfl (by kernel_rfl) Try.func8 (by kernel_rfl)
    (of_decide_eq_true (by kernel_rfl)) (by unfold Func.isWrapper; first | (rw [if_pos (by decide +kernel)]; kernel_rfl) | (rw [if_neg (by decide +kernel)]; exact ⟨rfl, rfl⟩))
    (fun os started H enc _ => lifted_prefixOrder os started H enc)
#print axioms prefixOrder_holds
end Go.Proofs.Ytlbgkkkcbnagbaa
