/- The law PrefixLeast: it returns true for every input, and its arguments read as before. No conditions. -/
import Derived.Test.YtlbgkkkcbnagbaaKk
import Derived.Test.YtlbgkkkcbnagbaaKl
import Derived.Test.YtlbgkkkcbnagbaaKg
import Derived.Test.YtlbgkkkcbnagbaaRows
import Derived.OpenShut
import Derived.Carry
import Derived.SizedLaws
namespace Go.Proofs.Ytlbgkkkcbnagbaa
open Go.RowKit

set_option maxHeartbeats 4000000 in
set_option maxRecDepth 100000 in
theorem prefixLeast_walk (A0 : Option Addr) (c0 : Nat) (s0 : List Int) (most : Int) (A2 : Option Addr) (c2 : Nat) (s2 : List Int) (W : World) (hR0 : RI W A0 c0 s0) (_ : s0.length ≤ 140737488355328) (hR2 : RI W A2 c2 s2) (_ : s2.length ≤ 140737488355328) :
    Calls Try.prog 11 #[.slice A0 s0.length c0, .int .i64 most, .slice A2 s2.length c2] W fun e W' => e = .returned (.bool true) ∧ Below W.heap.size W W' := by
  have H0 := Lib.hid hR0
  have H2 := Lib.hid hR2
  clear hR0 hR2
  by_cases hg : (60 : Int) < (s0.length : Int) ∨ (60 : Int) < (s2.length : Int)
  · have hc : (decide ((60 : Int) < (s0.length : Int)) = true) ∨ (decide ((60 : Int) < (s0.length : Int)) = false ∧ decide ((60 : Int) < (s2.length : Int)) = true) := by
      simp only [decide_eq_true_eq, decide_eq_false_iff_not]; omega
    clear hg
    rcases hc with d0 | ⟨d0, d1⟩
    all_goals
      go_enter Try.func11, Try.ntmps11
      go_wp2_with fail
      refine (awake_any _).mono ?_
      rintro e w1 ⟨rfl, b1⟩
      go_wp2_with fail
      go_ret
      exact ⟨rfl, b1⟩
  · have d0 : decide ((60 : Int) < (s0.length : Int)) = false := decide_eq_false (by omega)
    have d1 : decide ((60 : Int) < (s2.length : Int)) = false := decide_eq_false (by omega)
    have h60 : s0.length ≤ 60 ∧ s2.length ≤ 60 := by omega
    have H60 := Lib.hid h60
    clear hg h60
    by_cases hE : lengthsE s0 most = 0
    · obtain ⟨m, rfl, hin⟩ := lengthsE_in hE
      have HIN := Lib.hid hin
      have HE := Lib.hid hE
      have HVL := Lib.hid (lengthsV_length hE)
      have HC := Lib.hid (lengths_all A0 c0 s0 m W H0.out)
      rw [hE] at HC
      have HCV := Lib.hid (cost_V hE hin)
      have HKV := Lib.hid (check_V hE hin)
      have HMV := Lib.hid (complete_V hE hin)
      have HNZ := Lib.hid hin.hi
      clear hE hin
      go_enter Try.func11, Try.ntmps11
      go_wp2_with fail
      refine HC.out.mono ?_
      rintro e w2 ⟨v2, rfl, O2, BX⟩
      obtain ⟨Al, cl, rfl, Hl⟩ := own_ri O2
      have HCo := Lib.hid (cost_any Al A0 cl c0 _ _ w2 Hl (H0.out.below BX))
      have HCm := Lib.hid (fun w h => complete_any Al cl (lengthsV s0 m) w h)
      rw [HVL.out] at HCo HCm ⊢
      rw [HCV.out] at HCo
      rw [HMV.out, HKV.out] at HCm
      clear O2 HC
      go_wp2_with fail
      refine HCo.out.mono ?_
      rintro e w3 ⟨rfl, b⟩
      replace Hl := Hl.below b; replace BX := below2 BX b; clear b HCo
      dsimp only
      obtain ⟨N, hN⟩ : ∃ N, costK (lengthsV s0 m) s0 s0.length = N := ⟨_, rfl⟩
      have HN := Lib.hid hN
      rw [hN]
      clear hN
      go_wp2_with fail
      refine (HCm.out _ Hl).mono ?_
      rintro e w4 ⟨rfl, b⟩
      have HS2 := Lib.hid (Hl.below b)
      have HB := Lib.hid (below2 BX b)
      clear b HCm Hl BX
      go_wp2_with fail
      go_loopw [13, 61] (fun sv iv wr => ∃ i : Nat, iv = .int .i64 (i : Int) ∧ i ≤ s0.length ∧ sv = .int .i64 ((coinsK s0 i).length : Int) ∧ Hid (RI wr Al cl (lengthsV s0 m)) ∧ Hid (Below W.heap.size W wr)) (fun _ iv _ => s0.length - (intOf iv).toNat)
      case atStart => exact ⟨0, rfl, Nat.zero_le _, rfl, HS2, HB⟩
      case round =>
        clear HS2 HB
        obtain ⟨i, rfl, hi, rfl, hS, hB⟩ := hrel
        by_cases hlt : i < s0.length
        · obtain ⟨ad, rfl, hc⟩ := rd_int (H0.out.below hB.out) i hlt
          obtain ⟨ad2, rfl, hc2⟩ := rd_int hS.out i (by rw [HVL.out]; exact hlt)
          rw [lengthsV_at HE.out hlt] at hc2
          have hii : (i : Int) < (s0.length : Int) := by omega
          have hle := lenN_le HIN.out i
          have hpi := lenN_pos_iff (s := i) HIN.out
          have hcl := coinsK_len s0 i
          have hck : (coinsK s0 (i + 1)).length = if 0 < nth 0 s0 i then (coinsK s0 i).length + 1 else (coinsK s0 i).length := by
            show (if 0 < nth 0 s0 i then _ else _ : List It).length = _
            split <;> simp
          have hl60 := H60.out
          generalize nth 0 s0 i = x at hc hpi hck
          generalize lenN s0 m i = P at hc2 hle hpi
          obtain ⟨q, hq⟩ : ∃ q, (coinsK s0 i).length = q := ⟨_, rfl⟩
          rw [hq] at hcl hck ⊢
          have dm : decide (m < P) = false := decide_eq_false (by omega)
          have dm2 : decide ((m : Int) < (P : Int)) = false := decide_eq_false (by omega)
          have hi60 : i ≤ 60 ∧ q ≤ 60 := by omega
          by_cases h1 : 0 < x
          · have h1b : decide (0 < x) = true := decide_eq_true h1
            have h2 := hpi.2 h1
            have h2b : decide (0 < P) = true := decide_eq_true h2
            have h2c : decide ((0 : Int) < (P : Int)) = true := decide_eq_true (by omega)
            rw [if_pos h1] at hck
            have HCK := Lib.hid hck
            have hwq : IntKind.i64.wrap ((q : Int) + 1) = (q : Int) + 1 := IntWalk.i64_in _ (by omega)
            have hwi : IntKind.i64.wrap ((i : Int) + 1) = (i : Int) + 1 := IntWalk.i64_in _ (by omega)
            clear h1 h2 hpi hle hcl hck hq hl60 hi60
            go_wp2
            go_roundw
            case rel => exact ⟨i + 1, by go_num, by omega, by rw [HCK.out]; go_num, hS, hB⟩
            case measure => simp [intOf]; omega
          · have h1b : decide (0 < x) = false := decide_eq_false h1
            have h2 : ¬ 0 < P := fun h => h1 (hpi.1 h)
            have h2b : decide (0 < P) = false := decide_eq_false h2
            have h2c : decide ((0 : Int) < (P : Int)) = false := decide_eq_false (by omega)
            rw [if_neg h1] at hck
            have HCK := Lib.hid hck
            have hwi : IntKind.i64.wrap ((i : Int) + 1) = (i : Int) + 1 := IntWalk.i64_in _ (by omega)
            clear h1 h2 hpi hle hcl hck hq hl60 hi60
            go_wp2
            go_roundw
            case rel => exact ⟨i + 1, by go_num, by omega, by rw [HCK.out], hS, hB⟩
            case measure => simp [intOf]; omega
        · obtain rfl : i = s0.length := by omega
          obtain ⟨n, hn⟩ : ∃ n, (coinsK s0 s0.length).length = n := ⟨_, rfl⟩
          rw [hn]
          clear hn
          obtain ⟨y, hy⟩ : ∃ y, decide (1 < n) = y := ⟨_, rfl⟩
          have hy2 : decide ((1 : Int) < (n : Int)) = y := by rw [← hy]; congr 1; simp; omega
          cases y
          all_goals
            go_wp2
            obtain ⟨wo, rfl⟩ : ∃ wo, wo = wr := ⟨_, rfl⟩
            go_loopw [101] (fun iv wr => ∃ j : Nat, iv = .int .i64 (j : Int) ∧ j ≤ s2.length ∧ Hid (∀ q, q < j → nth 0 s2 q ≤ (m : Int)) ∧ Hid (Below W.heap.size W wr)) (fun iv _ => s2.length - (intOf iv).toNat)
            case atStart => exact ⟨0, rfl, Nat.zero_le _, Lib.hid (fun q h => by omega), hB⟩
            case round =>
              clear hS hB
              obtain ⟨j, rfl, hj, hO, hB⟩ := hrel
              by_cases hjt : j < s2.length
              · obtain ⟨ad', rfl, hc⟩ := rd_int (H2.out.below hB.out) j hjt
                have hji : (j : Int) < (s2.length : Int) := by omega
                have hl60 := H60.out
                have hwj : IntKind.i64.wrap ((j : Int) + 1) = (j : Int) + 1 := IntWalk.i64_in _ (by omega)
                clear hl60
                by_cases h1 : (m : Int) < nth 0 s2 j
                · have h1b : decide ((m : Int) < nth 0 s2 j) = true := decide_eq_true h1
                  clear h1
                  go_wp2_with fail
                  refine (awake_any _).mono ?_
                  rintro e w9 ⟨rfl, b⟩
                  go_wp2_with fail
                  go_ret
                  exact ⟨rfl, below2 hB.out b⟩
                · have h1b : decide ((m : Int) < nth 0 s2 j) = false := decide_eq_false h1
                  have HO2 := Lib.hid (show ∀ q, q < j + 1 → nth 0 s2 q ≤ (m : Int) from fun q hq => by
                    rcases Nat.lt_or_ge q j with h | h
                    · exact hO.out q h
                    · obtain rfl : q = j := by omega
                      omega)
                  clear h1
                  go_wp2
                  go_roundw
                  case rel => exact ⟨j + 1, by go_num, by omega, HO2, hB⟩
                  case measure => simp [intOf]; omega
              · obtain rfl : j = s2.length := by omega
                have hle := least_V (other := s2) HE.out HIN.out (fun x hx => by
                  obtain ⟨q, hq, rfl⟩ := List.mem_iff_getElem.1 hx
                  have := hO.out q hq
                  rwa [nth_eq 0 _ q hq] at this)
                rw [HN.out] at hle
                go_wp2_with fail
                refine (rcost_any A2 A0 c2 c0 s2 s0 _ (H2.out.below hB.out) (H0.out.below hB.out)).mono ?_
                rintro e w9 ⟨rfl, rfl⟩
                obtain ⟨M, E, hME⟩ : ∃ M E, costN s2 s0 = (M, E) := ⟨_, _, rfl⟩
                rw [hME] at hle ⊢
                dsimp only at hle ⊢
                by_cases hE0 : E = 0
                · have hEb : (E == 0) = true := by simp [hE0]
                  have hlt2 := hle hE0
                  have hMb : decide (M < N) = false := decide_eq_false (by omega)
                  clear hE0 hlt2 hle hME
                  go_wp2_with fail
                  refine (awake_any _).mono ?_
                  rintro e w10 ⟨rfl, b⟩
                  go_wp2_with fail
                  go_ret
                  exact ⟨rfl, below2 hB.out b⟩
                · have hEb : (E == 0) = false := by simpa using hE0
                  clear hE0 hle hME
                  go_wp2_with fail
                  refine (awake_any _).mono ?_
                  rintro e w10 ⟨rfl, b⟩
                  go_wp2_with fail
                  go_ret
                  exact ⟨rfl, below2 hB.out b⟩
    · have hEb : (lengthsE s0 most != 0) = true := by simp [hE]
      have hV : lengthsV s0 most = [] := by unfold lengthsV; rw [if_pos hE]
      have HC := Lib.hid (lengths_all A0 c0 s0 most W H0.out)
      rw [hV] at HC
      clear hE hV
      go_enter Try.func11, Try.ntmps11
      go_wp2_with fail
      refine HC.out.mono ?_
      rintro e w2 ⟨v2, rfl, O2, BX⟩
      obtain ⟨Al, cl, rfl, Hl⟩ := own_ri O2
      clear O2 Hl
      go_wp2_with fail
      refine (awake_any _).mono ?_
      rintro e w1 ⟨rfl, b1⟩
      go_wp2_with fail
      go_ret
      exact ⟨rfl, below2 BX b1⟩
end Go.Proofs.Ytlbgkkkcbnagbaa

namespace Go.Proofs.Ytlbgkkkcbnagbaa
open Go.ChangeShapes Go.WideShapes Go.ChangeAt Go.WideMaps Go.WideElems Go.RowKit Go.Deep

theorem laidOut_prefixLeast : laidOutB Try.prog = true := by kernel_rfl
set_option maxRecDepth 100000 in
theorem lifted_prefixLeast (os : Os) (started : os.Started) (H : Type) (enc : TypeId × Value → H) :
    ReturnsInHanded {} Try.checked os 11 .any (Rows.prefixLeastSpec.pre6 enc Try.prog Try.f11 [] false) (Rows.prefixLeastSpec.post enc Try.prog Try.f11 false true false false) := by
  refine returnsInHanded_of_change_sized (C := Try.checked) own started (by kernel_rfl) Try.func11
    (ChangeSpec.witness6 (enc := enc) (C := Try.checked) false ⟨#[], #[.slice none 0 0, .int .i64 0, .slice none 0 0], []⟩ 8 (by kernel_rfl) (by kernel_rfl) (by kernel_rfl) (by kernel_rfl)) ?_
  intro W base args ds gs before hval0 hW _ hsz0 _
  have hval : ∀ (j : Nat) t v, Try.f11.params[j]? = some t → args[j]? = some v → Value.okWide Try.prog W .any base t v := hval0
  have hW' := hW
  obtain ⟨p, q, hA0, hV, rfl, hfz, hnd⟩ := hW
  have hA : DataW.TrodAll enc Try.prog W 0 (fun _ => true) true Try.f11.params.toList args.toList ds p := hA0
  have hsz : (DataW.weightsEach Try.prog (Try.f11.params.toList ++ Rows.prefixLeastSpec.plain.varTypes Try.prog) (ds ++ gs)).all (· ≤ reachBytes) = true := hsz0
  rw [Try.params11] at hA hval hsz
  obtain ⟨v0, vs0, d0, ds0, p0, q0, hargs, rfl, rfl, h0, r0⟩ := trodAll_cons hA
  obtain ⟨v1, vs1, d1, ds1, p1, q1, rfl, rfl, rfl, h1, r1⟩ := trodAll_cons r0
  obtain ⟨v2, vs2, d2, ds2, p2, q2, rfl, rfl, rfl, h2, r2⟩ := trodAll_cons r1
  obtain ⟨rfl, rfl, rfl⟩ := trodAll_nil r2
  obtain rfl : args = #[v0, v1, v2] := by cases args; simp_all
  obtain ⟨rfl, rfl⟩ := trodVars_none hV
  have lt0 : ∀ x ∈ p0, x.block < W.heap.size := by obtain ⟨m, hm⟩ := h0; exact DataW.trod_lt m _ _ _ hm
  have y0 : ∀ m ∈ d0.weights Try.prog 22, m ≤ reachBytes := fun m hm => of_decide_eq_true (List.all_eq_true.1 hsz m (DataW.weights_mem_each (j := 0) rfl rfl m hm))
  obtain ⟨B0, l0, e0, rfl⟩ := okWide_slice Try.underlying22 (hval 0 22 v0 rfl rfl)
  obtain ⟨A0, c0, s0, hv0, hR0, hB0⟩ : ∃ A c xs, Value.slice B0 l0 e0 = .slice A xs.length c ∧ RI W A c xs ∧ ((∀ m ∈ d0.weights Try.prog 22, m ≤ reachBytes) → xs.length ≤ 140737488355328) := by obtain ⟨fuel, hf⟩ := h0; exact open_I hf
  have lt1 : ∀ x ∈ p1, x.block < W.heap.size := by obtain ⟨m, hm⟩ := h1; exact DataW.trod_lt m _ _ _ hm
  have y1 : ∀ m ∈ d1.weights Try.prog 3, m ≤ reachBytes := fun m hm => of_decide_eq_true (List.all_eq_true.1 hsz m (DataW.weights_mem_each (j := 1) rfl rfl m hm))
  obtain ⟨a1, rfl, _, _, w1⟩ := open_int Try.underlying3 (hval 1 3 v1 rfl rfl) h1
  have lt2 : ∀ x ∈ p2, x.block < W.heap.size := by obtain ⟨m, hm⟩ := h2; exact DataW.trod_lt m _ _ _ hm
  have y2 : ∀ m ∈ d2.weights Try.prog 22, m ≤ reachBytes := fun m hm => of_decide_eq_true (List.all_eq_true.1 hsz m (DataW.weights_mem_each (j := 2) rfl rfl m hm))
  obtain ⟨B2, l2, e2, rfl⟩ := okWide_slice Try.underlying22 (hval 2 22 v2 rfl rfl)
  obtain ⟨A2, c2, s2, hv2, hR2, hB2⟩ : ∃ A c xs, Value.slice B2 l2 e2 = .slice A xs.length c ∧ RI W A c xs ∧ ((∀ m ∈ d2.weights Try.prog 22, m ≤ reachBytes) → xs.length ≤ 140737488355328) := by obtain ⟨fuel, hf⟩ := h2; exact open_I hf
  have hwalk := prefixLeast_walk A0 c0 s0 a1 A2 c2 s2 W hR0 (hB0 y0) hR2 (hB2 y2)
  rw [← hv0] at hwalk
  rw [← hv2] at hwalk
  refine hwalk.mono fun e W' ⟨he, bel⟩ => ?_
  subst he
  exact ⟨_, rfl, _, _, _, [], _, [], hW', trodAll_mk1 (shut_bool Try.underlying4 _), (trodAll_cons_mk (Below.trod laidOut_prefixLeast (by kernel_rfl) (of_decide_eq_true (by kernel_rfl)) h0 bel lt0) (trodAll_cons_mk (Below.trod laidOut_prefixLeast (by kernel_rfl) (of_decide_eq_true (by kernel_rfl)) h1 bel lt1) (trodAll_cons_mk (Below.trod laidOut_prefixLeast (by kernel_rfl) (of_decide_eq_true (by kernel_rfl)) h2 bel lt2) trodAll_mk0))), rfl, bel.frame _, fun h => by cases h⟩
theorem prefixLeast_holds : Rows.PrefixLeastSaid :=
  OpenClaim.holds_of_wide 11 Try.f11 rfl rfl rfl rfl rfl rfl rfl ⟨rfl, rfl, rfl, rfl, rfl⟩ rfl rfl rfl rfl rfl (by kernel_rfl) Try.func11 (by kernel_rfl)
    (of_decide_eq_true (by kernel_rfl)) (by unfold Func.isWrapper; first | (rw [if_pos (by decide +kernel)]; kernel_rfl) | (rw [if_neg (by decide +kernel)]; exact ⟨rfl, rfl⟩))
    (fun os started H enc _ => lifted_prefixLeast os started H enc)
#print axioms prefixLeast_holds
end Go.Proofs.Ytlbgkkkcbnagbaa
