/- The law ScaleFar: it returns true for every input, and its arguments read as before. No conditions. -/
import Derived.Test.YtkfgomhhenmmeaaKi
import Derived.Test.YtkfgomhhenmmeaaRows
import Derived.OpenShut
import Derived.Carry
import Derived.SizedLaws
namespace Go.Proofs.Ytkfgomhhenmmeaa
open Go.RowKit

set_option maxHeartbeats 4000000 in
set_option maxRecDepth 100000 in
theorem scaleFar_walk (A0 : Option Addr) (c0 : Nat) (s0 : List Int) (A1 : Option Addr) (c1 : Nat) (s1 : List Bool) (m : Int) (W : World) (hR0 : RI W A0 c0 s0) (hl0 : s0.length ≤ 140737488355328) (hR1 : RB W A1 c1 s1) :
    Calls Try.prog 8 #[.slice A0 s0.length c0, .slice A1 s1.length c1, .int .i64 m] W fun e W' => e = .returned (.bool true) ∧ Below W.heap.size W W' := by
  cases hfew : fewB s1.length [s0]
  · have HF := Lib.hid hfew; clear hfew
    go_enter Try.func8, Try.ntmps8
    go_wp2_with fail
    refine (few1_any A0 A1 c0 c1 s0 s1 _ hR0).mono ?_
    rw [HF.out]
    rintro e w1 ⟨rfl, b⟩
    have BX := b; clear b
    go_wp2_with fail
    refine (awake_any _).mono ?_
    rintro e w2 ⟨rfl, b⟩
    replace BX := below2 BX b; clear b
    go_wp2_with fail
    go_ret
    exact ⟨rfl, BX⟩
  have HF := Lib.hid hfew; clear hfew
  go_enter Try.func8, Try.ntmps8
  go_wp2_with fail
  refine (few1_any A0 A1 c0 c1 s0 s1 _ hR0).mono ?_
  rw [HF.out]
  rintro e w1 ⟨rfl, b⟩
  have BX := b
  replace hR0 := hR0.below b; replace hR1 := hR1.below b; clear b
  go_wp2_with fail
  refine (slengths_any _).mono ?_
  rintro e w2 ⟨v2, rfl, hO, b⟩
  obtain ⟨A2, c2, rfl, hL⟩ := own_ri hO
  rw [tabI_length]
  replace hR0 := hR0.below b; replace hR1 := hR1.below b; replace BX := below2 BX b; clear b hO
  have HL := Lib.hid hL
  have HR0 := Lib.hid hR0
  have HR1 := Lib.hid hR1
  have HBX := Lib.hid BX
  clear hL hR0 hR1 BX
  go_wp2_with fail
  go_loopw [8] (fun dv wr => ∃ d : Nat, dv = .int .i64 (d : Int) ∧ 1 ≤ d ∧ d ≤ 95 ∧ Hid (Below w2.heap.size w2 wr)) (fun dv _ => 95 - (intOf dv).toNat)
  case atStart => exact ⟨1, rfl, by omega, by omega, Lib.hid (Below.refl _ _)⟩
  case round =>
  obtain ⟨d, rfl, hd1, hd2, hB⟩ := hrel
  by_cases hlt : d < 95
  · have hdi : (d : Int) < 95 := by omega
    obtain ⟨f1, f2, f3, f4⟩ := far_at d hd1 hlt
    have hrd := fun k (hk : k < 191) => rd_int (HL.out.below hB.out) k (by rw [tabI_length]; exact hk)
    obtain ⟨ad, rfl, k1⟩ := hrd (95 + d) (by omega)
    obtain ⟨ad2, e2, k2⟩ := hrd (96 + d) (by omega)
    cases e2
    obtain ⟨ad3, e3, k3⟩ := hrd (95 - d) (by omega)
    cases e3
    obtain ⟨ad4, e4, k4⟩ := hrd (94 - d) (by omega)
    cases e4
    obtain ⟨ad5, e5, k5⟩ := hrd 95 (by omega)
    cases e5
    replace k5 : wr.cell? ⟨ad.block, ad.off + 95, none⟩ = some (.int .i64 (nth 0 tabI 95)) := by simpa [Addr.add] using k5
    generalize nth 0 tabI 95 = x5 at k5 f3 f4
    generalize nth 0 tabI (95 + d) = x1 at k1 f1 f3
    generalize nth 0 tabI (96 + d) = x2 at k2 f1
    generalize nth 0 tabI (95 - d) = x3 at k3 f2 f4
    generalize nth 0 tabI (94 - d) = x4 at k4 f2
    obtain ⟨q1, h1⟩ : ∃ q, 95 + d = q := ⟨_, rfl⟩
    obtain ⟨q2, h2⟩ : ∃ q, 96 + d = q := ⟨_, rfl⟩
    obtain ⟨q3, h3⟩ : ∃ q, 95 - d = q := ⟨_, rfl⟩
    obtain ⟨q4, h4⟩ : ∃ q, 94 - d = q := ⟨_, rfl⟩
    rw [h1] at k1
    rw [h2] at k2
    rw [h3] at k3
    rw [h4] at k4
    have w1' : IntKind.i64.wrap (95 + (d : Int)) = (q1 : Int) := by rw [IntWalk.i64_in _ (by omega)]; omega
    have w2' : IntKind.i64.wrap (96 + (d : Int)) = (q2 : Int) := by rw [IntWalk.i64_in _ (by omega)]; omega
    have w3' : IntKind.i64.wrap (95 - (d : Int)) = (q3 : Int) := by rw [IntWalk.i64_in _ (by omega)]; omega
    have w4' : IntKind.i64.wrap (94 - (d : Int)) = (q4 : Int) := by rw [IntWalk.i64_in _ (by omega)]; omega
    have b1 : (q1 : Int) < 191 := by omega
    have b2 : (q2 : Int) < 191 := by omega
    have b3 : (q3 : Int) < 191 := by omega
    have b4 : (q4 : Int) < 191 := by omega
    have d1 : decide (x2 < x1) = false := decide_eq_false (by omega)
    have d2 : decide (x4 < x3) = false := decide_eq_false (by omega)
    have d3 : decide (x1 < x5) = false := decide_eq_false (by omega)
    have d4 : decide (x3 < x5) = false := decide_eq_false (by omega)
    have hwd : IntKind.i64.wrap ((d : Int) + 1) = (d : Int) + 1 := IntWalk.i64_in _ (by omega)
    clear h1 h2 h3 h4 f1 f2 f3 f4 hrd hlt
    go_wp2
    go_quiet (fail)
    go_wp2
    go_roundw
    case rel => exact ⟨d + 1, by go_num, by omega, by omega, Lib.hid (below_drewN hB.out _)⟩
    case measure => simp [intOf] <;> omega
  obtain rfl : d = 95 := by omega
  have HC := Lib.hid (rowB_cost s0 s1)
  have HB0 := Lib.hid (below2 HBX.out hB.out)
  have HS0 := Lib.hid (HR0.out.below hB.out)
  have HS1 := Lib.hid (HR1.out.below hB.out)
  clear hd1 hd2 hlt
  by_cases hE : checkedE s0 s1 = 0
  · have HOK := Lib.hid (checked_ok hE)
    have HUP := Lib.hid (fun (h : checkedE (upS s0 s1 m s1.length) s1 = 0) => costS_up (m := m) hE h)
    have HE := Lib.hid hE
    rw [hE] at HC
    have hlen : s0.length = s1.length := (checked_ok hE).1
    obtain ⟨n, hn⟩ : ∃ n, (rowB s0 s1).length = n := ⟨_, rfl⟩
    rw [hn] at HC
    clear hE hn
    have HLN := Lib.hid hlen
    have hlb : ((s0.length : Int) != (s1.length : Int)) = false := by simp [hlen]
    have hle : ((s0.length : Int) == (s1.length : Int)) = true := by simp [hlen]
    clear hlen
    have hcs : decide (m < -95) = true ∨ (decide (m < -95) = false ∧ decide (95 < m) = true) ∨ (decide (m < -95) = false ∧ decide (95 < m) = false ∧ -95 ≤ m ∧ m ≤ 95) := by
      by_cases h1 : m < -95
      · exact .inl (decide_eq_true h1)
      · by_cases h2 : 95 < m
        · exact .inr (.inl ⟨decide_eq_false h1, decide_eq_true h2⟩)
        · exact .inr (.inr ⟨decide_eq_false h1, decide_eq_false h2, by omega, by omega⟩)
    rcases hcs with d1 | ⟨d1, d2⟩ | ⟨d1, d2, d3, d4⟩
    · go_wp2_with fail
      refine (scost_any A0 A1 c0 c1 s0 s1 _ HS0.out HS1.out).mono ?_
      rw [HC.out]
      rintro e w5 ⟨rfl, b⟩
      have BX := below2 HB0.out b; clear b
      go_wp2_with fail
      refine (awake_any _).mono ?_
      rintro e w6 ⟨rfl, b⟩
      replace BX := below2 BX b; clear b
      go_wp2_with fail
      go_ret
      exact ⟨rfl, BX⟩
    · go_wp2_with fail
      refine (scost_any A0 A1 c0 c1 s0 s1 _ HS0.out HS1.out).mono ?_
      rw [HC.out]
      rintro e w5 ⟨rfl, b⟩
      have BX := below2 HB0.out b; clear b
      go_wp2_with fail
      refine (awake_any _).mono ?_
      rintro e w6 ⟨rfl, b⟩
      replace BX := below2 BX b; clear b
      go_wp2_with fail
      go_ret
      exact ⟨rfl, BX⟩
    · have HM := Lib.hid (show -95 ≤ m ∧ m ≤ 95 from ⟨d3, d4⟩)
      clear d3 d4
      go_wp2_with fail
      refine (scost_any A0 A1 c0 c1 s0 s1 _ HS0.out HS1.out).mono ?_
      rw [HC.out]
      rintro e w5 ⟨rfl, b⟩
      have BX := Lib.hid (below2 HB0.out b)
      have HT0 := Lib.hid (HS0.out.below b)
      have HT1 := Lib.hid (HS1.out.below b)
      clear b
      have ba := below_alloc (Below.refl w5.heap.size w5) (.cells (nums .i64 []).toArray 3)
      have HL0 := Lib.hid (own_lit w5 3 .i64 [] (by decide))
      have HBA := Lib.hid ba
      clear ba
      go_wp2_with (at_builtin; (refine append_row (w0 := w5) w5.heap.size rfl (.tmp 111) (.tmp 112) 22 3 .i64 8 rfl Try.underlying22 infoI (by decide) _ [] s0 A0 c0 rfl rfl HL0.out (HT0.out.below HBA.out) HBA.out HBA.out.size (by have := HOK.out; simp; omega) ?_); intro v6 w6 hO6 hB6 _ _; have HO6 := Lib.hid hO6; have HB6 := Lib.hid hB6; clear hO6 hB6)
      have hO6 := HO6.out
      rw [List.nil_append] at hO6
      obtain ⟨A6, c6, rfl, _⟩ := hO6.rd
      have HO7 := Lib.hid hO6
      clear hO6
      go_loopw [116] (fun iv wr => ∃ i : Nat, iv = .int .i64 (i : Int) ∧ i ≤ s1.length ∧ Hid (OwnI 3 .i64 w5.heap.size wr (.slice A6 s0.length c6) (upS s0 s1 m i)) ∧ Hid (Below w5.heap.size w5 wr)) (fun iv _ => s1.length - (intOf iv).toNat)
      case atStart => exact ⟨0, rfl, Nat.zero_le _, Lib.hid (by rw [upS_zero]; exact HO7.out), HB6⟩
      case round =>
        clear HO7
        obtain ⟨i, rfl, hi, hO, hB2⟩ := hrel
        by_cases hlt : i < s1.length
        · obtain ⟨ad, rfl, hcu⟩ := rd_bool (HT1.out.below hB2.out) i hlt
          have hii : (i : Int) < (s1.length : Int) := by omega
          have hii0 : (i : Int) < (s0.length : Int) := by have := HLN.out; omega
          cases hu : nth false s1 i
          · rw [hu] at hcu
            have HQ := Lib.hid (upS_miss (ss := s0) (m := m) hu)
            clear hu hlt
            go_wp2_with fail
            go_roundw
            case rel => exact ⟨i + 1, by go_num, by omega, by rw [HQ.out]; exact hO, hB2⟩
            case measure => simp [intOf] <;> omega
          · rw [hu] at hcu
            have HQ := Lib.hid (upS_hit (ss := s0) (m := m) hu)
            have hi0 : i < s0.length := by have := HLN.out; omega
            obtain ⟨g, cap, hv, hg1, _⟩ := hO.out.form (by rw [upS_length]; omega)
            injection hv with hv1 _ hv2
            subst hv1 hv2
            have hat := hO.out.at_ i (by rw [upS_length]; exact hi0)
            have k6 := hat.1
            have k7 := hat.2
            rw [upS_nth _ _ _ _ _ hi0, if_neg (by omega), Int.add_zero] at k6
            have hr := nth_range HOK.out.2.2.1 i
            generalize nth 0 s0 i = x at k6 hr HQ
            have hwx : IntKind.i64.wrap (x + m) = x + m := IntWalk.i64_in _ (by have := HM.out; omega)
            have HG := Lib.hid hg1
            clear hu hlt hi0 hat hr hg1
            go_wp2_with fail
            go_roundw
            case rel =>
              have hs := hO.out.set i (x + m)
              exact ⟨i + 1, by go_num, by omega, Lib.hid (by rw [← HQ.out]; exact hs.1), Lib.hid (hB2.out.grown hs.2 hB2.out.size (fun r e => by cases e; exact HG.out))⟩
            case measure => simp [intOf] <;> omega
        · obtain rfl : i = s1.length := by omega
          have hRU := own_sl hO.out
          have HRU := Lib.hid hRU
          have HUL := Lib.hid (upS_length s0 s1 m s1.length)
          have hcost := scost_any A6 A1 c6 c1 (upS s0 s1 m s1.length) s1 wr hRU (HT1.out.below hB2.out)
          rw [upS_length, rowB_cost] at hcost
          have HUP2 := Lib.hid (fun (h : checkedE (upS s0 s1 m s1.length) s1 = 0) => show ((rowB (upS s0 s1 m s1.length) s1).length : Int) = (n : Int) from by
            have h1 := HUP.out h
            rw [rowB_cost, HC.out] at h1
            exact h1)
          obtain ⟨F, hF⟩ : ∃ F, checkedE (upS s0 s1 m s1.length) s1 = F := ⟨_, rfl⟩
          obtain ⟨n2, hn2⟩ : ∃ n2, (rowB (upS s0 s1 m s1.length) s1).length = n2 := ⟨_, rfl⟩
          rw [hF, hn2] at HUP2 hcost
          have HCO := Lib.hid hcost
          have BX2 := Lib.hid (below2 BX.out hB2.out)
          clear hcost hF hn2 hRU hO hlt hi
          by_cases h0 : F = 0
          · have hfb : (F != 0) = false := by simp [h0]
            have hnn := HUP2.out h0
            have hne : ((n : Int) == (n2 : Int)) = true := by simp [hnn]
            have hneN : (n == n2) = true := by have : n2 = n := by omega
                                               simp [this]
            clear h0 hnn
            go_wp2_with fail
            refine HCO.out.mono ?_
            rintro e w8 ⟨rfl, b⟩
            have BY := below2 BX2.out b; clear b
            go_wp2_with fail
            refine (awake_any _).mono ?_
            rintro e w9 ⟨rfl, b⟩
            replace BY := below2 BY b; clear b
            go_wp2_with fail
            go_ret
            exact ⟨rfl, BY⟩
          · have hfb : (F != 0) = true := by simp [h0]
            clear h0
            go_wp2_with fail
            refine HCO.out.mono ?_
            rintro e w8 ⟨rfl, b⟩
            have BY := below2 BX2.out b; clear b
            go_wp2_with fail
            refine (awake_any _).mono ?_
            rintro e w9 ⟨rfl, b⟩
            replace BY := below2 BY b; clear b
            go_wp2_with fail
            go_ret
            exact ⟨rfl, BY⟩
  · obtain ⟨E, hEe⟩ : ∃ E, checkedE s0 s1 = E := ⟨_, rfl⟩
    rw [hEe] at HC hE
    have heb : (E != 0) = true := by simp [hE]
    clear hE hEe
    go_wp2_with fail
    refine (scost_any A0 A1 c0 c1 s0 s1 _ HS0.out HS1.out).mono ?_
    rw [HC.out]
    rintro e w5 ⟨rfl, b⟩
    have BX := below2 HB0.out b; clear b
    go_wp2_with fail
    refine (awake_any _).mono ?_
    rintro e w6 ⟨rfl, b⟩
    replace BX := below2 BX b; clear b
    go_wp2_with fail
    go_ret
    exact ⟨rfl, BX⟩
end Go.Proofs.Ytkfgomhhenmmeaa

namespace Go.Proofs.Ytkfgomhhenmmeaa
open Go.ChangeShapes Go.WideShapes Go.ChangeAt Go.WideMaps Go.WideElems Go.RowKit Go.Deep

theorem laidOut_scaleFar : laidOutB Try.prog = true := by kernel_rfl
set_option maxRecDepth 100000 in
theorem lifted_scaleFar (os : Os) (started : os.Started) (H : Type) (enc : TypeId × Value → H) :
    ReturnsInHanded {} Try.checked os 8 .any (Rows.scaleFarSpec.pre6 enc Try.prog Try.f8 [] false) (Rows.scaleFarSpec.post enc Try.prog Try.f8 false true false false) := by
  refine returnsInHanded_of_change_sized (C := Try.checked) own started (by kernel_rfl) Try.func8
    (ChangeSpec.witness6 (enc := enc) (C := Try.checked) false ⟨#[], #[.slice none 0 0, .slice none 0 0, .int .i64 0], []⟩ 8 (by kernel_rfl) (by kernel_rfl) (by kernel_rfl) (by kernel_rfl)) ?_
  intro W base args ds gs before hval0 hW _ hsz0 _
  have hval : ∀ (j : Nat) t v, Try.f8.params[j]? = some t → args[j]? = some v → Value.okWide Try.prog W .any base t v := hval0
  have hW' := hW
  obtain ⟨p, q, hA0, hV, rfl, hfz, hnd⟩ := hW
  have hA : DataW.TrodAll enc Try.prog W 0 (fun _ => true) true Try.f8.params.toList args.toList ds p := hA0
  have hsz : (DataW.weightsEach Try.prog (Try.f8.params.toList ++ Rows.scaleFarSpec.plain.varTypes Try.prog) (ds ++ gs)).all (· ≤ reachBytes) = true := hsz0
  rw [Try.params8] at hA hval hsz
  obtain ⟨v0, vs0, d0, ds0, p0, q0, hargs, rfl, rfl, h0, r0⟩ := trodAll_cons hA
  obtain ⟨v1, vs1, d1, ds1, p1, q1, rfl, rfl, rfl, h1, r1⟩ := trodAll_cons r0
  obtain ⟨v2, vs2, d2, ds2, p2, q2, rfl, rfl, rfl, h2, r2⟩ := trodAll_cons r1
  obtain ⟨rfl, rfl, rfl⟩ := trodAll_nil r2
  obtain rfl : args = #[v0, v1, v2] := by cases args; simp_all
  obtain ⟨rfl, rfl⟩ := trodVars_none hV
  have lt0 : ∀ x ∈ p0, x.block < W.heap.size := by obtain ⟨m, hm⟩ := h0; exact DataW.trod_lt m _ _ _ hm
  have y0 : ∀ m ∈ d0.weights Try.prog 22, m ≤ reachBytes := fun m hm => of_decide_eq_true (List.all_eq_true.1 hsz m (DataW.weights_mem_each (j := 0) rfl rfl m hm))
  obtain ⟨B0, l0, e0, rfl⟩ := okWide_slice Try.underlying22 (hval 0 22 v0 rfl rfl)
  obtain ⟨A0, c0, s0, hv0, hR0, hB0⟩ : ∃ A c xs, Value.slice B0 l0 e0 = .slice A xs.length c ∧ RI W A c xs ∧ ((∀ m ∈ d0.weights Try.prog 22, m ≤ reachBytes) → xs.length ≤ 140737488355328) := by obtain ⟨fuel, hf⟩ := h0; exact open_I hf
  have lt1 : ∀ x ∈ p1, x.block < W.heap.size := by obtain ⟨m, hm⟩ := h1; exact DataW.trod_lt m _ _ _ hm
  have y1 : ∀ m ∈ d1.weights Try.prog 23, m ≤ reachBytes := fun m hm => of_decide_eq_true (List.all_eq_true.1 hsz m (DataW.weights_mem_each (j := 1) rfl rfl m hm))
  obtain ⟨B1, l1, e1, rfl⟩ := okWide_slice Try.underlying23 (hval 1 23 v1 rfl rfl)
  obtain ⟨A1, c1, s1, hv1, hR1⟩ : ∃ A c xs, Value.slice B1 l1 e1 = .slice A xs.length c ∧ RB W A c xs := by obtain ⟨fuel, hf⟩ := h1; exact open_B hf
  have lt2 : ∀ x ∈ p2, x.block < W.heap.size := by obtain ⟨m, hm⟩ := h2; exact DataW.trod_lt m _ _ _ hm
  have y2 : ∀ m ∈ d2.weights Try.prog 3, m ≤ reachBytes := fun m hm => of_decide_eq_true (List.all_eq_true.1 hsz m (DataW.weights_mem_each (j := 2) rfl rfl m hm))
  obtain ⟨a2, rfl, _, _, w2⟩ := open_int Try.underlying3 (hval 2 3 v2 rfl rfl) h2
  have hwalk := scaleFar_walk A0 c0 s0 A1 c1 s1 a2 W hR0 (hB0 y0) hR1
  rw [← hv0] at hwalk
  rw [← hv1] at hwalk
  refine hwalk.mono fun e W' ⟨he, bel⟩ => ?_
  subst he
  exact ⟨_, rfl, _, _, _, [], _, [], hW', trodAll_mk1 (shut_bool Try.underlying4 _), (trodAll_cons_mk (Below.trod laidOut_scaleFar (by kernel_rfl) (of_decide_eq_true (by kernel_rfl)) h0 bel lt0) (trodAll_cons_mk (Below.trod laidOut_scaleFar (by kernel_rfl) (of_decide_eq_true (by kernel_rfl)) h1 bel lt1) (trodAll_cons_mk (Below.trod laidOut_scaleFar (by kernel_rfl) (of_decide_eq_true (by kernel_rfl)) h2 bel lt2) trodAll_mk0))), rfl, bel.frame _, fun h => by cases h⟩
theorem scaleFar_holds : Rows.ScaleFarSaid :=
  OpenClaim.holds_of_wide 8 Try.f8 rfl rfl rfl rfl rfl rfl rfl ⟨rfl, rfl, rfl, rfl, rfl⟩ rfl rfl rfl rfl rfl (by kernel_rfl) Try.func8 (by kernel_rfl)
    (of_decide_eq_true (by kernel_rfl)) (by unfold Func.isWrapper; first | (rw [if_pos (by decide +kernel)]; kernel_rfl) | (rw [if_neg (by decide +kernel)]; exact ⟨rfl, rfl⟩))
    (fun os started H enc _ => lifted_scaleFar os started H enc)
#print axioms scaleFar_holds
end Go.Proofs.Ytkfgomhhenmmeaa
