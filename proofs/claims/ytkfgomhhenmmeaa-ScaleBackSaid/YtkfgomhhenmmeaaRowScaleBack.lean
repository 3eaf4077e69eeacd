/- The law ScaleBack: it returns true for every input, and its arguments read as before. No conditions. -/
import Derived.Test.YtkfgomhhenmmeaaKi
import Derived.Test.YtkfgomhhenmmeaaRows
import Derived.OpenShut
import Derived.Carry
import Derived.SizedLaws
namespace Go.Proofs.Ytkfgomhhenmmeaa
open Go.RowKit

theorem rowB_err {ss : List Int} {us : List Bool} (h : checkedE ss us ≠ 0) : rowB ss us = [] := by unfold rowB; rw [if_neg h]
theorem rowB_le (ss : List Int) (us : List Bool) : (rowB ss us).length ≤ 2000 := by
  by_cases h : checkedE ss us = 0
  · rw [rowB_walk h, bitsP_len]
    have h1 := costP_le ss (walkK us us.length)
    have h2 := walkK_len us us.length
    have h3 := (checked_ok h).2.1
    omega
  · rw [rowB_err h]; decide
theorem rowB_full (ss : List Int) (us : List Bool) : fullB [] (rowB ss us) = rowB ss us := by
  unfold fullB; rw [if_neg (by have := rowB_le ss us; simp; omega)]; rfl
theorem writeS_zero (ss : List Int) (us : List Bool) : writeS ss us ([] : List Bool).length = checkedE ss us := by
  unfold writeS
  by_cases h : checkedE ss us = 0
  · rw [if_neg (by simp [h]), h]; unfold fullE; rw [if_neg (by have := rowB_le ss us; simp; omega)]
  · rw [if_pos h]

set_option maxHeartbeats 4000000 in
set_option maxRecDepth 100000 in
theorem scaleBack_walk (A0 : Option Addr) (c0 : Nat) (s0 : List Int) (A1 : Option Addr) (c1 : Nat) (s1 : List Bool) (W : World) (hR0 : RI W A0 c0 s0) (hl0 : s0.length ≤ 140737488355328) (hR1 : RB W A1 c1 s1) :
    Calls Try.prog 9 #[.slice A0 s0.length c0, .slice A1 s1.length c1] W fun e W' => e = .returned (.bool true) ∧ Below W.heap.size W W' := by
  cases hfew : fewB s1.length [s0]
  · have HF := Lib.hid hfew; clear hfew
    go_enter Try.func9, Try.ntmps9
    go_wp2_with fail
    refine (few1_any A0 A1 c0 c1 s0 s1 _ hR0).mono ?_
    rw [HF.out]
    rintro e w1 ⟨rfl, b⟩
    have BX := b; clear b
    go_wp2_with fail
    refine (awake_any _).mono ?_
    rintro e w2 ⟨rfl, b⟩
    replace BX := below2 BX b; clear b
    go_wp2_with fail
    go_ret
    exact ⟨rfl, BX⟩
  · have HF := Lib.hid hfew; clear hfew
    have HCO := Lib.hid (rowB_cost s0 s1)
    have HWS := Lib.hid (writeS_zero s0 s1)
    have HFL := Lib.hid (rowB_full s0 s1)
    have HRD := Lib.hid (fun h => read_row (ss := s0) (us := s1) h)
    have HER := Lib.hid (fun h => rowB_err (ss := s0) (us := s1) h)
    have hle := rowB_le s0 s1
    obtain ⟨R, hRe⟩ : ∃ R, rowB s0 s1 = R := ⟨_, rfl⟩
    obtain ⟨E, hEe⟩ : ∃ E, checkedE s0 s1 = E := ⟨_, rfl⟩
    rw [hRe] at HCO HFL HRD HER hle
    rw [hEe] at HCO HWS HRD HER
    obtain ⟨n, hn⟩ : ∃ n, R.length = n := ⟨_, rfl⟩
    rw [hn] at HCO HRD hle
    have HN := Lib.hid hn
    have HRE := Lib.hid hRe
    clear hRe hEe hn
    by_cases h0 : E = 0
    · subst h0
      replace HRD := Lib.hid (HRD.out rfl)
      clear HER
      go_enter Try.func9, Try.ntmps9
      go_wp2_with fail
      refine (few1_any A0 A1 c0 c1 s0 s1 _ hR0).mono ?_
      rw [HF.out]
      rintro e w1 ⟨rfl, b⟩
      replace hR0 := hR0.below b; replace hR1 := hR1.below b
      have BX := b; clear b
      go_wp2_with fail
      refine (wnew_any _).mono ?_
      rintro e w4 ⟨g, rfl, hw, b1, hg⟩
      replace hR0 := hR0.apart b1 hg; replace hR1 := hR1.apart b1 hg
      have hgw : W.heap.size ≤ g := by have := BX.size; omega
      replace BX := below2 BX b1; clear b1 hg
      go_wp2_with fail
      refine (scost_any A0 A1 c0 c1 s0 s1 _ hR0.any hR1.any).mono ?_
      rw [HCO.out]
      rintro e w5 ⟨rfl, b⟩
      replace hR0 := hR0.below b; replace hR1 := hR1.below b; replace hw := hw.below b; replace BX := below2 BX b; clear b
      go_wp2_with fail
      refine (swrite_any _ g A0 A1 c0 c1 [] s0 s1 _ hw (by decide) hR0 hR1).mono ?_
      rw [HWS.out, HRE.out, HFL.out]
      rintro e w6 ⟨rfl, hw5, hu⟩
      have hk := hu.keep (ok := fun x => x ≠ g) fun _ h => h
      replace hR0 := (hR0.keep hk).any; replace hR1 := (hR1.keep hk).any
      replace BX := BX.trans (hu.below BX.size (fun x _ e => by omega)); clear hu hk hw hgw
      go_wp2_with fail
      refine (wbytes_any _ g R _ hw5 (by rw [HN.out]; omega)).mono ?_
      rintro e w7 ⟨v7, rfl, hO, b⟩
      obtain ⟨A7, c7, rfl, h7⟩ := own_ri hO
      clear hO
      replace hR0 := hR0.below b; replace hR1 := hR1.below b; replace hw5 := hw5.below b; replace BX := below2 BX b; clear b
      go_wp2_with fail
      refine (wlen_any _ g R _ hw5).mono ?_
      rw [HN.out]
      rintro e w8 ⟨rfl, rfl⟩
      go_wp2_with fail
      have ho := ropen_ok A7 c7 (packB R) n w7 h7 (packB_bd R) (by rw [packB_length, HN.out]; omega) (by rw [packB_length, HN.out]; omega) (by omega)
      rw [show ofB (packB R) n = R by rw [← HN.out]; exact fullE_ofB R] at ho
      refine ho.mono ?_
      rintro e w9 ⟨gr, rfl, hr, b1, hg⟩
      replace hR0 := hR0.apart b1 hg; replace hR1 := hR1.apart b1 hg
      replace hw5 := hw5.weak (o' := fun b => b < w7.heap.size) (fun b hb _ => hb)
      replace hw5 := hw5.below b1
      have hgw : W.heap.size ≤ gr := by have := BX.size; omega
      replace BX := below2 BX b1; clear b1 ho h7
      go_wp2_with fail
      refine (sRead_any _ gr 0 R A1 c1 s1 _ hr hR1).mono ?_
      rw [HRD.out]
      rintro e w10 ⟨v8, rfl, hO, hr2, hu⟩
      obtain ⟨A8, c8, rfl, h8⟩ := own_ri hO
      have hk := hu.keep (ok := fun x => x ≠ gr) fun _ h => h
      replace hR0 := (hR0.keep hk).any
      replace hw5 := hw5.upd hu (fun b hb h e => by subst e; omega)
      replace BX := BX.trans (hu.below BX.size (fun x _ e => by omega)); clear hu hk hr hgw hO hR1 hg
      go_wp2_with fail
      refine (wlen_any _ g R _ hw5).mono ?_
      rw [HN.out]
      rintro e w11 ⟨rfl, rfl⟩
      go_wp2_with fail
      refine (ints_ref A8 A0 c8 c0 s0 s0 _ h8 hR0).mono ?_
      rw [show sameL s0 s0 = true by simp [sameL]]
      rintro e w12 ⟨rfl, b⟩
      replace hr2 := hr2.below b; replace BX := below2 BX b; clear b
      go_wp2_with fail
      refine (rleft_any _ gr n R _ hr2).mono ?_
      rw [HN.out, Nat.sub_self]
      rintro e w13 ⟨rfl, b⟩
      replace BX := below2 BX b; clear b
      go_wp2_with fail
      refine (awake_any _).mono ?_
      rintro e w14 ⟨rfl, b⟩
      replace BX := below2 BX b; clear b
      go_wp2_with fail
      go_ret
      exact ⟨rfl, BX⟩
    · have hEb : (E != 0) = true := by simp [h0]
      have hR := HER.out h0
      subst hR
      have hn0 : n = 0 := by rw [← HN.out]; rfl
      subst hn0
      clear h0 HER HRD
      go_enter Try.func9, Try.ntmps9
      go_wp2_with fail
      refine (few1_any A0 A1 c0 c1 s0 s1 _ hR0).mono ?_
      rw [HF.out]
      rintro e w1 ⟨rfl, b⟩
      replace hR0 := hR0.below b; replace hR1 := hR1.below b
      have BX := b; clear b
      go_wp2_with fail
      refine (wnew_any _).mono ?_
      rintro e w4 ⟨g, rfl, hw, b1, hg⟩
      replace hR0 := hR0.apart b1 hg; replace hR1 := hR1.apart b1 hg
      have hgw : W.heap.size ≤ g := by have := BX.size; omega
      replace BX := below2 BX b1; clear b1 hg
      go_wp2_with fail
      refine (scost_any A0 A1 c0 c1 s0 s1 _ hR0.any hR1.any).mono ?_
      rw [HCO.out]
      rintro e w5 ⟨rfl, b⟩
      replace hR0 := hR0.below b; replace hR1 := hR1.below b; replace hw := hw.below b; replace BX := below2 BX b; clear b
      go_wp2_with fail
      refine (swrite_any _ g A0 A1 c0 c1 [] s0 s1 _ hw (by decide) hR0 hR1).mono ?_
      rw [HWS.out, HRE.out, HFL.out]
      rintro e w6 ⟨rfl, hw5, hu⟩
      replace BX := BX.trans (hu.below BX.size (fun x _ e => by omega)); clear hu hw hgw
      go_wp2_with fail
      refine (wlen_any _ g [] _ hw5).mono ?_
      rintro e w7 ⟨rfl, rfl⟩
      go_wp2_with fail
      refine (awake_any _).mono ?_
      rintro e w14 ⟨rfl, b⟩
      replace BX := below2 BX b; clear b
      go_wp2_with fail
      go_ret
      exact ⟨rfl, BX⟩
end Go.Proofs.Ytkfgomhhenmmeaa

namespace Go.Proofs.Ytkfgomhhenmmeaa
open Go.ChangeShapes Go.WideShapes Go.ChangeAt Go.WideMaps Go.WideElems Go.RowKit Go.Deep

theorem laidOut_scaleBack : laidOutB Try.prog = true := by kernel_rfl
set_option maxRecDepth 100000 in
theorem lifted_scaleBack (os : Os) (started : os.Started) (H : Type) (enc : TypeId × Value → H) :
    ReturnsInHanded {} Try.checked os 9 .any (Rows.scaleBackSpec.pre6 enc Try.prog Try.f9 [] false) (Rows.scaleBackSpec.post enc Try.prog Try.f9 false true false false) := by
  refine returnsInHanded_of_change_sized (C := Try.checked) own started (by kernel_rfl) Try.func9
    (ChangeSpec.witness6 (enc := enc) (C := Try.checked) false ⟨#[], #[.slice none 0 0, .slice none 0 0], []⟩ 8 (by kernel_rfl) (by kernel_rfl) (by kernel_rfl) (by kernel_rfl)) ?_
  intro W base args ds gs before hval0 hW _ hsz0 _
  have hval : ∀ (j : Nat) t v, Try.f9.params[j]? = some t → args[j]? = some v → Value.okWide Try.prog W .any base t v := hval0
  have hW' := hW
  obtain ⟨p, q, hA0, hV, rfl, hfz, hnd⟩ := hW
  have hA : DataW.TrodAll enc Try.prog W 0 (fun _ => true) true Try.f9.params.toList args.toList ds p := hA0
  have hsz : (DataW.weightsEach Try.prog (Try.f9.params.toList ++ Rows.scaleBackSpec.plain.varTypes Try.prog) (ds ++ gs)).all (· ≤ reachBytes) = true := hsz0
  rw [Try.params9] at hA hval hsz
  obtain ⟨v0, vs0, d0, ds0, p0, q0, hargs, rfl, rfl, h0, r0⟩ := trodAll_cons hA
  obtain ⟨v1, vs1, d1, ds1, p1, q1, rfl, rfl, rfl, h1, r1⟩ := trodAll_cons r0
  obtain ⟨rfl, rfl, rfl⟩ := trodAll_nil r1
  obtain rfl : args = #[v0, v1] := by cases args; simp_all
  obtain ⟨rfl, rfl⟩ := trodVars_none hV
  have lt0 : ∀ x ∈ p0, x.block < W.heap.size := by obtain ⟨m, hm⟩ := h0; exact DataW.trod_lt m _ _ _ hm
  have y0 : ∀ m ∈ d0.weights Try.prog 22, m ≤ reachBytes := fun m hm => of_decide_eq_true (List.all_eq_true.1 hsz m (DataW.weights_mem_each (j := 0) rfl rfl m hm))
  obtain ⟨B0, l0, e0, rfl⟩ := okWide_slice Try.underlying22 (hval 0 22 v0 rfl rfl)
  obtain ⟨A0, c0, s0, hv0, hR0, hB0⟩ : ∃ A c xs, Value.slice B0 l0 e0 = .slice A xs.length c ∧ RI W A c xs ∧ ((∀ m ∈ d0.weights Try.prog 22, m ≤ reachBytes) → xs.length ≤ 140737488355328) := by obtain ⟨fuel, hf⟩ := h0; exact open_I hf
  have lt1 : ∀ x ∈ p1, x.block < W.heap.size := by obtain ⟨m, hm⟩ := h1; exact DataW.trod_lt m _ _ _ hm
  have y1 : ∀ m ∈ d1.weights Try.prog 23, m ≤ reachBytes := fun m hm => of_decide_eq_true (List.all_eq_true.1 hsz m (DataW.weights_mem_each (j := 1) rfl rfl m hm))
  obtain ⟨B1, l1, e1, rfl⟩ := okWide_slice Try.underlying23 (hval 1 23 v1 rfl rfl)
  obtain ⟨A1, c1, s1, hv1, hR1⟩ : ∃ A c xs, Value.slice B1 l1 e1 = .slice A xs.length c ∧ RB W A c xs := by obtain ⟨fuel, hf⟩ := h1; exact open_B hf
  have hwalk := scaleBack_walk A0 c0 s0 A1 c1 s1 W hR0 (hB0 y0) hR1
  rw [← hv0] at hwalk
  rw [← hv1] at hwalk
  refine hwalk.mono fun e W' ⟨he, bel⟩ => ?_
  subst he
  exact ⟨_, rfl, _, _, _, [], _, [], hW', trodAll_mk1 (shut_bool Try.underlying4 _), (trodAll_cons_mk (Below.trod laidOut_scaleBack (by kernel_rfl) (of_decide_eq_true (by kernel_rfl)) h0 bel lt0) (trodAll_cons_mk (Below.trod laidOut_scaleBack (by kernel_rfl) (of_decide_eq_true (by kernel_rfl)) h1 bel lt1) trodAll_mk0)), rfl, bel.frame _, fun h => by cases h⟩
theorem scaleBack_holds : Rows.ScaleBackSaid :=
  OpenClaim.holds_of_wide 9 Try.f9 rfl rfl rfl rfl rfl rfl rfl ⟨rfl, rfl, rfl, rfl, rfl⟩ rfl rfl rfl rfl rfl (by kernel_rfl) Try.func9 (by kernel_rfl)
    (of_decide_eq_true (by kernel_rfl)) (by unfold Func.isWrapper; first | (rw [if_pos (by decide +kernel)]; kernel_rfl) | (rw [if_neg (by decide +kernel)]; exact ⟨rfl, rfl⟩))
    (fun os started H enc _ => lifted_scaleBack os started H enc)
#print axioms scaleBack_holds
end Go.Proofs.Ytkfgomhhenmmeaa
