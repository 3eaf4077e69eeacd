/- The law ScaleWrites: it returns true for every input, and its arguments read as before. No conditions. -/
import Derived.Test.YtkfgomhhenmmeaaKi
import Derived.Test.YtkfgomhhenmmeaaKj
import Derived.Test.YtkfgomhhenmmeaaKf
import Derived.Test.YtkfgomhhenmmeaaRows
import Derived.OpenShut
import Derived.Carry
import Derived.SizedLaws
namespace Go.Proofs.Ytkfgomhhenmmeaa
open Go.RowKit

theorem fullB_len (a b : List Bool) (h : a.length ≤ 1048576) : (fullB a b).length ≤ 1048576 := by
  unfold fullB; split
  · exact h
  · rw [List.length_append]; omega

set_option maxHeartbeats 4000000 in
set_option maxRecDepth 100000 in
theorem scaleWrites_walk (A0 : Option Addr) (c0 : Nat) (s0 : List Int) (N0 : Int) (A1 : Option Addr) (c1 : Nat) (s1 : List Int) (A2 : Option Addr) (c2 : Nat) (s2 : List Bool) (W : World) (hR0 : RY W A0 c0 s0) (hB0 : ∀ x ∈ s0, 0 ≤ x ∧ x < 256) (hR1 : RI W A1 c1 s1) (hl1 : s1.length ≤ 140737488355328) (hR2 : RB W A2 c2 s2) :
    Calls Try.prog 10 #[.agg #[.slice A0 s0.length c0, .int .i64 N0], .slice A1 s1.length c1, .slice A2 s2.length c2] W fun e W' => e = .returned (.bool true) ∧ Below W.heap.size W W' := by
  have HBA := Lib.hid (below_alloc (Below.refl W.heap.size W) (.cells #[.slice A0 s0.length c0, .int .i64 N0] 62))
  have HBX := Lib.hid (show Blk (W.alloc (.cells #[.slice A0 s0.length c0, .int .i64 N0] 62)) W.heap.size #[.slice A0 s0.length c0, .int .i64 N0] 62 from heap_alloc_new W _)
  have HB0 := Lib.hid hB0
  clear hB0
  by_cases h50 : s0.length ≤ 50
  · have HD := Lib.hid (show decide (s0.length ≤ 50) = true from decide_eq_true h50)
    have H50 := Lib.hid h50
    clear h50
    cases hfew : fewB s2.length [s1]
    · have HF := Lib.hid hfew; clear hfew
      go_enter Try.func10, Try.ntmps10
      go_wp2_with fail
      refine (rfew_any A0 s0.length c0 N0 _).mono ?_
      rw [HD.out]
      rintro e w1 ⟨rfl, b⟩
      have BX := below2 HBA.out b
      replace hR1 := hR1.below BX; clear b
      go_wp2_with fail
      refine (few1_any A1 A2 c1 c2 s1 s2 _ hR1).mono ?_
      rw [HF.out]
      rintro e w2 ⟨rfl, b⟩
      replace BX := below2 BX b; clear b
      go_wp2_with fail
      refine (awake_any _).mono ?_
      rintro e w3 ⟨rfl, b⟩
      replace BX := below2 BX b; clear b
      go_wp2_with fail
      go_ret
      exact ⟨rfl, BX⟩
    · have HF := Lib.hid hfew; clear hfew
      have HRN := Lib.hid (show (roomBits s0 N0).length ≤ 1048576 by rw [roomBits_length]; exact roomN_le H50.out)
      go_enter Try.func10, Try.ntmps10
      go_wp2_with fail
      refine (rfew_any A0 s0.length c0 N0 _).mono ?_
      rw [HD.out]
      rintro e w1 ⟨rfl, b⟩
      have BX := below2 HBA.out b
      have PB := HBX.out.below b
      replace hR0 := hR0.below BX; replace hR1 := hR1.below BX; replace hR2 := hR2.below BX; clear b
      go_wp2_with fail
      refine (few1_any A1 A2 c1 c2 s1 s2 _ hR1).mono ?_
      rw [HF.out]
      rintro e w2 ⟨rfl, b⟩
      replace PB := PB.below b; replace hR0 := hR0.below b; replace hR1 := hR1.below b; replace hR2 := hR2.below b; replace BX := below2 BX b; clear b
      have k0 := PB.cell 0 rfl
      have k1 := PB.cell 1 rfl
      go_wp2_with fail
      refine (rbegun_any A0 c0 s0 N0 _ hR0 HB0.out H50.out).mono ?_
      rintro e w3 ⟨g, R, d, k, rfl, hw, hr, hk, b⟩
      have hR1' := (hR1.weak (ok' := fun x => x < w2.heap.size) (fun x hx _ => hx)).below b
      have hR2' := (hR2.weak (ok' := fun x => x < w2.heap.size) (fun x hx _ => hx)).below b
      have hsz := BX.size
      replace BX := below2 BX b; clear b k0 k1 PB hR0 hR1 hR2
      generalize hbits : roomBits s0 N0 = X at hw hr HRN ⊢
      clear hbits
      go_wp2_with fail
      refine (swrite_any (fun x => w2.heap.size ≤ x ∧ x < k) g A1 A2 c1 c2 X s1 s2 _ hw HRN.out (hR1'.weak fun x _ h h2 => by omega) (hR2'.weak fun x _ h h2 => by omega)).mono ?_
      rintro e w4 ⟨rfl, hw4, hu⟩
      have hk1 := hu.keep (ok := fun x => x < w2.heap.size) fun x h h2 => by omega
      have hk2 := hu.keep (ok := fun x => k ≤ x) fun x h h2 => by omega
      replace hR1' := (hR1'.keep hk1).any
      replace hR2' := (hR2'.keep hk1).any
      replace hr := (hr.keep hk2).any
      replace BX := BX.trans (hu.below (n := W.heap.size) BX.size (fun x _ e => by omega)); clear hu hk1 hk2 hw hk
      go_wp2_with fail
      refine (rswrite_any A1 A2 R c1 c2 d X s1 s2 _ hr HRN.out hR1' hR2').mono ?_
      rintro e w5 ⟨A7, c7, rfl, h7, b⟩
      replace hR1' := hR1'.below b; replace hR2' := hR2'.below b; replace hw4 := hw4.below b; replace BX := below2 BX b; clear b hr hsz
      have hle := fullB_len X (rowB s1 s2) HRN.out
      generalize writeS s1 s2 X.length = E
      generalize fullB X (rowB s1 s2) = Y at hw4 h7 hle ⊢
      have HLE := Lib.hid hle
      clear hle
      go_wp2_with fail
      refine (holds_any _ g Y Y A7 c7 _ hw4 h7 (by have := HLE.out; omega) (by have := HLE.out; omega)).mono ?_
      rw [holdsB_refl]
      rintro e w6 ⟨rfl, b⟩
      replace BX := below2 BX b; clear b hw4 h7
      go_wp2_with fail
      refine (swrite_nil A1 A2 _ _ c1 c2 _).mono ?_
      rintro e w7 ⟨rfl, b⟩
      replace BX := below2 BX b; clear b
      go_wp2_with fail
      refine (awake_any _).mono ?_
      rintro e w8 ⟨rfl, b⟩
      replace BX := below2 BX b; clear b
      go_wp2_with fail
      go_ret
      exact ⟨rfl, BX⟩
  · have HD := Lib.hid (show decide (s0.length ≤ 50) = false from decide_eq_false h50)
    clear h50
    go_enter Try.func10, Try.ntmps10
    go_wp2_with fail
    refine (rfew_any A0 s0.length c0 N0 _).mono ?_
    rw [HD.out]
    rintro e w1 ⟨rfl, b⟩
    have BX := below2 HBA.out b; clear b
    go_wp2_with fail
    refine (awake_any _).mono ?_
    rintro e w2 ⟨rfl, b⟩
    replace BX := below2 BX b; clear b
    go_wp2_with fail
    go_ret
    exact ⟨rfl, BX⟩
end Go.Proofs.Ytkfgomhhenmmeaa

namespace Go.Proofs.Ytkfgomhhenmmeaa
open Go.ChangeShapes Go.WideShapes Go.ChangeAt Go.WideMaps Go.WideElems Go.RowKit Go.Deep

theorem laidOut_scaleWrites : laidOutB Try.prog = true := by kernel_rfl
set_option maxRecDepth 100000 in
theorem lifted_scaleWrites (os : Os) (started : os.Started) (H : Type) (enc : TypeId × Value → H) :
    ReturnsInHanded {} Try.checked os 10 .any (Rows.scaleWritesSpec.pre6 enc Try.prog Try.f10 [] false) (Rows.scaleWritesSpec.post enc Try.prog Try.f10 false true false false) := by
  refine returnsInHanded_of_change_sized (C := Try.checked) own started (by kernel_rfl) Try.func10
    (ChangeSpec.witness6 (enc := enc) (C := Try.checked) false ⟨#[], #[.agg #[.slice none 0 0, .int .i64 0], .slice none 0 0, .slice none 0 0], []⟩ 8 (by kernel_rfl) (by kernel_rfl) (by kernel_rfl) (by kernel_rfl)) ?_
  intro W base args ds gs before hval0 hW _ hsz0 _
  have hval : ∀ (j : Nat) t v, Try.f10.params[j]? = some t → args[j]? = some v → Value.okWide Try.prog W .any base t v := hval0
  have hW' := hW
  obtain ⟨p, q, hA0, hV, rfl, hfz, hnd⟩ := hW
  have hA : DataW.TrodAll enc Try.prog W 0 (fun _ => true) true Try.f10.params.toList args.toList ds p := hA0
  have hsz : (DataW.weightsEach Try.prog (Try.f10.params.toList ++ Rows.scaleWritesSpec.plain.varTypes Try.prog) (ds ++ gs)).all (· ≤ reachBytes) = true := hsz0
  rw [Try.params10] at hA hval hsz
  obtain ⟨v0, vs0, d0, ds0, p0, q0, hargs, rfl, rfl, h0, r0⟩ := trodAll_cons hA
  obtain ⟨v1, vs1, d1, ds1, p1, q1, rfl, rfl, rfl, h1, r1⟩ := trodAll_cons r0
  obtain ⟨v2, vs2, d2, ds2, p2, q2, rfl, rfl, rfl, h2, r2⟩ := trodAll_cons r1
  obtain ⟨rfl, rfl, rfl⟩ := trodAll_nil r2
  obtain rfl : args = #[v0, v1, v2] := by cases args; simp_all
  obtain ⟨rfl, rfl⟩ := trodVars_none hV
  have lt0 : ∀ x ∈ p0, x.block < W.heap.size := by obtain ⟨m, hm⟩ := h0; exact DataW.trod_lt m _ _ _ hm
  have y0 : ∀ m ∈ d0.weights Try.prog 62, m ≤ reachBytes := fun m hm => of_decide_eq_true (List.all_eq_true.1 hsz m (DataW.weights_mem_each (j := 0) rfl rfl m hm))
  obtain ⟨A0, c0, s0, N0, rfl, hR0, hB0⟩ := open_M (hval 0 62 v0 rfl rfl) h0
  have lt1 : ∀ x ∈ p1, x.block < W.heap.size := by obtain ⟨m, hm⟩ := h1; exact DataW.trod_lt m _ _ _ hm
  have y1 : ∀ m ∈ d1.weights Try.prog 22, m ≤ reachBytes := fun m hm => of_decide_eq_true (List.all_eq_true.1 hsz m (DataW.weights_mem_each (j := 1) rfl rfl m hm))
  obtain ⟨B1, l1, e1, rfl⟩ := okWide_slice Try.underlying22 (hval 1 22 v1 rfl rfl)
  obtain ⟨A1, c1, s1, hv1, hR1, hB1⟩ : ∃ A c xs, Value.slice B1 l1 e1 = .slice A xs.length c ∧ RI W A c xs ∧ ((∀ m ∈ d1.weights Try.prog 22, m ≤ reachBytes) → xs.length ≤ 140737488355328) := by obtain ⟨fuel, hf⟩ := h1; exact open_I hf
  have lt2 : ∀ x ∈ p2, x.block < W.heap.size := by obtain ⟨m, hm⟩ := h2; exact DataW.trod_lt m _ _ _ hm
  have y2 : ∀ m ∈ d2.weights Try.prog 23, m ≤ reachBytes := fun m hm => of_decide_eq_true (List.all_eq_true.1 hsz m (DataW.weights_mem_each (j := 2) rfl rfl m hm))
  obtain ⟨B2, l2, e2, rfl⟩ := okWide_slice Try.underlying23 (hval 2 23 v2 rfl rfl)
  obtain ⟨A2, c2, s2, hv2, hR2⟩ : ∃ A c xs, Value.slice B2 l2 e2 = .slice A xs.length c ∧ RB W A c xs := by obtain ⟨fuel, hf⟩ := h2; exact open_B hf
  have hwalk := scaleWrites_walk A0 c0 s0 N0 A1 c1 s1 A2 c2 s2 W hR0 hB0 hR1 (hB1 y1) hR2
  rw [← hv1] at hwalk
  rw [← hv2] at hwalk
  refine hwalk.mono fun e W' ⟨he, bel⟩ => ?_
  subst he
  exact ⟨_, rfl, _, _, _, [], _, [], hW', trodAll_mk1 (shut_bool Try.underlying4 _), (trodAll_cons_mk (Below.trod laidOut_scaleWrites (by kernel_rfl) (of_decide_eq_true (by kernel_rfl)) h0 bel lt0) (trodAll_cons_mk (Below.trod laidOut_scaleWrites (by kernel_rfl) (of_decide_eq_true (by kernel_rfl)) h1 bel lt1) (trodAll_cons_mk (Below.trod laidOut_scaleWrites (by kernel_rfl) (of_decide_eq_true (by kernel_rfl)) h2 bel lt2) trodAll_mk0))), rfl, bel.frame _, fun h => by cases h⟩
theorem scaleWrites_holds : Rows.ScaleWritesSaid :=
  OpenClaim.holds_of_wide 10 Try.f10 rfl rfl rfl rfl rfl rfl rfl ⟨rfl, rfl, rfl, rfl, rfl⟩ rfl rfl rfl rfl rfl (by kernel_rfl) Try.func10 (by kernel_rfl)
    (of_decide_eq_true (by kernel_rfl)) (by unfold Func.isWrapper; first | (rw [if_pos (by decide +kernel)]; kernel_rfl) | (rw [if_neg (by decide +kernel)]; exact ⟨rfl, rfl⟩))
    (fun os started H enc _ => lifted_scaleWrites os started H enc)
#print axioms scaleWrites_holds
end Go.Proofs.Ytkfgomhhenmmeaa
