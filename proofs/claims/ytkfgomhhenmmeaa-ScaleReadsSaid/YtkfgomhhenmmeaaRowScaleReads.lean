/- The law ScaleReads: it returns true for every input, and its arguments read as before. No conditions. -/
import Derived.Test.YtkfgomhhenmmeaaKi
import Derived.Test.YtkfgomhhenmmeaaKj
import Derived.Test.YtkfgomhhenmmeaaKg
import Derived.Test.YtkfgomhhenmmeaaRows
import Derived.OpenShut
import Derived.Carry
import Derived.SizedLaws
namespace Go.Proofs.Ytkfgomhhenmmeaa
open Go.RowKit

set_option maxHeartbeats 4000000 in
set_option maxRecDepth 100000 in
theorem scaleReads_walk (A0 : Option Addr) (c0 : Nat) (s0 : List Int) (N0 P0 : Int) (A1 : Option Addr) (c1 : Nat) (s1 : List Bool) (W : World) (hR0 : RY W A0 c0 s0) (hB0 : ∀ x ∈ s0, 0 ≤ x ∧ x < 256) (hR1 : RB W A1 c1 s1) :
    Calls Try.prog 4 #[.agg #[.slice A0 s0.length c0, .int .i64 N0, .int .i64 P0], .slice A1 s1.length c1] W fun e W' => e = .returned (.bool true) ∧ Below W.heap.size W W' := by
  have HBA := Lib.hid (below_alloc (Below.refl W.heap.size W) (.cells #[.slice A0 s0.length c0, .int .i64 N0, .int .i64 P0] 34))
  have HBX := Lib.hid (show Blk (W.alloc (.cells #[.slice A0 s0.length c0, .int .i64 N0, .int .i64 P0] 34)) W.heap.size #[.slice A0 s0.length c0, .int .i64 N0, .int .i64 P0] 34 from heap_alloc_new W _)
  have HB0 := Lib.hid hB0
  clear hB0
  cases hri : rightB s0.length N0 P0
  · have HD := Lib.hid hri; clear hri
    go_enter Try.func4, Try.ntmps4
    go_wp2_with fail
    refine (right17_any A0 s0.length c0 N0 P0 _).mono ?_
    rw [HD.out]
    rintro e w1 ⟨rfl, b⟩
    have BX := below2 HBA.out b; clear b
    go_wp2_with fail
    refine (awake_any _).mono ?_
    rintro e w2 ⟨rfl, b⟩
    replace BX := below2 BX b; clear b
    go_wp2_with fail
    go_ret
    exact ⟨rfl, BX⟩
  · have HD := Lib.hid hri
    have hrd : s0.length ≤ 2000 ∧ 0 ≤ N0 ∧ N0 ≤ 8 * (s0.length : Int) ∧ 0 ≤ P0 ∧ P0 ≤ N0 := by
      simp only [rightB, Bool.and_eq_true, decide_eq_true_eq] at hri
      exact ⟨hri.1.1.1.1, hri.1.1.1.2, hri.1.1.2, hri.1.2, hri.2⟩
    clear hri
    by_cases h200 : s1.length ≤ 200
    · have HF := Lib.hid (show decide (s1.length ≤ 200) = true from decide_eq_true h200)
      clear h200
      obtain ⟨m, rfl⟩ : ∃ m : Nat, N0 = (m : Int) := ⟨N0.toNat, by omega⟩
      obtain ⟨i, rfl⟩ : ∃ i : Nat, P0 = (i : Int) := ⟨P0.toNat, by omega⟩
      have HRD := Lib.hid (show s0.length ≤ 2000 ∧ m ≤ 8 * s0.length ∧ i ≤ m from ⟨hrd.1, by omega, by omega⟩)
      clear hrd
      go_enter Try.func4, Try.ntmps4
      go_wp2_with fail
      refine (right17_any A0 s0.length c0 (m : Int) (i : Int) _).mono ?_
      rw [HD.out]
      rintro e w1 ⟨rfl, b⟩
      have BX := below2 HBA.out b
      have PB := HBX.out.below b
      replace hR0 := hR0.below BX; replace hR1 := hR1.below BX; clear b
      go_wp2_with fail
      refine (few0_any A1 c1 s1 _).mono ?_
      rw [HF.out]
      rintro e w2 ⟨rfl, rfl⟩
      have k0 := PB.cell 0 rfl
      have k1 := PB.cell 1 rfl
      have k2 := PB.cell 2 rfl
      go_wp2_with fail
      refine (bbegun_any A0 c0 s0 m i _ hR0 HB0.out HRD.out.1 HRD.out.2.1 HRD.out.2.2).mono ?_
      rintro e w3 ⟨gr, gt, k, rfl, hr, ht, hk, b⟩
      have hR1' := (hR1.weak (ok' := fun x => x < w1.heap.size) (fun x hx _ => hx)).below b
      have hsz := BX.size
      have hgr := hr.og
      have hgt := ht.og
      replace BX := below2 BX b; clear b k0 k1 k2 PB hR0 hR1
      generalize ofB s0 m = X at hr ht
      go_wp2_with fail
      refine (sRead_any _ gr i X A1 c1 s1 _ hr (hR1'.weak fun x _ h e => by omega)).mono ?_
      rintro e w4 ⟨v7, rfl, hO, hr4, hu⟩
      obtain ⟨A7, c7, rfl, H7⟩ := hO.rd
      have hk1 := hu.keep (ok := fun x => x < w1.heap.size) fun x h h2 => by omega
      replace hR1' := hR1'.keep hk1
      have hgl := ht.lt
      have h7 := H7.weak (ok' := fun x => x ≠ gt) (fun x _ h e => by have := h.1; omega)
      replace ht := ht.upd hu (fun x _ h e => by omega)
      replace BX := BX.trans (hu.below (n := W.heap.size) BX.size (fun x _ e => by omega)); clear hu hk1 hO hr
      go_wp2_with fail
      refine (rsRead_any _ gt i X A1 c1 s1 _ ht (hR1'.weak fun x _ h e => by omega)).mono ?_
      rintro e w5 ⟨v8, rfl, hO, ⟨E9, ht5⟩, hu⟩
      obtain ⟨A8, c8, rfl, H8⟩ := own_ri hO
      replace hR1' := hR1'.keep (hu.keep (ok := fun x => x < w1.heap.size) fun x h h2 => by omega)
      have hr := hr4.upd hu (fun x _ h e => by omega)
      have HH7 := h7.keep (hu.keep (ok := fun x => x ≠ gt) fun _ h => h)
      replace BX := BX.trans (hu.below (n := W.heap.size) BX.size (fun x _ e => by omega)); clear hu hO ht hr4 H7
      replace H7 := HH7.any
      clear HH7 h7
      have ⟨At, ct, hbt, _⟩ := ht5
      have kt := hbt.cell 1 rfl
      obtain ⟨⟨xs, E, j⟩, hq⟩ : ∃ q, readQ X i s1 = q := ⟨_, rfl⟩
      rw [hq] at hr H7 H8 kt ⊢
      replace kt : w5.cell? ⟨gt, 1, none⟩ = some (.int .i64 (j : Int)) := kt
      replace hr : Rr _ w5 gr X j := hr
      replace H7 : RI w5 A7 c7 xs := H7
      replace H8 : RI w5 A8 c8 xs := H8
      simp only
      clear ht5 hbt hq hR1'
      go_wp2_with fail
      refine (sRead_nil A1 _ c1 _).mono ?_
      rintro e w6 ⟨rfl, rfl⟩
      go_wp2_with fail
      refine wp_region_G 24 (fun W9 : World => W9.cell? ⟨gt, 1, none⟩ = some (.int .i64 (j : Int))) (by kernel_rfl) (cell_below (Below.refl _ _).drew kt) (fun hHeld => ?_)
      refine wpAnyG_takeL (i := 0) (.slice A7 xs.length c7) [24] rfl (by kernel_rfl) (fun _ _ _ h => h) hHeld (by rfl) ?_ ?_
      · (intro W' hSw; (try dsimp only at hSw); go_simp)
      try simp only [Act.put, List.setIfInBounds_toArray, List.set_cons_zero, List.set_cons_succ]
      refine wpAnyG_takeL (i := 1) (.slice A8 xs.length c8) [24] rfl (by kernel_rfl) (fun _ _ _ h => h) hHeld (by rfl) ?_ ?_
      · (intro W' hSw; (try dsimp only at hSw); go_simp)
      try simp only [Act.put, List.setIfInBounds_toArray, List.set_cons_zero, List.set_cons_succ]
      clear hHeld
      refine wpAnyG_oneL (i := 2) (by kernel_rfl) rfl (fun K hK => ?_)
      (go_simp; go_at_call 15; refine (ints_ref A7 A8 c7 c8 xs xs _ (H7.below (Below.refl _ _).drew) (H8.below (Below.refl _ _).drew)).mono ?_; rw [show sameL xs xs = true by simp [sameL]]; rintro e w7 ⟨rfl, b7⟩; have HB7 := Lib.hid (below2 (Below.refl _ _).drew b7); clear b7)
      refine hK.out _ _ (fun _ => cell_below HB7.out kt) ?_
      clear hK K
      try simp only [Act.put, List.setIfInBounds_toArray, List.set_cons_zero, List.set_cons_succ]
      have hHeld := cell_below HB7.out kt
      refine wpAnyG_takeL (i := 3) (.bool true) [24] rfl (by kernel_rfl) (fun _ _ _ h => h) hHeld (by rfl) ?_ ?_
      · (intro W' hSw; (try dsimp only at hSw); go_simp)
      try simp only [Act.put, List.setIfInBounds_toArray, List.set_cons_zero, List.set_cons_succ]
      refine wpAnyG_takeL (i := 4) (.int .i64 E) [24] rfl (by kernel_rfl) (fun _ _ _ h => h) hHeld (by rfl) ?_ ?_
      · (intro W' hSw; (try dsimp only at hSw); go_simp)
      try simp only [Act.put, List.setIfInBounds_toArray, List.set_cons_zero, List.set_cons_succ]
      refine wpAnyG_takeL (i := 5) (.int .i64 E) [24] rfl (by kernel_rfl) (fun _ _ _ h => h) hHeld (by rfl) ?_ ?_
      · (intro W' hSw; (try dsimp only at hSw); go_simp)
      try simp only [Act.put, List.setIfInBounds_toArray, List.set_cons_zero, List.set_cons_succ]
      refine wpAnyG_takeL (i := 6) (.bool true) [24] rfl (by kernel_rfl) (fun _ _ _ h => h) hHeld (by rfl) ?_ ?_
      · (intro W' hSw; (try dsimp only at hSw); go_simp)
      try simp only [Act.put, List.setIfInBounds_toArray, List.set_cons_zero, List.set_cons_succ]
      refine wpAnyG_takeL (i := 7) (.bool true) [24] rfl (by kernel_rfl) (fun _ _ _ h => h) hHeld (by rfl) ?_ ?_
      · (intro W' hSw; (try dsimp only at hSw); go_simp)
      try simp only [Act.put, List.setIfInBounds_toArray, List.set_cons_zero, List.set_cons_succ]
      refine wpAnyG_takeL (i := 8) (.bool true) [24] rfl (by kernel_rfl) (fun _ _ _ h => h) hHeld (by rfl) ?_ ?_
      · (intro W' hSw; (try dsimp only at hSw); go_simp)
      try simp only [Act.put, List.setIfInBounds_toArray, List.set_cons_zero, List.set_cons_succ]
      refine wpAnyG_takeL (i := 9) (.pointer (some ⟨gr, 0, none⟩)) [24] rfl (by kernel_rfl) (fun _ _ _ h => h) hHeld (by rfl) ?_ ?_
      · (intro W' hSw; (try dsimp only at hSw); go_simp)
      try simp only [Act.put, List.setIfInBounds_toArray, List.set_cons_zero, List.set_cons_succ]
      refine wpAnyG_takeL (i := 11) (.pointer (some ⟨gt, 0, none⟩)) [24] rfl (by kernel_rfl) (fun _ _ _ h => h) hHeld (by rfl) ?_ ?_
      · (intro W' hSw; (try dsimp only at hSw); go_simp)
      try simp only [Act.put, List.setIfInBounds_toArray, List.set_cons_zero, List.set_cons_succ]
      refine wpAnyG_takeL (i := 12) (.pointer (some ⟨gt, 0, none⟩)) [24] rfl (by kernel_rfl) (fun _ _ _ h => h) hHeld (by rfl) ?_ ?_
      · (intro W' hSw; (try dsimp only at hSw); go_simp)
      try simp only [Act.put, List.setIfInBounds_toArray, List.set_cons_zero, List.set_cons_succ]
      refine wpAnyG_takeL (i := 13) (.pointer (some ⟨gt, 1, none⟩)) [24] rfl (by kernel_rfl) (fun _ _ _ h => h) hHeld (by rfl) ?_ ?_
      · (intro W' hSw; (try dsimp only at hSw); go_simp)
      try simp only [Act.put, List.setIfInBounds_toArray, List.set_cons_zero, List.set_cons_succ]
      refine wpAnyG_takeL (i := 14) (.int .i64 j) [24] rfl (by kernel_rfl) (fun _ _ _ h => h) hHeld (by rfl) ?_ ?_
      · (intro W' hSw; (try dsimp only at hSw); go_simp)
      try simp only [Act.put, List.setIfInBounds_toArray, List.set_cons_zero, List.set_cons_succ]
      have HR7 := Lib.hid (hr.below HB7.out)
      refine wpAnyG_oneL (i := 10) (by kernel_rfl) rfl (fun K hK => ?_)
      (go_simp; go_at_call 22; refine (rat_any _ gr j X _ HR7.out).mono ?_; rintro e w8 ⟨rfl, rfl⟩)
      refine hK.out _ _ (fun _ => hHeld) ?_
      clear hK K
      try simp only [Act.put, List.setIfInBounds_toArray, List.set_cons_zero, List.set_cons_succ]
      refine wpAnyG_takeL (i := 15) (.bool true) [24] rfl (by kernel_rfl) (fun _ _ _ h => h) hHeld (by rfl) ?_ ?_
      · (intro W' hSw; (try dsimp only at hSw); go_simp)
      try simp only [Act.put, List.setIfInBounds_toArray, List.set_cons_zero, List.set_cons_succ]
      refine wpAnyG_takeL (i := 16) (.bool true) [24] rfl (by kernel_rfl) (fun _ _ _ h => h) hHeld (by rfl) ?_ ?_
      · (intro W' hSw; (try dsimp only at hSw); go_simp)
      try simp only [Act.put, List.setIfInBounds_toArray, List.set_cons_zero, List.set_cons_succ]
      refine wpAnyG_takeL (i := 17) (.bool true) [24] rfl (by kernel_rfl) (fun _ _ _ h => h) hHeld (by rfl) ?_ ?_
      · (intro W' hSw; (try dsimp only at hSw); go_simp)
      try simp only [Act.put, List.setIfInBounds_toArray, List.set_cons_zero, List.set_cons_succ]
      refine wpAnyG_takeL (i := 18) (.int .i64 1) [24] rfl (by kernel_rfl) (fun _ _ _ h => h) hHeld (by rfl) ?_ ?_
      · (intro W' hSw; (try dsimp only at hSw); go_simp)
      try simp only [Act.put, List.setIfInBounds_toArray, List.set_cons_zero, List.set_cons_succ]
      refine wpAnyG_takeL (i := 19) (.bool true) [24] rfl (by kernel_rfl) (fun _ _ _ h => h) hHeld (by rfl) ?_ ?_
      · (intro W' hSw; (try dsimp only at hSw); go_simp)
      try simp only [Act.put, List.setIfInBounds_toArray, List.set_cons_zero, List.set_cons_succ]
      refine wpAnyG_takeL (i := 20) (.bool true) [24] rfl (by kernel_rfl) (fun _ _ _ h => h) hHeld (by rfl) ?_ ?_
      · (intro W' hSw; (try dsimp only at hSw); go_simp)
      try simp only [Act.put, List.setIfInBounds_toArray, List.set_cons_zero, List.set_cons_succ]
      refine wpAnyG_takeL (i := 21) (.bool true) [24] rfl (by kernel_rfl) (fun _ _ _ h => h) hHeld (by rfl) ?_ ?_
      · (intro W' hSw; (try dsimp only at hSw); go_simp)
      try simp only [Act.put, List.setIfInBounds_toArray, List.set_cons_zero, List.set_cons_succ]
      clear hHeld
      refine wpAnyG_oneL (i := 22) (by kernel_rfl) rfl (fun K hK => ?_)
      (go_simp; go_at_call 12; refine (awake_any _).mono ?_; rintro e w9 ⟨rfl, b9⟩; have HB9 := Lib.hid (below2 HB7.out b9); clear b9)
      refine hK.out _ _ (fun _ => cell_below HB9.out kt) ?_
      clear hK K
      try simp only [Act.put, List.setIfInBounds_toArray, List.set_cons_zero, List.set_cons_succ]
      have hHeld := cell_below HB9.out kt
      refine wpAnyG_takeL (i := 23) (.bool true) [24] rfl (by kernel_rfl) (fun _ _ _ h => h) hHeld (by rfl) ?_ ?_
      · (intro W' hSw; (try dsimp only at hSw); go_simp)
      try simp only [Act.put, List.setIfInBounds_toArray, List.set_cons_zero, List.set_cons_succ]
      clear hHeld
      refine wpAnyG_oneL (i := 24) (by kernel_rfl) rfl (fun K hK => ?_)
      go_simp
      refine hK.out _ _ (fun h => Bool.noConfusion (show true = false from h)) ?_
      clear hK K
      refine wpAnyG_done (by kernel_rfl) ?_ _
      have BY := below2 BX HB9.out
      go_wp2_with fail
      go_ret
      exact ⟨rfl, BY⟩
    · have HF := Lib.hid (show decide (s1.length ≤ 200) = false from decide_eq_false h200)
      clear h200
      go_enter Try.func4, Try.ntmps4
      go_wp2_with fail
      refine (right17_any A0 s0.length c0 N0 P0 _).mono ?_
      rw [HD.out]
      rintro e w1 ⟨rfl, b⟩
      have BX := below2 HBA.out b; clear b
      go_wp2_with fail
      refine (few0_any A1 c1 s1 _).mono ?_
      rw [HF.out]
      rintro e w2 ⟨rfl, rfl⟩
      go_wp2_with fail
      refine (awake_any _).mono ?_
      rintro e w3 ⟨rfl, b⟩
      replace BX := below2 BX b; clear b
      go_wp2_with fail
      go_ret
      exact ⟨rfl, BX⟩
end Go.Proofs.Ytkfgomhhenmmeaa

namespace Go.Proofs.Ytkfgomhhenmmeaa
open Go.ChangeShapes Go.WideShapes Go.ChangeAt Go.WideMaps Go.WideElems Go.RowKit Go.Deep

theorem laidOut_scaleReads : laidOutB Try.prog = true := by kernel_rfl
set_option maxRecDepth 100000 in
theorem lifted_scaleReads (os : Os) (started : os.Started) (H : Type) (enc : TypeId × Value → H) :
    ReturnsInHanded {} Try.checked os 4 .any (Rows.scaleReadsSpec.pre6 enc Try.prog Try.f4 [] false) (Rows.scaleReadsSpec.post enc Try.prog Try.f4 false true false false) := by
  refine returnsInHanded_of_change_sized (C := Try.checked) own started (by kernel_rfl) Try.func4
    (ChangeSpec.witness6 (enc := enc) (C := Try.checked) false ⟨#[], #[.agg #[.slice none 0 0, .int .i64 0, .int .i64 0], .slice none 0 0], []⟩ 8 (by kernel_rfl) (by kernel_rfl) (by kernel_rfl) (by kernel_rfl)) ?_
  intro W base args ds gs before hval0 hW _ hsz0 _
  have hval : ∀ (j : Nat) t v, Try.f4.params[j]? = some t → args[j]? = some v → Value.okWide Try.prog W .any base t v := hval0
  have hW' := hW
  obtain ⟨p, q, hA0, hV, rfl, hfz, hnd⟩ := hW
  have hA : DataW.TrodAll enc Try.prog W 0 (fun _ => true) true Try.f4.params.toList args.toList ds p := hA0
  have hsz : (DataW.weightsEach Try.prog (Try.f4.params.toList ++ Rows.scaleReadsSpec.plain.varTypes Try.prog) (ds ++ gs)).all (· ≤ reachBytes) = true := hsz0
  rw [Try.params4] at hA hval hsz
  obtain ⟨v0, vs0, d0, ds0, p0, q0, hargs, rfl, rfl, h0, r0⟩ := trodAll_cons hA
  obtain ⟨v1, vs1, d1, ds1, p1, q1, rfl, rfl, rfl, h1, r1⟩ := trodAll_cons r0
  obtain ⟨rfl, rfl, rfl⟩ := trodAll_nil r1
  obtain rfl : args = #[v0, v1] := by cases args; simp_all
  obtain ⟨rfl, rfl⟩ := trodVars_none hV
  have lt0 : ∀ x ∈ p0, x.block < W.heap.size := by obtain ⟨m, hm⟩ := h0; exact DataW.trod_lt m _ _ _ hm
  have y0 : ∀ m ∈ d0.weights Try.prog 34, m ≤ reachBytes := fun m hm => of_decide_eq_true (List.all_eq_true.1 hsz m (DataW.weights_mem_each (j := 0) rfl rfl m hm))
  obtain ⟨A0, c0, s0, N0, P0, rfl, hR0, hB0⟩ := open_Z (hval 0 34 v0 rfl rfl) h0
  have lt1 : ∀ x ∈ p1, x.block < W.heap.size := by obtain ⟨m, hm⟩ := h1; exact DataW.trod_lt m _ _ _ hm
  have y1 : ∀ m ∈ d1.weights Try.prog 23, m ≤ reachBytes := fun m hm => of_decide_eq_true (List.all_eq_true.1 hsz m (DataW.weights_mem_each (j := 1) rfl rfl m hm))
  obtain ⟨B1, l1, e1, rfl⟩ := okWide_slice Try.underlying23 (hval 1 23 v1 rfl rfl)
  obtain ⟨A1, c1, s1, hv1, hR1⟩ : ∃ A c xs, Value.slice B1 l1 e1 = .slice A xs.length c ∧ RB W A c xs := by obtain ⟨fuel, hf⟩ := h1; exact open_B hf
  have hwalk := scaleReads_walk A0 c0 s0 N0 P0 A1 c1 s1 W hR0 hB0 hR1
  rw [← hv1] at hwalk
  refine hwalk.mono fun e W' ⟨he, bel⟩ => ?_
  subst he
  exact ⟨_, rfl, _, _, _, [], _, [], hW', trodAll_mk1 (shut_bool Try.underlying4 _), (trodAll_cons_mk (Below.trod laidOut_scaleReads (by kernel_rfl) (of_decide_eq_true (by kernel_rfl)) h0 bel lt0) (trodAll_cons_mk (Below.trod laidOut_scaleReads (by kernel_rfl) (of_decide_eq_true (by kernel_rfl)) h1 bel lt1) trodAll_mk0)), rfl, bel.frame _, fun h => by cases h⟩
theorem scaleReads_holds : Rows.ScaleReadsSaid :=
  OpenClaim.holds_of_wide 4 Try.f4 rfl rfl rfl rfl rfl rfl rfl ⟨rfl, rfl, rfl, rfl, rfl⟩ rfl rfl rfl rfl rfl (by kernel_rfl) Try.func4 (by kernel_rfl)
    (of_decide_eq_true (by kernel_rfl)) (by unfold Func.isWrapper; first | (rw [if_pos (by decide +kernel)]; kernel_rfl) | (rw [if_neg (by decide +kernel)]; exact ⟨rfl, rfl⟩))
    (fun os started H enc _ => lifted_scaleReads os started H enc)
#print axioms scaleReads_holds
end Go.Proofs.Ytkfgomhhenmmeaa
