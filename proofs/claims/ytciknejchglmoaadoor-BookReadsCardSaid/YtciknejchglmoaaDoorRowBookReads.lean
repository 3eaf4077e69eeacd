/- The law BookReads of layer 17 (book): it returns true for every input, at every world in which book's two tables read as the program's text lays them. The row, and its tied card. -/
import Derived.Test.YtciknejchglmoaaDoorKo
import Derived.Test.YtciknejchglmoaaDoorCards
import Derived.Test.YtciknejchglmoaaDoorTie
import Derived.SevenTiedAt
import Derived.OpenShut
import Derived.Carry
import Derived.SizedLaws
namespace Go.Proofs.YtciknejchglmoaaDoor
open Go.RowKit

set_option maxHeartbeats 4000000 in
set_option maxRecDepth 100000 in
theorem bookReads_walk (A0 : Option Addr) (c0 : Nat) (s0 : List Int) (N0 P0 n1 n2 : Int) (W : World) (hG : GF W) (hT : GT W) (hR0 : RY W A0 c0 s0) (hB0 : ∀ x ∈ s0, 0 ≤ x ∧ x < 256) :
    Calls Tryd.prog 5 #[.agg #[.slice A0 s0.length c0, .int .i64 N0, .int .i64 P0], .int .i64 n1, .int .i64 n2] W fun e W' => e = .returned (.bool true) ∧ Below W.heap.size W W' := by
  have HBA := Lib.hid (below_alloc (Below.refl W.heap.size W) (.cells #[.slice A0 s0.length c0, .int .i64 N0, .int .i64 P0] 40))
  have HBX := Lib.hid (show Blk (W.alloc (.cells #[.slice A0 s0.length c0, .int .i64 N0, .int .i64 P0] 40)) W.heap.size #[.slice A0 s0.length c0, .int .i64 N0, .int .i64 P0] 40 from heap_alloc_new W _)
  have HB0 := Lib.hid hB0
  have hS := (GS.of hG hT).below HBA.out
  clear hB0 hG hT
  cases hri : rightB s0.length N0 P0
  · have HD := Lib.hid hri; clear hri
    go_enter Tryd.func5, Tryd.ntmps5
    go_wp2_with fail
    refine (right17_any A0 s0.length c0 N0 P0 _).mono ?_
    rw [HD.out]
    rintro e w1 ⟨rfl, b⟩
    replace hS := hS.below b
    have BX := below2 HBA.out b; clear b
    go_wp2_with fail
    refine (awake17_any _ hS.f hS.t).mono ?_
    rintro e w2 ⟨rfl, b⟩
    replace BX := below2 BX b; clear b
    go_wp2_with fail
    go_ret
    exact ⟨rfl, BX⟩
  · have HD := Lib.hid hri
    have hrd : s0.length ≤ 2000 ∧ 0 ≤ N0 ∧ N0 ≤ 8 * (s0.length : Int) ∧ 0 ≤ P0 ∧ P0 ≤ N0 := by
      simp only [rightB, Bool.and_eq_true, decide_eq_true_eq] at hri
      exact ⟨hri.1.1.1.1, hri.1.1.1.2, hri.1.1.2, hri.1.2, hri.2⟩
    clear hri
    obtain ⟨m, rfl⟩ : ∃ m : Nat, N0 = (m : Int) := ⟨N0.toNat, by omega⟩
    obtain ⟨i, rfl⟩ : ∃ i : Nat, P0 = (i : Int) := ⟨P0.toNat, by omega⟩
    have HRD := Lib.hid (show s0.length ≤ 2000 ∧ m ≤ 8 * s0.length ∧ i ≤ m from ⟨hrd.1, by omega, by omega⟩)
    clear hrd
    go_enter Tryd.func5, Tryd.ntmps5
    go_wp2_with fail
    refine (right17_any A0 s0.length c0 (m : Int) (i : Int) _).mono ?_
    rw [HD.out]
    rintro e w1 ⟨rfl, b⟩
    have BX := below2 HBA.out b
    have PB := HBX.out.below b
    replace hS := hS.below b
    replace hR0 := hR0.below BX; clear b
    have k0 := PB.cell 0 rfl
    have k1 := PB.cell 1 rfl
    have k2 := PB.cell 2 rfl
    go_wp2_with fail
    refine (bbegun_any A0 c0 s0 m i _ hR0 HB0.out HRD.out.1 HRD.out.2.1 HRD.out.2.2).mono ?_
    rintro e w3 ⟨gr, gt, k, rfl, hr, ht, hk, b⟩
    have hsz := BX.size
    have hgr := hr.og
    have hgt := ht.og
    replace hS := hS.below b
    replace BX := below2 BX b; clear b k0 k1 k2 PB hR0
    generalize ofB s0 m = X at hr ht
    go_wp2_with fail
    refine (bRead_any _ gr i n1 n2 X _ hr hS.f hS.t (fun e => by have := hS.lf; omega)).mono ?_
    rintro e w4 ⟨v7, rfl, hO, hr4, hu⟩
    obtain ⟨A7, c7, rfl, H7⟩ := hO.rd
    have hgl := ht.lt
    have h7 := H7.weak (ok' := fun x => x ≠ gt) (fun x _ h e => by have := h.1; omega)
    replace ht := ht.upd hu (fun x _ h e => by omega)
    replace hS := hS.upd hu (fun x h e => by omega)
    replace BX := BX.trans (hu.below (n := W.heap.size) BX.size (fun x _ e => by omega)); clear hu hO hr
    go_wp2_with fail
    refine (rRead_any _ gt i n1 n2 X _ ht).mono ?_
    rintro e w5 ⟨v8, rfl, hO, ⟨E9, ht5⟩, hu⟩
    obtain ⟨A8, c8, rfl, H8⟩ := own_ri hO
    have hr := hr4.upd hu (fun x _ h e => by omega)
    have HH7 := h7.keep (hu.keep (ok := fun x => x ≠ gt) fun _ h => h)
    replace hS := hS.upd hu (fun x h e => by omega)
    replace BX := BX.trans (hu.below (n := W.heap.size) BX.size (fun x _ e => by omega)); clear hu hO ht hr4 H7
    replace H7 := HH7.any
    clear HH7 h7
    have ⟨At, ct, hbt, _⟩ := ht5
    have kt := hbt.cell 1 rfl
    generalize brdL n1 n2 (X.drop i) = xs at *
    generalize brdE n1 n2 (X.drop i) = E at *
    obtain ⟨j, hj⟩ : ∃ j, i + brdN n1 n2 (X.drop i) = j := ⟨_, rfl⟩
    rw [hj] at hr kt
    replace kt : w5.cell? ⟨gt, 1, none⟩ = some (.int .i64 (j : Int)) := kt
    clear ht5 hbt hj
    go_wp2_with fail
    refine (bRead_nil n1 n2 _).mono ?_
    rintro e w6 ⟨rfl, rfl⟩
    go_wp2_with fail
    refine wp_region_G 24 (fun W9 : World => W9.cell? ⟨gt, 1, none⟩ = some (.int .i64 (j : Int))) (by kernel_rfl) (cell_below (Below.refl _ _).drew kt) (fun hHeld => ?_)
    refine wpAnyG_takeL (i := 0) (.slice A7 xs.length c7) [24] rfl (by kernel_rfl) (fun _ _ _ h => h) hHeld (by rfl) ?_ ?_
    · (intro W' hSw; (try dsimp only at hSw); go_simp)
    try simp only [Act.put, List.setIfInBounds_toArray, List.set_cons_zero, List.set_cons_succ]
    refine wpAnyG_takeL (i := 1) (.slice A8 xs.length c8) [24] rfl (by kernel_rfl) (fun _ _ _ h => h) hHeld (by rfl) ?_ ?_
    · (intro W' hSw; (try dsimp only at hSw); go_simp)
    try simp only [Act.put, List.setIfInBounds_toArray, List.set_cons_zero, List.set_cons_succ]
    clear hHeld
    refine wpAnyG_oneL (i := 2) (by kernel_rfl) rfl (fun K hK => ?_)
    (go_simp; go_at_call 14; refine (same17_any A7 A8 c7 c8 xs xs _ (H7.below (Below.refl _ _).drew) (H8.below (Below.refl _ _).drew)).mono ?_; rw [show sameL xs xs = true by simp [sameL]]; rintro e w7 ⟨rfl, b7⟩; have HB7 := Lib.hid (below2 (Below.refl _ _).drew b7); clear b7)
    refine hK.out _ _ (fun _ => cell_below HB7.out kt) ?_
    clear hK K
    try simp only [Act.put, List.setIfInBounds_toArray, List.set_cons_zero, List.set_cons_succ]
    have hHeld := cell_below HB7.out kt
    refine wpAnyG_takeL (i := 3) (.bool true) [24] rfl (by kernel_rfl) (fun _ _ _ h => h) hHeld (by rfl) ?_ ?_
    · (intro W' hSw; (try dsimp only at hSw); go_simp)
    try simp only [Act.put, List.setIfInBounds_toArray, List.set_cons_zero, List.set_cons_succ]
    refine wpAnyG_takeL (i := 4) (.int .i64 E) [24] rfl (by kernel_rfl) (fun _ _ _ h => h) hHeld (by rfl) ?_ ?_
    · (intro W' hSw; (try dsimp only at hSw); go_simp)
    try simp only [Act.put, List.setIfInBounds_toArray, List.set_cons_zero, List.set_cons_succ]
    refine wpAnyG_takeL (i := 5) (.int .i64 E) [24] rfl (by kernel_rfl) (fun _ _ _ h => h) hHeld (by rfl) ?_ ?_
    · (intro W' hSw; (try dsimp only at hSw); go_simp)
    try simp only [Act.put, List.setIfInBounds_toArray, List.set_cons_zero, List.set_cons_succ]
    refine wpAnyG_takeL (i := 6) (.bool true) [24] rfl (by kernel_rfl) (fun _ _ _ h => h) hHeld (by rfl) ?_ ?_
    · (intro W' hSw; (try dsimp only at hSw); go_simp)
    try simp only [Act.put, List.setIfInBounds_toArray, List.set_cons_zero, List.set_cons_succ]
    refine wpAnyG_takeL (i := 7) (.bool true) [24] rfl (by kernel_rfl) (fun _ _ _ h => h) hHeld (by rfl) ?_ ?_
    · (intro W' hSw; (try dsimp only at hSw); go_simp)
    try simp only [Act.put, List.setIfInBounds_toArray, List.set_cons_zero, List.set_cons_succ]
    refine wpAnyG_takeL (i := 8) (.bool true) [24] rfl (by kernel_rfl) (fun _ _ _ h => h) hHeld (by rfl) ?_ ?_
    · (intro W' hSw; (try dsimp only at hSw); go_simp)
    try simp only [Act.put, List.setIfInBounds_toArray, List.set_cons_zero, List.set_cons_succ]
    refine wpAnyG_takeL (i := 9) (.pointer (some ⟨gr, 0, none⟩)) [24] rfl (by kernel_rfl) (fun _ _ _ h => h) hHeld (by rfl) ?_ ?_
    · (intro W' hSw; (try dsimp only at hSw); go_simp)
    try simp only [Act.put, List.setIfInBounds_toArray, List.set_cons_zero, List.set_cons_succ]
    refine wpAnyG_takeL (i := 11) (.pointer (some ⟨gt, 0, none⟩)) [24] rfl (by kernel_rfl) (fun _ _ _ h => h) hHeld (by rfl) ?_ ?_
    · (intro W' hSw; (try dsimp only at hSw); go_simp)
    try simp only [Act.put, List.setIfInBounds_toArray, List.set_cons_zero, List.set_cons_succ]
    refine wpAnyG_takeL (i := 12) (.pointer (some ⟨gt, 0, none⟩)) [24] rfl (by kernel_rfl) (fun _ _ _ h => h) hHeld (by rfl) ?_ ?_
    · (intro W' hSw; (try dsimp only at hSw); go_simp)
    try simp only [Act.put, List.setIfInBounds_toArray, List.set_cons_zero, List.set_cons_succ]
    refine wpAnyG_takeL (i := 13) (.pointer (some ⟨gt, 1, none⟩)) [24] rfl (by kernel_rfl) (fun _ _ _ h => h) hHeld (by rfl) ?_ ?_
    · (intro W' hSw; (try dsimp only at hSw); go_simp)
    try simp only [Act.put, List.setIfInBounds_toArray, List.set_cons_zero, List.set_cons_succ]
    refine wpAnyG_takeL (i := 14) (.int .i64 j) [24] rfl (by kernel_rfl) (fun _ _ _ h => h) hHeld (by rfl) ?_ ?_
    · (intro W' hSw; (try dsimp only at hSw); go_simp)
    try simp only [Act.put, List.setIfInBounds_toArray, List.set_cons_zero, List.set_cons_succ]
    have HR7 := Lib.hid (hr.below HB7.out)
    refine wpAnyG_oneL (i := 10) (by kernel_rfl) rfl (fun K hK => ?_)
    (go_simp; go_at_call 27; refine (rat_any _ gr j X _ HR7.out).mono ?_; rintro e w8 ⟨rfl, rfl⟩)
    refine hK.out _ _ (fun _ => hHeld) ?_
    clear hK K
    try simp only [Act.put, List.setIfInBounds_toArray, List.set_cons_zero, List.set_cons_succ]
    refine wpAnyG_takeL (i := 15) (.bool true) [24] rfl (by kernel_rfl) (fun _ _ _ h => h) hHeld (by rfl) ?_ ?_
    · (intro W' hSw; (try dsimp only at hSw); go_simp)
    try simp only [Act.put, List.setIfInBounds_toArray, List.set_cons_zero, List.set_cons_succ]
    refine wpAnyG_takeL (i := 16) (.bool true) [24] rfl (by kernel_rfl) (fun _ _ _ h => h) hHeld (by rfl) ?_ ?_
    · (intro W' hSw; (try dsimp only at hSw); go_simp)
    try simp only [Act.put, List.setIfInBounds_toArray, List.set_cons_zero, List.set_cons_succ]
    refine wpAnyG_takeL (i := 17) (.bool true) [24] rfl (by kernel_rfl) (fun _ _ _ h => h) hHeld (by rfl) ?_ ?_
    · (intro W' hSw; (try dsimp only at hSw); go_simp)
    try simp only [Act.put, List.setIfInBounds_toArray, List.set_cons_zero, List.set_cons_succ]
    refine wpAnyG_takeL (i := 18) (.int .i64 1) [24] rfl (by kernel_rfl) (fun _ _ _ h => h) hHeld (by rfl) ?_ ?_
    · (intro W' hSw; (try dsimp only at hSw); go_simp)
    try simp only [Act.put, List.setIfInBounds_toArray, List.set_cons_zero, List.set_cons_succ]
    refine wpAnyG_takeL (i := 19) (.bool true) [24] rfl (by kernel_rfl) (fun _ _ _ h => h) hHeld (by rfl) ?_ ?_
    · (intro W' hSw; (try dsimp only at hSw); go_simp)
    try simp only [Act.put, List.setIfInBounds_toArray, List.set_cons_zero, List.set_cons_succ]
    refine wpAnyG_takeL (i := 20) (.bool true) [24] rfl (by kernel_rfl) (fun _ _ _ h => h) hHeld (by rfl) ?_ ?_
    · (intro W' hSw; (try dsimp only at hSw); go_simp)
    try simp only [Act.put, List.setIfInBounds_toArray, List.set_cons_zero, List.set_cons_succ]
    refine wpAnyG_takeL (i := 21) (.bool true) [24] rfl (by kernel_rfl) (fun _ _ _ h => h) hHeld (by rfl) ?_ ?_
    · (intro W' hSw; (try dsimp only at hSw); go_simp)
    try simp only [Act.put, List.setIfInBounds_toArray, List.set_cons_zero, List.set_cons_succ]
    clear hHeld
    have HS7 := Lib.hid (hS.below HB7.out)
    refine wpAnyG_oneL (i := 22) (by kernel_rfl) rfl (fun K hK => ?_)
    (go_simp; go_at_call 15; refine (awake17_any _ HS7.out.f HS7.out.t).mono ?_; rintro e w9 ⟨rfl, b9⟩; have HB9 := Lib.hid (below2 HB7.out b9); clear b9)
    refine hK.out _ _ (fun _ => cell_below HB9.out kt) ?_
    clear hK K
    try simp only [Act.put, List.setIfInBounds_toArray, List.set_cons_zero, List.set_cons_succ]
    have hHeld := cell_below HB9.out kt
    refine wpAnyG_takeL (i := 23) (.bool true) [24] rfl (by kernel_rfl) (fun _ _ _ h => h) hHeld (by rfl) ?_ ?_
    · (intro W' hSw; (try dsimp only at hSw); go_simp)
    try simp only [Act.put, List.setIfInBounds_toArray, List.set_cons_zero, List.set_cons_succ]
    clear hHeld
    refine wpAnyG_oneL (i := 24) (by kernel_rfl) rfl (fun K hK => ?_)
    (go_simp)
    refine hK.out _ _ (fun h => Bool.noConfusion (show true = false from h)) ?_
    clear hK K
    refine wpAnyG_done (by kernel_rfl) ?_ _
    have BY := below2 BX HB9.out
    go_wp2_with fail
    go_ret
    exact ⟨rfl, BY⟩
end Go.Proofs.YtciknejchglmoaaDoor

namespace Go.Proofs.YtciknejchglmoaaDoor
open Go.ChangeShapes Go.WideShapes Go.ChangeAt Go.WideMaps Go.WideElems Go.RowKit Go.Deep

theorem laidOut_bookReads : laidOutB Tryd.prog = true := by kernel_rfl
set_option maxRecDepth 100000 in
theorem lifted_bookReads (os : Os) (started : os.Started) (H : Type) (enc : TypeId × Value → H) :
    ReturnsInHanded {} Tryd.checked os 5 .any (fun w args => (Rows.bookReadsSpec.pre enc Tryd.prog Tryd.f5 [] false w args ∧ laidMetH Tryd.prog laidBk w) ∧ sizedMet enc Tryd.prog Tryd.f5 (OpenSpec.ofChange Rows.bookReadsSpec) false w args)
      (Rows.bookReadsSpec.post enc Tryd.prog Tryd.f5 false true false false) := by
  refine returnsInHanded_of_change_and (C := Tryd.checked) (X := fun w _ => laidMetH Tryd.prog laidBk w) (fun _ _ _ hh h => h.of_heap hh) ownBk started (by kernel_rfl) Tryd.func5
    (ChangeSpec.witness_shaped (enc := enc) (C := Tryd.checked) (os := os) (X := fun w _ => laidMetH Tryd.prog laidBk w) false (World.doorLaid Tryd.prog 400 os) #[.agg #[.slice none 0 0, .int .i64 0, .int .i64 0], .int .i64 0, .int .i64 0] 8 rfl (World.shaped_of_RefB (by kernel_rfl) (by kernel_rfl)) (by kernel_rfl) (by kernel_rfl) (by kernel_rfl) (door_bk os _)) ?_
  intro W base args ds gs before hval0 hW _ hsz0 hL _
  obtain ⟨hG, hT⟩ := gf_of_laid hL
  have hval : ∀ (j : Nat) t v, Tryd.f5.params[j]? = some t → args[j]? = some v → Value.okWide Tryd.prog W .any base t v := hval0
  have hW' := hW
  obtain ⟨p, q, hA0, hV, rfl, hfz, hnd⟩ := hW
  have hA : DataW.TrodAll enc Tryd.prog W 0 (fun _ => true) true Tryd.f5.params.toList args.toList ds p := hA0
  have hsz : (DataW.weightsEach Tryd.prog (Tryd.f5.params.toList ++ Rows.bookReadsSpec.plain.varTypes Tryd.prog) (ds ++ gs)).all (· ≤ reachBytes) = true := hsz0
  rw [Tryd.params5] at hA hval hsz
  obtain ⟨v0, vs0, d0, ds0, p0, q0, hargs, rfl, rfl, h0, r0⟩ := trodAll_cons hA
  obtain ⟨v1, vs1, d1, ds1, p1, q1, rfl, rfl, rfl, h1, r1⟩ := trodAll_cons r0
  obtain ⟨v2, vs2, d2, ds2, p2, q2, rfl, rfl, rfl, h2, r2⟩ := trodAll_cons r1
  obtain ⟨rfl, rfl, rfl⟩ := trodAll_nil r2
  obtain rfl : args = #[v0, v1, v2] := by cases args; simp_all
  obtain ⟨rfl, rfl⟩ := trodVars_none hV
  have lt0 : ∀ x ∈ p0, x.block < W.heap.size := by obtain ⟨m, hm⟩ := h0; exact DataW.trod_lt m _ _ _ hm
  have y0 : ∀ m ∈ d0.weights Tryd.prog 40, m ≤ reachBytes := fun m hm => of_decide_eq_true (List.all_eq_true.1 hsz m (DataW.weights_mem_each (j := 0) rfl rfl m hm))
  obtain ⟨A0, c0, s0, N0, P0, rfl, hR0, hB0⟩ := open_Z (hval 0 40 v0 rfl rfl) h0
  have lt1 : ∀ x ∈ p1, x.block < W.heap.size := by obtain ⟨m, hm⟩ := h1; exact DataW.trod_lt m _ _ _ hm
  have y1 : ∀ m ∈ d1.weights Tryd.prog 3, m ≤ reachBytes := fun m hm => of_decide_eq_true (List.all_eq_true.1 hsz m (DataW.weights_mem_each (j := 1) rfl rfl m hm))
  obtain ⟨a1, rfl, _, _, w1⟩ := open_int Tryd.underlying3 (hval 1 3 v1 rfl rfl) h1
  have lt2 : ∀ x ∈ p2, x.block < W.heap.size := by obtain ⟨m, hm⟩ := h2; exact DataW.trod_lt m _ _ _ hm
  have y2 : ∀ m ∈ d2.weights Tryd.prog 3, m ≤ reachBytes := fun m hm => of_decide_eq_true (List.all_eq_true.1 hsz m (DataW.weights_mem_each (j := 2) rfl rfl m hm))
  obtain ⟨a2, rfl, _, _, w2⟩ := open_int Tryd.underlying3 (hval 2 3 v2 rfl rfl) h2
  have hwalk := bookReads_walk A0 c0 s0 N0 P0 a1 a2 W hG hT hR0 hB0
  refine hwalk.mono fun e W' ⟨he, bel⟩ => ?_
  subst he
  exact ⟨_, rfl, _, _, _, [], _, [], hW', trodAll_mk1 (shut_bool Tryd.underlying4 _), (trodAll_cons_mk (Below.trod laidOut_bookReads (by kernel_rfl) (of_decide_eq_true (by kernel_rfl)) h0 bel lt0) (trodAll_cons_mk (Below.trod laidOut_bookReads (by kernel_rfl) (of_decide_eq_true (by kernel_rfl)) h1 bel lt1) (trodAll_cons_mk (Below.trod laidOut_bookReads (by kernel_rfl) (of_decide_eq_true (by kernel_rfl)) h2 bel lt2) trodAll_mk0))), rfl, bel.frame _, fun h => by cases h⟩
theorem bookReads_said : Rows.BookReadsSaid :=
  OpenClaim.holds_of_wide 5 Tryd.f5 rfl rfl rfl rfl rfl rfl rfl ⟨rfl, rfl, rfl, rfl, rfl⟩ rfl rfl rfl rfl rfl (by kernel_rfl) Tryd.func5 (by kernel_rfl)
    (of_decide_eq_true (by kernel_rfl)) (by unfold Func.isWrapper; first | (rw [if_pos (by decide +kernel)]; kernel_rfl) | (rw [if_neg (by decide +kernel)]; exact ⟨rfl, rfl⟩))
    (fun os started H enc _ => lifted_bookReads os started H enc)
theorem bookReads_card : Rows.BookReadsCardSaid :=
  Claim7.holds_tied_plain_at .later [] [.wider, .data] true Rows.bookReadsCard.stood.harness false
    bookReads_said (fun _ h => by cases h) (by kernel_rfl) (fun _ h => by cases h) bookReads_row_tie rfl ⟨rfl, rfl⟩ (by kernel_rfl) rfl
    (fun f fn hf hfn => by
      obtain rfl : f = 5 := Option.some.inj ((show Tryd.prog.funcNamed "shawm/shawmlaw17.BookReads" = some 5 by kernel_rfl).symm.trans hf) |>.symm
      obtain rfl : fn = Tryd.f5 := (Option.some.inj (Tryd.func5.symm.trans hfn)).symm
      exact ⟨by kernel_rfl, fun j t ht => by
        rw [Tryd.params5] at ht
        have hm : t ∈ [40, 3, 3] := by simpa using Array.mem_of_getElem? ht
        have hall : ([40, 3, 3].all fun u => !Tryd.prog.wantsStandIn u) = true := by kernel_rfl
        exact (show Tryd.prog.wantsStandIn t = false by simpa using List.all_eq_true.1 hall t hm)⟩)
    (by kernel_rfl)
#print axioms bookReads_card
end Go.Proofs.YtciknejchglmoaaDoor
