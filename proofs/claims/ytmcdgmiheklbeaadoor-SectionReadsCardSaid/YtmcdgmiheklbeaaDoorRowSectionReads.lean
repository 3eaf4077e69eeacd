/- The law SectionReads of layer 18 (section): it returns true for every input, at every world in which book's two tables read as the program's text lays them. The row, and its tied card. -/
import Derived.Test.YtmcdgmiheklbeaaDoorKn
import Derived.Test.YtmcdgmiheklbeaaDoorKo
import Derived.Test.YtmcdgmiheklbeaaDoorCards
import Derived.Test.YtmcdgmiheklbeaaDoorTie
import Derived.SevenTiedAt
import Derived.OpenShut
import Derived.Carry
import Derived.SizedLaws
namespace Go.Proofs.YtmcdgmiheklbeaaDoor
open Go.RowKit

set_option maxHeartbeats 4000000 in
set_option maxRecDepth 100000 in
theorem sectionReads_walk (A0 : Option Addr) (c0 : Nat) (s0 : List Int) (N0 P0 : Int) (A1 : Option Addr) (c1 : Nat) (ws : List Int) (W : World) (hG : GF W) (hT : GT W) (hR0 : RY W A0 c0 s0) (hB0 : ∀ x ∈ s0, 0 ≤ x ∧ x < 256) (hR1 : RI W A1 c1 ws) :
    Calls Tryd.prog 3 #[.agg #[.slice A0 s0.length c0, .int .i64 N0, .int .i64 P0], .slice A1 ws.length c1] W fun e W' => e = .returned (.bool true) ∧ Below W.heap.size W W' := by
  have HBA := Lib.hid (below_alloc (Below.refl W.heap.size W) (.cells #[.slice A0 s0.length c0, .int .i64 N0, .int .i64 P0] 24))
  have HBX := Lib.hid (show Blk (W.alloc (.cells #[.slice A0 s0.length c0, .int .i64 N0, .int .i64 P0] 24)) W.heap.size #[.slice A0 s0.length c0, .int .i64 N0, .int .i64 P0] 24 from heap_alloc_new W _)
  have HB0 := Lib.hid hB0
  have hS := (GS.of hG hT).below HBA.out
  have HR1 := Lib.hid (hR1.weak (ok' := fun x => x < W.heap.size) fun x hx _ => hx)
  clear hB0 hG hT hR1
  by_cases hfew : rightB s0.length N0 P0 = true ∧ ws.length ≤ 140
  · obtain ⟨hri, hw⟩ := hfew
    have HD := Lib.hid hri
    have hrd : s0.length ≤ 2000 ∧ 0 ≤ N0 ∧ N0 ≤ 8 * (s0.length : Int) ∧ 0 ≤ P0 ∧ P0 ≤ N0 := by
      simp only [rightB, Bool.and_eq_true, decide_eq_true_eq] at hri
      exact ⟨hri.1.1.1.1, hri.1.1.1.2, hri.1.1.2, hri.1.2, hri.2⟩
    clear hri
    obtain ⟨m, rfl⟩ : ∃ m : Nat, N0 = (m : Int) := ⟨N0.toNat, by omega⟩
    obtain ⟨i, rfl⟩ : ∃ i : Nat, P0 = (i : Int) := ⟨P0.toNat, by omega⟩
    have HRD := Lib.hid (show s0.length ≤ 2000 ∧ m ≤ 8 * s0.length ∧ i ≤ m from ⟨hrd.1, by omega, by omega⟩)
    have HW := Lib.hid hw
    have dw : decide ((140 : Int) < (ws.length : Int)) = false := decide_eq_false (by omega)
    clear hrd hw
    go_enter Tryd.func3, Tryd.ntmps3
    go_wp2_with fail
    refine (right17_any A0 s0.length c0 (m : Int) (i : Int) _).mono ?_
    rw [HD.out]
    rintro e w1 ⟨rfl, b⟩
    have BX := below2 HBA.out b
    have PB := HBX.out.below b
    replace hS := hS.below b
    replace hR0 := hR0.below BX; clear b
    have k0 := PB.cell 0 rfl
    have k1 := PB.cell 1 rfl
    have k2 := PB.cell 2 rfl
    go_wp2_with fail
    refine (bbegun_any A0 c0 s0 m i _ hR0 HB0.out HRD.out.1 HRD.out.2.1 HRD.out.2.2).mono ?_
    rintro e w3 ⟨gr, gt, k, rfl, hr, ht, hk, b⟩
    have hsz := BX.size
    have hgr := hr.og
    have hgt := ht.og
    replace hS := hS.below b
    replace BX := below2 BX b; clear b k0 k1 k2 PB hR0
    generalize ofB s0 m = X at hr ht
    have hw1 : Sl (kInt .i64) (fun x => x < W.heap.size) w3 A1 c1 ws := HR1.out.below BX
    go_wp2_with fail
    refine (sRead_any _ gr i A1 c1 ws X _ hr.cut (fun x h => h.2) (hw1.weak fun x _ h e => by omega) hS.f hS.t (fun e => by have := hS.lf; omega) (fun e => by have := hS.lt; omega) (by have := HW.out; omega)).mono ?_
    rintro e w4 ⟨v7, v7s, rfl, hO, hOs, hr4, hu⟩
    obtain ⟨A7, c7, rfl, H7⟩ := hO.rd
    obtain ⟨A7s, c7s, rfl, H7s⟩ := own_rs hOs
    have hgl := ht.lt
    have h7 := H7.weak (ok' := fun x => x ≠ gt) (fun x _ h e => by have := h.1; omega)
    have h7s := H7s.weak (ok' := fun x => x ≠ gt) (fun x _ h e => by omega)
    replace ht := ht.upd hu (fun x _ h e => by omega)
    replace hS := hS.upd hu (fun x h e => by omega)
    replace hw1 := (hw1.weak (ok' := fun x => x ≠ gr ∧ x < W.heap.size) fun x _ h => ⟨by omega, h⟩).keep ((hu.keep (ok := fun x => x ≠ gr) fun _ h => h).weak fun x h => h.1)
    replace BX := BX.trans (hu.below (n := W.heap.size) BX.size (fun x _ e => by omega)); clear hu hO hOs hr
    go_wp2_with fail
    refine (rRead18_any _ gt i A1 c1 ws X _ ht.cut (fun x h => h.2) (hw1.weak fun x _ h e => by have := h.2; omega) (by have := HW.out; omega)).mono ?_
    rintro e w5 ⟨v8, v8s, rfl, hO, hOs, ⟨E9, ht5⟩, hu⟩
    obtain ⟨A8, c8, rfl, H8⟩ := own_ri hO
    obtain ⟨A8s, c8s, rfl, H8s⟩ := own_rs hOs
    have hr := hr4.upd hu (fun x _ h e => by have := h.1; omega)
    have HH7 := h7.keep (hu.keep (ok := fun x => x ≠ gt) fun _ h => h)
    have HH7s := h7s.keep (hu.keep (ok := fun x => x ≠ gt) fun _ h => h)
    replace hS := hS.upd hu (fun x h e => by omega)
    replace BX := BX.trans (hu.below (n := W.heap.size) BX.size (fun x _ e => by omega)); clear hu hO hOs ht hr4 H7 H7s
    replace H7 := HH7.any
    have H7s := HH7s.any
    have H8s' := H8s.any
    clear HH7 h7 HH7s h7s
    have ⟨At, ct, hbt, _⟩ := ht5
    have kt := hbt.cell 1 rfl
    generalize (readS ws (X.drop i)).1 = xs at *
    generalize (readS ws (X.drop i)).2.1 = ys at *
    generalize (readS ws (X.drop i)).2.2.1 = E at *
    obtain ⟨j, hj⟩ : ∃ j, i + (readS ws (X.drop i)).2.2.2 = j := ⟨_, rfl⟩
    rw [hj] at hr kt
    replace kt : w5.cell? ⟨gt, 1, none⟩ = some (.int .i64 (j : Int)) := kt
    clear ht5 hbt hj hw1
    go_wp2_with fail
    have hw5 : RI w5 A1 c1 ws := (HR1.out.below BX).any
    refine (sRead_nil A1 c1 ws _ hw5 (by have := HW.out; omega)).mono ?_
    rintro e w6 ⟨rfl, rfl⟩
    clear hw5
    go_wp2_with fail
    refine wp_region_G 29 (fun W9 : World => W9.cell? ⟨gt, 1, none⟩ = some (.int .i64 (j : Int))) (by kernel_rfl) (cell_below (Below.refl _ _).drew kt) (fun hHeld => ?_)
    refine wpAnyG_takeL (i := 0) (.slice A7 xs.length c7) [29] rfl (by kernel_rfl) (fun _ _ _ h => h) hHeld (by rfl) ?_ ?_
    · (intro W' hSw; (try dsimp only at hSw); go_simp)
    try simp only [Act.put, List.setIfInBounds_toArray, List.set_cons_zero, List.set_cons_succ]
    refine wpAnyG_takeL (i := 1) (.slice A8 xs.length c8) [29] rfl (by kernel_rfl) (fun _ _ _ h => h) hHeld (by rfl) ?_ ?_
    · (intro W' hSw; (try dsimp only at hSw); go_simp)
    try simp only [Act.put, List.setIfInBounds_toArray, List.set_cons_zero, List.set_cons_succ]
    clear hHeld
    refine wpAnyG_oneL (i := 2) (by kernel_rfl) rfl (fun K hK => ?_)
    (go_simp; go_at_call 13; refine (ints_ref A7 A8 c7 c8 xs xs _ (H7.below (Below.refl _ _).drew) (H8.below (Below.refl _ _).drew)).mono ?_; rw [sameL_refl]; rintro e w7 ⟨rfl, b7⟩; have HB7 := Lib.hid (below2 (Below.refl _ _).drew b7); clear b7)
    refine hK.out _ _ (fun _ => cell_below HB7.out kt) ?_
    clear hK K
    try simp only [Act.put, List.setIfInBounds_toArray, List.set_cons_zero, List.set_cons_succ]
    have hHeld := cell_below HB7.out kt
    refine wpAnyG_takeL (i := 3) (.bool true) [29] rfl (by kernel_rfl) (fun _ _ _ h => h) hHeld (by rfl) ?_ ?_
    · (intro W' hSw; (try dsimp only at hSw); go_simp)
    try simp only [Act.put, List.setIfInBounds_toArray, List.set_cons_zero, List.set_cons_succ]
    refine wpAnyG_takeL (i := 4) (.slice A7s ys.length c7s) [29] rfl (by kernel_rfl) (fun _ _ _ h => h) hHeld (by rfl) ?_ ?_
    · (intro W' hSw; (try dsimp only at hSw); go_simp)
    try simp only [Act.put, List.setIfInBounds_toArray, List.set_cons_zero, List.set_cons_succ]
    refine wpAnyG_takeL (i := 5) (.slice A8s ys.length c8s) [29] rfl (by kernel_rfl) (fun _ _ _ h => h) hHeld (by rfl) ?_ ?_
    · (intro W' hSw; (try dsimp only at hSw); go_simp)
    try simp only [Act.put, List.setIfInBounds_toArray, List.set_cons_zero, List.set_cons_succ]
    clear hHeld
    refine wpAnyG_oneL (i := 6) (by kernel_rfl) rfl (fun K hK => ?_)
    (go_simp; go_at_call 14; refine (rsame_any A7s A8s c7s c8s ys ys _ (H7s.below HB7.out) (H8s'.below HB7.out)).mono ?_; rw [sameS_refl]; rintro e w8 ⟨rfl, b8⟩; have HB8 := Lib.hid (below2 HB7.out b8); clear b8)
    refine hK.out _ _ (fun _ => cell_below HB8.out kt) ?_
    clear hK K
    try simp only [Act.put, List.setIfInBounds_toArray, List.set_cons_zero, List.set_cons_succ]
    have hHeld := cell_below HB8.out kt
    refine wpAnyG_takeL (i := 7) (.bool true) [29] rfl (by kernel_rfl) (fun _ _ _ h => h) hHeld (by rfl) ?_ ?_
    · (intro W' hSw; (try dsimp only at hSw); go_simp)
    try simp only [Act.put, List.setIfInBounds_toArray, List.set_cons_zero, List.set_cons_succ]
    refine wpAnyG_takeL (i := 8) (.bool true) [29] rfl (by kernel_rfl) (fun _ _ _ h => h) hHeld (by rfl) ?_ ?_
    · (intro W' hSw; (try dsimp only at hSw); go_simp)
    try simp only [Act.put, List.setIfInBounds_toArray, List.set_cons_zero, List.set_cons_succ]
    refine wpAnyG_takeL (i := 9) (.int .i64 E) [29] rfl (by kernel_rfl) (fun _ _ _ h => h) hHeld (by rfl) ?_ ?_
    · (intro W' hSw; (try dsimp only at hSw); go_simp)
    try simp only [Act.put, List.setIfInBounds_toArray, List.set_cons_zero, List.set_cons_succ]
    refine wpAnyG_takeL (i := 10) (.int .i64 E) [29] rfl (by kernel_rfl) (fun _ _ _ h => h) hHeld (by rfl) ?_ ?_
    · (intro W' hSw; (try dsimp only at hSw); go_simp)
    try simp only [Act.put, List.setIfInBounds_toArray, List.set_cons_zero, List.set_cons_succ]
    refine wpAnyG_takeL (i := 11) (.bool true) [29] rfl (by kernel_rfl) (fun _ _ _ h => h) hHeld (by rfl) ?_ ?_
    · (intro W' hSw; (try dsimp only at hSw); go_simp)
    try simp only [Act.put, List.setIfInBounds_toArray, List.set_cons_zero, List.set_cons_succ]
    refine wpAnyG_takeL (i := 12) (.bool true) [29] rfl (by kernel_rfl) (fun _ _ _ h => h) hHeld (by rfl) ?_ ?_
    · (intro W' hSw; (try dsimp only at hSw); go_simp)
    try simp only [Act.put, List.setIfInBounds_toArray, List.set_cons_zero, List.set_cons_succ]
    refine wpAnyG_takeL (i := 13) (.bool true) [29] rfl (by kernel_rfl) (fun _ _ _ h => h) hHeld (by rfl) ?_ ?_
    · (intro W' hSw; (try dsimp only at hSw); go_simp)
    try simp only [Act.put, List.setIfInBounds_toArray, List.set_cons_zero, List.set_cons_succ]
    refine wpAnyG_takeL (i := 14) (.pointer (some ⟨gr, 0, none⟩)) [29] rfl (by kernel_rfl) (fun _ _ _ h => h) hHeld (by rfl) ?_ ?_
    · (intro W' hSw; (try dsimp only at hSw); go_simp)
    try simp only [Act.put, List.setIfInBounds_toArray, List.set_cons_zero, List.set_cons_succ]
    refine wpAnyG_takeL (i := 16) (.pointer (some ⟨gt, 0, none⟩)) [29] rfl (by kernel_rfl) (fun _ _ _ h => h) hHeld (by rfl) ?_ ?_
    · (intro W' hSw; (try dsimp only at hSw); go_simp)
    try simp only [Act.put, List.setIfInBounds_toArray, List.set_cons_zero, List.set_cons_succ]
    refine wpAnyG_takeL (i := 17) (.pointer (some ⟨gt, 0, none⟩)) [29] rfl (by kernel_rfl) (fun _ _ _ h => h) hHeld (by rfl) ?_ ?_
    · (intro W' hSw; (try dsimp only at hSw); go_simp)
    try simp only [Act.put, List.setIfInBounds_toArray, List.set_cons_zero, List.set_cons_succ]
    refine wpAnyG_takeL (i := 18) (.pointer (some ⟨gt, 1, none⟩)) [29] rfl (by kernel_rfl) (fun _ _ _ h => h) hHeld (by rfl) ?_ ?_
    · (intro W' hSw; (try dsimp only at hSw); go_simp)
    try simp only [Act.put, List.setIfInBounds_toArray, List.set_cons_zero, List.set_cons_succ]
    refine wpAnyG_takeL (i := 19) (.int .i64 j) [29] rfl (by kernel_rfl) (fun _ _ _ h => h) hHeld (by rfl) ?_ ?_
    · (intro W' hSw; (try dsimp only at hSw); go_simp)
    try simp only [Act.put, List.setIfInBounds_toArray, List.set_cons_zero, List.set_cons_succ]
    have HR8 := Lib.hid (hr.below HB8.out)
    refine wpAnyG_oneL (i := 15) (by kernel_rfl) rfl (fun K hK => ?_)
    (go_simp; go_at_call 15; refine (rat_any _ gr j X _ HR8.out).mono ?_; rintro e w9 ⟨rfl, rfl⟩)
    refine hK.out _ _ (fun _ => hHeld) ?_
    clear hK K
    try simp only [Act.put, List.setIfInBounds_toArray, List.set_cons_zero, List.set_cons_succ]
    refine wpAnyG_takeL (i := 20) (.bool true) [29] rfl (by kernel_rfl) (fun _ _ _ h => h) hHeld (by rfl) ?_ ?_
    · (intro W' hSw; (try dsimp only at hSw); go_simp)
    try simp only [Act.put, List.setIfInBounds_toArray, List.set_cons_zero, List.set_cons_succ]
    refine wpAnyG_takeL (i := 21) (.bool true) [29] rfl (by kernel_rfl) (fun _ _ _ h => h) hHeld (by rfl) ?_ ?_
    · (intro W' hSw; (try dsimp only at hSw); go_simp)
    try simp only [Act.put, List.setIfInBounds_toArray, List.set_cons_zero, List.set_cons_succ]
    refine wpAnyG_takeL (i := 22) (.bool true) [29] rfl (by kernel_rfl) (fun _ _ _ h => h) hHeld (by rfl) ?_ ?_
    · (intro W' hSw; (try dsimp only at hSw); go_simp)
    try simp only [Act.put, List.setIfInBounds_toArray, List.set_cons_zero, List.set_cons_succ]
    refine wpAnyG_takeL (i := 23) (.int .i64 1) [29] rfl (by kernel_rfl) (fun _ _ _ h => h) hHeld (by rfl) ?_ ?_
    · (intro W' hSw; (try dsimp only at hSw); go_simp)
    try simp only [Act.put, List.setIfInBounds_toArray, List.set_cons_zero, List.set_cons_succ]
    refine wpAnyG_takeL (i := 24) (.bool true) [29] rfl (by kernel_rfl) (fun _ _ _ h => h) hHeld (by rfl) ?_ ?_
    · (intro W' hSw; (try dsimp only at hSw); go_simp)
    try simp only [Act.put, List.setIfInBounds_toArray, List.set_cons_zero, List.set_cons_succ]
    refine wpAnyG_takeL (i := 25) (.bool true) [29] rfl (by kernel_rfl) (fun _ _ _ h => h) hHeld (by rfl) ?_ ?_
    · (intro W' hSw; (try dsimp only at hSw); go_simp)
    try simp only [Act.put, List.setIfInBounds_toArray, List.set_cons_zero, List.set_cons_succ]
    refine wpAnyG_takeL (i := 26) (.bool true) [29] rfl (by kernel_rfl) (fun _ _ _ h => h) hHeld (by rfl) ?_ ?_
    · (intro W' hSw; (try dsimp only at hSw); go_simp)
    try simp only [Act.put, List.setIfInBounds_toArray, List.set_cons_zero, List.set_cons_succ]
    clear hHeld
    have HS8 := Lib.hid (hS.below HB8.out)
    refine wpAnyG_oneL (i := 27) (by kernel_rfl) rfl (fun K hK => ?_)
    (go_simp; go_at_call 9; refine (awake18_any _ HS8.out.f HS8.out.t).mono ?_; rintro e w10 ⟨rfl, b9⟩; have HB9 := Lib.hid (below2 HB8.out b9); clear b9)
    refine hK.out _ _ (fun _ => cell_below HB9.out kt) ?_
    clear hK K
    try simp only [Act.put, List.setIfInBounds_toArray, List.set_cons_zero, List.set_cons_succ]
    have hHeld := cell_below HB9.out kt
    refine wpAnyG_takeL (i := 28) (.bool true) [29] rfl (by kernel_rfl) (fun _ _ _ h => h) hHeld (by rfl) ?_ ?_
    · (intro W' hSw; (try dsimp only at hSw); go_simp)
    try simp only [Act.put, List.setIfInBounds_toArray, List.set_cons_zero, List.set_cons_succ]
    clear hHeld
    refine wpAnyG_oneL (i := 29) (by kernel_rfl) rfl (fun K hK => ?_)
    (go_simp)
    refine hK.out _ _ (fun h => Bool.noConfusion (show true = false from h)) ?_
    clear hK K
    refine wpAnyG_done (by kernel_rfl) ?_ _
    have BY := below2 BX HB9.out
    go_wp2_with fail
    go_ret
    exact ⟨rfl, BY⟩
  · cases hri : rightB s0.length N0 P0
    · have HD := Lib.hid hri; clear hri hfew
      go_enter Tryd.func3, Tryd.ntmps3
      go_wp2_with fail
      refine (right17_any A0 s0.length c0 N0 P0 _).mono ?_
      rw [HD.out]
      rintro e w1 ⟨rfl, b⟩
      replace hS := hS.below b
      have BX := below2 HBA.out b; clear b
      go_wp2_with fail
      refine (awake18_any _ hS.f hS.t).mono ?_
      rintro e w2 ⟨rfl, b⟩
      replace BX := below2 BX b; clear b
      go_wp2_with fail
      go_ret
      exact ⟨rfl, BX⟩
    · have HD := Lib.hid hri
      have dw : decide ((140 : Int) < (ws.length : Int)) = true := decide_eq_true (by
        rcases Nat.lt_or_ge 140 ws.length with h | h
        · omega
        · exact absurd ⟨hri, h⟩ hfew)
      clear hri hfew
      go_enter Tryd.func3, Tryd.ntmps3
      go_wp2_with fail
      refine (right17_any A0 s0.length c0 N0 P0 _).mono ?_
      rw [HD.out]
      rintro e w1 ⟨rfl, b⟩
      replace hS := hS.below b
      have BX := below2 HBA.out b; clear b
      go_wp2_with fail
      refine (awake18_any _ hS.f hS.t).mono ?_
      rintro e w2 ⟨rfl, b⟩
      replace BX := below2 BX b; clear b
      go_wp2_with fail
      go_ret
      exact ⟨rfl, BX⟩
end Go.Proofs.YtmcdgmiheklbeaaDoor

namespace Go.Proofs.YtmcdgmiheklbeaaDoor
open Go.ChangeShapes Go.WideShapes Go.ChangeAt Go.WideMaps Go.WideElems Go.RowKit Go.Deep

theorem laidOut_sectionReads : laidOutB Tryd.prog = true := by kernel_rfl
set_option maxRecDepth 100000 in
theorem lifted_sectionReads (os : Os) (started : os.Started) (H : Type) (enc : TypeId × Value → H) :
    ReturnsInHanded {} Tryd.checked os 3 .any (fun w args => (Rows.sectionReadsSpec.pre enc Tryd.prog Tryd.f3 [] false w args ∧ laidMetH Tryd.prog laidBk w) ∧ sizedMet enc Tryd.prog Tryd.f3 (OpenSpec.ofChange Rows.sectionReadsSpec) false w args)
      (Rows.sectionReadsSpec.post enc Tryd.prog Tryd.f3 false true false false) := by
  refine returnsInHanded_of_change_and (C := Tryd.checked) (X := fun w _ => laidMetH Tryd.prog laidBk w) (fun _ _ _ hh h => h.of_heap hh) ownBk started (by kernel_rfl) Tryd.func3
    (ChangeSpec.witness_shaped (enc := enc) (C := Tryd.checked) (os := os) (X := fun w _ => laidMetH Tryd.prog laidBk w) false (World.doorLaid Tryd.prog 400 os) #[.agg #[.slice none 0 0, .int .i64 0, .int .i64 0], .slice none 0 0] 8 rfl (World.shaped_of_RefB (by kernel_rfl) (by kernel_rfl)) (by kernel_rfl) (by kernel_rfl) (by kernel_rfl) (door_bk os _)) ?_
  intro W base args ds gs before hval0 hW _ hsz0 hL _
  obtain ⟨hG, hT⟩ := gf_of_laid hL
  have hval : ∀ (j : Nat) t v, Tryd.f3.params[j]? = some t → args[j]? = some v → Value.okWide Tryd.prog W .any base t v := hval0
  have hW' := hW
  obtain ⟨p, q, hA0, hV, rfl, hfz, hnd⟩ := hW
  have hA : DataW.TrodAll enc Tryd.prog W 0 (fun _ => true) true Tryd.f3.params.toList args.toList ds p := hA0
  have hsz : (DataW.weightsEach Tryd.prog (Tryd.f3.params.toList ++ Rows.sectionReadsSpec.plain.varTypes Tryd.prog) (ds ++ gs)).all (· ≤ reachBytes) = true := hsz0
  rw [Tryd.params3] at hA hval hsz
  obtain ⟨v0, vs0, d0, ds0, p0, q0, hargs, rfl, rfl, h0, r0⟩ := trodAll_cons hA
  obtain ⟨v1, vs1, d1, ds1, p1, q1, rfl, rfl, rfl, h1, r1⟩ := trodAll_cons r0
  obtain ⟨rfl, rfl, rfl⟩ := trodAll_nil r1
  obtain rfl : args = #[v0, v1] := by cases args; simp_all
  obtain ⟨rfl, rfl⟩ := trodVars_none hV
  have lt0 : ∀ x ∈ p0, x.block < W.heap.size := by obtain ⟨m, hm⟩ := h0; exact DataW.trod_lt m _ _ _ hm
  have y0 : ∀ m ∈ d0.weights Tryd.prog 24, m ≤ reachBytes := fun m hm => of_decide_eq_true (List.all_eq_true.1 hsz m (DataW.weights_mem_each (j := 0) rfl rfl m hm))
  obtain ⟨A0, c0, s0, N0, P0, rfl, hR0, hB0⟩ := open_Z (hval 0 24 v0 rfl rfl) h0
  have lt1 : ∀ x ∈ p1, x.block < W.heap.size := by obtain ⟨m, hm⟩ := h1; exact DataW.trod_lt m _ _ _ hm
  have y1 : ∀ m ∈ d1.weights Tryd.prog 25, m ≤ reachBytes := fun m hm => of_decide_eq_true (List.all_eq_true.1 hsz m (DataW.weights_mem_each (j := 1) rfl rfl m hm))
  obtain ⟨B1, l1, e1, rfl⟩ := okWide_slice Tryd.underlying25 (hval 1 25 v1 rfl rfl)
  obtain ⟨A1, c1, s1, hv1, hR1, hB1⟩ : ∃ A c xs, Value.slice B1 l1 e1 = .slice A xs.length c ∧ RI W A c xs ∧ ((∀ m ∈ d1.weights Tryd.prog 25, m ≤ reachBytes) → xs.length ≤ 140737488355328) := by obtain ⟨fuel, hf⟩ := h1; exact open_I hf
  have hwalk := sectionReads_walk A0 c0 s0 N0 P0 A1 c1 s1 W hG hT hR0 hB0 hR1
  rw [← hv1] at hwalk
  refine hwalk.mono fun e W' ⟨he, bel⟩ => ?_
  subst he
  exact ⟨_, rfl, _, _, _, [], _, [], hW', trodAll_mk1 (shut_bool Tryd.underlying4 _), (trodAll_cons_mk (Below.trod laidOut_sectionReads (by kernel_rfl) (of_decide_eq_true (by kernel_rfl)) h0 bel lt0) (trodAll_cons_mk (Below.trod laidOut_sectionReads (by kernel_rfl) (of_decide_eq_true (by kernel_rfl)) h1 bel lt1) trodAll_mk0)), rfl, bel.frame _, fun h => by cases h⟩
theorem sectionReads_said : Rows.SectionReadsSaid :=
  OpenClaim.holds_of_wide 3 Tryd.f3 rfl rfl rfl rfl rfl rfl rfl ⟨rfl, rfl, rfl, rfl, rfl⟩ rfl rfl rfl rfl rfl (by kernel_rfl) Tryd.func3 (by kernel_rfl)
    (of_decide_eq_true (by kernel_rfl)) (by unfold Func.isWrapper; first | (rw [if_pos (by decide +kernel)]; kernel_rfl) | (rw [if_neg (by decide +kernel)]; exact ⟨rfl, rfl⟩))
    (fun os started H enc _ => lifted_sectionReads os started H enc)
theorem sectionReads_card : Rows.SectionReadsCardSaid :=
  Claim7.holds_tied_plain_at .later [] [.wider, .data] true Rows.sectionReadsCard.stood.harness false
    sectionReads_said (fun _ h => by cases h) (by kernel_rfl) (fun _ h => by cases h) sectionReads_row_tie rfl ⟨rfl, rfl⟩ (by kernel_rfl) rfl
    (fun f fn hf hfn => by
      obtain rfl : f = 3 := Option.some.inj ((show Tryd.prog.funcNamed "shawm/shawmlaw18.SectionReads" = some 3 by kernel_rfl).symm.trans hf) |>.symm
      obtain rfl : fn = Tryd.f3 := (Option.some.inj (Tryd.func3.symm.trans hfn)).symm
      exact ⟨by kernel_rfl, fun j t ht => by
        rw [Tryd.params3] at ht
        have hm : t ∈ [24, 25] := by simpa using Array.mem_of_getElem? ht
        have hall : ([24, 25].all fun u => !Tryd.prog.wantsStandIn u) = true := by kernel_rfl
        exact (show Tryd.prog.wantsStandIn t = false by simpa using List.all_eq_true.1 hall t hm)⟩)
    (by kernel_rfl)
#print axioms sectionReads_card
end Go.Proofs.YtmcdgmiheklbeaaDoor
