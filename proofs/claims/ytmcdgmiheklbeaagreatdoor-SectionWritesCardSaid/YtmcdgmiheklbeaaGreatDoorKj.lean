/- The reference's books: made: what it returns. · The reference's books: One, Shape, Lengths, Fits: what each call returns. · The reference's books: All: what it returns. · The reference's books: Add: what it returns. · The reference's books: written, Cost, Write: what each call returns. · The reference's books: Least, Best: what each call returns. · The reference's tape: Get and Gamma, with an error or without: what each call returns. · The reference's books: group: what it returns, and where the tape is then. · The document's tape of bits: Word: what it returns, for a complete code, and where the tape is then. · The reference's books: Take, Read: what each call returns, and where the tape is then. · The reference's books: Read: what it returns, and where the tape is then. · The statements' Copy: what it returns; the two tables, below a limit. · section: Books; the document's Books: what each call returns. · The document's section: Books: what it returns. · section: Runs: what it returns. · The document's section: Same, Runs: what each call returns. · The document's section: runs, Runs: what each call returns. · section: right, checked, gamma; the document's Widths: what each call returns. -/
import Derived.Test.YtmcdgmiheklbeaaGreatDoorKi
import Derived.Test.YtmcdgmiheklbeaaGreatDoorKe
import Derived.Test.YtmcdgmiheklbeaaGreatDoorKf
import Derived.StillTailTactics
import Derived.Test.YtmcdgmiheklbeaaGreatDoorKh
import Derived.Test.YtmcdgmiheklbeaaGreatDoorKc
import Derived.Test.YtmcdgmiheklbeaaGreatDoorKg
namespace Go.Proofs.YtmcdgmiheklbeaaGreatDoor
open Go.RowKit

theorem cntsB_length (b : Nat) : (cntsB b).length = symsB b := by simp [cntsB]
theorem cntsB_nth (b k : Nat) (h : k < symsB b) : nth 0 (cntsB b) k = ((cntE (fallB b) (sumE (mostB b) (dimB b) k) : Nat) : Int) := by
  rw [nth_eq 0 _ k (by rw [cntsB_length]; exact h)]; simp [cntsB]
theorem sumE_bd (b s : Nat) : sumE (mostB b) (dimB b) s ≤ 1000 := by
  have h1 := sumE_le (mostB b) (dimB b) s
  have h2 := Nat.mul_le_mul (dimB_pos b).2 (mostB_le b)
  omega
theorem made_res (tmps : Array Value) (W : World) (g b : Nat) (A1 : Option Addr) (n1 c1 : Nat) (A2 : Option Addr) (n2 c2 : Nat) (h : tmps[2]?.getD undef = .pointer (some ⟨g, 0, none⟩)) (B : Blk W g (bookC b A1 n1 c1 A2 n2 c2) 127) :
    (results Tryz.f71 tmps).run Tryz.prog W = .ok (.agg (bookC b A1 n1 c1 A2 n2 c2)) W := by
  have z0 := B.cell 0 rfl
  have z1 := B.cell 1 rfl
  have z2 := B.cell 2 rfl
  have z3 := B.cell 3 rfl
  have z4 := B.cell 4 rfl
  have z5 := B.cell 5 rfl
  simp [results, Tryz.f71, go_sem, h, z0, z1, z2, z3, z4, z5]
abbrev bookC0 : Array Value := #[.int .i64 0, .int .i64 0, .int .i64 0, .bool false, .slice none 0 0, .slice none 0 0]
/-- Six cells of a block are written. -/
theorem put_six {W : World} {g : Nat} {a0 a1 a2 a3 a4 a5 x0 x1 x2 x3 x4 x5 : Value} {t : TypeId} (h : Blk W g #[a0, a1, a2, a3, a4, a5] t) :
    Blk ((((((W.setCell ⟨g, 0, none⟩ x0).setCell ⟨g, 1, none⟩ x1).setCell ⟨g, 2, none⟩ x2).setCell ⟨g, 3, none⟩ x3).setCell ⟨g, 4, none⟩ x4).setCell ⟨g, 5, none⟩ x5) g #[x0, x1, x2, x3, x4, x5] t ∧
    Upd (fun z => z = g) W ((((((W.setCell ⟨g, 0, none⟩ x0).setCell ⟨g, 1, none⟩ x1).setCell ⟨g, 2, none⟩ x2).setCell ⟨g, 3, none⟩ x3).setCell ⟨g, 4, none⟩ x4).setCell ⟨g, 5, none⟩ x5) :=
  ⟨(((((h.set 0 x0).set 1 x1).set 2 x2).set 3 x3).set 4 x4).set 5 x5,
    (((((Upd.setCell (fun z => z = g) W g 0 x0 rfl).trans (Upd.setCell (fun z => z = g) _ g 1 x1 rfl) fun _ _ h => h).trans (Upd.setCell (fun z => z = g) _ g 2 x2 rfl) fun _ _ h => h).trans (Upd.setCell (fun z => z = g) _ g 3 x3 rfl) fun _ _ h => h).trans (Upd.setCell (fun z => z = g) _ g 4 x4 rfl) fun _ _ h => h).trans (Upd.setCell (fun z => z = g) _ g 5 x5 rfl) fun _ _ h => h⟩

set_option maxHeartbeats 2000000 in
set_option maxRecDepth 100000 in
theorem made_any (b : Nat) (w : World) (h1 : 1 ≤ b) (h8 : b < 8) :
    Calls Tryz.prog 71 #[.agg (bookC b none 0 0 none 0 0)] w fun e w' => ∃ A1 c1 A2 c2, e = .returned (.agg (bookM b A1 c1 A2 c2)) ∧ Sl (kInt .i64) (fun x => w.heap.size ≤ x) w' A1 c1 (tabKI b) ∧ Sl (kInt .i64) (fun x => w.heap.size ≤ x) w' A2 c2 (codesL (tabKI b)) ∧ Below w.heap.size w w' := by
  have hsb := symsB_le b h8
  have HCL := Lib.hid (cntsB_length b)
  have HCN := Lib.hid (show ∀ k, k < symsB b → (cntsB b).take (k + 1) = (cntsB b).take k ++ [((cntE (fallB b) (sumE (mostB b) (dimB b) k) : Nat) : Int)] from fun k h => by rw [take_succ_nth 0 _ k (by rw [cntsB_length]; exact h), cntsB_nth b k h])
  have HSY := Lib.hid (fun W => rsymbols_any none none 0 0 0 0 b W)
  have HSM := Lib.hid (fun s W (hs : s ≤ 1048576) => rsum_any none none 0 0 0 0 b s W hs)
  have HCT := Lib.hid (fun s W => rcount_any none none 0 0 0 0 b (sumE (mostB b) (dimB b) s) W (sumE_bd b s))
  have HLL := Lib.hid (fun A c W (hS : RI W A c (cntsB b)) => rlengths_all A c (cntsB b) 16 W hS)
  rw [(cnts_lengths b h1 h8).1, (cnts_lengths b h1 h8).2] at HLL
  have HCC := Lib.hid (fun A c W (hS : RI W A c (tabKI b)) => rcodes_any A c (tabKI b) W hS)
  rw [tabK_codes b h1 h8] at HCC
  have HCE := Lib.hid (fun s => cntE_le (F := fallB b) (fallB_le b) (sumE (mostB b) (dimB b) s))
  have HTL := Lib.hid (codesL_length (tabKI b))
  obtain ⟨g1, hg1⟩ : ∃ g1, w.heap.size = g1 := ⟨_, rfl⟩
  obtain ⟨g2, hg2⟩ : ∃ g2, g1 + 1 = g2 := ⟨_, rfl⟩
  have hba := below_alloc (Below.refl w.heap.size w) (.cells (bookC b none 0 0 none 0 0) 127)
  have B1 : Blk (w.alloc (.cells (bookC b none 0 0 none 0 0) 127)) g1 (bookC b none 0 0 none 0 0) 127 := by rw [← hg1]; exact heap_alloc_new w _
  have hbb := below_alloc (Below.refl _ (w.alloc (.cells (bookC b none 0 0 none 0 0) 127))) (.cells (bookC0) 127)
  have B2 : Blk ((w.alloc (.cells (bookC b none 0 0 none 0 0) 127)).alloc (.cells (bookC0) 127)) g2 bookC0 127 := by
    have h := heap_alloc_new (w.alloc (.cells (bookC b none 0 0 none 0 0) 127)) (.cells (bookC0) 127)
    rw [World.size_alloc, hg1, hg2] at h
    exact h
  replace B1 := B1.below hbb
  have hbz := below2 hba hbb
  obtain ⟨W0, hW0⟩ : ∃ W0, (w.alloc (.cells (bookC b none 0 0 none 0 0) 127)).alloc (.cells (bookC0) 127) = W0 := ⟨_, rfl⟩
  rw [hW0] at B1 B2 hbz
  unfold bookC0 at hW0
  go_enter Tryz.func71, Tryz.ntmps71
  have k0 := B1.cell 0 rfl
  have k1 := B1.cell 1 rfl
  have k2 := B1.cell 2 rfl
  have k3 := B1.cell 3 rfl
  have k4 := B1.cell 4 rfl
  have k5 := B1.cell 5 rfl
  go_wp2_with (go_at_call 98; refine (HSY.out _).mono ?_; rintro e W1 ⟨rfl, b1⟩)
  have HB := Lib.hid (And.intro (B1.below b1) (And.intro (B2.below b1) (below2 hbz b1)))
  have HN := Lib.hid (show w.heap.size = g1 ∧ g1 + 1 = g2 ∧ g2 < W1.heap.size from ⟨hg1, hg2, (B2.below b1).lt⟩)
  clear k0 k1 k2 k3 k4 k5 B1 B2 hbz b1 hba hbb hW0 hg1 hg2 HSY
  go_loopw [3, 4, 7] (fun ov sv iv wr => ∃ k : Nat, iv = .int .i64 (k : Int) ∧ k ≤ symsB b ∧ Hid (OwnI 3 .i64 W1.heap.size wr ov ((cntsB b).take k)) ∧ Hid (Below W1.heap.size W1 wr)) (fun _ _ iv _ => symsB b - (intOf iv).toNat)
  case atStart => exact ⟨0, rfl, Nat.zero_le _, Lib.hid (OwnI.nil _ _ _ _), Lib.hid (Below.refl _ _)⟩
  case round =>
    obtain ⟨k, rfl, hk, hO, hB⟩ := hrel
    have B1 := HB.out.1.below hB.out
    by_cases hlt : k < symsB b
    · have k0 := B1.cell 0 rfl
      have k1 := B1.cell 1 rfl
      have k2 := B1.cell 2 rfl
      have k3 := B1.cell 3 rfl
      have k4 := B1.cell 4 rfl
      have k5 := B1.cell 5 rfl
      have hki : (k : Int) < (symsB b : Int) := by omega
      have hwk : IntKind.i64.wrap ((k : Int) + 1) = (k : Int) + 1 := IntWalk.i64_in _ (by omega)
      have HT := Lib.hid (HCN.out k hlt)
      have HS1 := Lib.hid (HSM.out k wr.drew (by omega))
      have HC1 := Lib.hid (fun W => HCT.out k W)
      have hce := HCE.out k
      have hl : ((cntsB b).take k).length ≤ 256 := by rw [List.length_take]; omega
      generalize cntE (fallB b) (sumE (mostB b) (dimB b) k) = y at HT HC1 hce
      generalize sumE (mostB b) (dimB b) k = s at HS1 HC1
      have hd := (Below.refl wr.heap.size wr).drew
      clear B1 hlt
      go_wp2
      have HF := Lib.hid (show ∀ W : World, Below W1.heap.size W1 W → (W.cell? ⟨g1, 0, none⟩ = some (.int .i64 (dimB b)) ∧ W.cell? ⟨g1, 1, none⟩ = some (.int .i64 (mostB b)) ∧ W.cell? ⟨g1, 2, none⟩ = some (.int .i64 (fallB b)) ∧ W.cell? ⟨g1, 3, none⟩ = some (.bool (escB b)) ∧ W.cell? ⟨g1, 4, none⟩ = some (.slice none 0 0) ∧ W.cell? ⟨g1, 5, none⟩ = some (.slice none 0 0)) from fun W hb => ⟨(HB.out.1.below hb).cell 0 rfl, (HB.out.1.below hb).cell 1 rfl, (HB.out.1.below hb).cell 2 rfl, (HB.out.1.below hb).cell 3 rfl, (HB.out.1.below hb).cell 4 rfl, (HB.out.1.below hb).cell 5 rfl⟩)
      have hbd := below2 hB.out hd
      clear k0 k1 k2 k3 k4 k5
      refine wp_region_G 8 (fun W => W.cell? ⟨g1, 0, none⟩ = some (.int .i64 (dimB b)) ∧ W.cell? ⟨g1, 1, none⟩ = some (.int .i64 (mostB b)) ∧ W.cell? ⟨g1, 2, none⟩ = some (.int .i64 (fallB b)) ∧ W.cell? ⟨g1, 3, none⟩ = some (.bool (escB b)) ∧ W.cell? ⟨g1, 4, none⟩ = some (.slice none 0 0) ∧ W.cell? ⟨g1, 5, none⟩ = some (.slice none 0 0)) (by kernel_rfl) (HF.out _ hbd) (fun hHeld => ?_)
      refine wpAnyG_takeL (i := 0) (u3) [8] rfl (by kernel_rfl) (fun _ _ _ h => h) hHeld (by rfl) ?_ ?_
      · (intro W' hSw; (try dsimp only at hSw); go_simp)
      try simp only [Act.put, List.setIfInBounds_toArray, List.set_cons_zero, List.set_cons_succ]
      refine wpAnyG_takeL (i := 1) (.agg (bookC b none 0 0 none 0 0)) [8] rfl (by kernel_rfl) (fun _ _ _ h => h) hHeld (by rfl) ?_ ?_
      · (intro W' hSw; (try dsimp only at hSw); go_simp)
      try simp only [Act.put, List.setIfInBounds_toArray, List.set_cons_zero, List.set_cons_succ]
      refine wpAnyG_takeL (i := 2) (.agg (bookC b none 0 0 none 0 0)) [8] rfl (by kernel_rfl) (fun _ _ _ h => h) hHeld (by rfl) ?_ ?_
      · (intro W' hSw; (try dsimp only at hSw); go_simp)
      try simp only [Act.put, List.setIfInBounds_toArray, List.set_cons_zero, List.set_cons_succ]
      refine wpAnyG_takeL (i := 3) (.int .i64 (k : Int)) [8] rfl (by kernel_rfl) (fun _ _ _ h => h) hHeld (by rfl) ?_ ?_
      · (intro W' hSw; (try dsimp only at hSw); go_simp)
      try simp only [Act.put, List.setIfInBounds_toArray, List.set_cons_zero, List.set_cons_succ]
      clear hHeld
      refine wpAnyG_oneL (i := 4) (by kernel_rfl) rfl (fun K hK => ?_)
      (go_simp; go_at_call 100; refine HS1.out.mono ?_; rintro e w3 ⟨rfl, b3⟩)
      refine hK.out _ _ (fun _ => (HF.out _ (below2 hbd b3))) ?_
      clear hK K
      try simp only [Act.put, List.setIfInBounds_toArray, List.set_cons_zero, List.set_cons_succ]
      refine wpAnyG_oneL (i := 5) (by kernel_rfl) rfl (fun K hK => ?_)
      (go_simp; go_at_call 99; refine (HC1.out _).mono ?_; rintro e w4 ⟨rfl, b4⟩; have hb4 := below2 (below2 hbd b3) b4; have hba4 := below2 hb4 (below_alloc (Below.refl _ _) (.cells #[.int .i64 (y : Int)] 3)))
      refine hK.out _ _ (fun _ => (HF.out _ hb4)) ?_
      clear hK K
      try simp only [Act.put, List.setIfInBounds_toArray, List.set_cons_zero, List.set_cons_succ]
      refine wpAnyG_oneL (i := 6) (by kernel_rfl) rfl (fun K hK => ?_)
      go_simp
      refine hK.out _ _ (fun _ => (HF.out _ hba4)) ?_
      clear hK K
      try simp only [Act.put, List.setIfInBounds_toArray, List.set_cons_zero, List.set_cons_succ]
      refine wpAnyG_oneL (i := 7) (by kernel_rfl) rfl (fun K hK => ?_)
      refine step_append_row W1.heap.size rfl (.tmp 10) (.tmp 16) 22 3 .i64 8 rfl Tryz.underlying22 infoI (by decide) u3 ((cntsB b).take k) [(y : Int)] _ 1 rfl rfl ((hO.out.below (below2 (below2 hd b3) b4)).below (below_alloc (Below.refl _ _) _)) (lit_ri w4 3 .i64 [(y : Int)] (show 1 ≤ 9223372036854775807 by decide)) hba4.size (by simp; omega) ?_
      intro v1 w5 hO5 hg5 _
      have hb5 := hba4.grown hg5 hba4.size hO.out.base_le
      have HO5 := Lib.hid hO5
      have HB5 := Lib.hid hb5
      refine hK.out _ _ (fun _ => HF.out _ hb5) ?_
      clear hK K hO5 hg5 hb5
      try simp only [Act.put, List.setIfInBounds_toArray, List.set_cons_zero, List.set_cons_succ]
      refine wpAnyG_oneL (i := 8) (by kernel_rfl) rfl (fun K hK => ?_)
      go_simp
      refine hK.out _ _ (fun h => Bool.noConfusion (show true = false from h)) ?_
      clear hK K
      refine wpAnyG_done (by kernel_rfl) ?_ _
      go_wp2
      go_roundw
      case rel => exact ⟨k + 1, by go_num, by omega, by rw [HT.out]; exact HO5, HB5⟩
      case measure => simp [intOf]; omega
    · obtain rfl : k = symsB b := by omega
      have HT2 := Lib.hid (show (cntsB b).take (symsB b) = cntsB b from List.take_of_length_le (by rw [HCL.out]; exact Nat.le_refl _))
      rw [HT2.out] at hO
      obtain ⟨A3, c3, rfl, hS3⟩ := own_ri hO.out
      have HS3 := Lib.hid hS3
      have hz := hB.out.size
      have B2 := HB.out.2.1.below hB.out
      have HBB := Lib.hid (And.intro B1 B2)
      have HBL := Lib.hid (below2 HB.out.2.2 hB.out)
      obtain ⟨n, hn⟩ : ∃ n, (tabKI b).length = n := ⟨_, rfl⟩
      have HNL := Lib.hid hn
      have HM := Lib.hid (fun A c W (hS : RI W A c (tabKI b)) => (HCC.out A c W hS))
      rw [hn] at HM
      clear hS3 hO B1 B2 hlt
      have hgw := HN.out
      go_wp2_with (first
        | (go_at_call 101; refine (HLL.out _ _ _ HS3.out).mono ?_; rintro e w3 ⟨v3, rfl, hO3, b3⟩; obtain ⟨A4, c4, rfl, hs4⟩ := hO3.rd; rw [hn]; have E1 := HBB.out.1.below b3; have k4 := E1.cell 4 rfl; have f4 := E1.free 4; have D1 := Lib.hid (E1.set 4 (.slice A4 n c4)); have D2 := Lib.hid ((HBB.out.2.below b3).keep (Keep.of_grown1 (grown_setCell w3 g1 4 (.slice A4 n c4))) (by omega)); have HS4 := Lib.hid ((hs4.weak (ok' := fun x => g2 < x) (fun x _ h => by have := h.1; omega)).keep ((Keep.of_grown1 (grown_setCell w3 g1 4 (.slice A4 n c4))).weak fun x h => by omega)); have HB3 := Lib.hid b3; clear hO3 hs4 E1 b3)
        | (go_at_call 102; refine (HM.out _ _ _ HS4.out.any).mono ?_; rintro e w6 ⟨v6, rfl, hO6, b6⟩; obtain ⟨A5, c5, rfl, hs6⟩ := hO6.rd; rw [HTL.out, hn]; have E5 := D1.out.below b6; have k5 := E5.cell 5 rfl; have f5 := E5.free 5; have G1 := E5.set 5 (.slice A5 n c5); have G2 := (D2.out.below b6).keep (Keep.of_grown1 (grown_setCell w6 g1 5 (.slice A5 n c5))) (by omega); have q0 := G1.cell 0 rfl; have q1 := G1.cell 1 rfl; have q2 := G1.cell 2 rfl; have q3 := G1.cell 3 rfl; have q4 := G1.cell 4 rfl; have q5 := G1.cell 5 rfl; have p0 := G2.cell 0 rfl; have p1 := G2.cell 1 rfl; have p2 := G2.cell 2 rfl; have p3 := G2.cell 3 rfl; have p4 := G2.cell 4 rfl; have p5 := G2.cell 5 rfl; have r0 := G2.free 0; have r1 := G2.free 1; have r2 := G2.free 2; have r3 := G2.free 3; have r4 := G2.free 4; have r5 := G2.free 5; have HG2 := Lib.hid G2; have HS6 := Lib.hid hs6; have HB6 := Lib.hid b6; clear hO6 hs6 b6 E5 G1 G2))
      obtain ⟨p6, pu⟩ := put_six (x0 := .int .i64 (dimB b)) (x1 := .int .i64 (mostB b)) (x2 := .int .i64 (fallB b)) (x3 := .bool (escB b)) (x4 := .slice A4 n c4) (x5 := .slice A5 n c5) HG2.out
      refine bodyPost_ret (made_res _ _ g2 b A4 n c4 A5 n c5 rfl p6) rfl ?_
      have hw3 := HB3.out.size
      have hw6 := HB6.out.size
      have hw1 := HBL.out.size
      have U3 : Upd (fun x => w.heap.size ≤ x) wr (w3.setCell ⟨g1, 4, none⟩ (.slice A4 n c4)) := (Upd.of_below HB3.out _).trans (Upd.setCell (fun x => x = g1) w3 g1 4 _ rfl) (fun x _ e => by omega)
      have U6 : Upd (fun x => w.heap.size ≤ x) (w3.setCell ⟨g1, 4, none⟩ (.slice A4 n c4)) (w6.setCell ⟨g1, 5, none⟩ (.slice A5 n c5)) := (Upd.of_below HB6.out _).trans (Upd.setCell (fun x => x = g1) w6 g1 5 _ rfl) (fun x _ e => by omega)
      have U7 := pu.weak (o' := fun x => w.heap.size ≤ x) (fun x _ e => by omega)
      have hUU := (U3.trans U6 fun _ _ h => h).trans U7 fun _ _ h => h
      have hs4 := ((HS4.out.below HB6.out).keep ((Keep.of_grown1 (grown_setCell w6 g1 5 (.slice A5 n c5))).weak fun x h => by omega)).keep (pu.keep (ok := fun x => g2 < x) fun x h e => by omega)
      have hz3 : (w3.setCell ⟨g1, 4, none⟩ (.slice A4 n c4)).heap.size = w3.heap.size := by simp
      have hs5 := ((HS6.out.weak (ok' := fun x => g2 < x) (fun x _ h => by have := h.1; omega)).keep ((Keep.of_grown1 (grown_setCell w6 g1 5 (.slice A5 n c5))).weak fun x h => by omega)).keep (pu.keep (ok := fun x => g2 < x) fun x h e => by omega)
      refine ⟨A4, c4, A5, c5, by rw [← hn], hs4.weak (fun x _ h => by omega), hs5.weak (fun x _ h => by omega), ?_⟩
      exact HBL.out.trans (hUU.below hw1 (fun x _ h => h))
end Go.Proofs.YtmcdgmiheklbeaaGreatDoor

namespace Go.Proofs.YtmcdgmiheklbeaaGreatDoor
open Go.RowKit

/-- The bare books at rest. -/
structure BareAt (w : World) (g b : Nat) : Prop where
  c0 : w.cell? ⟨g, b * 6, none⟩ = some (.int .i64 (dimB b))
  c1 : w.cell? ⟨g, b * 6 + 1, none⟩ = some (.int .i64 (mostB b))
  c2 : w.cell? ⟨g, b * 6 + 2, none⟩ = some (.int .i64 (fallB b))
  c3 : w.cell? ⟨g, b * 6 + 3, none⟩ = some (.bool (escB b))
  c4 : w.cell? ⟨g, b * 6 + 4, none⟩ = some (.slice none 0 0)
  c5 : w.cell? ⟨g, b * 6 + 5, none⟩ = some (.slice none 0 0)
theorem bare_ex (w : World) :
    Calls Tryz.prog 70 #[] w fun e w' => ∃ g, e = .returned (.slice (some ⟨g, 0, none⟩) 8 8) ∧ Below w.heap.size w w' ∧ w.heap.size ≤ g ∧ (∀ b, b < 8 → BareAt w' g b) ∧ OwnK kBk 127 w.heap.size (fun b => b < w.heap.size) w' (.slice (some ⟨g, 0, none⟩) 8 8) bareL := by
  refine (bare_any w).mono ?_
  rintro e w' ⟨rfl, rfl⟩
  refine ⟨_, rfl, below_alloc (Below.refl _ _) _, Nat.le_refl _, fun b h8 => ⟨?_, ?_, ?_, ?_, ?_, ?_⟩, bare_own w⟩
  · exact bare_at w b h8 0 _ rfl
  · exact bare_at w b h8 1 _ rfl
  · exact bare_at w b h8 2 _ rfl
  · exact bare_at w b h8 3 _ rfl
  · exact bare_at w b h8 4 _ rfl
  · exact bare_at w b h8 5 _ rfl
theorem sl_nil {ok : Nat → Prop} (w : World) : Sl (kInt .i64) ok w none 0 [] := ⟨Nat.le_refl _, by omega, Kd.Rd.nil _ _ _ _⟩

end Go.Proofs.YtmcdgmiheklbeaaGreatDoor

namespace Go.Proofs.YtmcdgmiheklbeaaGreatDoor
open Go.RowKit

/-- The books, those ahead of number k with lengths and words. -/
def mixL (k : Nat) : List (Nat × Bool) := (List.range 8).map fun b => (b, decide (b < k))
theorem mixL_length (k : Nat) : (mixL k).length = 8 := by simp [mixL]
theorem mixL_nth (k j : Nat) (h : j < 8) : nth (0, false) (mixL k) j = (j, decide (j < k)) := by
  rw [nth_eq _ _ j (by rw [mixL_length]; exact h)]; simp [mixL]
theorem mixL_set (k : Nat) : (mixL k).set k (k, true) = mixL (k + 1) := by
  apply List.ext_getElem
  · simp [mixL]
  · intro i h1 h2
    rw [List.getElem_set]
    by_cases e : k = i
    · subst e; simp [mixL]
    · rw [if_neg e]
      simp [mixL]
      omega
theorem set_six {α : Type} (A B : List α) (a0 a1 a2 a3 a4 a5 x0 x1 x2 x3 x4 x5 : α) (n : Nat) (hA : A.length = n) :
    ((((((A ++ (a0 :: a1 :: a2 :: a3 :: a4 :: a5 :: B)).set n x0).set (n + 1) x1).set (n + 2) x2).set (n + 3) x3).set (n + 4) x4).set (n + 5) x5 = A ++ (x0 :: x1 :: x2 :: x3 :: x4 :: x5 :: B) := by
  subst hA
  simp
theorem six_of {α : Type} (L : List α) (n : Nat) (h : n + 6 ≤ L.length) : ∃ a0 a1 a2 a3 a4 a5, L = L.take n ++ (a0 :: a1 :: a2 :: a3 :: a4 :: a5 :: L.drop (n + 6)) := by
  refine ⟨L[n], L[n + 1], L[n + 2], L[n + 3], L[n + 4], L[n + 5], ?_⟩
  conv => lhs; rw [← List.take_append_drop n L]
  congr 1
  rw [List.drop_eq_getElem_cons (by omega), List.drop_eq_getElem_cons (by omega : n + 1 < L.length), List.drop_eq_getElem_cons (by omega : n + 1 + 1 < L.length), List.drop_eq_getElem_cons (by omega : n + 1 + 1 + 1 < L.length), List.drop_eq_getElem_cons (by omega : n + 1 + 1 + 1 + 1 < L.length), List.drop_eq_getElem_cons (by omega : n + 1 + 1 + 1 + 1 + 1 < L.length)]
/-- One more book of a row is written. -/
theorem all_put {W : World} {g e base cap k : Nat} {ok : Nat → Prop} {xs : List (Nat × Bool)} {y : Nat × Bool} {x0 x1 x2 x3 x4 x5 : Value} (h : OwnK kBk e base ok W (.slice (some ⟨g, 0, none⟩) xs.length cap) xs) (hk : k < xs.length) (hx : BkK (fun b => ok b ∧ b ≠ g) W y [x0, x1, x2, x3, x4, x5]) :
    OwnK kBk e base ok ((((((W.setCell ⟨g, k * 6, none⟩ x0).setCell ⟨g, k * 6 + 1, none⟩ x1).setCell ⟨g, k * 6 + 2, none⟩ x2).setCell ⟨g, k * 6 + 3, none⟩ x3).setCell ⟨g, k * 6 + 4, none⟩ x4).setCell ⟨g, k * 6 + 5, none⟩ x5) (.slice (some ⟨g, 0, none⟩) xs.length cap) (xs.set k y) ∧
    Upd (fun z => z = g) W ((((((W.setCell ⟨g, k * 6, none⟩ x0).setCell ⟨g, k * 6 + 1, none⟩ x1).setCell ⟨g, k * 6 + 2, none⟩ x2).setCell ⟨g, k * 6 + 3, none⟩ x3).setCell ⟨g, k * 6 + 4, none⟩ x4).setCell ⟨g, k * 6 + 5, none⟩ x5) := by
  have hu : Upd (fun z => z = g) W ((((((W.setCell ⟨g, k * 6, none⟩ x0).setCell ⟨g, k * 6 + 1, none⟩ x1).setCell ⟨g, k * 6 + 2, none⟩ x2).setCell ⟨g, k * 6 + 3, none⟩ x3).setCell ⟨g, k * 6 + 4, none⟩ x4).setCell ⟨g, k * 6 + 5, none⟩ x5) :=
    (((((Upd.setCell (fun z => z = g) W g (k * 6) x0 rfl).trans (Upd.setCell (fun z => z = g) _ g (k * 6 + 1) x1 rfl) fun _ _ h => h).trans (Upd.setCell (fun z => z = g) _ g (k * 6 + 2) x2 rfl) fun _ _ h => h).trans (Upd.setCell (fun z => z = g) _ g (k * 6 + 3) x3 rfl) fun _ _ h => h).trans (Upd.setCell (fun z => z = g) _ g (k * 6 + 4) x4 rfl) fun _ _ h => h).trans (Upd.setCell (fun z => z = g) _ g (k * 6 + 5) x5 rfl) fun _ _ h => h
  obtain ⟨cells, ho, hr⟩ := h
  have h6 := (((((ho.stored (k * 6) x0).1.stored (k * 6 + 1) x1).1.stored (k * 6 + 2) x2).1.stored (k * 6 + 3) x3).1.stored (k * 6 + 4) x4).1.stored (k * 6 + 5) x5
  have hlen : cells.length = xs.length * 6 := hr.1
  obtain ⟨a0, a1, a2, a3, a4, a5, e6⟩ := six_of cells (k * 6) (by omega)
  have hset := set_six (cells.take (k * 6)) (cells.drop (k * 6 + 6)) a0 a1 a2 a3 a4 a5 x0 x1 x2 x3 x4 x5 (k * 6) (by rw [List.length_take]; omega)
  rw [← e6] at hset
  have h7 := h6.1
  rw [hset] at h7
  refine ⟨⟨_, by rw [List.length_set]; exact h7, ?_⟩, hu⟩
  have hx' : kBk.K (fun b => ok b ∧ (Value.slice (some ⟨g, 0, none⟩) xs.length cap).ownBlock ≠ some b) W y [x0, x1, x2, x3, x4, x5] := kBk.weak (fun b _ hb => ⟨hb.1, fun e => hb.2 (Option.some.inj e).symm⟩) hx
  rcases hr.set k hx' with h8 | h8
  · have h9 := h8.keep (hu.keep (ok := fun b => ok b ∧ (Value.slice (some ⟨g, 0, none⟩) xs.length cap).ownBlock ≠ some b) fun b hb e => hb.2 (by rw [e]; rfl))
    simpa [kBk] using h9
  · omega
/-- A book of a row. -/
theorem rd_bk {ok : Nat → Prop} {w : World} {A : Option Addr} {c : Nat} {xs : List (Nat × Bool)} (h : Sl kBk ok w A c xs) (j : Nat) (hj : j < xs.length) :
    ∃ ad cs, A = some ad ∧ ok ad.block ∧ BkK ok w (nth (0, false) xs j) cs ∧ (∀ v, cs[0]? = some v → w.cell? (ad.add (j * 6)) = some v) ∧ ∀ i v, cs[i]? = some v → w.cell? ((ad.add (j * 6)).add i) = some v := by
  obtain ⟨ad, cs, e, ho, hl, hK, hc⟩ := h.rd j hj
  refine ⟨ad, cs, e, ho, hK, fun v hv => ?_, fun i v hv => ?_⟩
  · have := hc 0 v hv
    exact this
  · have := hc i v hv
    rw [add_add]
    exact this
theorem own_bk {ok : Nat → Prop} {w : World} {g e base cap n : Nat} {xs : List (Nat × Bool)} (h : OwnK kBk e base ok w (.slice (some ⟨g, 0, none⟩) n cap) xs) (j : Nat) (hj : j < xs.length) :
    ∃ cs, BkK (fun b => ok b ∧ b ≠ g) w (nth (0, false) xs j) cs ∧ (∀ i v, cs[i]? = some v → w.cell? ⟨g, j * 6 + i, none⟩ = some v) ∧ ∀ i, w.frozen? ⟨g, i, none⟩ = false := by
  obtain ⟨cells, ho, hr⟩ := h
  refine ⟨_, kBk.weak (fun b _ hb => ⟨hb.1, fun e => hb.2 (by rw [e]; rfl)⟩) (hr.2 j hj), fun i v hv => ?_, fun i => ?_⟩
  · rw [List.getElem?_take] at hv
    split at hv
    · rw [List.getElem?_drop] at hv
      have hc := World.ownsRow.cells ho (g := g) rfl (j * 6 + i) v hv
      rwa [add_plain] at hc
    · cases hv
  · rcases ho.2 with ⟨h', _⟩ | ⟨g', cap', cur, h', _, hh, _⟩
    · cases h'
    · have : g = g' := by injection h' with h'; injection h' with h'; injection h' with h'
      subst this
      simp [World.frozen?, hh]
theorem own_fr {ok : Nat → Prop} {w : World} {g e base cap n : Nat} {xs : List (Nat × Bool)} (h : OwnK kBk e base ok w (.slice (some ⟨g, 0, none⟩) n cap) xs) (i : Nat) : w.frozen? ⟨g, i, none⟩ = false := by
  obtain ⟨cells, ho, hr⟩ := h
  rcases ho.2 with ⟨h', _⟩ | ⟨g', cap', cur, h', _, hh, _⟩
  · cases h'
  · have : g = g' := by injection h' with h'; injection h' with h'; injection h' with h'
    subst this
    simp [World.frozen?, hh]
theorem bare_mix {ok : Nat → Prop} {w : World} {cells : List Value} (h : Reps kBk ok w bareL cells) : Reps kBk ok w (mixL 1) cells := by
  refine ⟨h.1, fun j hj => ?_⟩
  have h8 : j < 8 := hj
  have h2 := h.2 j hj
  have e1 : nth kBk.dflt bareL j = (j, false) := by
    show nth (0, false) bareL j = (j, false)
    rw [nth_eq (0, false) bareL j hj]; simp [bareL]
  have e2 : nth kBk.dflt (mixL 1) j = (j, decide (j < 1)) := mixL_nth 1 j h8
  rw [e1] at h2
  rw [e2]
  by_cases h0 : j = 0
  · subst h0
    rcases h2 with ⟨h, _⟩ | ⟨_, e⟩
    · cases h
    · exact .inl ⟨rfl, none, 0, none, 0, e, sl_nil _, sl_nil _⟩
  · rw [decide_eq_false (by omega)]
    exact h2

set_option maxHeartbeats 2000000 in
set_option maxRecDepth 100000 in
theorem rall_any (w : World) :
    Calls Tryz.prog 44 #[] w fun e w' => ∃ g, e = .returned (.slice (some ⟨g, 0, none⟩) 8 8) ∧ Sl kBk (fun x => w.heap.size ≤ x) w' (some ⟨g, 0, none⟩) 8 allK ∧ Below w.heap.size w w' := by
  go_enter Tryz.func44, Tryz.ntmps44
  go_wp2_with (go_at_call 70; refine (bare_ex _).mono ?_; rintro e W1 ⟨g, rfl, b3, hge, _, hO⟩)
  have hO1 : OwnK kBk 127 w.heap.size (fun x => w.heap.size ≤ x ∨ x < w.heap.size) W1 (.slice (some ⟨g, 0, none⟩) 8 8) (mixL 1) := by
    obtain ⟨cells, ho, hr⟩ := hO
    exact ⟨cells, ho, (bare_mix hr).weak fun b _ h => ⟨.inr h.1, h.2⟩⟩
  have hO2 : OwnK kBk 127 w.heap.size (fun x => w.heap.size ≤ x) W1 (.slice (some ⟨g, 0, none⟩) 8 8) (mixL 1) := by
    obtain ⟨cells, ho, hr⟩ := hO
    refine ⟨cells, ho, ?_⟩
    have h2 := (bare_reps (fun b => w.heap.size ≤ b ∧ (Value.slice (some ⟨g, 0, none⟩) 8 8).ownBlock ≠ some b) W1)
    refine bare_mix ⟨hr.1, fun j hj => ?_⟩
    rcases hr.2 j hj with ⟨h, _⟩ | h
    · have h8 : j < 8 := hj
      have e1 : nth kBk.dflt bareL j = (j, false) := by
        show nth (0, false) bareL j = (j, false)
        rw [nth_eq _ _ j hj]; simp [bareL]
      rw [e1] at h
      cases h
    · exact .inr h
  have HB0 := Lib.hid b3
  have HG := Lib.hid (show w.heap.size ≤ g ∧ g < W1.heap.size from ⟨hge, (hO.lt g rfl).2⟩)
  have HOO := Lib.hid hO2
  clear hO hO1 hO2 b3 hge
  go_loopw [2] (fun iv wr => ∃ k : Nat, iv = .int .i64 (k : Int) ∧ 1 ≤ k ∧ k ≤ 8 ∧ Hid (OwnK kBk 127 w.heap.size (fun x => w.heap.size ≤ x) wr (.slice (some ⟨g, 0, none⟩) 8 8) (mixL k)) ∧ Hid (Below w.heap.size w wr)) (fun iv _ => 8 - (intOf iv).toNat)
  case atStart => exact ⟨1, rfl, Nat.le_refl _, by omega, HOO, HB0⟩
  case round =>
    clear HOO
    obtain ⟨k, rfl, hk1, hk8, hO, hB⟩ := hrel
    by_cases hlt : k < 8
    · obtain ⟨cs, hK, hc, hf⟩ := own_bk hO.out k (by rw [mixL_length]; exact hlt)
      rw [mixL_nth k k hlt, decide_eq_false (by omega)] at hK
      rcases hK with ⟨h, _⟩ | ⟨_, rfl⟩
      · cases h
      · have k0 := hc 0 _ rfl
        have k1 := hc 1 _ rfl
        have k2 := hc 2 _ rfl
        have k3 := hc 3 _ rfl
        have k4 := hc 4 _ rfl
        have k5 := hc 5 _ rfl
        rw [Nat.add_zero] at k0
        have hki : (k : Int) ≤ 7 := by omega
        have hki8 : (k : Int) < 8 := by omega
        have hwk : IntKind.i64.wrap ((k : Int) + 1) = (k : Int) + 1 := IntWalk.i64_in _ (by omega)
        have HM := Lib.hid (made_any k wr hk1 hlt)
        obtain ⟨n, hn⟩ : ∃ n, (tabKI k).length = n := ⟨_, rfl⟩
        have HNN := Lib.hid hn
        unfold bookM at HM
        rw [hn] at HM
        have hw0 := hB.out.size
        clear hc hf hn
        go_wp2_with (go_at_call 71; refine HM.out.mono ?_; rintro e w3 ⟨A1, c1, A2, c2, rfl, hs1, hs2, b3⟩; have HO3 := Lib.hid (show OwnK kBk 127 w.heap.size (fun x => w.heap.size ≤ x) w3 (.slice (some ⟨g, 0, none⟩) (mixL k).length 8) (mixL k) from hO.out.below b3); have HS1 := Lib.hid (hs1.weak (ok' := fun b => w.heap.size ≤ b ∧ b ≠ g) (fun x _ h => by have := hO.out.lt g rfl; omega)); have HS2 := Lib.hid (hs2.weak (ok' := fun b => w.heap.size ≤ b ∧ b ≠ g) (fun x _ h => by have := hO.out.lt g rfl; omega)); have q0 := cell_below b3 k0; have q1 := cell_below b3 k1; have q2 := cell_below b3 k2; have q3 := cell_below b3 k3; have q4 := cell_below b3 k4; have q5 := cell_below b3 k5; have f0 := own_fr HO3.out (k * 6); have f1 := own_fr HO3.out (k * 6 + 1); have f2 := own_fr HO3.out (k * 6 + 2); have f3 := own_fr HO3.out (k * 6 + 3); have f4 := own_fr HO3.out (k * 6 + 4); have f5 := own_fr HO3.out (k * 6 + 5))
        obtain ⟨p1, pu⟩ := all_put (y := (k, true)) (x0 := .int .i64 (dimB k)) (x1 := .int .i64 (mostB k)) (x2 := .int .i64 (fallB k)) (x3 := .bool (escB k)) (x4 := .slice A1 n c1) (x5 := .slice A2 n c2) HO3.out (by rw [mixL_length]; exact hlt)
          (.inl ⟨rfl, A1, c1, A2, c2, by rw [HNN.out.symm], HS1.out, HS2.out⟩)
        rw [mixL_set] at p1
        go_roundw
        case rel => exact ⟨k + 1, by go_num, by omega, by omega, Lib.hid p1, Lib.hid ((below2 hB.out b3).trans (pu.below (below2 hB.out b3).size (fun x _ e => by have := HG.out; omega)))⟩
        case measure => simp [intOf]; omega
    · obtain rfl : k = 8 := by omega
      have HR := Lib.hid hO.out.rd
      go_wp2
      go_ret
      obtain ⟨A, c, e, hs⟩ := HR.out
      cases e
      have e8 : mixL 8 = allK := by decide
      rw [e8] at hs
      exact ⟨g, rfl, hs.weak (fun x _ h => by rcases h with h | h; exact h; have h9 : g = x := Option.some.inj h; have := HG.out; omega), hB.out⟩
end Go.Proofs.YtmcdgmiheklbeaaGreatDoor

namespace Go.Proofs.YtmcdgmiheklbeaaGreatDoor
open Go.RowKit

/-- 'xs[lo:hi]' of a part that is not empty, with its address. -/
theorem cut_mid2 (lo d n c : Nat) (ad : Addr) (hd : 1 ≤ d) (h2 : lo + d ≤ n) (hnc : n ≤ c) (W : World) :
    (Instr.slice 22 (.slice (some ad) n c) (some (.int .i64 (lo : Int))) (some (.int .i64 ((lo + d : Nat) : Int))) none).run Tryz.prog W = .ok (.slice (some (ad.add lo)) d (c - lo)) W := by
  obtain ⟨i, hi, hz⟩ := Option.map_eq_some_iff.1 infoI
  have hel : Tryz.prog.elem 22 = 3 := by simp [Program.elem, Tryz.underlying22]
  have hu : Tryz.prog.underlying 22 = some (.slice (Tryz.prog.elem 22)) := by rw [hel]; exact Tryz.underlying22
  have h1 : i.size = 1 := by simp at hz; exact hz.2.1
  rw [run_slice_lh W 22 (some ad) n c hu .i64 .i64 (lo : Int) ((lo + d : Nat) : Int) (Int.natCast_nonneg _) (by omega) (by omega), hel]
  have e1 : ¬ (c = lo) := by omega
  have e2 : lo + d - lo = d := by omega
  simp [sizeOf, typeInfo, hi, sliced, Result.andThen, h1]
  omega
theorem grp_slC {ok : Nat → Prop} {w : World} {ad : Addr} {c : Nat} {l : List Int} (h : Sl (kInt .i64) ok w (some ad) c l) (d j : Nat) (h2 : j * d + d ≤ l.length) : Sl (kInt .i64) ok w (some (ad.add (j * d))) (c - j * d) (grpK d l j) := by
  have h3 := grp_slK h d j h2
  have h4 := h.le
  have h5 := h.cap
  refine ⟨?_, by omega, h3.rd⟩
  rw [grpK_length d l j h2]; omega
/-- A row that is being written. -/
structure AdI (w : World) (base g3 : Nat) (bk : Array Value) (bits : List Bool) (u : Value) (W : World) : Prop where
  own : OwnI 5 .u8 base W u (bitsI bits)
  ne : u.ownBlock ≠ some g3
  blk : Blk W g3 bk 127
  low : Below base w W
theorem AdI.below {w W W' : World} {base g3 : Nat} {bk : Array Value} {bits : List Bool} {u : Value} (h : AdI w base g3 bk bits u W) (hb : Below W.heap.size W W') (hz : base ≤ w.heap.size) : AdI w base g3 bk bits u W' :=
  ⟨h.own.below hb, h.ne, h.blk.below hb, h.low.trans (hb.mono (Nat.le_trans hz h.low.size))⟩
theorem AdI.run {w W W' : World} {base g3 : Nat} {bk : Array Value} {bits more : List Bool} {u : Value} {f : Nat} {args : Array Value} (h : AdI w base g3 bk bits u W) (hb : Below W.heap.size W W') (hz : base ≤ w.heap.size)
    (hc : OwnI 5 .u8 base W' u (bitsI bits) → base ≤ W'.heap.size → Calls Tryz.prog f args W' fun e w' => ∃ u', e = .returned u' ∧ OwnI 5 .u8 base w' u' (bitsI (bits ++ more)) ∧ Upd (fun b => u.ownBlock = some b) W' w' ∧ (u'.ownBlock = u.ownBlock ∨ ∃ b, u'.ownBlock = some b ∧ W'.heap.size ≤ b)) :
    Calls Tryz.prog f args W' fun e w' => ∃ u', e = .returned u' ∧ AdI w base g3 bk (bits ++ more) u' w' := by
  have h2 := h.below hb hz
  have hz2 := Nat.le_trans hz h2.low.size
  refine (hc h2.own hz2).mono ?_
  rintro e w' ⟨u', rfl, hO, hu, ha⟩
  refine ⟨u', rfl, hO, ?_, h2.blk.keep (hu.keep (ok := fun x => u.ownBlock ≠ some x) fun x hx e => hx e) h.ne, h2.low.trans (hu.below hz2 fun x _ e => h2.own.base_le x e)⟩
  rcases ha with ha | ⟨x, ha, hx⟩
  · rw [ha]; exact h.ne
  · rw [ha]; intro e; have := Option.some.inj e; have := h2.blk.lt; omega
theorem AdI.put {w W W' : World} {base g3 : Nat} {bk : Array Value} {bits : List Bool} {u : Value} (h : AdI w base g3 bk bits u W) (hb : Below W.heap.size W W') (hz : base ≤ w.heap.size) (v n : Nat) (hl : bits.length + n ≤ 100000000) (h64 : n ≤ 64) (hv : v ≤ 4611686018427387904) :
    Calls Tryz.prog 78 #[u, .int .i64 (v : Int), .int .i64 (n : Int)] W' fun e w' => ∃ u', e = .returned u' ∧ AdI w base g3 bk (bits ++ numB v n) u' w' :=
  h.run hb hz fun hO hz2 => putrow_any base u bits v n W' hO hz2 hl h64 hv
theorem AdI.gamma {w W W' : World} {base g3 : Nat} {bk : Array Value} {bits : List Bool} {u : Value} (h : AdI w base g3 bk bits u W) (hb : Below W.heap.size W W') (hz : base ≤ w.heap.size) (v : Nat) (hl : bits.length ≤ 10000000) (h1 : 1 ≤ v) (hv : v < 2097152) :
    Calls Tryz.prog 77 #[u, .int .i64 (v : Int)] W' fun e w' => ∃ u', e = .returned u' ∧ AdI w base g3 bk (bits ++ gamB v) u' w' :=
  h.run hb hz fun hO hz2 => rgamma_any base u bits v W' hO hz2 hl h1 hv
theorem most_pos (b : Nat) (h1 : 1 ≤ b) (h8 : b < 8) : 1 ≤ mostB b := by
  have : b = 1 ∨ b = 2 ∨ b = 3 ∨ b = 4 ∨ b = 5 ∨ b = 6 ∨ b = 7 := by omega
  rcases this with rfl | rfl | rfl | rfl | rfl | rfl | rfl <;> decide

end Go.Proofs.YtmcdgmiheklbeaaGreatDoor

namespace Go.Proofs.YtmcdgmiheklbeaaGreatDoor
open Go.RowKit

theorem bitsI_len (l : List Bool) : (bitsI l).length = l.length := by simp [bitsI]
theorem bkC_len (n : Int) (l : List Int) : (bkC n l).1 = ((bkW n l).length : Int) := by
  unfold bkW
  by_cases h : (bkC n l).2 = 0
  · rw [if_neg (by simp [h])]
    obtain ⟨b, rfl, _, _, _, e⟩ := bkC_ok h
    rw [e]; rfl
  · rw [if_pos h]
    unfold bkC at h ⊢
    by_cases h1 : checkedK n l ≠ 0
    · rw [if_pos h1]; rfl
    · rw [if_neg h1] at h ⊢
      by_cases h2 : fitB n.toNat l = false
      · rw [if_pos h2]; rfl
      · rw [if_neg h2] at h; exact absurd rfl h
theorem bkW_len (n : Int) (l : List Int) : (bkW n l).length ≤ 104 * l.length := by
  unfold bkW
  by_cases h : (bkC n l).2 = 0
  · rw [if_neg (by simp [h])]
    obtain ⟨b, rfl, h8, hq, _, _⟩ := bkC_ok h
    exact rowK_len b l h8 hq
  · rw [if_pos h]; exact Nat.zero_le _
theorem sl_old {ok : Nat → Prop} {w : World} {A : Option Addr} {c : Nat} {l : List Int} (h : Sl (kInt .i64) ok w A c l) : Sl (kInt .i64) (fun x => x < w.heap.size) w A c l := h.weak fun _ h _ => h

end Go.Proofs.YtmcdgmiheklbeaaGreatDoor

namespace Go.Proofs.YtmcdgmiheklbeaaGreatDoor
open Go.RowKit

theorem allK_length : allK.length = 8 := by decide
theorem allK_nth (j : Nat) (h : j < 8) : nth (0, false) allK j = (j, true) := by
  rw [nth_eq _ _ j (by rw [allK_length]; exact h)]; simp [allK]
/-- A book of all, at rest. -/
theorem rd_all {ok : Nat → Prop} {w : World} {A : Option Addr} {c : Nat} (h : Sl kBk ok w A c allK) (j : Nat) (hj : j < 8) :
    ∃ ad A1 c1 A2 c2, A = some ad ∧ Sl (kInt .i64) ok w A1 c1 (tabKI j) ∧ Sl (kInt .i64) ok w A2 c2 (codesL (tabKI j)) ∧ w.cell? (ad.add (j * 6)) = some (.int .i64 (dimB j)) ∧
      w.cell? ⟨(ad.add (j * 6)).block, (ad.add (j * 6)).off + 1, none⟩ = some (.int .i64 (mostB j)) ∧ w.cell? ⟨(ad.add (j * 6)).block, (ad.add (j * 6)).off + 2, none⟩ = some (.int .i64 (fallB j)) ∧
      w.cell? ⟨(ad.add (j * 6)).block, (ad.add (j * 6)).off + 3, none⟩ = some (.bool (escB j)) ∧ w.cell? ⟨(ad.add (j * 6)).block, (ad.add (j * 6)).off + 4, none⟩ = some (.slice A1 (tabKI j).length c1) ∧
      w.cell? ⟨(ad.add (j * 6)).block, (ad.add (j * 6)).off + 5, none⟩ = some (.slice A2 (tabKI j).length c2) := by
  obtain ⟨ad, cs, e, _, hK, h0, hc⟩ := rd_bk h j (by rw [allK_length]; exact hj)
  rw [allK_nth j hj] at hK
  rcases hK with ⟨_, A1, c1, A2, c2, rfl, h1, h2⟩ | ⟨h, _⟩
  · exact ⟨ad, A1, c1, A2, c2, e, h1, h2, h0 _ rfl, hc 1 _ rfl, hc 2 _ rfl, hc 3 _ rfl, hc 4 _ rfl, hc 5 _ rfl⟩
  · cases h

end Go.Proofs.YtmcdgmiheklbeaaGreatDoor

namespace Go.Proofs.YtmcdgmiheklbeaaGreatDoor
open Go.RowKit

end Go.Proofs.YtmcdgmiheklbeaaGreatDoor

namespace Go.Proofs.YtmcdgmiheklbeaaGreatDoor
open Go.RowKit

end Go.Proofs.YtmcdgmiheklbeaaGreatDoor

namespace Go.Proofs.YtmcdgmiheklbeaaGreatDoor
open Go.RowKit

end Go.Proofs.YtmcdgmiheklbeaaGreatDoor

namespace Go.Proofs.YtmcdgmiheklbeaaGreatDoor
open Go.RowKit

end Go.Proofs.YtmcdgmiheklbeaaGreatDoor

namespace Go.Proofs.YtmcdgmiheklbeaaGreatDoor
open Go.RowKit

end Go.Proofs.YtmcdgmiheklbeaaGreatDoor

namespace Go.Proofs.YtmcdgmiheklbeaaGreatDoor
open Go.RowKit

/-- Both tables of the package, below a limit. -/
structure GS (base : Nat) (w : World) : Prop where
  f : GF w
  t : GT w
  lf : 0 < base
  lt : 1 < base
theorem GS.of {w : World} (hG : GF w) (hT : GT w) : GS w.heap.size w :=
  ⟨hG, hT, World.block_lt_of_cell? w _ (hG.dim 0 (by omega)), World.block_lt_of_cell? w _ (hT.txt 0 (by omega))⟩
theorem GS.below {base : Nat} {w w' : World} (h : GS base w) (hb : Below w.heap.size w w') : GS base w' := ⟨h.f.below hb, h.t.below hb, h.lf, h.lt⟩
theorem GS.upd {base : Nat} {w w' : World} {o : Nat → Prop} (h : GS base w) (hu : Upd o w w') (ho : ∀ x, x < base → ¬ o x) : GS base w' :=
  ⟨h.f.keep (hu.keep (ok := fun x => x < base) fun x h => ho x h) h.lf, h.t.keep (hu.keep (ok := fun x => x < base) fun x h => ho x h) h.lt, h.lf, h.lt⟩
end Go.Proofs.YtmcdgmiheklbeaaGreatDoor

namespace Go.Proofs.YtmcdgmiheklbeaaGreatDoor
open Go.RowKit

/-- One more section: the books so far, or none at an error. -/
def bksS (o : Option (List Int)) (x : Int × Int) : Option (List Int) :=
  match o with
  | none => none
  | some l => if x.1 < 0 ∨ 8 ≤ x.1 ∨ x.2 < 1 ∨ 128 - (l.length : Int) < x.2 then none else some (l ++ List.replicate x.2.toNat x.1)
def bksP (s : List (Int × Int)) : Option (List Int) := s.foldl bksS (some [])
def booksL (s : List (Int × Int)) : List Int := (bksP s).getD []
def booksE (s : List (Int × Int)) : Int := if (bksP s).isSome then 0 else 4
theorem bks_none : ∀ s : List (Int × Int), s.foldl bksS none = none
  | [] => rfl
  | x :: s => by rw [List.foldl_cons]; exact bks_none s
theorem bks_take (s : List (Int × Int)) (k : Nat) (h : k < s.length) : bksP (s.take (k + 1)) = bksS (bksP (s.take k)) (nth (0, 0) s k) := by
  unfold bksP; rw [take_succ_nth (0, 0) s k h, List.foldl_append]; rfl
theorem bks_stop (s : List (Int × Int)) (k : Nat) (h : bksP (s.take k) = none) : bksP s = none := by
  unfold bksP at *
  rw [← List.take_append_drop k s, List.foldl_append, h, bks_none]
theorem bks_len : ∀ (s : List (Int × Int)) (l m : List Int), l.length ≤ 128 → s.foldl bksS (some l) = some m → m.length ≤ 128
  | [], l, m, hl, h => by cases h; exact hl
  | x :: s, l, m, hl, h => by
    rw [List.foldl_cons] at h
    by_cases hb : x.1 < 0 ∨ 8 ≤ x.1 ∨ x.2 < 1 ∨ 128 - (l.length : Int) < x.2
    · have e : bksS (some l) x = none := if_pos hb
      rw [e, bks_none] at h; cases h
    · have e : bksS (some l) x = some (l ++ List.replicate x.2.toNat x.1) := if_neg hb
      rw [e] at h
      exact bks_len s _ m (by rw [List.length_append, List.length_replicate]; omega) h
theorem bksP_len {s : List (Int × Int)} {m : List Int} (h : bksP s = some m) : m.length ≤ 128 := bks_len s [] m (by simp) h
theorem bad_cases {x1 x2 L : Int} (h : x1 < 0 ∨ 8 ≤ x1 ∨ x2 < 1 ∨ 128 - L < x2) :
    decide (x1 < 0) = true ∨ (decide (x1 < 0) = false ∧ decide (8 ≤ x1) = true) ∨ (decide (x1 < 0) = false ∧ decide (8 ≤ x1) = false ∧ decide (x2 < 1) = true) ∨ (decide (x1 < 0) = false ∧ decide (8 ≤ x1) = false ∧ decide (x2 < 1) = false ∧ decide (128 - L < x2) = true) := by
  by_cases h1 : x1 < 0
  · exact .inl (decide_eq_true h1)
  · by_cases h2 : 8 ≤ x1
    · exact .inr (.inl ⟨decide_eq_false h1, decide_eq_true h2⟩)
    · by_cases h3 : x2 < 1
      · exact .inr (.inr (.inl ⟨decide_eq_false h1, decide_eq_false h2, decide_eq_true h3⟩))
      · exact .inr (.inr (.inr ⟨decide_eq_false h1, decide_eq_false h2, decide_eq_false h3, decide_eq_true (by omega)⟩))

theorem repeat_lit (k : Int) (n : Nat) (W : World) (X : Obj) (h1 : 1 ≤ n) (hn : n ≤ 100000) :
    Calls Tryz.prog 39 #[.slice (some ⟨W.heap.size + 1, 0, none⟩) 1 1, .int .i64 (n : Int)] ((W.alloc X).alloc (.cells #[.int .i64 k] 3)) fun e w' => ∃ v, e = .returned v ∧ OwnI 3 .i64 W.heap.size w' v (List.replicate n k) ∧ Below W.heap.size W w' := by
  have h := repeat_any (some ⟨(W.alloc X).heap.size, 0, none⟩) 1 k n ((W.alloc X).alloc (.cells #[.int .i64 k] 3)) (lit_ri (W.alloc X) 3 .i64 [k] (by simp)) h1 hn
  rw [World.size_alloc] at h
  refine h.mono ?_
  rintro e w' ⟨v, rfl, hO, hb⟩
  exact ⟨v, rfl, hO.mono (by rw [World.size_alloc, World.size_alloc]; omega), below2 (below2 (below_alloc (Below.refl _ _) X) (below_alloc (Below.refl _ _) _)) hb⟩
set_option maxHeartbeats 2000000 in
set_option maxRecDepth 100000 in
theorem books_any (A : Option Addr) (c : Nat) (s : List (Int × Int)) (w : World) (hS : RS w A c s) :
    Calls Tryz.prog 19 #[.slice A s.length c] w fun e w' => ∃ v, e = .returned (.tuple #[v, .int .i64 (booksE s)]) ∧ OwnI 3 .i64 w.heap.size w' v (booksL s) ∧ Below w.heap.size w w' := by
  have HS := Lib.hid hS
  have HRP := Lib.hid (fun (k : Int) (n : Nat) (W : World) (X : Obj) (h1 : 1 ≤ n) (hn : n ≤ 100000) => repeat_lit k n W X h1 hn)
  clear hS
  go_enter Tryz.func19, Tryz.ntmps19
  go_wp2
  go_loopw [4, 6, 9] (fun ov xv iv wr => ∃ (k : Nat) (m : List Int), iv = .int .i64 (k : Int) ∧ k ≤ s.length ∧ Hid (bksP (s.take k) = some m) ∧ Hid (OwnI 3 .i64 w.heap.size wr ov m) ∧ Hid (Below w.heap.size w wr)) (fun _ _ iv _ => s.length - (intOf iv).toNat)
  case atStart => exact ⟨0, [], rfl, Nat.zero_le _, Lib.hid rfl, Lib.hid (OwnI.nil _ _ _ _), Lib.hid (Below.refl _ _)⟩
  case round =>
    obtain ⟨k, m, rfl, hk, hP, hO, hB⟩ := hrel
    obtain ⟨A4, c4, rfl⟩ := hO.out.slice
    by_cases hlt : k < s.length
    · have hli : (k : Int) < (s.length : Int) := by omega
      have hls : s.length ≤ 9223372036854775807 := Nat.le_trans HS.out.1 HS.out.cap
      have hk1 : IntKind.i64.wrap ((k : Int) + 1) = ((k + 1 : Nat) : Int) := by rw [IntWalk.i64_in _ (by omega)]; omega
      obtain ⟨ad, rfl, _, k0, k1⟩ := rd_se (HS.out.below hB.out) k hlt
      have HNX := Lib.hid (bks_take s k hlt)
      have HST := Lib.hid (fun h => bks_stop s (k + 1) h)
      have HML := Lib.hid (bksP_len hP.out)
      generalize nth (0, 0) s k = x at k0 k1 HNX
      obtain ⟨x1, x2⟩ := x
      have hml := HML.out
      have hw128 : IntKind.i64.wrap (128 - (m.length : Int)) = 128 - (m.length : Int) := IntWalk.i64_in _ (by omega)
      by_cases hb : x1 < 0 ∨ 8 ≤ x1 ∨ x2 < 1 ∨ 128 - (m.length : Int) < x2
      · have hn : bksP (s.take (k + 1)) = none := by rw [HNX.out, hP.out]; exact if_pos hb
        have HE := Lib.hid (HST.out hn)
        have hcs := bad_cases hb
        clear hb hn hls
        rcases hcs with d1 | ⟨d1, d2⟩ | ⟨d1, d2, d3⟩ | ⟨d1, d2, d3, d4⟩
        all_goals
          go_wp2
          go_ret2
          exact ⟨_, ret_two rfl (by unfold booksE; rw [HE.out]; rfl), by unfold booksL; rw [HE.out]; exact OwnI.nil _ _ _ _, below_alloc hB.out _⟩
      · obtain ⟨n, rfl⟩ : ∃ n : Nat, x2 = (n : Int) := ⟨x2.toNat, by omega⟩
        have hn : bksP (s.take (k + 1)) = some (m ++ List.replicate n x1) := by
          rw [HNX.out, hP.out]
          show (if _ then _ else _) = _
          rw [if_neg hb, Int.toNat_natCast]
        have HE := Lib.hid hn
        have d1 : decide (x1 < 0) = false := decide_eq_false (by omega)
        have d2 : decide (8 ≤ x1) = false := decide_eq_false (by omega)
        have d3 : decide ((n : Int) < 1) = false := decide_eq_false (by omega)
        have d4 : decide (128 - (m.length : Int) < (n : Int)) = false := decide_eq_false (by omega)
        have HN := Lib.hid (show 1 ≤ n ∧ n ≤ 128 ∧ m.length ≤ 128 from ⟨by omega, by omega, hml⟩)
        clear hb hn hls hml
        go_wp2_with (first
          | (go_at_call 39; refine (HRP.out x1 n _ _ (by have := HN.out; omega) (by have := HN.out; omega)).mono ?_; rintro e w3 ⟨v3, rfl, hO3, b3⟩; obtain ⟨A3, c3, rfl, h3⟩ := own_ri hO3; have HR3 := Lib.hid h3; have HO3 := Lib.hid (hO.out.below b3); have HB3 := Lib.hid (below2 hB.out b3); clear hO3 h3 b3)
          | (at_builtin; go_loud (refine append_row (w0 := w) w.heap.size rfl (.tmp 34) (.tmp 40) 22 3 .i64 8 rfl Tryz.underlying22 infoI (by decide) _ m (List.replicate n x1) A3 c3 rfl (by rw [List.length_replicate]; rfl) HO3.out HR3.out HB3.out HB3.out.size (by have := HN.out; rw [List.length_replicate]; omega) ?_); intro v4 w4 hO4 hB4 _ _; have HO4 := Lib.hid hO4; have HB4 := Lib.hid hB4; clear hO4 hB4))
        obtain ⟨A6, c6, rfl⟩ := HO4.out.slice
        go_roundw
        case rel => exact ⟨k + 1, _, by first | rfl | go_num, by omega, HE, HO4, HB4⟩
        case measure => simp [intOf] <;> omega
    · obtain rfl : k = s.length := by omega
      have HE := Lib.hid (show bksP s = some m by have h9 := hP.out; rw [List.take_length] at h9; exact h9)
      go_wp2
      go_ret2
      exact ⟨_, ret_two rfl (by unfold booksE; rw [HE.out]; rfl), by unfold booksL; rw [HE.out]; exact hO.out, hB.out⟩
end Go.Proofs.YtmcdgmiheklbeaaGreatDoor

namespace Go.Proofs.YtmcdgmiheklbeaaGreatDoor
open Go.RowKit

theorem bad_casesR {x1 x2 L : Int} (h : x1 < 0 ∨ 8 ≤ x1 ∨ x2 < 1 ∨ 128 - L < x2) :
    thereB x1 = false ∨ (thereB x1 = true ∧ decide (x2 < 1) = true) ∨ (thereB x1 = true ∧ decide (x2 < 1) = false ∧ decide (128 - L < x2) = true) := by
  by_cases h1 : x1 < 0 ∨ 8 ≤ x1
  · exact .inl (by simp [thereB]; omega)
  · by_cases h3 : x2 < 1
    · exact .inr (.inl ⟨by simp [thereB]; omega, decide_eq_true h3⟩)
    · exact .inr (.inr ⟨by simp [thereB]; omega, decide_eq_false h3, decide_eq_true (by omega)⟩)
set_option maxHeartbeats 2000000 in
set_option maxRecDepth 100000 in
theorem rbooks_any (A : Option Addr) (c : Nat) (s : List (Int × Int)) (w : World) (hS : RS w A c s) :
    Calls Tryz.prog 85 #[.slice A s.length c] w fun e w' => ∃ v, e = .returned (.tuple #[v, .int .i64 (booksE s)]) ∧ OwnI 3 .i64 w.heap.size w' v (booksL s) ∧ Below w.heap.size w w' := by
  have HS := Lib.hid hS
  have HIS := Lib.hid (fun n W => ris_any n W)
  clear hS
  go_enter Tryz.func85, Tryz.ntmps85
  go_wp2
  go_loopw [4, 6, 9] (fun ov xv iv wr => ∃ (k : Nat) (m : List Int), iv = .int .i64 (k : Int) ∧ k ≤ s.length ∧ Hid (bksP (s.take k) = some m) ∧ Hid (OwnI 3 .i64 w.heap.size wr ov m) ∧ Hid (Below w.heap.size w wr)) (fun _ _ iv _ => s.length - (intOf iv).toNat)
  case atStart => exact ⟨0, [], rfl, Nat.zero_le _, Lib.hid rfl, Lib.hid (OwnI.nil _ _ _ _), Lib.hid (Below.refl _ _)⟩
  case round =>
    obtain ⟨k, m, rfl, hk, hP, hO, hB⟩ := hrel
    obtain ⟨A4, c4, rfl⟩ := hO.out.slice
    by_cases hlt : k < s.length
    · have hli : (k : Int) < (s.length : Int) := by omega
      have hls : s.length ≤ 9223372036854775807 := Nat.le_trans HS.out.1 HS.out.cap
      have hk1 : IntKind.i64.wrap ((k : Int) + 1) = ((k + 1 : Nat) : Int) := by rw [IntWalk.i64_in _ (by omega)]; omega
      obtain ⟨ad, rfl, _, k0, k1⟩ := rd_se (HS.out.below hB.out) k hlt
      have HNX := Lib.hid (bks_take s k hlt)
      have HST := Lib.hid (fun h => bks_stop s (k + 1) h)
      have HML := Lib.hid (bksP_len hP.out)
      generalize nth (0, 0) s k = x at k0 k1 HNX
      obtain ⟨x1, x2⟩ := x
      have hml := HML.out
      have hw128 : IntKind.i64.wrap (128 - (m.length : Int)) = 128 - (m.length : Int) := IntWalk.i64_in _ (by omega)
      by_cases hb : x1 < 0 ∨ 8 ≤ x1 ∨ x2 < 1 ∨ 128 - (m.length : Int) < x2
      · have hn : bksP (s.take (k + 1)) = none := by rw [HNX.out, hP.out]; exact if_pos hb
        have HE := Lib.hid (HST.out hn)
        have hcs := bad_casesR hb
        clear hb hn hls
        rcases hcs with d1 | ⟨d1, d2⟩ | ⟨d1, d2, d3⟩
        all_goals
          go_wp2_with (go_at_call 116; refine (HIS.out _ _).mono ?_; rw [d1]; rintro e w3 ⟨rfl, rfl⟩)
          go_ret2
          exact ⟨_, ret_two rfl (by unfold booksE; rw [HE.out]; rfl), by unfold booksL; rw [HE.out]; exact OwnI.nil _ _ _ _, below_alloc hB.out _⟩
      · obtain ⟨n, rfl⟩ : ∃ n : Nat, x2 = (n : Int) := ⟨x2.toNat, by omega⟩
        have hn : bksP (s.take (k + 1)) = some (m ++ List.replicate n x1) := by
          rw [HNX.out, hP.out]
          show (if _ then _ else _) = _
          rw [if_neg hb, Int.toNat_natCast]
        have HE := Lib.hid hn
        have d1 : thereB x1 = true := by simp [thereB]; omega
        have d3 : decide ((n : Int) < 1) = false := decide_eq_false (by omega)
        have d4 : decide (128 - (m.length : Int) < (n : Int)) = false := decide_eq_false (by omega)
        have HN := Lib.hid (show 1 ≤ n ∧ n ≤ 128 ∧ m.length ≤ 128 from ⟨by omega, by omega, hml⟩)
        have hbA := below_alloc (Below.refl wr.heap.size wr) (.cells #[.int .i64 x1, .int .i64 (n : Int)] 47)
        obtain ⟨g6, hg6⟩ : ∃ g6, wr.heap.size = g6 := ⟨_, rfl⟩
        have HB6 := Lib.hid (show Blk (wr.alloc (.cells #[.int .i64 x1, .int .i64 (n : Int)] 47)) g6 #[.int .i64 x1, .int .i64 (n : Int)] 47 by rw [← hg6]; exact heap_alloc_new wr _)
        have HOW := Lib.hid (hO.out.below hbA)
        have HNE := Lib.hid (show (Value.slice A4 m.length c4).ownBlock ≠ some g6 from fun h => by have := (hO.out.lt g6 h).2; omega)
        have HBW := Lib.hid (below2 hB.out hbA)
        have HG6 := Lib.hid hg6
        clear hb hn hls hml hbA
        go_wp2_with (go_at_call 116; refine (HIS.out _ _).mono ?_; rw [d1]; rintro e w3 ⟨rfl, rfl⟩)
        try simp only [HG6.out]
        obtain ⟨W0, hW0⟩ : ∃ W0, wr.alloc (.cells #[.int .i64 x1, .int .i64 (n : Int)] 47) = W0 := ⟨_, rfl⟩
        try simp only [hW0] at HB6 HOW HBW ⊢
        clear hW0 k0 k1 hg6
        go_loopw [4, 32] (fun ov iv W2 => ∃ j : Nat, iv = .int .i64 (j : Int) ∧ j ≤ n ∧ Hid (OwnI 3 .i64 w.heap.size W2 ov (m ++ List.replicate j x1)) ∧ Hid (ov.ownBlock ≠ some g6) ∧ Hid (Blk W2 g6 #[.int .i64 x1, .int .i64 (n : Int)] 47) ∧ Hid (Below w.heap.size w W2)) (fun _ iv _ => n - (intOf iv).toNat)
        case atStart => exact ⟨0, rfl, Nat.zero_le _, Lib.hid (by rw [List.replicate_zero, List.append_nil]; exact HOW.out), HNE, HB6, HBW⟩
        case round =>
          obtain ⟨j, rfl, hj, hO2, hNE, hB6, hBW⟩ := hrel
          obtain ⟨A5, c5, rfl⟩ := hO2.out.slice
          have z0 := hB6.out.cell 0 rfl
          have z1 := hB6.out.cell 1 rfl
          by_cases hjl : j < n
          · have hji : (j : Int) < (n : Int) := by omega
            have hj1 : IntKind.i64.wrap ((j : Int) + 1) = ((j + 1 : Nat) : Int) := by rw [IntWalk.i64_in _ (by have := HN.out; omega)]; omega
            have HLT := Lib.hid (hO2.out.lt)
            have HB8 := Lib.hid hB6.out.lt
            go_wp2_with (at_builtin; go_loud (refine append_row (W := wr.alloc (.cells #[.int .i64 x1] 3)) (w0 := w) w.heap.size rfl (.tmp 34) (.tmp 37) 22 3 .i64 8 rfl Tryz.underlying22 infoI (by decide) _ (m ++ List.replicate j x1) [x1] (some ⟨wr.heap.size, 0, none⟩) 1 rfl rfl (hO2.out.below (below_alloc (Below.refl _ _) _)) (lit_ri wr 3 .i64 [x1] (by simp)) (below_alloc hBW.out _) (by rw [World.size_alloc]; have := hBW.out.size; omega) (by have := HN.out; rw [List.length_append, List.length_replicate]; simp; omega) ?_); intro v4 w4 hO4 hB4 hg4 ha4; have HO4 := Lib.hid hO4; have HB4 := Lib.hid hB4; have HG4 := Lib.hid hg4; have HA4 := Lib.hid ha4; clear hO4 hB4 hg4 ha4)
            obtain ⟨A6, c6, rfl⟩ := HO4.out.slice
            go_roundw
            case rel =>
              refine ⟨j + 1, by first | rfl | go_num, by omega, Lib.hid (by rw [show List.replicate (j + 1) x1 = List.replicate j x1 ++ [x1] from List.replicate_succ', ← List.append_assoc]; exact HO4.out), Lib.hid ?_, Lib.hid ?_, HB4⟩
              · intro h
                rcases HA4.out with h9 | ⟨b, h8, h9⟩
                · exact hNE.out (h9.symm.trans h)
                · rw [h8] at h; injection h with h; rw [World.size_alloc] at h9; have := HB8.out; omega
              · exact (hB6.out.below (below_alloc (Below.refl wr.heap.size wr) (.cells #[.int .i64 x1] 3))).keep (Keep.of_grown HG4.out) (fun h => hNE.out h.symm)
            case measure => simp [intOf] <;> omega
          · obtain rfl : j = n := by omega
            go_wp2
            go_roundw
            case rel => exact ⟨k + 1, _, by first | rfl | go_num, by omega, HE, hO2, hBW⟩
            case measure => simp [intOf] <;> omega
    · obtain rfl : k = s.length := by omega
      have HE := Lib.hid (show bksP s = some m by have h9 := hP.out; rw [List.take_length] at h9; exact h9)
      go_wp2
      go_ret2
      exact ⟨_, ret_two rfl (by unfold booksE; rw [HE.out]; rfl), by unfold booksL; rw [HE.out]; exact hO.out, hB.out⟩
end Go.Proofs.YtmcdgmiheklbeaaGreatDoor

namespace Go.Proofs.YtmcdgmiheklbeaaGreatDoor
open Go.RowKit

/-- One more book: the sections. -/
def rnS (s : List (Int × Int)) (k : Int) : List (Int × Int) :=
  if 0 < s.length ∧ (nth (0, 0) s (s.length - 1)).1 = k then s.set (s.length - 1) ((nth (0, 0) s (s.length - 1)).1, (nth (0, 0) s (s.length - 1)).2 + 1) else s ++ [(k, 1)]
def rnK (l : List Int) : List (Int × Int) := l.foldl rnS []
def badK (l : List Int) : Bool := l.any fun k => decide (k < 0) || decide (8 ≤ k)
def runsE (l : List Int) : Int := if 128 < l.length then 1 else if badK l = true then 4 else 0
def runsL (l : List Int) : List (Int × Int) := if runsE l ≠ 0 then [] else rnK l
theorem rnK_take (l : List Int) (k : Nat) (h : k < l.length) : rnK (l.take (k + 1)) = rnS (rnK (l.take k)) (nth 0 l k) := by
  unfold rnK; rw [take_succ_nth 0 l k h, List.foldl_append]; rfl
theorem rnS_len (s : List (Int × Int)) (k : Int) : (rnS s k).length ≤ s.length + 1 ∧ 0 < (rnS s k).length := by
  unfold rnS
  split
  · rename_i h; rw [List.length_set]; exact ⟨Nat.le_succ _, h.1⟩
  · rw [List.length_append]; exact ⟨Nat.le_refl _, by simp⟩
theorem rnK_len (l : List Int) : ∀ k, k ≤ l.length → (rnK (l.take k)).length ≤ k
  | 0, _ => by simp [rnK]
  | k + 1, h => by
    have h1 := rnK_len l k (by omega)
    rw [rnK_take l k h]
    have := (rnS_len (rnK (l.take k)) (nth 0 l k)).1
    omega
theorem bad_at (l : List Int) (k : Nat) (h : k < l.length) (hb : nth 0 l k < 0 ∨ 8 ≤ nth 0 l k) : badK l = true := by
  unfold badK
  rw [List.any_eq_true]
  exact ⟨_, nth_mem 0 l k h, by simpa using hb⟩
theorem bad_no (l : List Int) (h : ∀ k, k < l.length → ¬ (nth 0 l k < 0 ∨ 8 ≤ nth 0 l k)) : badK l = false := by
  unfold badK
  rw [List.any_eq_false]
  intro x hx
  obtain ⟨i, hi, rfl⟩ := List.mem_iff_getElem.1 hx
  have := h i hi
  rw [nth_eq 0 l i hi] at this
  simpa using this
/-- The bands of the sections are few. -/
theorem rnK_bd (l : List Int) : ∀ k, k ≤ l.length → ∀ j, j < (rnK (l.take k)).length → 1 ≤ (nth (0, 0) (rnK (l.take k)) j).2 ∧ (nth (0, 0) (rnK (l.take k)) j).2 ≤ k
  | 0, _, j, hj => by simp [rnK] at hj
  | k + 1, h, j, hj => by
    have ih := rnK_bd l k (by omega)
    rw [rnK_take l k h] at hj ⊢
    unfold rnS at hj ⊢
    split at hj
    · rename_i hc
      rw [if_pos hc]
      rw [List.length_set] at hj
      by_cases e : (rnK (l.take k)).length - 1 = j
      · rw [nth_eq _ _ j (by rw [List.length_set]; exact hj), List.getElem_set, if_pos e]
        have := ih _ (show (rnK (l.take k)).length - 1 < (rnK (l.take k)).length by omega)
        show 1 ≤ (nth (0, 0) (rnK (l.take k)) ((rnK (l.take k)).length - 1)).2 + 1 ∧ (nth (0, 0) (rnK (l.take k)) ((rnK (l.take k)).length - 1)).2 + 1 ≤ ((k + 1 : Nat) : Int)
        omega
      · rw [nth_eq _ _ j (by rw [List.length_set]; exact hj), List.getElem_set, if_neg e, ← nth_eq (0, 0) _ j hj]
        have := ih j hj
        omega
    · rename_i hc
      rw [if_neg hc]
      rcases Nat.lt_or_ge j (rnK (l.take k)).length with h2 | h2
      · rw [nth_append_left _ _ _ _ h2]
        have := ih j h2
        omega
      · rw [nth_append_right _ _ _ _ h2]
        rw [List.length_append, List.length_singleton] at hj
        obtain rfl : j = (rnK (l.take k)).length := by omega
        rw [Nat.sub_self]
        show 1 ≤ (1 : Int) ∧ (1 : Int) ≤ ((k + 1 : Nat) : Int)
        omega

set_option maxHeartbeats 1000000 in
theorem runs1_any (A : Option Addr) (c : Nat) (s : List (Int × Int)) (k : Int) (w : World) (hS : RS w A c s) (hl : s.length ≤ 1000) :
    Calls Tryz.prog 48 #[.slice A s.length c, .int .i64 k] w fun e w' => e = .returned (.bool (decide (0 < s.length ∧ (nth (0, 0) s (s.length - 1)).1 = k))) ∧ w = w' := by
  by_cases h0 : 0 < s.length
  · obtain ⟨j, hj⟩ : ∃ j, s.length - 1 = j := ⟨_, rfl⟩
    have hjl : j < s.length := by omega
    obtain ⟨ad, rfl, _, k0, _⟩ := rd_se hS j hjl
    have d0 : decide ((0 : Int) < (s.length : Int)) = true := decide_eq_true (by omega)
    have hw : IntKind.i64.wrap ((s.length : Int) - 1) = (j : Int) := by rw [IntWalk.i64_in _ (by omega)]; omega
    have hji : (j : Int) < (s.length : Int) := by omega
    have hj0 : (0 : Int) ≤ (j : Int) := by omega
    rw [hj]
    generalize (nth (0, 0) s j).1 = x at *
    have HE := Lib.hid (show (x == k) = decide (0 < s.length ∧ x = k) by rw [Bool.eq_iff_iff]; simp; omega)
    clear hj
    go_enter Tryz.func48, Tryz.ntmps48
    go_wp2
    go_ret
    exact ⟨ret_bool HE.out, rfl⟩
  · have d0 : decide ((0 : Int) < (s.length : Int)) = false := decide_eq_false (by omega)
    have HE := Lib.hid (show false = decide (0 < s.length ∧ (nth (0, 0) s (s.length - 1)).1 = k) by rw [decide_eq_false (fun h => h0 h.1)])
    go_enter Tryz.func48, Tryz.ntmps48
    go_wp2
    go_ret
    exact ⟨ret_bool HE.out, rfl⟩

set_option maxHeartbeats 2000000 in
set_option maxRecDepth 100000 in
theorem runs_any (A : Option Addr) (c : Nat) (l : List Int) (w : World) (hS : RI w A c l) :
    Calls Tryz.prog 18 #[.slice A l.length c] w fun e w' => ∃ v, e = .returned (.tuple #[v, .int .i64 (runsE l)]) ∧ OwnS w.heap.size w' v (runsL l) ∧ Below w.heap.size w w' := by
  by_cases h128 : 128 < l.length
  · have d0 : decide ((128 : Int) < (l.length : Int)) = true := decide_eq_true (by omega)
    have HE := Lib.hid (show runsE l = 1 by unfold runsE; rw [if_pos h128])
    clear h128
    go_enter Tryz.func18, Tryz.ntmps18
    go_wp2
    go_ret2
    exact ⟨_, ret_two rfl (by rw [HE.out]; rfl), by unfold runsL; rw [HE.out, if_pos (by decide)]; exact OwnK.nil _ _ _ _ _, Below.refl _ _⟩
  · have d0 : decide ((128 : Int) < (l.length : Int)) = false := decide_eq_false (by omega)
    have HL := Lib.hid (show l.length ≤ 128 by omega)
    have HS := Lib.hid hS
    have HR1 := Lib.hid (fun A c (s : List (Int × Int)) k W h hl => runs1_any A c s k W h hl)
    clear h128 hS
    go_enter Tryz.func18, Tryz.ntmps18
    go_wp2
    go_loopw [5, 7, 13] (fun ov kv iv wr => ∃ (k : Nat) (s : List (Int × Int)), iv = .int .i64 (k : Int) ∧ k ≤ l.length ∧ Hid (rnK (l.take k) = s) ∧ Hid (∀ j, j < k → ¬ (nth 0 l j < 0 ∨ 8 ≤ nth 0 l j)) ∧ Hid (OwnS w.heap.size wr ov s) ∧ Hid (Below w.heap.size w wr)) (fun _ _ iv _ => l.length - (intOf iv).toNat)
    case atStart => exact ⟨0, [], rfl, Nat.zero_le _, Lib.hid rfl, Lib.hid (fun j h => by omega), Lib.hid (OwnK.nil _ _ _ _ _), Lib.hid (Below.refl _ _)⟩
    case round =>
      obtain ⟨k, s, rfl, hk, hP, hQ, hO, hB⟩ := hrel
      obtain ⟨A5, c5, rfl, h5⟩ := own_rs hO.out
      by_cases hlt : k < l.length
      · have hli : (k : Int) < (l.length : Int) := by omega
        have hk1 : IntKind.i64.wrap ((k : Int) + 1) = ((k + 1 : Nat) : Int) := by rw [IntWalk.i64_in _ (by have := HL.out; omega)]; omega
        obtain ⟨ad, rfl, k0⟩ := rd_int (HS.out.below hB.out) k hlt
        have HNX := Lib.hid (show rnK (l.take (k + 1)) = rnS s (nth 0 l k) by rw [rnK_take l k hlt, hP.out])
        have HLN := Lib.hid (show s.length ≤ 128 by have := rnK_len l k hk; rw [hP.out] at this; have := HL.out; omega)
        have HBD := Lib.hid (show ∀ j, j < s.length → 1 ≤ (nth (0, 0) s j).2 ∧ (nth (0, 0) s j).2 ≤ 128 from fun j hj => by have := rnK_bd l k hk j (by rw [hP.out]; exact hj); rw [hP.out] at this; have := HL.out; omega)
        have HBA := Lib.hid (bad_at l k hlt)
        have HQ2 := Lib.hid (fun (h : ¬ (nth 0 l k < 0 ∨ 8 ≤ nth 0 l k)) j (hj : j < k + 1) => show ¬ (nth 0 l j < 0 ∨ 8 ≤ nth 0 l j) by
          rcases Nat.lt_or_ge j k with h1 | h1
          · exact hQ.out j h1
          · obtain rfl : j = k := by omega
            exact h)
        generalize nth 0 l k = x at k0 HNX HBA HQ2
        by_cases hb : x < 0 ∨ 8 ≤ x
        · have HE := Lib.hid (show runsE l = 4 by unfold runsE; rw [if_neg (by have := HL.out; omega), if_pos (HBA.out hb)])
          have hcs : decide (x < 0) = true ∨ (decide (x < 0) = false ∧ decide (8 ≤ x) = true) := by
            by_cases h1 : x < 0
            · exact .inl (decide_eq_true h1)
            · exact .inr ⟨decide_eq_false h1, decide_eq_true (by omega)⟩
          clear hb
          rcases hcs with d1 | ⟨d1, d2⟩
          all_goals
            go_wp2
            go_ret2
            exact ⟨_, ret_two rfl (by rw [HE.out]; rfl), by unfold runsL; rw [HE.out, if_pos (by decide)]; exact OwnK.nil _ _ _ _ _, hB.out⟩
        · have HQ3 := Lib.hid (HQ2.out hb)
          have d1 : decide (x < 0) = false := decide_eq_false (by omega)
          have d2 : decide (8 ≤ x) = false := decide_eq_false (by omega)
          have H5 := Lib.hid h5.any
          clear hb h5
          cases hc : decide (0 < s.length ∧ (nth (0, 0) s (s.length - 1)).1 = x)
          · have HNS := Lib.hid (show rnS s x = s ++ [(x, 1)] from if_neg (of_decide_eq_false hc))
            have HC := Lib.hid hc
            clear hc
            go_wp2_with (first
              | (go_at_call 48; refine (HR1.out A5 c5 s x _ H5.out (by have := HLN.out; omega)).mono ?_; rw [HC.out]; rintro e w3 ⟨rfl, rfl⟩)
              | (at_builtin; (refine append_k (W := wr) (k := kSe) w.heap.size rfl (.tmp 17) (.tmp 20) 23 47 (.agg #[.int .i64 0, .int .i64 0]) 16 (fun _ => False) rfl Tryz.underlying23 infoSe rfl (by decide) (by decide) _ s (x, 1) [.int .i64 x, .int .i64 1] rfl rfl rfl hO.out rfl hB.out.size (by have := HLN.out; omega) ?_); intro g5 cap5 w5 hO5 hg5 hb5 ha5; have HO5 := Lib.hid hO5; have HB5 := Lib.hid (hB.out.grown hg5 hB.out.size hO.out.base_le); clear hO5 hg5 ha5))
            go_roundw
            case rel => exact ⟨k + 1, s ++ [(x, 1)], by first | rfl | go_num, by omega, Lib.hid (by rw [HNX.out, HNS.out]), HQ3, HO5, HB5⟩
            case measure => simp [intOf] <;> omega
          · obtain ⟨h0, hx⟩ := of_decide_eq_true hc
            have HC := Lib.hid hc
            obtain ⟨j, hj⟩ : ∃ j, s.length - 1 = j := ⟨_, rfl⟩
            have hjl : j < s.length := by omega
            have hns : rnS s x = s.set j ((nth (0, 0) s j).1, (nth (0, 0) s j).2 + 1) := by unfold rnS; rw [if_pos ⟨h0, hx⟩, hj]
            obtain ⟨g, cap, hf, hg, _⟩ := hO.out.form h0
            injection hf with e1 e2 e3
            subst e1 e3
            obtain ⟨q0, q1, q2⟩ := hO.out.at_ j hjl
            have HSET := Lib.hid (hO.out.set j hjl ((nth (0, 0) s j).2 + 1))
            rw [← hns] at HSET
            have hbd := HBD.out j hjl
            generalize (nth (0, 0) s j).2 = y at q1 HSET hbd
            have hwy : IntKind.i64.wrap (y + 1) = y + 1 := IntWalk.i64_in _ (by omega)
            have hw : IntKind.i64.wrap ((s.length : Int) - 1) = (j : Int) := by rw [IntWalk.i64_in _ (by have := HLN.out; omega)]; omega
            have hji : (j : Int) < (s.length : Int) := by omega
            have hj0 : (0 : Int) ≤ (j : Int) := by omega
            have HB6 := Lib.hid (hB.out.trans ((Upd.of_grown (o := fun z => w.heap.size ≤ z) HSET.out.2 (fun r e => by cases e; exact hg)).below (n := w.heap.size) hB.out.size (fun z _ h => h)))
            clear hc hj hns h0 hx e2 hbd
            go_wp2_with (go_at_call 48; refine (HR1.out _ _ s x _ H5.out (by have := HLN.out; omega)).mono ?_; rw [HC.out]; rintro e w3 ⟨rfl, rfl⟩)
            go_roundw
            case rel => exact ⟨k + 1, rnS s x, by first | rfl | go_num, by omega, HNX, HQ3, Lib.hid HSET.out.1, HB6⟩
            case measure => simp [intOf] <;> omega
      · obtain rfl : k = l.length := by omega
        have HE := Lib.hid (show runsE l = 0 by unfold runsE; rw [if_neg (by have := HL.out; omega), if_neg (by rw [bad_no l hQ.out]; simp)])
        have HS2 := Lib.hid (show rnK l = s by have h9 := hP.out; rw [List.take_length] at h9; exact h9)
        go_wp2
        go_ret2
        exact ⟨_, ret_two rfl (by rw [HE.out]; rfl), by unfold runsL; rw [HE.out, if_neg (by simp), HS2.out]; exact hO.out, hB.out⟩
end Go.Proofs.YtmcdgmiheklbeaaGreatDoor

namespace Go.Proofs.YtmcdgmiheklbeaaGreatDoor
open Go.RowKit

/-- Two lists of sections are the same. -/
def sameS (a b : List (Int × Int)) : Bool := decide (a = b)
theorem sameS_end {a b : List (Int × Int)} (hl : a.length = b.length) (h : ∀ j, j < a.length → nth (0, 0) a j = nth (0, 0) b j) : sameS a b = true := by
  refine decide_eq_true (List.ext_getElem hl fun i h1 h2 => ?_)
  have := h i h1
  rwa [nth_eq (0, 0) a i h1, nth_eq (0, 0) b i h2] at this
theorem sameS_refl (a : List (Int × Int)) : sameS a a = true := decide_eq_true rfl
set_option maxHeartbeats 1000000 in
set_option maxRecDepth 100000 in
theorem rsame_any (A B : Option Addr) (c d : Nat) (a b : List (Int × Int)) (w : World) (hS : RS w A c a) (hT : RS w B d b) :
    Calls Tryz.prog 17 #[.slice A a.length c, .slice B b.length d] w fun e w' => e = .returned (.bool (sameS a b)) ∧ Below w.heap.size w w' := by
  by_cases hl : a.length = b.length
  · have hb : ((a.length : Int) != (b.length : Int)) = false := by simp [hl]
    have hls : a.length ≤ 9223372036854775807 := Nat.le_trans hS.1 hS.cap
    have HLS := Lib.hid hls
    have HL := Lib.hid hl
    have HS := Lib.hid hS
    have HT := Lib.hid hT
    clear hl hls hS hT
    go_enter Tryz.func17, Tryz.ntmps17
    go_wp2
    go_loopw [5, 13] (fun iv kv wr => ∃ k : Nat, kv = .int .i64 (k : Int) ∧ k ≤ a.length ∧ Hid (∀ j, j < k → nth (0, 0) a j = nth (0, 0) b j) ∧ Hid (Below w.heap.size w wr)) (fun _ kv _ => a.length - (intOf kv).toNat)
    case atStart => exact ⟨0, rfl, Nat.zero_le _, Lib.hid (fun j h => by omega), Lib.hid (Below.refl _ _)⟩
    case round =>
      obtain ⟨k, rfl, hk, hE, hB⟩ := hrel
      by_cases hlt : k < a.length
      · have hli : (k : Int) < (a.length : Int) := by omega
        have hli2 : (k : Int) < (b.length : Int) := by have := HL.out; omega
        have hk0 : (0 : Int) ≤ (k : Int) := by omega
        have hk1 : IntKind.i64.wrap ((k : Int) + 1) = ((k + 1 : Nat) : Int) := by rw [IntWalk.i64_in _ (by have := HLS.out; omega)]; omega
        obtain ⟨ad, rfl, _, p0, p1⟩ := rd_se (HS.out.below hB.out) k hlt
        obtain ⟨ae, rfl, _, q0, q1⟩ := rd_se (HT.out.below hB.out) k (by have := HL.out; omega)
        by_cases he : nth (0, 0) a k = nth (0, 0) b k
        · have HE := Lib.hid he
          rw [he] at p0 p1
          generalize nth (0, 0) b k = y at p0 p1 q0 q1
          clear he
          go_wp2_with fail
          go_quiet (fail)
          go_wp2
          go_roundw
          case rel =>
            refine ⟨k + 1, by first | rfl | go_num, by omega, Lib.hid (fun j hj => ?_), Lib.hid (below_drewN hB.out _)⟩
            rcases Nat.lt_or_ge j k with h1 | h1
            · exact hE.out j h1
            · obtain rfl : j = k := by omega
              exact HE.out
          case measure => simp [intOf] <;> omega
        · have HN := Lib.hid (show sameS a b = false from decide_eq_false fun e => he (by rw [e]))
          have hne : ((nth (0, 0) a k).1 == (nth (0, 0) b k).1 && (nth (0, 0) a k).2 == (nth (0, 0) b k).2) = false := by
            rw [Bool.and_eq_false_iff]
            by_cases h1 : (nth (0, 0) a k).1 = (nth (0, 0) b k).1
            · exact .inr (by simpa using fun h2 => he (Prod.ext h1 h2))
            · exact .inl (by simpa using h1)
          have hcs : ((nth (0, 0) a k).1 == (nth (0, 0) b k).1) = false ∨ (((nth (0, 0) a k).1 == (nth (0, 0) b k).1) = true ∧ ((nth (0, 0) a k).2 == (nth (0, 0) b k).2) = false) := by
            cases h1 : ((nth (0, 0) a k).1 == (nth (0, 0) b k).1)
            · exact .inl rfl
            · rw [h1, Bool.true_and] at hne; exact .inr ⟨rfl, hne⟩
          generalize nth (0, 0) a k = x at *
          generalize nth (0, 0) b k = y at *
          clear he hne
          rcases hcs with d1 | ⟨d1, d2⟩
          all_goals
            go_wp2_with fail
            go_quiet (fail)
            go_wp2
            go_ret
            exact ⟨ret_bool HN.out.symm, below_drewN hB.out _⟩
      · obtain rfl : k = a.length := by omega
        have HN := Lib.hid (sameS_end HL.out hE.out)
        go_wp2
        go_ret
        exact ⟨ret_bool HN.out.symm, hB.out⟩
  · have hb : ((a.length : Int) != (b.length : Int)) = true := by simp; omega
    have HN := Lib.hid (show sameS a b = false from decide_eq_false fun e => hl (by rw [e]))
    clear hl
    go_enter Tryz.func17, Tryz.ntmps17
    go_wp2
    go_ret
    exact ⟨ret_bool HN.out.symm, Below.refl _ _⟩
end Go.Proofs.YtmcdgmiheklbeaaGreatDoor

namespace Go.Proofs.YtmcdgmiheklbeaaGreatDoor
open Go.RowKit

theorem rnS_last (s : List (Int × Int)) (k : Int) : (nth (0, 0) (rnS s k) ((rnS s k).length - 1)).1 = k := by
  unfold rnS
  split
  · rename_i h
    rw [List.length_set, nth_eq _ _ _ (by rw [List.length_set]; omega), List.getElem_set, if_pos rfl]
    exact h.2
  · rw [List.length_append, List.length_singleton, Nat.add_sub_cancel, nth_append_right _ _ _ _ (Nat.le_refl _), Nat.sub_self]; rfl
/-- The last section's book is the last book. -/
theorem rnK_last (l : List Int) (k : Nat) (h : k < l.length) : 0 < (rnK (l.take (k + 1))).length ∧ (nth (0, 0) (rnK (l.take (k + 1))) ((rnK (l.take (k + 1))).length - 1)).1 = nth 0 l k := by
  rw [rnK_take l k h]
  exact ⟨(rnS_len _ _).2, rnS_last _ _⟩

set_option maxHeartbeats 2000000 in
set_option maxRecDepth 100000 in
theorem rruns_any (A : Option Addr) (c : Nat) (l : List Int) (w : World) (hS : RI w A c l) (hl : l.length ≤ 128) :
    Calls Tryz.prog 76 #[.slice A l.length c] w fun e w' => ∃ v, e = .returned v ∧ OwnS w.heap.size w' v (rnK l) ∧ Below w.heap.size w w' := by
  have HL := Lib.hid hl
  have HS := Lib.hid hS
  clear hS hl
  go_enter Tryz.func76, Tryz.ntmps76
  go_wp2
  go_loopw [3, 4, 5, 8] (fun ov nv kv iv wr => ∃ (k : Nat) (s : List (Int × Int)), iv = .int .i64 (k : Int) ∧ k ≤ l.length ∧ Hid (rnK (l.take k) = s) ∧ Hid (OwnS w.heap.size wr ov s) ∧ Hid (Below w.heap.size w wr)) (fun _ _ _ iv _ => l.length - (intOf iv).toNat)
  case atStart => exact ⟨0, [], rfl, Nat.zero_le _, Lib.hid rfl, Lib.hid (OwnK.nil _ _ _ _ _), Lib.hid (Below.refl _ _)⟩
  case round =>
    obtain ⟨k, s, rfl, hk, hP, hO, hB⟩ := hrel
    obtain ⟨A5, c5, rfl, h5⟩ := own_rs hO.out
    by_cases hlt : k < l.length
    · have hli : (k : Int) < (l.length : Int) := by omega
      have hk1 : IntKind.i64.wrap ((k : Int) + 1) = ((k + 1 : Nat) : Int) := by rw [IntWalk.i64_in _ (by have := HL.out; omega)]; omega
      have hS1 := HS.out.below hB.out
      obtain ⟨ad, hAD, k0⟩ := rd_int hS1 k hlt
      subst hAD
      have HNX := Lib.hid (show rnK (l.take (k + 1)) = rnS s (nth 0 l k) by rw [rnK_take l k hlt, hP.out])
      have HLN := Lib.hid (show s.length ≤ 128 by have := rnK_len l k hk; rw [hP.out] at this; have := HL.out; omega)
      have HBD := Lib.hid (show ∀ j, j < s.length → 1 ≤ (nth (0, 0) s j).2 ∧ (nth (0, 0) s j).2 ≤ 128 from fun j hj => by have := rnK_bd l k hk j (by rw [hP.out]; exact hj); rw [hP.out] at this; have := HL.out; omega)
      have hcs : (∃ q, k = q + 1 ∧ nth 0 l q = nth 0 l k ∧ 0 < s.length ∧ (nth (0, 0) s (s.length - 1)).1 = nth 0 l k) ∨ (¬ (0 < s.length ∧ (nth (0, 0) s (s.length - 1)).1 = nth 0 l k) ∧ (k = 0 ∨ ∃ q, k = q + 1 ∧ nth 0 l q ≠ nth 0 l k)) := by
        match k, hlt, hP.out with
        | 0, _, hp => exact .inr ⟨fun h => by rw [← hp] at h; simp [rnK] at h, .inl rfl⟩
        | q + 1, hlt, hp =>
          obtain ⟨h1, h2⟩ := rnK_last l q (by omega)
          rw [hp] at h1 h2
          by_cases e : nth 0 l q = nth 0 l (q + 1)
          · exact .inl ⟨q, rfl, e, h1, h2.trans e⟩
          · exact .inr ⟨fun h => e (h2.symm.trans h.2), .inr ⟨q, rfl, e⟩⟩
      rcases hcs with ⟨q, hkq, hqe, h0, hx⟩ | ⟨hno, hkq⟩
      · obtain ⟨ad', hAD, kq⟩ := rd_int hS1 q (by omega)
        cases hAD
        rw [hqe] at kq
        generalize nth 0 l k = x at k0 kq HNX hx
        have hd0 : decide ((0 : Int) < (k : Int)) = true := decide_eq_true (by omega)
        have hz0 : 0 < k := by omega
        have hwq : IntKind.i64.wrap ((k : Int) - 1) = (q : Int) := by rw [IntWalk.i64_in _ (by have := HL.out; omega)]; omega
        have hqi : (q : Int) < (l.length : Int) := by omega
        have hq0 : (0 : Int) ≤ (q : Int) := by omega
        obtain ⟨j, hj⟩ : ∃ j, s.length - 1 = j := ⟨_, rfl⟩
        have hjl : j < s.length := by omega
        have hns : rnS s x = s.set j ((nth (0, 0) s j).1, (nth (0, 0) s j).2 + 1) := by unfold rnS; rw [if_pos ⟨h0, hx⟩, hj]
        obtain ⟨g, cap, hf, hg, _⟩ := hO.out.form h0
        injection hf with e1 e2 e3
        subst e1 e3
        obtain ⟨q0, q1, q2⟩ := hO.out.at_ j hjl
        have HSET := Lib.hid (hO.out.set j hjl ((nth (0, 0) s j).2 + 1))
        rw [← hns] at HSET
        have hbd := HBD.out j hjl
        generalize (nth (0, 0) s j).2 = y at q1 HSET hbd
        have hwy : IntKind.i64.wrap (y + 1) = y + 1 := IntWalk.i64_in _ (by omega)
        have hw : IntKind.i64.wrap ((s.length : Int) - 1) = (j : Int) := by rw [IntWalk.i64_in _ (by have := HLN.out; omega)]; omega
        have hji : (j : Int) < (s.length : Int) := by omega
        have hj0 : (0 : Int) ≤ (j : Int) := by omega
        have HB6 := Lib.hid (hB.out.trans ((Upd.of_grown (o := fun z => w.heap.size ≤ z) HSET.out.2 (fun r e => by cases e; exact hg)).below (n := w.heap.size) hB.out.size (fun z _ h => h)))
        clear hj hns h0 hx e2 hbd hqe hS1 h5 hkq
        go_wp2
        go_roundw
        case rel => exact ⟨k + 1, rnS s x, by first | rfl | go_num, by omega, HNX, Lib.hid HSET.out.1, HB6⟩
        case measure => simp [intOf] <;> omega
      · have HNS := Lib.hid (show rnS s (nth 0 l k) = s ++ [(nth 0 l k, 1)] from if_neg hno)
        clear hno h5
        rcases hkq with hk0 | ⟨q, rfl, hne⟩
        · generalize nth 0 l k = x at k0 HNX HNS
          have hd0 : decide ((0 : Int) < (k : Int)) = false := decide_eq_false (by omega)
          have hz0 : ¬ 0 < k := by omega
          clear hk0
          go_wp2_with (at_builtin; (refine append_k (W := wr) (k := kSe) w.heap.size rfl (.tmp 34) (.tmp 37) 23 47 (.agg #[.int .i64 0, .int .i64 0]) 16 (fun _ => False) rfl Tryz.underlying23 infoSe rfl (by decide) (by decide) _ s (x, 1) [.int .i64 x, .int .i64 1] rfl rfl rfl hO.out rfl hB.out.size (by have := HLN.out; omega) ?_); intro g5 cap5 w5 hO5 hg5 hb5 ha5; have HO5 := Lib.hid hO5; have HB5 := Lib.hid (hB.out.grown hg5 hB.out.size hO.out.base_le); clear hO5 hg5 ha5)
          go_roundw
          case rel => exact ⟨k + 1, s ++ [(x, 1)], by first | rfl | go_num, by omega, Lib.hid (by rw [HNX.out, HNS.out]), HO5, HB5⟩
          case measure => simp [intOf] <;> omega
        · obtain ⟨ad', hAD, kq⟩ := rd_int hS1 q (by omega)
          cases hAD
          have hxy : (nth 0 l q == nth 0 l (q + 1)) = false := by simpa using hne
          generalize nth 0 l (q + 1) = x at k0 HNX HNS hxy
          generalize nth 0 l q = z at kq hxy
          have hd0 : decide ((0 : Int) < ((q + 1 : Nat) : Int)) = true := decide_eq_true (by omega)
          have hwq : IntKind.i64.wrap (((q + 1 : Nat) : Int) - 1) = (q : Int) := by rw [IntWalk.i64_in _ (by have := HL.out; omega)]; omega
          have hqi : (q : Int) < (l.length : Int) := by omega
          have hq0 : (0 : Int) ≤ (q : Int) := by omega
          obtain ⟨Z, hZ⟩ : ∃ Z, q + 1 = Z := ⟨_, rfl⟩
          rw [hZ] at hd0 hwq k0 hk1 hlt hli hk hP HNX ⊢
          have hz0 : 0 < Z := by omega
          clear hne hZ hS1
          go_wp2_with (at_builtin; (refine append_k (W := wr) (k := kSe) w.heap.size rfl (.tmp 34) (.tmp 37) 23 47 (.agg #[.int .i64 0, .int .i64 0]) 16 (fun _ => False) rfl Tryz.underlying23 infoSe rfl (by decide) (by decide) _ s (x, 1) [.int .i64 x, .int .i64 1] rfl rfl rfl hO.out rfl hB.out.size (by have := HLN.out; omega) ?_); intro g5 cap5 w5 hO5 hg5 hb5 ha5; have HO5 := Lib.hid hO5; have HB5 := Lib.hid (hB.out.grown hg5 hB.out.size hO.out.base_le); clear hO5 hg5 ha5)
          go_roundw
          case rel => exact ⟨Z + 1, s ++ [(x, 1)], by first | rfl | go_num, by omega, Lib.hid (by rw [HNX.out, HNS.out]), HO5, HB5⟩
          case measure => simp [intOf] <;> omega
    · obtain rfl : k = l.length := by omega
      have HS2 := Lib.hid (show rnK l = s by have h9 := hP.out; rw [List.take_length] at h9; exact h9)
      go_wp2
      go_ret
      exact ⟨_, rfl, by rw [HS2.out]; exact hO.out, hB.out⟩
end Go.Proofs.YtmcdgmiheklbeaaGreatDoor

namespace Go.Proofs.YtmcdgmiheklbeaaGreatDoor
open Go.RowKit

def widV (ws : List Int) (j : Nat) : Nat := (nth 0 ws j).toNat
def sumV (ws : List Int) (k : Nat) : Nat := sumTo k (widV ws)
theorem sumV_succ (ws : List Int) (k : Nat) : sumV ws (k + 1) = sumV ws k + widV ws k := sumTo_succ _ _
def okV (x : Int) : Bool := decide (1 ≤ x) && decide (x ≤ 128)
theorem all_okV_take (ws : List Int) (k : Nat) (h : k < ws.length) : (ws.take (k + 1)).all okV = ((ws.take k).all okV && okV (nth 0 ws k)) := by
  rw [take_succ_nth 0 ws k h, List.all_append]; simp
theorem all_okV_no {ws : List Int} {k : Nat} (h : k < ws.length) (hk : okV (nth 0 ws k) = false) : ws.all okV = false := by
  cases he : ws.all okV
  · rfl
  · have := List.all_eq_true.1 he _ (nth_mem 0 ws k h)
    rw [hk] at this; cases this
theorem sumV_le {ws : List Int} : ∀ k, k ≤ ws.length → (ws.take k).all okV = true → sumV ws k ≤ 128 * k
  | 0, _, _ => Nat.le_refl _
  | k + 1, h, ha => by
    rw [all_okV_take ws k (by omega), Bool.and_eq_true] at ha
    have h1 := sumV_le k (by omega) ha.1
    have h2 : 1 ≤ nth 0 ws k ∧ nth 0 ws k ≤ 128 := by simpa [okV] using ha.2
    rw [sumV_succ]; unfold widV; omega
theorem sumV_mono (ws : List Int) (k : Nat) : ∀ d, sumV ws k ≤ sumV ws (k + d)
  | 0 => Nat.le_refl _
  | d + 1 => by
    have := sumV_mono ws k d
    rw [show k + (d + 1) = (k + d) + 1 by omega, sumV_succ]; omega
set_option maxHeartbeats 2000000 in
set_option maxRecDepth 100000 in
theorem right18_any (A : Option Addr) (c : Nat) (ws : List Int) (w : World) (hS : RI w A c ws) (hw : ws.length ≤ 100000) :
    Calls Tryz.prog 49 #[.slice A ws.length c] w fun e w' => e = .returned (.tuple #[.int .i64 (if ws.all okV = true then (sumV ws ws.length : Int) else 0), .bool (ws.all okV && decide (ws.length ≤ 128))]) ∧ w = w' := by
  have HS := Lib.hid hS
  obtain ⟨R, hR⟩ : ∃ R : Int, (if ws.all okV = true then (sumV ws ws.length : Int) else 0) = R := ⟨_, rfl⟩
  have HR := Lib.hid hR
  rw [hR]
  clear hS hR
  go_enter Tryz.func49, Tryz.ntmps49
  go_wp2
  go_loopw [4, 9] (fun nv iv wr => ∃ k : Nat, iv = .int .i64 (k : Int) ∧ k ≤ ws.length ∧ nv = .int .i64 (sumV ws k : Int) ∧ Hid ((ws.take k).all okV = true) ∧ w = wr) (fun _ iv _ => ws.length - (intOf iv).toNat)
  case atStart => exact ⟨0, rfl, Nat.zero_le _, rfl, Lib.hid rfl, rfl⟩
  case round =>
    obtain ⟨k, rfl, hk, rfl, hA, rfl⟩ := hrel
    by_cases hlt : k < ws.length
    · obtain ⟨ad, rfl, hc⟩ := rd_int HS.out k hlt
      have hki : (k : Int) < (ws.length : Int) := by omega
      have HN := Lib.hid (all_okV_take ws k hlt)
      have HNO := Lib.hid (all_okV_no hlt)
      have hsl := sumV_le k hk hA.out
      have HSU := Lib.hid (sumV_succ ws k)
      have hwd : widV ws k = (nth 0 ws k).toNat := rfl
      obtain ⟨T, hT⟩ : ∃ T, sumV ws k = T := ⟨_, rfl⟩
      rw [hT] at hsl HSU
      obtain ⟨S, hS2⟩ : ∃ S, sumV ws (k + 1) = S := ⟨_, rfl⟩
      rw [hS2] at HSU
      generalize nth 0 ws k = x at hc HN HNO hwd
      by_cases h1 : x < 1
      · have e1 : decide (x < 1) = true := decide_eq_true h1
        have HQ := Lib.hid (show ws.all okV = false from HNO.out (by unfold okV; rw [decide_eq_false (by omega)]; rfl))
        rw [hT]
        clear h1 hwd hT hS2
        go_wp2
        go_ret2
        exact ⟨ret_two (by rw [← HR.out, if_neg (by rw [HQ.out]; simp)]; rfl) (by rw [HQ.out]; rfl), rfl⟩
      · have e1 : decide (x < 1) = false := decide_eq_false h1
        by_cases h2 : 128 < x
        · have e2 : decide (128 < x) = true := decide_eq_true h2
          have HQ := Lib.hid (show ws.all okV = false from HNO.out (by unfold okV; rw [decide_eq_false (by omega : ¬ x ≤ 128)]; simp))
          rw [hT]
          clear h1 h2 hwd hT hS2
          go_wp2
          go_ret2
          exact ⟨ret_two (by rw [← HR.out, if_neg (by rw [HQ.out]; simp)]; rfl) (by rw [HQ.out]; rfl), rfl⟩
        · have e2 : decide (128 < x) = false := decide_eq_false h2
          have HA2 := Lib.hid (show (ws.take (k + 1)).all okV = true by rw [HN.out, hA.out]; unfold okV; rw [decide_eq_true (by omega), decide_eq_true (by omega)]; rfl)
          have hws : IntKind.i64.wrap ((T : Int) + x) = (S : Int) := by rw [IntWalk.i64_in _ (by omega)]; have := HSU.out; omega
          have HS2 := Lib.hid hS2
          rw [hT]
          clear h1 h2 hwd hT hS2 hsl
          go_wp2
          go_roundw
          case rel => exact ⟨k + 1, by go_num, by omega, by rw [HS2.out], HA2, trivial⟩
          case measure => simp [intOf]; omega
    · obtain rfl : k = ws.length := by omega
      have HALL := Lib.hid (show ws.all okV = true by have := hA.out; rwa [List.take_length] at this)
      by_cases h128 : ws.length ≤ 128
      · have hd : decide ((ws.length : Int) ≤ 128) = true := decide_eq_true (by omega)
        have HD := Lib.hid (show decide (ws.length ≤ 128) = true from decide_eq_true h128)
        clear h128
        go_wp2
        go_ret2
        exact ⟨ret_two (by rw [← HR.out, if_pos HALL.out]; rfl) (by rw [HALL.out, HD.out]; rfl), rfl⟩
      · have hd : decide ((ws.length : Int) ≤ 128) = false := decide_eq_false (by omega)
        have HD := Lib.hid (show decide (ws.length ≤ 128) = false from decide_eq_false h128)
        clear h128
        go_wp2
        go_ret2
        exact ⟨ret_two (by rw [← HR.out, if_pos HALL.out]; rfl) (by rw [HALL.out, HD.out]; rfl), rfl⟩
set_option maxHeartbeats 2000000 in
set_option maxRecDepth 100000 in
theorem widths18_any (A : Option Addr) (c : Nat) (ws : List Int) (w : World) (hS : RI w A c ws) (hw : ws.length ≤ 100000) :
    Calls Tryz.prog 68 #[.slice A ws.length c] w fun e w' => e = .returned (.tuple #[.int .i64 (if ws.all okV = true then (sumV ws ws.length : Int) else 0), .bool (ws.all okV && decide (ws.length ≤ 128))]) ∧ w = w' := by
  have HS := Lib.hid hS
  obtain ⟨R, hR⟩ : ∃ R : Int, (if ws.all okV = true then (sumV ws ws.length : Int) else 0) = R := ⟨_, rfl⟩
  have HR := Lib.hid hR
  rw [hR]
  clear hS hR
  go_enter Tryz.func68, Tryz.ntmps68
  go_wp2
  go_loopw [4, 9] (fun nv iv wr => ∃ k : Nat, iv = .int .i64 (k : Int) ∧ k ≤ ws.length ∧ nv = .int .i64 (sumV ws k : Int) ∧ Hid ((ws.take k).all okV = true) ∧ w = wr) (fun _ iv _ => ws.length - (intOf iv).toNat)
  case atStart => exact ⟨0, rfl, Nat.zero_le _, rfl, Lib.hid rfl, rfl⟩
  case round =>
    obtain ⟨k, rfl, hk, rfl, hA, rfl⟩ := hrel
    by_cases hlt : k < ws.length
    · obtain ⟨ad, rfl, hc⟩ := rd_int HS.out k hlt
      have hki : (k : Int) < (ws.length : Int) := by omega
      have HN := Lib.hid (all_okV_take ws k hlt)
      have HNO := Lib.hid (all_okV_no hlt)
      have hsl := sumV_le k hk hA.out
      have HSU := Lib.hid (sumV_succ ws k)
      have hwd : widV ws k = (nth 0 ws k).toNat := rfl
      obtain ⟨T, hT⟩ : ∃ T, sumV ws k = T := ⟨_, rfl⟩
      rw [hT] at hsl HSU
      obtain ⟨S, hS2⟩ : ∃ S, sumV ws (k + 1) = S := ⟨_, rfl⟩
      rw [hS2] at HSU
      generalize nth 0 ws k = x at hc HN HNO hwd
      by_cases h1 : x < 1
      · have e1 : decide (x < 1) = true := decide_eq_true h1
        have HQ := Lib.hid (show ws.all okV = false from HNO.out (by unfold okV; rw [decide_eq_false (by omega)]; rfl))
        rw [hT]
        clear h1 hwd hT hS2
        go_wp2
        go_ret2
        exact ⟨ret_two (by rw [← HR.out, if_neg (by rw [HQ.out]; simp)]; rfl) (by rw [HQ.out]; rfl), rfl⟩
      · have e1 : decide (x < 1) = false := decide_eq_false h1
        by_cases h2 : 128 < x
        · have e2 : decide (128 < x) = true := decide_eq_true h2
          have HQ := Lib.hid (show ws.all okV = false from HNO.out (by unfold okV; rw [decide_eq_false (by omega : ¬ x ≤ 128)]; simp))
          rw [hT]
          clear h1 h2 hwd hT hS2
          go_wp2
          go_ret2
          exact ⟨ret_two (by rw [← HR.out, if_neg (by rw [HQ.out]; simp)]; rfl) (by rw [HQ.out]; rfl), rfl⟩
        · have e2 : decide (128 < x) = false := decide_eq_false h2
          have HA2 := Lib.hid (show (ws.take (k + 1)).all okV = true by rw [HN.out, hA.out]; unfold okV; rw [decide_eq_true (by omega), decide_eq_true (by omega)]; rfl)
          have hws : IntKind.i64.wrap ((T : Int) + x) = (S : Int) := by rw [IntWalk.i64_in _ (by omega)]; have := HSU.out; omega
          have HS2 := Lib.hid hS2
          rw [hT]
          clear h1 h2 hwd hT hS2 hsl
          go_wp2
          go_roundw
          case rel => exact ⟨k + 1, by go_num, by omega, by rw [HS2.out], HA2, trivial⟩
          case measure => simp [intOf]; omega
    · obtain rfl : k = ws.length := by omega
      have HALL := Lib.hid (show ws.all okV = true by have := hA.out; rwa [List.take_length] at this)
      by_cases h128 : ws.length ≤ 128
      · have hd : decide ((ws.length : Int) ≤ 128) = true := decide_eq_true (by omega)
        have HD := Lib.hid (show decide (ws.length ≤ 128) = true from decide_eq_true h128)
        clear h128
        go_wp2
        go_ret2
        exact ⟨ret_two (by rw [← HR.out, if_pos HALL.out]; rfl) (by rw [HALL.out, HD.out]; rfl), rfl⟩
      · have hd : decide ((ws.length : Int) ≤ 128) = false := decide_eq_false (by omega)
        have HD := Lib.hid (show decide (ws.length ≤ 128) = false from decide_eq_false h128)
        clear h128
        go_wp2
        go_ret2
        exact ⟨ret_two (by rw [← HR.out, if_pos HALL.out]; rfl) (by rw [HALL.out, HD.out]; rfl), rfl⟩

/-- The error of widths and values. -/
def sureE (ws l : List Int) : Int := if ws.all okV = true ∧ ws.length ≤ 128 ∧ sumV ws ws.length = l.length then (if quantB l = true then 0 else 6) else 1
theorem checked0 (l : List Int) : checkedK 0 l = if quantB l = true then 0 else 6 := by
  unfold checkedK
  rw [if_neg (by omega)]
  cases quantB l <;> simp
set_option maxHeartbeats 1000000 in
theorem checked18_any (A B : Option Addr) (c d : Nat) (ws l : List Int) (w : World) (hS : RI w A c ws) (hT : RI w B d l) (hw : ws.length ≤ 100000) (hG : GF w) :
    Calls Tryz.prog 26 #[.slice A ws.length c, .slice B l.length d] w fun e w' => e = .returned (.int .i64 (sureE ws l)) ∧ Below w.heap.size w w' := by
  have HR := Lib.hid (right18_any A c ws w hS hw)
  have HF := Lib.hid (bfits_any B d 0 l w hT hG)
  rw [checked0] at HF
  generalize fitsV 0 l = F at HF
  by_cases ha : ws.all okV = true ∧ ws.length ≤ 128
  · rw [if_pos ha.1, ha.1, decide_eq_true ha.2] at HR
    by_cases hs : sumV ws ws.length = l.length
    · have HE := Lib.hid (show sureE ws l = if quantB l = true then 0 else 6 by unfold sureE; rw [if_pos ⟨ha.1, ha.2, hs⟩])
      rw [hs] at HR
      clear ha hs
      cases hq : quantB l
      · rw [hq] at HF HE
        clear hq
        go_enter Tryz.func26, Tryz.ntmps26
        go_wp2_with (first
          | (go_at_call 49; refine HR.out.mono ?_; rintro e w2 ⟨rfl, rfl⟩)
          | (go_at_call 53; refine HF.out.mono ?_; rintro e w3 ⟨rfl, b3⟩))
        go_ret
        exact ⟨ret_int (by rw [HE.out]; rfl), b3⟩
      · rw [hq] at HF HE
        clear hq
        go_enter Tryz.func26, Tryz.ntmps26
        go_wp2_with (first
          | (go_at_call 49; refine HR.out.mono ?_; rintro e w2 ⟨rfl, rfl⟩)
          | (go_at_call 53; refine HF.out.mono ?_; rintro e w3 ⟨rfl, b3⟩))
        go_ret
        exact ⟨ret_int (by rw [HE.out]; rfl), b3⟩
    · have HE := Lib.hid (show sureE ws l = 1 by unfold sureE; rw [if_neg (fun h => hs h.2.2)])
      have hne : ((sumV ws ws.length : Int) != (l.length : Int)) = true := by simp; omega
      generalize sumV ws ws.length = S at *
      clear ha hs
      go_enter Tryz.func26, Tryz.ntmps26
      go_wp2_with (go_at_call 49; refine HR.out.mono ?_; rintro e w2 ⟨rfl, rfl⟩)
      go_ret
      exact ⟨ret_int (by rw [HE.out]), Below.refl _ _⟩
  · have HE := Lib.hid (show sureE ws l = 1 by unfold sureE; rw [if_neg (fun h => ha ⟨h.1, h.2.1⟩)])
    have hb : (ws.all okV && decide (ws.length ≤ 128)) = false := by
      rw [Bool.and_eq_false_iff]
      by_cases h1 : ws.all okV = true
      · exact .inr (decide_eq_false fun h2 => ha ⟨h1, h2⟩)
      · exact .inl (by simpa using h1)
    rw [hb] at HR
    generalize (if ws.all okV = true then (sumV ws ws.length : Int) else 0) = S at HR
    clear ha hb
    go_enter Tryz.func26, Tryz.ntmps26
    go_wp2_with (go_at_call 49; refine HR.out.mono ?_; rintro e w2 ⟨rfl, rfl⟩)
    go_ret
    exact ⟨ret_int (by rw [HE.out]), Below.refl _ _⟩
/-- How many bits a gamma code has. -/
def gamN (v : Nat) : Nat := 2 * Nat.log2 v + 1
set_option maxHeartbeats 1000000 in
theorem gamma18_any (v : Nat) (w : World) (hv : v ≤ 1000000) :
    Calls Tryz.prog 38 #[.int .i64 (v : Int)] w fun e w' => e = .returned (.int .i64 (gamN v : Nat)) ∧ w = w' := by
  have HV := Lib.hid hv
  go_enter Tryz.func38, Tryz.ntmps38
  go_wp2
  go_loopw [0, 3] (fun vv nv wr => ∃ x n : Nat, vv = .int .i64 (x : Int) ∧ nv = .int .i64 (n : Int) ∧ x ≤ v ∧ n ≤ 2000000 ∧ Hid (n + 2 * Nat.log2 x = gamN v) ∧ wr = w) (fun vv _ _ => (intOf vv).toNat)
  case atStart => exact ⟨v, 1, rfl, rfl, Nat.le_refl _, by omega, Lib.hid (by unfold gamN; omega), rfl⟩
  case round =>
    obtain ⟨x, n, rfl, rfl, hx, hn, hP, rfl⟩ := hrel
    by_cases h : 1 < x
    · have hd : decide ((1 : Int) < (x : Int)) = true := decide_eq_true (by omega)
      have hl := log2_half (v := x) (by omega)
      have hq : (x : Int).tdiv 2 = ((x / 2 : Nat) : Int) := by rw [Int.tdiv_eq_ediv_of_nonneg (by omega)]; omega
      have hq2 : (x : Int) / 2 = ((x / 2 : Nat) : Int) := by omega
      have hle : x / 2 < x ∧ x / 2 ≤ v := by omega
      have hll : Nat.log2 (x / 2) ≤ 1000000 := Nat.le_trans (log2_le (n := x / 2) (Nat.lt_of_lt_of_le Nat.lt_two_pow_self (Nat.pow_le_pow_right (by decide) (Nat.le_succ _)))) (by have := HV.out; omega)
      have HP2 := Lib.hid (show n + 2 + 2 * Nat.log2 (x / 2) = gamN v by have := hP.out; omega)
      have hn2 : n + 2 ≤ 2000000 := by
        have h1 := hP.out
        have h2 : gamN v ≤ 2000000 := by
          unfold gamN
          have := log2_le (v := v) (n := 20) (Nat.lt_of_le_of_lt HV.out (by decide))
          omega
        omega
      have hzz : 1 < x := h
      generalize x / 2 = y at *
      have hwy : IntKind.i64.wrap (y : Int) = (y : Int) := IntWalk.i64_in _ (by have := HV.out; omega)
      have hwn : IntKind.i64.wrap ((n : Int) + 2) = ((n + 2 : Nat) : Int) := by rw [IntWalk.i64_in _ (by omega)]; omega
      clear hl hll h
      go_wp2
      go_roundw
      case rel => exact ⟨y, n + 2, by first | rfl | go_num, by first | rfl | go_num, hle.2, hn2, HP2, by first | rfl | trivial⟩
      case measure => simp [intOf] <;> omega
    · have hd : decide ((1 : Int) < (x : Int)) = false := decide_eq_false (by omega)
      have HN := Lib.hid (show n = gamN v by have h1 := hP.out; rw [log2_one (by omega)] at h1; omega)
      have hzz : ¬ 1 < x := h
      clear h
      go_wp2
      go_ret
      exact ⟨ret_int (by rw [HN.out]), by first | rfl | trivial⟩
end Go.Proofs.YtmcdgmiheklbeaaGreatDoor
