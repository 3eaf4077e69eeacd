/- The reference's books: made: what it returns. · The reference's books: One, Shape, Lengths, Fits: what each call returns. · The reference's books: All: what it returns. · The reference's books: Add: what it returns. · The reference's books: written, Cost, Write: what each call returns. · The reference's books: Least, Best: what each call returns. · The reference's tape: Get and Gamma, with an error or without: what each call returns. · The reference's books: group: what it returns, and where the tape is then. -/
import Derived.Test.YtmcdgmiheklbeaaDoorKi
import Derived.Test.YtmcdgmiheklbeaaDoorKe
import Derived.Test.YtmcdgmiheklbeaaDoorKf
import Derived.StillTailTactics
namespace Go.Proofs.YtmcdgmiheklbeaaDoor
open Go.RowKit

theorem cntsB_length (b : Nat) : (cntsB b).length = symsB b := by simp [cntsB]
theorem cntsB_nth (b k : Nat) (h : k < symsB b) : nth 0 (cntsB b) k = ((cntE (fallB b) (sumE (mostB b) (dimB b) k) : Nat) : Int) := by
  rw [nth_eq 0 _ k (by rw [cntsB_length]; exact h)]; simp [cntsB]
theorem sumE_bd (b s : Nat) : sumE (mostB b) (dimB b) s ≤ 1000 := by
  have h1 := sumE_le (mostB b) (dimB b) s
  have h2 := Nat.mul_le_mul (dimB_pos b).2 (mostB_le b)
  omega
theorem made_res (tmps : Array Value) (W : World) (g b : Nat) (A1 : Option Addr) (n1 c1 : Nat) (A2 : Option Addr) (n2 c2 : Nat) (h : tmps[2]?.getD undef = .pointer (some ⟨g, 0, none⟩)) (B : Blk W g (bookC b A1 n1 c1 A2 n2 c2) 123) :
    (results Tryd.f88 tmps).run Tryd.prog W = .ok (.agg (bookC b A1 n1 c1 A2 n2 c2)) W := by
  have z0 := B.cell 0 rfl
  have z1 := B.cell 1 rfl
  have z2 := B.cell 2 rfl
  have z3 := B.cell 3 rfl
  have z4 := B.cell 4 rfl
  have z5 := B.cell 5 rfl
  simp [results, Tryd.f88, go_sem, h, z0, z1, z2, z3, z4, z5]
abbrev bookC0 : Array Value := #[.int .i64 0, .int .i64 0, .int .i64 0, .bool false, .slice none 0 0, .slice none 0 0]
/-- Six cells of a block are written. -/
theorem put_six {W : World} {g : Nat} {a0 a1 a2 a3 a4 a5 x0 x1 x2 x3 x4 x5 : Value} {t : TypeId} (h : Blk W g #[a0, a1, a2, a3, a4, a5] t) :
    Blk ((((((W.setCell ⟨g, 0, none⟩ x0).setCell ⟨g, 1, none⟩ x1).setCell ⟨g, 2, none⟩ x2).setCell ⟨g, 3, none⟩ x3).setCell ⟨g, 4, none⟩ x4).setCell ⟨g, 5, none⟩ x5) g #[x0, x1, x2, x3, x4, x5] t ∧
    Upd (fun z => z = g) W ((((((W.setCell ⟨g, 0, none⟩ x0).setCell ⟨g, 1, none⟩ x1).setCell ⟨g, 2, none⟩ x2).setCell ⟨g, 3, none⟩ x3).setCell ⟨g, 4, none⟩ x4).setCell ⟨g, 5, none⟩ x5) :=
  ⟨(((((h.set 0 x0).set 1 x1).set 2 x2).set 3 x3).set 4 x4).set 5 x5,
    (((((Upd.setCell (fun z => z = g) W g 0 x0 rfl).trans (Upd.setCell (fun z => z = g) _ g 1 x1 rfl) fun _ _ h => h).trans (Upd.setCell (fun z => z = g) _ g 2 x2 rfl) fun _ _ h => h).trans (Upd.setCell (fun z => z = g) _ g 3 x3 rfl) fun _ _ h => h).trans (Upd.setCell (fun z => z = g) _ g 4 x4 rfl) fun _ _ h => h).trans (Upd.setCell (fun z => z = g) _ g 5 x5 rfl) fun _ _ h => h⟩

set_option maxHeartbeats 2000000 in
set_option maxRecDepth 100000 in
theorem made_any (b : Nat) (w : World) (h1 : 1 ≤ b) (h8 : b < 8) :
    Calls Tryd.prog 88 #[.agg (bookC b none 0 0 none 0 0)] w fun e w' => ∃ A1 c1 A2 c2, e = .returned (.agg (bookM b A1 c1 A2 c2)) ∧ Sl (kInt .i64) (fun x => w.heap.size ≤ x) w' A1 c1 (tabKI b) ∧ Sl (kInt .i64) (fun x => w.heap.size ≤ x) w' A2 c2 (codesL (tabKI b)) ∧ Below w.heap.size w w' := by
  have hsb := symsB_le b h8
  have HCL := Lib.hid (cntsB_length b)
  have HCN := Lib.hid (show ∀ k, k < symsB b → (cntsB b).take (k + 1) = (cntsB b).take k ++ [((cntE (fallB b) (sumE (mostB b) (dimB b) k) : Nat) : Int)] from fun k h => by rw [take_succ_nth 0 _ k (by rw [cntsB_length]; exact h), cntsB_nth b k h])
  have HSY := Lib.hid (fun W => rsymbols_any none none 0 0 0 0 b W)
  have HSM := Lib.hid (fun s W (hs : s ≤ 1048576) => rsum_any none none 0 0 0 0 b s W hs)
  have HCT := Lib.hid (fun s W => rcount_any none none 0 0 0 0 b (sumE (mostB b) (dimB b) s) W (sumE_bd b s))
  have HLL := Lib.hid (fun A c W (hS : RI W A c (cntsB b)) => rlengths_all A c (cntsB b) 16 W hS)
  rw [(cnts_lengths b h1 h8).1, (cnts_lengths b h1 h8).2] at HLL
  have HCC := Lib.hid (fun A c W (hS : RI W A c (tabKI b)) => rcodes_any A c (tabKI b) W hS)
  rw [tabK_codes b h1 h8] at HCC
  have HCE := Lib.hid (fun s => cntE_le (F := fallB b) (fallB_le b) (sumE (mostB b) (dimB b) s))
  have HTL := Lib.hid (codesL_length (tabKI b))
  obtain ⟨g1, hg1⟩ : ∃ g1, w.heap.size = g1 := ⟨_, rfl⟩
  obtain ⟨g2, hg2⟩ : ∃ g2, g1 + 1 = g2 := ⟨_, rfl⟩
  have hba := below_alloc (Below.refl w.heap.size w) (.cells (bookC b none 0 0 none 0 0) 123)
  have B1 : Blk (w.alloc (.cells (bookC b none 0 0 none 0 0) 123)) g1 (bookC b none 0 0 none 0 0) 123 := by rw [← hg1]; exact heap_alloc_new w _
  have hbb := below_alloc (Below.refl _ (w.alloc (.cells (bookC b none 0 0 none 0 0) 123))) (.cells (bookC0) 123)
  have B2 : Blk ((w.alloc (.cells (bookC b none 0 0 none 0 0) 123)).alloc (.cells (bookC0) 123)) g2 bookC0 123 := by
    have h := heap_alloc_new (w.alloc (.cells (bookC b none 0 0 none 0 0) 123)) (.cells (bookC0) 123)
    rw [World.size_alloc, hg1, hg2] at h
    exact h
  replace B1 := B1.below hbb
  have hbz := below2 hba hbb
  obtain ⟨W0, hW0⟩ : ∃ W0, (w.alloc (.cells (bookC b none 0 0 none 0 0) 123)).alloc (.cells (bookC0) 123) = W0 := ⟨_, rfl⟩
  rw [hW0] at B1 B2 hbz
  unfold bookC0 at hW0
  go_enter Tryd.func88, Tryd.ntmps88
  have k0 := B1.cell 0 rfl
  have k1 := B1.cell 1 rfl
  have k2 := B1.cell 2 rfl
  have k3 := B1.cell 3 rfl
  have k4 := B1.cell 4 rfl
  have k5 := B1.cell 5 rfl
  go_wp2_with (go_at_call 110; refine (HSY.out _).mono ?_; rintro e W1 ⟨rfl, b1⟩)
  have HB := Lib.hid (And.intro (B1.below b1) (And.intro (B2.below b1) (below2 hbz b1)))
  have HN := Lib.hid (show w.heap.size = g1 ∧ g1 + 1 = g2 ∧ g2 < W1.heap.size from ⟨hg1, hg2, (B2.below b1).lt⟩)
  clear k0 k1 k2 k3 k4 k5 B1 B2 hbz b1 hba hbb hW0 hg1 hg2 HSY
  go_loopw [3, 4, 7] (fun ov sv iv wr => ∃ k : Nat, iv = .int .i64 (k : Int) ∧ k ≤ symsB b ∧ Hid (OwnI 3 .i64 W1.heap.size wr ov ((cntsB b).take k)) ∧ Hid (Below W1.heap.size W1 wr)) (fun _ _ iv _ => symsB b - (intOf iv).toNat)
  case atStart => exact ⟨0, rfl, Nat.zero_le _, Lib.hid (OwnI.nil _ _ _ _), Lib.hid (Below.refl _ _)⟩
  case round =>
    obtain ⟨k, rfl, hk, hO, hB⟩ := hrel
    have B1 := HB.out.1.below hB.out
    by_cases hlt : k < symsB b
    · have k0 := B1.cell 0 rfl
      have k1 := B1.cell 1 rfl
      have k2 := B1.cell 2 rfl
      have k3 := B1.cell 3 rfl
      have k4 := B1.cell 4 rfl
      have k5 := B1.cell 5 rfl
      have hki : (k : Int) < (symsB b : Int) := by omega
      have hwk : IntKind.i64.wrap ((k : Int) + 1) = (k : Int) + 1 := IntWalk.i64_in _ (by omega)
      have HT := Lib.hid (HCN.out k hlt)
      have HS1 := Lib.hid (HSM.out k wr.drew (by omega))
      have HC1 := Lib.hid (fun W => HCT.out k W)
      have hce := HCE.out k
      have hl : ((cntsB b).take k).length ≤ 256 := by rw [List.length_take]; omega
      generalize cntE (fallB b) (sumE (mostB b) (dimB b) k) = y at HT HC1 hce
      generalize sumE (mostB b) (dimB b) k = s at HS1 HC1
      have hd := (Below.refl wr.heap.size wr).drew
      clear B1 hlt
      go_wp2
      have HF := Lib.hid (show ∀ W : World, Below W1.heap.size W1 W → (W.cell? ⟨g1, 0, none⟩ = some (.int .i64 (dimB b)) ∧ W.cell? ⟨g1, 1, none⟩ = some (.int .i64 (mostB b)) ∧ W.cell? ⟨g1, 2, none⟩ = some (.int .i64 (fallB b)) ∧ W.cell? ⟨g1, 3, none⟩ = some (.bool (escB b)) ∧ W.cell? ⟨g1, 4, none⟩ = some (.slice none 0 0) ∧ W.cell? ⟨g1, 5, none⟩ = some (.slice none 0 0)) from fun W hb => ⟨(HB.out.1.below hb).cell 0 rfl, (HB.out.1.below hb).cell 1 rfl, (HB.out.1.below hb).cell 2 rfl, (HB.out.1.below hb).cell 3 rfl, (HB.out.1.below hb).cell 4 rfl, (HB.out.1.below hb).cell 5 rfl⟩)
      have hbd := below2 hB.out hd
      clear k0 k1 k2 k3 k4 k5
      refine wp_region_G 8 (fun W => W.cell? ⟨g1, 0, none⟩ = some (.int .i64 (dimB b)) ∧ W.cell? ⟨g1, 1, none⟩ = some (.int .i64 (mostB b)) ∧ W.cell? ⟨g1, 2, none⟩ = some (.int .i64 (fallB b)) ∧ W.cell? ⟨g1, 3, none⟩ = some (.bool (escB b)) ∧ W.cell? ⟨g1, 4, none⟩ = some (.slice none 0 0) ∧ W.cell? ⟨g1, 5, none⟩ = some (.slice none 0 0)) (by kernel_rfl) (HF.out _ hbd) (fun hHeld => ?_)
      refine wpAnyG_takeL (i := 0) (u3) [8] rfl (by kernel_rfl) (fun _ _ _ h => h) hHeld (by rfl) ?_ ?_
      · (intro W' hSw; (try dsimp only at hSw); go_simp)
      try simp only [Act.put, List.setIfInBounds_toArray, List.set_cons_zero, List.set_cons_succ]
      refine wpAnyG_takeL (i := 1) (.agg (bookC b none 0 0 none 0 0)) [8] rfl (by kernel_rfl) (fun _ _ _ h => h) hHeld (by rfl) ?_ ?_
      · (intro W' hSw; (try dsimp only at hSw); go_simp)
      try simp only [Act.put, List.setIfInBounds_toArray, List.set_cons_zero, List.set_cons_succ]
      refine wpAnyG_takeL (i := 2) (.agg (bookC b none 0 0 none 0 0)) [8] rfl (by kernel_rfl) (fun _ _ _ h => h) hHeld (by rfl) ?_ ?_
      · (intro W' hSw; (try dsimp only at hSw); go_simp)
      try simp only [Act.put, List.setIfInBounds_toArray, List.set_cons_zero, List.set_cons_succ]
      refine wpAnyG_takeL (i := 3) (.int .i64 (k : Int)) [8] rfl (by kernel_rfl) (fun _ _ _ h => h) hHeld (by rfl) ?_ ?_
      · (intro W' hSw; (try dsimp only at hSw); go_simp)
      try simp only [Act.put, List.setIfInBounds_toArray, List.set_cons_zero, List.set_cons_succ]
      clear hHeld
      refine wpAnyG_oneL (i := 4) (by kernel_rfl) rfl (fun K hK => ?_)
      (go_simp; go_at_call 112; refine HS1.out.mono ?_; rintro e w3 ⟨rfl, b3⟩)
      refine hK.out _ _ (fun _ => (HF.out _ (below2 hbd b3))) ?_
      clear hK K
      try simp only [Act.put, List.setIfInBounds_toArray, List.set_cons_zero, List.set_cons_succ]
      refine wpAnyG_oneL (i := 5) (by kernel_rfl) rfl (fun K hK => ?_)
      (go_simp; go_at_call 111; refine (HC1.out _).mono ?_; rintro e w4 ⟨rfl, b4⟩; have hb4 := below2 (below2 hbd b3) b4; have hba4 := below2 hb4 (below_alloc (Below.refl _ _) (.cells #[.int .i64 (y : Int)] 3)))
      refine hK.out _ _ (fun _ => (HF.out _ hb4)) ?_
      clear hK K
      try simp only [Act.put, List.setIfInBounds_toArray, List.set_cons_zero, List.set_cons_succ]
      refine wpAnyG_oneL (i := 6) (by kernel_rfl) rfl (fun K hK => ?_)
      go_simp
      refine hK.out _ _ (fun _ => (HF.out _ hba4)) ?_
      clear hK K
      try simp only [Act.put, List.setIfInBounds_toArray, List.set_cons_zero, List.set_cons_succ]
      refine wpAnyG_oneL (i := 7) (by kernel_rfl) rfl (fun K hK => ?_)
      refine step_append_row W1.heap.size rfl (.tmp 10) (.tmp 16) 25 3 .i64 8 rfl Tryd.underlying25 infoI (by decide) u3 ((cntsB b).take k) [(y : Int)] _ 1 rfl rfl ((hO.out.below (below2 (below2 hd b3) b4)).below (below_alloc (Below.refl _ _) _)) (lit_ri w4 3 .i64 [(y : Int)] (show 1 ≤ 9223372036854775807 by decide)) hba4.size (by simp; omega) ?_
      intro v1 w5 hO5 hg5 _
      have hb5 := hba4.grown hg5 hba4.size hO.out.base_le
      have HO5 := Lib.hid hO5
      have HB5 := Lib.hid hb5
      refine hK.out _ _ (fun _ => HF.out _ hb5) ?_
      clear hK K hO5 hg5 hb5
      try simp only [Act.put, List.setIfInBounds_toArray, List.set_cons_zero, List.set_cons_succ]
      refine wpAnyG_oneL (i := 8) (by kernel_rfl) rfl (fun K hK => ?_)
      go_simp
      refine hK.out _ _ (fun h => Bool.noConfusion (show true = false from h)) ?_
      clear hK K
      refine wpAnyG_done (by kernel_rfl) ?_ _
      go_wp2
      go_roundw
      case rel => exact ⟨k + 1, by go_num, by omega, by rw [HT.out]; exact HO5, HB5⟩
      case measure => simp [intOf]; omega
    · obtain rfl : k = symsB b := by omega
      have HT2 := Lib.hid (show (cntsB b).take (symsB b) = cntsB b from List.take_of_length_le (by rw [HCL.out]; exact Nat.le_refl _))
      rw [HT2.out] at hO
      obtain ⟨A3, c3, rfl, hS3⟩ := own_ri hO.out
      have HS3 := Lib.hid hS3
      have hz := hB.out.size
      have B2 := HB.out.2.1.below hB.out
      have HBB := Lib.hid (And.intro B1 B2)
      have HBL := Lib.hid (below2 HB.out.2.2 hB.out)
      obtain ⟨n, hn⟩ : ∃ n, (tabKI b).length = n := ⟨_, rfl⟩
      have HNL := Lib.hid hn
      have HM := Lib.hid (fun A c W (hS : RI W A c (tabKI b)) => (HCC.out A c W hS))
      rw [hn] at HM
      clear hS3 hO B1 B2 hlt
      have hgw := HN.out
      go_wp2_with (first
        | (go_at_call 113; refine (HLL.out _ _ _ HS3.out).mono ?_; rintro e w3 ⟨v3, rfl, hO3, b3⟩; obtain ⟨A4, c4, rfl, hs4⟩ := hO3.rd; rw [hn]; have E1 := HBB.out.1.below b3; have k4 := E1.cell 4 rfl; have f4 := E1.free 4; have D1 := Lib.hid (E1.set 4 (.slice A4 n c4)); have D2 := Lib.hid ((HBB.out.2.below b3).keep (Keep.of_grown1 (grown_setCell w3 g1 4 (.slice A4 n c4))) (by omega)); have HS4 := Lib.hid ((hs4.weak (ok' := fun x => g2 < x) (fun x _ h => by have := h.1; omega)).keep ((Keep.of_grown1 (grown_setCell w3 g1 4 (.slice A4 n c4))).weak fun x h => by omega)); have HB3 := Lib.hid b3; clear hO3 hs4 E1 b3)
        | (go_at_call 114; refine (HM.out _ _ _ HS4.out.any).mono ?_; rintro e w6 ⟨v6, rfl, hO6, b6⟩; obtain ⟨A5, c5, rfl, hs6⟩ := hO6.rd; rw [HTL.out, hn]; have E5 := D1.out.below b6; have k5 := E5.cell 5 rfl; have f5 := E5.free 5; have G1 := E5.set 5 (.slice A5 n c5); have G2 := (D2.out.below b6).keep (Keep.of_grown1 (grown_setCell w6 g1 5 (.slice A5 n c5))) (by omega); have q0 := G1.cell 0 rfl; have q1 := G1.cell 1 rfl; have q2 := G1.cell 2 rfl; have q3 := G1.cell 3 rfl; have q4 := G1.cell 4 rfl; have q5 := G1.cell 5 rfl; have p0 := G2.cell 0 rfl; have p1 := G2.cell 1 rfl; have p2 := G2.cell 2 rfl; have p3 := G2.cell 3 rfl; have p4 := G2.cell 4 rfl; have p5 := G2.cell 5 rfl; have r0 := G2.free 0; have r1 := G2.free 1; have r2 := G2.free 2; have r3 := G2.free 3; have r4 := G2.free 4; have r5 := G2.free 5; have HG2 := Lib.hid G2; have HS6 := Lib.hid hs6; have HB6 := Lib.hid b6; clear hO6 hs6 b6 E5 G1 G2))
      obtain ⟨p6, pu⟩ := put_six (x0 := .int .i64 (dimB b)) (x1 := .int .i64 (mostB b)) (x2 := .int .i64 (fallB b)) (x3 := .bool (escB b)) (x4 := .slice A4 n c4) (x5 := .slice A5 n c5) HG2.out
      refine bodyPost_ret (made_res _ _ g2 b A4 n c4 A5 n c5 rfl p6) rfl ?_
      have hw3 := HB3.out.size
      have hw6 := HB6.out.size
      have hw1 := HBL.out.size
      have U3 : Upd (fun x => w.heap.size ≤ x) wr (w3.setCell ⟨g1, 4, none⟩ (.slice A4 n c4)) := (Upd.of_below HB3.out _).trans (Upd.setCell (fun x => x = g1) w3 g1 4 _ rfl) (fun x _ e => by omega)
      have U6 : Upd (fun x => w.heap.size ≤ x) (w3.setCell ⟨g1, 4, none⟩ (.slice A4 n c4)) (w6.setCell ⟨g1, 5, none⟩ (.slice A5 n c5)) := (Upd.of_below HB6.out _).trans (Upd.setCell (fun x => x = g1) w6 g1 5 _ rfl) (fun x _ e => by omega)
      have U7 := pu.weak (o' := fun x => w.heap.size ≤ x) (fun x _ e => by omega)
      have hUU := (U3.trans U6 fun _ _ h => h).trans U7 fun _ _ h => h
      have hs4 := ((HS4.out.below HB6.out).keep ((Keep.of_grown1 (grown_setCell w6 g1 5 (.slice A5 n c5))).weak fun x h => by omega)).keep (pu.keep (ok := fun x => g2 < x) fun x h e => by omega)
      have hz3 : (w3.setCell ⟨g1, 4, none⟩ (.slice A4 n c4)).heap.size = w3.heap.size := by simp
      have hs5 := ((HS6.out.weak (ok' := fun x => g2 < x) (fun x _ h => by have := h.1; omega)).keep ((Keep.of_grown1 (grown_setCell w6 g1 5 (.slice A5 n c5))).weak fun x h => by omega)).keep (pu.keep (ok := fun x => g2 < x) fun x h e => by omega)
      refine ⟨A4, c4, A5, c5, by rw [← hn], hs4.weak (fun x _ h => by omega), hs5.weak (fun x _ h => by omega), ?_⟩
      exact HBL.out.trans (hUU.below hw1 (fun x _ h => h))
end Go.Proofs.YtmcdgmiheklbeaaDoor

namespace Go.Proofs.YtmcdgmiheklbeaaDoor
open Go.RowKit

/-- The bare books at rest. -/
structure BareAt (w : World) (g b : Nat) : Prop where
  c0 : w.cell? ⟨g, b * 6, none⟩ = some (.int .i64 (dimB b))
  c1 : w.cell? ⟨g, b * 6 + 1, none⟩ = some (.int .i64 (mostB b))
  c2 : w.cell? ⟨g, b * 6 + 2, none⟩ = some (.int .i64 (fallB b))
  c3 : w.cell? ⟨g, b * 6 + 3, none⟩ = some (.bool (escB b))
  c4 : w.cell? ⟨g, b * 6 + 4, none⟩ = some (.slice none 0 0)
  c5 : w.cell? ⟨g, b * 6 + 5, none⟩ = some (.slice none 0 0)
theorem bare_ex (w : World) :
    Calls Tryd.prog 87 #[] w fun e w' => ∃ g, e = .returned (.slice (some ⟨g, 0, none⟩) 8 8) ∧ Below w.heap.size w w' ∧ w.heap.size ≤ g ∧ (∀ b, b < 8 → BareAt w' g b) ∧ OwnK kBk 123 w.heap.size (fun b => b < w.heap.size) w' (.slice (some ⟨g, 0, none⟩) 8 8) bareL := by
  refine (bare_any w).mono ?_
  rintro e w' ⟨rfl, rfl⟩
  refine ⟨_, rfl, below_alloc (Below.refl _ _) _, Nat.le_refl _, fun b h8 => ⟨?_, ?_, ?_, ?_, ?_, ?_⟩, bare_own w⟩
  · exact bare_at w b h8 0 _ rfl
  · exact bare_at w b h8 1 _ rfl
  · exact bare_at w b h8 2 _ rfl
  · exact bare_at w b h8 3 _ rfl
  · exact bare_at w b h8 4 _ rfl
  · exact bare_at w b h8 5 _ rfl
theorem sl_nil {ok : Nat → Prop} (w : World) : Sl (kInt .i64) ok w none 0 [] := ⟨Nat.le_refl _, by omega, Kd.Rd.nil _ _ _ _⟩

end Go.Proofs.YtmcdgmiheklbeaaDoor

namespace Go.Proofs.YtmcdgmiheklbeaaDoor
open Go.RowKit

/-- The books, those ahead of number k with lengths and words. -/
def mixL (k : Nat) : List (Nat × Bool) := (List.range 8).map fun b => (b, decide (b < k))
theorem mixL_length (k : Nat) : (mixL k).length = 8 := by simp [mixL]
theorem mixL_nth (k j : Nat) (h : j < 8) : nth (0, false) (mixL k) j = (j, decide (j < k)) := by
  rw [nth_eq _ _ j (by rw [mixL_length]; exact h)]; simp [mixL]
theorem mixL_set (k : Nat) : (mixL k).set k (k, true) = mixL (k + 1) := by
  apply List.ext_getElem
  · simp [mixL]
  · intro i h1 h2
    rw [List.getElem_set]
    by_cases e : k = i
    · subst e; simp [mixL]
    · rw [if_neg e]
      simp [mixL]
      omega
theorem set_six {α : Type} (A B : List α) (a0 a1 a2 a3 a4 a5 x0 x1 x2 x3 x4 x5 : α) (n : Nat) (hA : A.length = n) :
    ((((((A ++ (a0 :: a1 :: a2 :: a3 :: a4 :: a5 :: B)).set n x0).set (n + 1) x1).set (n + 2) x2).set (n + 3) x3).set (n + 4) x4).set (n + 5) x5 = A ++ (x0 :: x1 :: x2 :: x3 :: x4 :: x5 :: B) := by
  subst hA
  simp
theorem six_of {α : Type} (L : List α) (n : Nat) (h : n + 6 ≤ L.length) : ∃ a0 a1 a2 a3 a4 a5, L = L.take n ++ (a0 :: a1 :: a2 :: a3 :: a4 :: a5 :: L.drop (n + 6)) := by
  refine ⟨L[n], L[n + 1], L[n + 2], L[n + 3], L[n + 4], L[n + 5], ?_⟩
  conv => lhs; rw [← List.take_append_drop n L]
  congr 1
  rw [List.drop_eq_getElem_cons (by omega), List.drop_eq_getElem_cons (by omega : n + 1 < L.length), List.drop_eq_getElem_cons (by omega : n + 1 + 1 < L.length), List.drop_eq_getElem_cons (by omega : n + 1 + 1 + 1 < L.length), List.drop_eq_getElem_cons (by omega : n + 1 + 1 + 1 + 1 < L.length), List.drop_eq_getElem_cons (by omega : n + 1 + 1 + 1 + 1 + 1 < L.length)]
/-- One more book of a row is written. -/
theorem all_put {W : World} {g e base cap k : Nat} {ok : Nat → Prop} {xs : List (Nat × Bool)} {y : Nat × Bool} {x0 x1 x2 x3 x4 x5 : Value} (h : OwnK kBk e base ok W (.slice (some ⟨g, 0, none⟩) xs.length cap) xs) (hk : k < xs.length) (hx : BkK (fun b => ok b ∧ b ≠ g) W y [x0, x1, x2, x3, x4, x5]) :
    OwnK kBk e base ok ((((((W.setCell ⟨g, k * 6, none⟩ x0).setCell ⟨g, k * 6 + 1, none⟩ x1).setCell ⟨g, k * 6 + 2, none⟩ x2).setCell ⟨g, k * 6 + 3, none⟩ x3).setCell ⟨g, k * 6 + 4, none⟩ x4).setCell ⟨g, k * 6 + 5, none⟩ x5) (.slice (some ⟨g, 0, none⟩) xs.length cap) (xs.set k y) ∧
    Upd (fun z => z = g) W ((((((W.setCell ⟨g, k * 6, none⟩ x0).setCell ⟨g, k * 6 + 1, none⟩ x1).setCell ⟨g, k * 6 + 2, none⟩ x2).setCell ⟨g, k * 6 + 3, none⟩ x3).setCell ⟨g, k * 6 + 4, none⟩ x4).setCell ⟨g, k * 6 + 5, none⟩ x5) := by
  have hu : Upd (fun z => z = g) W ((((((W.setCell ⟨g, k * 6, none⟩ x0).setCell ⟨g, k * 6 + 1, none⟩ x1).setCell ⟨g, k * 6 + 2, none⟩ x2).setCell ⟨g, k * 6 + 3, none⟩ x3).setCell ⟨g, k * 6 + 4, none⟩ x4).setCell ⟨g, k * 6 + 5, none⟩ x5) :=
    (((((Upd.setCell (fun z => z = g) W g (k * 6) x0 rfl).trans (Upd.setCell (fun z => z = g) _ g (k * 6 + 1) x1 rfl) fun _ _ h => h).trans (Upd.setCell (fun z => z = g) _ g (k * 6 + 2) x2 rfl) fun _ _ h => h).trans (Upd.setCell (fun z => z = g) _ g (k * 6 + 3) x3 rfl) fun _ _ h => h).trans (Upd.setCell (fun z => z = g) _ g (k * 6 + 4) x4 rfl) fun _ _ h => h).trans (Upd.setCell (fun z => z = g) _ g (k * 6 + 5) x5 rfl) fun _ _ h => h
  obtain ⟨cells, ho, hr⟩ := h
  have h6 := (((((ho.stored (k * 6) x0).1.stored (k * 6 + 1) x1).1.stored (k * 6 + 2) x2).1.stored (k * 6 + 3) x3).1.stored (k * 6 + 4) x4).1.stored (k * 6 + 5) x5
  have hlen : cells.length = xs.length * 6 := hr.1
  obtain ⟨a0, a1, a2, a3, a4, a5, e6⟩ := six_of cells (k * 6) (by omega)
  have hset := set_six (cells.take (k * 6)) (cells.drop (k * 6 + 6)) a0 a1 a2 a3 a4 a5 x0 x1 x2 x3 x4 x5 (k * 6) (by rw [List.length_take]; omega)
  rw [← e6] at hset
  have h7 := h6.1
  rw [hset] at h7
  refine ⟨⟨_, by rw [List.length_set]; exact h7, ?_⟩, hu⟩
  have hx' : kBk.K (fun b => ok b ∧ (Value.slice (some ⟨g, 0, none⟩) xs.length cap).ownBlock ≠ some b) W y [x0, x1, x2, x3, x4, x5] := kBk.weak (fun b _ hb => ⟨hb.1, fun e => hb.2 (Option.some.inj e).symm⟩) hx
  rcases hr.set k hx' with h8 | h8
  · have h9 := h8.keep (hu.keep (ok := fun b => ok b ∧ (Value.slice (some ⟨g, 0, none⟩) xs.length cap).ownBlock ≠ some b) fun b hb e => hb.2 (by rw [e]; rfl))
    simpa [kBk] using h9
  · omega
/-- A book of a row. -/
theorem rd_bk {ok : Nat → Prop} {w : World} {A : Option Addr} {c : Nat} {xs : List (Nat × Bool)} (h : Sl kBk ok w A c xs) (j : Nat) (hj : j < xs.length) :
    ∃ ad cs, A = some ad ∧ ok ad.block ∧ BkK ok w (nth (0, false) xs j) cs ∧ (∀ v, cs[0]? = some v → w.cell? (ad.add (j * 6)) = some v) ∧ ∀ i v, cs[i]? = some v → w.cell? ((ad.add (j * 6)).add i) = some v := by
  obtain ⟨ad, cs, e, ho, hl, hK, hc⟩ := h.rd j hj
  refine ⟨ad, cs, e, ho, hK, fun v hv => ?_, fun i v hv => ?_⟩
  · have := hc 0 v hv
    exact this
  · have := hc i v hv
    rw [add_add]
    exact this
theorem own_bk {ok : Nat → Prop} {w : World} {g e base cap n : Nat} {xs : List (Nat × Bool)} (h : OwnK kBk e base ok w (.slice (some ⟨g, 0, none⟩) n cap) xs) (j : Nat) (hj : j < xs.length) :
    ∃ cs, BkK (fun b => ok b ∧ b ≠ g) w (nth (0, false) xs j) cs ∧ (∀ i v, cs[i]? = some v → w.cell? ⟨g, j * 6 + i, none⟩ = some v) ∧ ∀ i, w.frozen? ⟨g, i, none⟩ = false := by
  obtain ⟨cells, ho, hr⟩ := h
  refine ⟨_, kBk.weak (fun b _ hb => ⟨hb.1, fun e => hb.2 (by rw [e]; rfl)⟩) (hr.2 j hj), fun i v hv => ?_, fun i => ?_⟩
  · rw [List.getElem?_take] at hv
    split at hv
    · rw [List.getElem?_drop] at hv
      have hc := World.ownsRow.cells ho (g := g) rfl (j * 6 + i) v hv
      rwa [add_plain] at hc
    · cases hv
  · rcases ho.2 with ⟨h', _⟩ | ⟨g', cap', cur, h', _, hh, _⟩
    · cases h'
    · have : g = g' := by injection h' with h'; injection h' with h'; injection h' with h'
      subst this
      simp [World.frozen?, hh]
theorem own_fr {ok : Nat → Prop} {w : World} {g e base cap n : Nat} {xs : List (Nat × Bool)} (h : OwnK kBk e base ok w (.slice (some ⟨g, 0, none⟩) n cap) xs) (i : Nat) : w.frozen? ⟨g, i, none⟩ = false := by
  obtain ⟨cells, ho, hr⟩ := h
  rcases ho.2 with ⟨h', _⟩ | ⟨g', cap', cur, h', _, hh, _⟩
  · cases h'
  · have : g = g' := by injection h' with h'; injection h' with h'; injection h' with h'
    subst this
    simp [World.frozen?, hh]
theorem bare_mix {ok : Nat → Prop} {w : World} {cells : List Value} (h : Reps kBk ok w bareL cells) : Reps kBk ok w (mixL 1) cells := by
  refine ⟨h.1, fun j hj => ?_⟩
  have h8 : j < 8 := hj
  have h2 := h.2 j hj
  have e1 : nth kBk.dflt bareL j = (j, false) := by
    show nth (0, false) bareL j = (j, false)
    rw [nth_eq (0, false) bareL j hj]; simp [bareL]
  have e2 : nth kBk.dflt (mixL 1) j = (j, decide (j < 1)) := mixL_nth 1 j h8
  rw [e1] at h2
  rw [e2]
  by_cases h0 : j = 0
  · subst h0
    rcases h2 with ⟨h, _⟩ | ⟨_, e⟩
    · cases h
    · exact .inl ⟨rfl, none, 0, none, 0, e, sl_nil _, sl_nil _⟩
  · rw [decide_eq_false (by omega)]
    exact h2

set_option maxHeartbeats 2000000 in
set_option maxRecDepth 100000 in
theorem rall_any (w : World) :
    Calls Tryd.prog 62 #[] w fun e w' => ∃ g, e = .returned (.slice (some ⟨g, 0, none⟩) 8 8) ∧ Sl kBk (fun x => w.heap.size ≤ x) w' (some ⟨g, 0, none⟩) 8 allK ∧ Below w.heap.size w w' := by
  go_enter Tryd.func62, Tryd.ntmps62
  go_wp2_with (go_at_call 87; refine (bare_ex _).mono ?_; rintro e W1 ⟨g, rfl, b3, hge, _, hO⟩)
  have hO1 : OwnK kBk 123 w.heap.size (fun x => w.heap.size ≤ x ∨ x < w.heap.size) W1 (.slice (some ⟨g, 0, none⟩) 8 8) (mixL 1) := by
    obtain ⟨cells, ho, hr⟩ := hO
    exact ⟨cells, ho, (bare_mix hr).weak fun b _ h => ⟨.inr h.1, h.2⟩⟩
  have hO2 : OwnK kBk 123 w.heap.size (fun x => w.heap.size ≤ x) W1 (.slice (some ⟨g, 0, none⟩) 8 8) (mixL 1) := by
    obtain ⟨cells, ho, hr⟩ := hO
    refine ⟨cells, ho, ?_⟩
    have h2 := (bare_reps (fun b => w.heap.size ≤ b ∧ (Value.slice (some ⟨g, 0, none⟩) 8 8).ownBlock ≠ some b) W1)
    refine bare_mix ⟨hr.1, fun j hj => ?_⟩
    rcases hr.2 j hj with ⟨h, _⟩ | h
    · have h8 : j < 8 := hj
      have e1 : nth kBk.dflt bareL j = (j, false) := by
        show nth (0, false) bareL j = (j, false)
        rw [nth_eq _ _ j hj]; simp [bareL]
      rw [e1] at h
      cases h
    · exact .inr h
  have HB0 := Lib.hid b3
  have HG := Lib.hid (show w.heap.size ≤ g ∧ g < W1.heap.size from ⟨hge, (hO.lt g rfl).2⟩)
  have HOO := Lib.hid hO2
  clear hO hO1 hO2 b3 hge
  go_loopw [2] (fun iv wr => ∃ k : Nat, iv = .int .i64 (k : Int) ∧ 1 ≤ k ∧ k ≤ 8 ∧ Hid (OwnK kBk 123 w.heap.size (fun x => w.heap.size ≤ x) wr (.slice (some ⟨g, 0, none⟩) 8 8) (mixL k)) ∧ Hid (Below w.heap.size w wr)) (fun iv _ => 8 - (intOf iv).toNat)
  case atStart => exact ⟨1, rfl, Nat.le_refl _, by omega, HOO, HB0⟩
  case round =>
    clear HOO
    obtain ⟨k, rfl, hk1, hk8, hO, hB⟩ := hrel
    by_cases hlt : k < 8
    · obtain ⟨cs, hK, hc, hf⟩ := own_bk hO.out k (by rw [mixL_length]; exact hlt)
      rw [mixL_nth k k hlt, decide_eq_false (by omega)] at hK
      rcases hK with ⟨h, _⟩ | ⟨_, rfl⟩
      · cases h
      · have k0 := hc 0 _ rfl
        have k1 := hc 1 _ rfl
        have k2 := hc 2 _ rfl
        have k3 := hc 3 _ rfl
        have k4 := hc 4 _ rfl
        have k5 := hc 5 _ rfl
        rw [Nat.add_zero] at k0
        have hki : (k : Int) ≤ 7 := by omega
        have hki8 : (k : Int) < 8 := by omega
        have hwk : IntKind.i64.wrap ((k : Int) + 1) = (k : Int) + 1 := IntWalk.i64_in _ (by omega)
        have HM := Lib.hid (made_any k wr hk1 hlt)
        obtain ⟨n, hn⟩ : ∃ n, (tabKI k).length = n := ⟨_, rfl⟩
        have HNN := Lib.hid hn
        unfold bookM at HM
        rw [hn] at HM
        have hw0 := hB.out.size
        clear hc hf hn
        go_wp2_with (go_at_call 88; refine HM.out.mono ?_; rintro e w3 ⟨A1, c1, A2, c2, rfl, hs1, hs2, b3⟩; have HO3 := Lib.hid (show OwnK kBk 123 w.heap.size (fun x => w.heap.size ≤ x) w3 (.slice (some ⟨g, 0, none⟩) (mixL k).length 8) (mixL k) from hO.out.below b3); have HS1 := Lib.hid (hs1.weak (ok' := fun b => w.heap.size ≤ b ∧ b ≠ g) (fun x _ h => by have := hO.out.lt g rfl; omega)); have HS2 := Lib.hid (hs2.weak (ok' := fun b => w.heap.size ≤ b ∧ b ≠ g) (fun x _ h => by have := hO.out.lt g rfl; omega)); have q0 := cell_below b3 k0; have q1 := cell_below b3 k1; have q2 := cell_below b3 k2; have q3 := cell_below b3 k3; have q4 := cell_below b3 k4; have q5 := cell_below b3 k5; have f0 := own_fr HO3.out (k * 6); have f1 := own_fr HO3.out (k * 6 + 1); have f2 := own_fr HO3.out (k * 6 + 2); have f3 := own_fr HO3.out (k * 6 + 3); have f4 := own_fr HO3.out (k * 6 + 4); have f5 := own_fr HO3.out (k * 6 + 5))
        obtain ⟨p1, pu⟩ := all_put (y := (k, true)) (x0 := .int .i64 (dimB k)) (x1 := .int .i64 (mostB k)) (x2 := .int .i64 (fallB k)) (x3 := .bool (escB k)) (x4 := .slice A1 n c1) (x5 := .slice A2 n c2) HO3.out (by rw [mixL_length]; exact hlt)
          (.inl ⟨rfl, A1, c1, A2, c2, by rw [HNN.out.symm], HS1.out, HS2.out⟩)
        rw [mixL_set] at p1
        go_roundw
        case rel => exact ⟨k + 1, by go_num, by omega, by omega, Lib.hid p1, Lib.hid ((below2 hB.out b3).trans (pu.below (below2 hB.out b3).size (fun x _ e => by have := HG.out; omega)))⟩
        case measure => simp [intOf]; omega
    · obtain rfl : k = 8 := by omega
      have HR := Lib.hid hO.out.rd
      go_wp2
      go_ret
      obtain ⟨A, c, e, hs⟩ := HR.out
      cases e
      have e8 : mixL 8 = allK := by decide
      rw [e8] at hs
      exact ⟨g, rfl, hs.weak (fun x _ h => by rcases h with h | h; exact h; have h9 : g = x := Option.some.inj h; have := HG.out; omega), hB.out⟩
end Go.Proofs.YtmcdgmiheklbeaaDoor

namespace Go.Proofs.YtmcdgmiheklbeaaDoor
open Go.RowKit

/-- A row that is being written. -/
structure AdI (w : World) (base g3 : Nat) (bk : Array Value) (bits : List Bool) (u : Value) (W : World) : Prop where
  own : OwnI 5 .u8 base W u (bitsI bits)
  ne : u.ownBlock ≠ some g3
  blk : Blk W g3 bk 123
  low : Below base w W
theorem AdI.below {w W W' : World} {base g3 : Nat} {bk : Array Value} {bits : List Bool} {u : Value} (h : AdI w base g3 bk bits u W) (hb : Below W.heap.size W W') (hz : base ≤ w.heap.size) : AdI w base g3 bk bits u W' :=
  ⟨h.own.below hb, h.ne, h.blk.below hb, h.low.trans (hb.mono (Nat.le_trans hz h.low.size))⟩
theorem AdI.run {w W W' : World} {base g3 : Nat} {bk : Array Value} {bits more : List Bool} {u : Value} {f : Nat} {args : Array Value} (h : AdI w base g3 bk bits u W) (hb : Below W.heap.size W W') (hz : base ≤ w.heap.size)
    (hc : OwnI 5 .u8 base W' u (bitsI bits) → base ≤ W'.heap.size → Calls Tryd.prog f args W' fun e w' => ∃ u', e = .returned u' ∧ OwnI 5 .u8 base w' u' (bitsI (bits ++ more)) ∧ Upd (fun b => u.ownBlock = some b) W' w' ∧ (u'.ownBlock = u.ownBlock ∨ ∃ b, u'.ownBlock = some b ∧ W'.heap.size ≤ b)) :
    Calls Tryd.prog f args W' fun e w' => ∃ u', e = .returned u' ∧ AdI w base g3 bk (bits ++ more) u' w' := by
  have h2 := h.below hb hz
  have hz2 := Nat.le_trans hz h2.low.size
  refine (hc h2.own hz2).mono ?_
  rintro e w' ⟨u', rfl, hO, hu, ha⟩
  refine ⟨u', rfl, hO, ?_, h2.blk.keep (hu.keep (ok := fun x => u.ownBlock ≠ some x) fun x hx e => hx e) h.ne, h2.low.trans (hu.below hz2 fun x _ e => h2.own.base_le x e)⟩
  rcases ha with ha | ⟨x, ha, hx⟩
  · rw [ha]; exact h.ne
  · rw [ha]; intro e; have := Option.some.inj e; have := h2.blk.lt; omega
theorem most_pos (b : Nat) (h1 : 1 ≤ b) (h8 : b < 8) : 1 ≤ mostB b := by
  have : b = 1 ∨ b = 2 ∨ b = 3 ∨ b = 4 ∨ b = 5 ∨ b = 6 ∨ b = 7 := by omega
  rcases this with rfl | rfl | rfl | rfl | rfl | rfl | rfl <;> decide

end Go.Proofs.YtmcdgmiheklbeaaDoor

namespace Go.Proofs.YtmcdgmiheklbeaaDoor
open Go.RowKit

theorem bkC_len (n : Int) (l : List Int) : (bkC n l).1 = ((bkW n l).length : Int) := by
  unfold bkW
  by_cases h : (bkC n l).2 = 0
  · rw [if_neg (by simp [h])]
    obtain ⟨b, rfl, _, _, _, e⟩ := bkC_ok h
    rw [e]; rfl
  · rw [if_pos h]
    unfold bkC at h ⊢
    by_cases h1 : checkedK n l ≠ 0
    · rw [if_pos h1]; rfl
    · rw [if_neg h1] at h ⊢
      by_cases h2 : fitB n.toNat l = false
      · rw [if_pos h2]; rfl
      · rw [if_neg h2] at h; exact absurd rfl h
theorem bkW_len (n : Int) (l : List Int) : (bkW n l).length ≤ 104 * l.length := by
  unfold bkW
  by_cases h : (bkC n l).2 = 0
  · rw [if_neg (by simp [h])]
    obtain ⟨b, rfl, h8, hq, _, _⟩ := bkC_ok h
    exact rowK_len b l h8 hq
  · rw [if_pos h]; exact Nat.zero_le _
end Go.Proofs.YtmcdgmiheklbeaaDoor

namespace Go.Proofs.YtmcdgmiheklbeaaDoor
open Go.RowKit

theorem allK_length : allK.length = 8 := by decide
theorem allK_nth (j : Nat) (h : j < 8) : nth (0, false) allK j = (j, true) := by
  rw [nth_eq _ _ j (by rw [allK_length]; exact h)]; simp [allK]
/-- A book of all, at rest. -/
theorem rd_all {ok : Nat → Prop} {w : World} {A : Option Addr} {c : Nat} (h : Sl kBk ok w A c allK) (j : Nat) (hj : j < 8) :
    ∃ ad A1 c1 A2 c2, A = some ad ∧ Sl (kInt .i64) ok w A1 c1 (tabKI j) ∧ Sl (kInt .i64) ok w A2 c2 (codesL (tabKI j)) ∧ w.cell? (ad.add (j * 6)) = some (.int .i64 (dimB j)) ∧
      w.cell? ⟨(ad.add (j * 6)).block, (ad.add (j * 6)).off + 1, none⟩ = some (.int .i64 (mostB j)) ∧ w.cell? ⟨(ad.add (j * 6)).block, (ad.add (j * 6)).off + 2, none⟩ = some (.int .i64 (fallB j)) ∧
      w.cell? ⟨(ad.add (j * 6)).block, (ad.add (j * 6)).off + 3, none⟩ = some (.bool (escB j)) ∧ w.cell? ⟨(ad.add (j * 6)).block, (ad.add (j * 6)).off + 4, none⟩ = some (.slice A1 (tabKI j).length c1) ∧
      w.cell? ⟨(ad.add (j * 6)).block, (ad.add (j * 6)).off + 5, none⟩ = some (.slice A2 (tabKI j).length c2) := by
  obtain ⟨ad, cs, e, _, hK, h0, hc⟩ := rd_bk h j (by rw [allK_length]; exact hj)
  rw [allK_nth j hj] at hK
  rcases hK with ⟨_, A1, c1, A2, c2, rfl, h1, h2⟩ | ⟨h, _⟩
  · exact ⟨ad, A1, c1, A2, c2, e, h1, h2, h0 _ rfl, hc 1 _ rfl, hc 2 _ rfl, hc 3 _ rfl, hc 4 _ rfl, hc 5 _ rfl⟩
  · cases h

end Go.Proofs.YtmcdgmiheklbeaaDoor

namespace Go.Proofs.YtmcdgmiheklbeaaDoor
open Go.RowKit

def ugV (l : List Bool) (j : Nat) (E : Int) : Nat := if E = 0 then getV l j 1 else 0
def ugE (l : List Bool) (j : Nat) (E : Int) : Int := if E = 0 then getE l j 1 else E
def ugI (l : List Bool) (j : Nat) (E : Int) : Nat := if E = 0 then getI l j 1 else j
def gaV (l : List Bool) (j : Nat) (E : Int) : Nat := if E = 0 then (gamF (l.drop j)).1 else 0
def gaE (l : List Bool) (j : Nat) (E : Int) : Int := if E = 0 then (gamF (l.drop j)).2.1 else E
theorem tget_u (o : Nat → Prop) (g j : Nat) (l : List Bool) (E : Int) (w : World) (h : Tr o w g l j E) :
    Calls Tryd.prog 63 #[.pointer (some ⟨g, 0, none⟩), .int .i64 1] w fun e w' => e = .returned (.int .i64 (ugV l j E : Nat)) ∧ Tr o w' g l (ugI l j E) (ugE l j E) ∧ Upd (fun b => b = g) w w' := by
  by_cases hE : E = 0
  · subst hE
    have h2 := tget_any o g j 1 l w h (by decide)
    rw [show ((1 : Nat) : Int) = 1 from rfl] at h2
    unfold ugV ugE ugI
    rw [if_pos rfl, if_pos rfl, if_pos rfl]
    exact h2
  · have h2 := tget_no o g j 1 l E w h hE
    rw [show ((1 : Nat) : Int) = 1 from rfl] at h2
    unfold ugV ugE ugI
    rw [if_neg hE, if_neg hE, if_neg hE]
    refine h2.mono ?_
    rintro e w' ⟨rfl, rfl⟩
    exact ⟨rfl, h, Upd.refl _ _⟩
theorem tunary_no (o : Nat → Prop) (g j : Nat) (l : List Bool) (E : Int) (w : World) (h : Tr o w g l j E) (hE : E ≠ 0) :
    Calls Tryd.prog 90 #[.pointer (some ⟨g, 0, none⟩), .int .i64 20] w fun e w' => e = .returned (.int .i64 0) ∧ w = w' := by
  have HK := Lib.hid (tok_any o g j l E w h)
  rw [show (E == 0) = false by simp [hE]] at HK
  clear h hE
  go_enter Tryd.func90, Tryd.ntmps90
  go_wp2
  go_loopw [5] (fun iv wr => iv = .int .i64 0 ∧ w = wr) (fun _ _ => 0)
  case atStart => exact ⟨rfl, rfl⟩
  case round =>
    obtain ⟨rfl, rfl⟩ := hrel
    go_wp2_with (go_at_call 38; refine HK.out.mono ?_; rintro e w2 ⟨rfl, rfl⟩)
    go_ret
    exact ⟨rfl, rfl⟩
theorem tgamma_no (o : Nat → Prop) (g j : Nat) (l : List Bool) (E : Int) (w : World) (h : Tr o w g l j E) (hE : E ≠ 0) :
    Calls Tryd.prog 64 #[.pointer (some ⟨g, 0, none⟩)] w fun e w' => e = .returned (.int .i64 0) ∧ w = w' := by
  have HK := Lib.hid (tok_any o g j l E w h)
  rw [show (E == 0) = false by simp [hE]] at HK
  have HU := Lib.hid (tunary_no o g j l E w h hE)
  have HG := Lib.hid (tget_no o g j 0 l E w h hE)
  rw [show ((0 : Nat) : Int) = 0 from rfl] at HG
  clear h hE
  go_enter Tryd.func64, Tryd.ntmps64
  go_wp2_with (first
    | (go_at_call 90; refine HU.out.mono ?_; rintro e w2 ⟨rfl, rfl⟩)
    | (go_at_call 63; refine HG.out.mono ?_; rintro e w2 ⟨rfl, rfl⟩)
    | (go_at_call 38; refine HK.out.mono ?_; rintro e w2 ⟨rfl, rfl⟩))
  go_ret
  exact ⟨rfl, rfl⟩
theorem tgamma_u (o : Nat → Prop) (g j : Nat) (l : List Bool) (E : Int) (w : World) (h : Tr o w g l j E) :
    Calls Tryd.prog 64 #[.pointer (some ⟨g, 0, none⟩)] w fun e w' => e = .returned (.int .i64 (gaV l j E : Nat)) ∧ (∃ j2, Tr o w' g l j2 (gaE l j E) ∧ (gaE l j E = 0 → j2 = j + (gamF (l.drop j)).2.2)) ∧ Upd (fun b => b = g) w w' := by
  by_cases hE : E = 0
  · subst hE
    unfold gaV gaE
    rw [if_pos rfl, if_pos rfl]
    exact tgamma_any o g j l w h
  · unfold gaV gaE
    rw [if_neg hE, if_neg hE]
    refine (tgamma_no o g j l E w h hE).mono ?_
    rintro e w' ⟨rfl, rfl⟩
    exact ⟨rfl, ⟨j, h, fun h9 => absurd h9 hE⟩, Upd.refl _ _⟩
theorem gamF_no (D : List Bool) (h : (gamF D).2.1 ≠ 0) : (gamF D).1 = 0 := by
  unfold gamF at h ⊢
  by_cases h1 : (zerF D 0).2 ≠ 0
  · rw [if_pos h1]
  · rw [if_neg h1] at h ⊢
    by_cases h2 : D.length < 2 * (zerF D 0).1 + 1
    · rw [if_pos h2]
    · rw [if_neg h2] at h; exact absurd rfl h
theorem gaV_le (l : List Bool) (j : Nat) (E : Int) : gaV l j E < 2097152 := by
  unfold gaV
  split
  · by_cases h : (gamF (l.drop j)).2.1 = 0
    · exact (gamF_ok _ h).2
    · rw [gamF_no _ h]; decide
  · decide
theorem ugV_le (l : List Bool) (j : Nat) (E : Int) : ugV l j E ≤ 1 := by
  unfold ugV
  split
  · unfold getV
    split
    · decide
    · have := valB_lt ((l.drop j).take 1)
      have h2 : (2 : Nat) ^ ((l.drop j).take 1).length ≤ 2 ^ 1 := Nat.pow_le_pow_right (by decide) (by rw [List.length_take]; omega)
      omega
  · decide
/-- One more value of a group: what the tape says is what the plain law says. -/
theorem val_same (b d : Nat) (l : List Bool) (i j j2 v : Nat) (E2 : Int) (P : List Int × Int × Nat) (hd : d ≠ 0) (hdm : d ≤ mostB b) (_ : i ≤ l.length) (hj : P.2.1 = 0 → j = i + P.2.2 ∧ j ≤ l.length)
    (hesc : (escB b = true ∧ d = mostB b ∧ v + 1 = mostB b + gaV l (ugI l j P.2.1) (ugE l j P.2.1) ∧ E2 = gaE l (ugI l j P.2.1) (ugE l j P.2.1) ∧ (E2 = 0 → j2 = ugI l j P.2.1 + (gamF (l.drop (ugI l j P.2.1))).2.2)) ∨ (¬ (escB b = true ∧ d = mostB b) ∧ v = d ∧ E2 = ugE l j P.2.1 ∧ j2 = ugI l j P.2.1)) :
    (valS b (l.drop i) P d).2.1 = (if 1023 < v then failE E2 6 else E2) ∧ ((if 1023 < v then failE E2 6 else E2) = 0 → (valS b (l.drop i) P d).1 = P.1 ++ [if ugV l j P.2.1 = 1 then -(v : Int) else (v : Int)] ∧ j2 = i + (valS b (l.drop i) P d).2.2) := by
  have hm := mostB_le b
  by_cases hE : P.2.1 = 0
  · obtain ⟨hj1, hjl⟩ := hj hE
    have hs : valS b (l.drop i) P d = if (valF b d (l.drop j)).2.1 ≠ 0 then (P.1, (valF b d (l.drop j)).2.1, P.2.2) else (P.1 ++ [(valF b d (l.drop j)).1], 0, P.2.2 + (valF b d (l.drop j)).2.2) := by
      unfold valS; rw [if_neg (by simp [hE]), List.drop_drop, ← hj1]
    have hv : valF b d (l.drop j) = if l.length - j = 0 then ((0 : Int), (3 : Int), (0 : Nat)) else if (escB b && decide (d = mostB b)) = true then
        if (gamF (l.drop (j + 1))).2.1 ≠ 0 then (0, (gamF (l.drop (j + 1))).2.1, 0) else if 1023 < mostB b + (gamF (l.drop (j + 1))).1 - 1 then (0, 6, 0)
        else ((if nth false l j = true then -1 else 1) * ((mostB b + (gamF (l.drop (j + 1))).1 - 1 : Nat) : Int), 0, 1 + (gamF (l.drop (j + 1))).2.2)
      else ((if nth false l j = true then -1 else 1) * (d : Int), 0, 1) := by
      unfold valF; rw [if_neg hd, List.length_drop, nth_drop, List.drop_drop]; rfl
    rw [hE] at hesc ⊢
    by_cases hsh : l.length - j = 0
    · have e1 : ugE l j 0 = 3 := by unfold ugE getE; rw [if_pos rfl, if_pos (by omega)]
      have e2 : ugI l j 0 = j := by unfold ugI getI; rw [if_pos rfl, if_pos (by omega)]
      have e3 : gaE l j 3 = 3 := by unfold gaE; rw [if_neg (by decide)]
      rw [e1, e2] at hesc
      have hE2 : E2 = 3 := by rcases hesc with ⟨_, _, _, h, _⟩ | ⟨_, _, h, _⟩ <;> simp_all
      subst hE2
      rw [hs, hv, if_pos hsh, if_pos (by simp)]
      have ef : (if 1023 < v then failE 3 6 else (3 : Int)) = 3 := by split <;> rfl
      rw [ef]
      exact ⟨rfl, fun h => by cases h⟩
    · have e1 : ugE l j 0 = 0 := by unfold ugE getE; rw [if_pos rfl, if_neg (by omega)]
      have e2 : ugI l j 0 = j + 1 := by unfold ugI getI; rw [if_pos rfl, if_neg (by omega)]
      have e3 : ugV l j 0 = (nth false l j).toNat := by
        unfold ugV getV; rw [if_pos rfl, if_neg (by omega), drop_nth false l j (by omega)]; simp [valB]
      rw [e1, e2] at hesc
      rw [e3]
      rw [hs, hv, if_neg hsh]
      rcases hesc with ⟨h1, h2, h3, h4, h5⟩ | ⟨h1, h2, h3, h4⟩
      · have ec : (escB b && decide (d = mostB b)) = true := by rw [h1, decide_eq_true h2]; rfl
        rw [if_pos ec]
        have g1 : gaV l (j + 1) 0 = (gamF (l.drop (j + 1))).1 := by unfold gaV; rw [if_pos rfl]
        have g2 : gaE l (j + 1) 0 = (gamF (l.drop (j + 1))).2.1 := by unfold gaE; rw [if_pos rfl]
        rw [g1] at h3
        rw [g2] at h4
        by_cases hg : (gamF (l.drop (j + 1))).2.1 ≠ 0
        · have hv31 : ¬ 1023 < v := by rw [gamF_no _ hg] at h3; omega
          rw [if_pos hg, if_neg hv31, if_pos hg, h4]
          exact ⟨rfl, fun h => absurd h hg⟩
        · rw [if_neg hg]
          have hE2 : E2 = 0 := by rw [h4]; simpa using hg
          subst hE2
          have hvv : mostB b + (gamF (l.drop (j + 1))).1 - 1 = v := by omega
          rw [hvv]
          by_cases h1023 : 1023 < v
          · rw [if_pos h1023, if_pos h1023, if_pos (by simp)]
            exact ⟨rfl, fun h => by cases h⟩
          · rw [if_neg h1023, if_neg h1023, if_neg (by simp)]
            refine ⟨rfl, fun _ => ⟨?_, ?_⟩⟩
            · show P.1 ++ [_] = _
              congr 2
              cases nth false l j
              · rw [if_neg (by simp)]; simp
              · rw [if_pos rfl]; simp
            · rw [h5 rfl]
              show j + 1 + _ = i + (P.2.2 + (1 + _))
              omega
      · have ec : (escB b && decide (d = mostB b)) ≠ true := fun h => by
          rw [Bool.and_eq_true] at h
          exact h1 ⟨h.1, of_decide_eq_true h.2⟩
        subst h2 h3 h4
        rw [if_neg ec, if_neg (by simp), if_neg (show ¬ 1023 < v by omega)]
        refine ⟨rfl, fun _ => ⟨?_, ?_⟩⟩
        · show P.1 ++ [_] = _
          congr 2
          cases nth false l j
          · rw [if_neg (by simp)]; simp
          · rw [if_pos rfl]; simp
        · show j + 1 = i + (P.2.2 + 1)
          omega
  · have e1 : ugE l j P.2.1 = P.2.1 := by unfold ugE; rw [if_neg hE]
    have e2 : gaE l (ugI l j P.2.1) P.2.1 = P.2.1 := by unfold gaE; rw [if_neg hE]
    rw [e1, e2] at hesc
    have hE2 : E2 = P.2.1 := by rcases hesc with ⟨_, _, _, h, _⟩ | ⟨_, _, h, _⟩ <;> exact h
    have ef : (if 1023 < v then failE E2 6 else E2) = P.2.1 := by
      rw [hE2]; split
      · unfold failE; rw [if_neg hE]
      · rfl
    have hs : valS b (l.drop i) P d = P := by unfold valS; rw [if_pos hE]
    rw [ef, hs]
    exact ⟨rfl, fun h => absurd h hE⟩
end Go.Proofs.YtmcdgmiheklbeaaDoor

namespace Go.Proofs.YtmcdgmiheklbeaaDoor
open Go.RowKit

/-- The tape behind something: at its end, if there is no error. -/
def AftT (o : Nat → Prop) (w' : World) (g i : Nat) (l : List Bool) (E : Int) (n : Nat) : Prop := ∃ j, Tr o w' g l j E ∧ (E = 0 → j = i + n)
theorem digN_zero (m : Nat) : ∀ k, ∀ d ∈ digN m k 0, d = 0
  | 0, _, h => by cases h
  | k + 1, d, h => by
    rcases List.mem_append.1 (show d ∈ digN m k (0 / (m + 1)) ++ [0 % (m + 1)] from h) with h | h
    · rw [Nat.zero_div] at h; exact digN_zero m k d h
    · rw [List.mem_singleton.1 h, Nat.zero_mod]
set_option maxHeartbeats 8000000 in
set_option maxRecDepth 100000 in
theorem rgroup_any (o : Nat → Prop) (g i b s : Nat) (A1 : Option Addr) (n1 c1 : Nat) (A2 : Option Addr) (n2 c2 : Nat) (l : List Bool) (E0 : Int) (w : World) (h : Tr o w g l i E0) (ho : ∀ x, o x → x < w.heap.size) (hE0 : E0 = 0 ∨ s = 0) (hsb : s ≤ 256) :
    Calls Tryd.prog 92 #[.agg (bookC b A1 n1 c1 A2 n2 c2), .pointer (some ⟨g, 0, none⟩), .int .i64 (s : Int)] w
      fun e w' => ∃ v L, e = .returned v ∧ OwnI 3 .i64 w.heap.size w' v L ∧ L.length = dimB b ∧
        (E0 = 0 → AftT o w' g i l (valP b (l.drop i) (digN (mostB b) (dimB b) s)).2.1 (valP b (l.drop i) (digN (mostB b) (dimB b) s)).2.2 ∧ ((valP b (l.drop i) (digN (mostB b) (dimB b) s)).2.1 = 0 → L = (valP b (l.drop i) (digN (mostB b) (dimB b) s)).1)) ∧
        (E0 ≠ 0 → Tr o w' g l i E0) ∧ Upd (fun x => x = g) w w' := by
  have hbX := below_alloc (Below.refl w.heap.size w) (.cells (bookC b A1 n1 c1 A2 n2 c2) 123)
  unfold bookC at hbX ⊢
  obtain ⟨MM, hMM⟩ : ∃ MM, mostB b = MM := ⟨_, rfl⟩
  obtain ⟨EE, hEE⟩ : ∃ EE, escB b = EE := ⟨_, rfl⟩
  rw [hMM, hEE] at hbX ⊢
  have HMM := Lib.hid hMM
  have HEE := Lib.hid hEE
  have hd := dimB_pos b
  have hm : MM ≤ 31 := by rw [← hMM]; exact mostB_le b
  have HDL := Lib.hid (digN_length MM (dimB b) s)
  have HDM := Lib.hid (digN_le MM (dimB b) s)
  obtain ⟨DS, hDS⟩ : ∃ DS, digN MM (dimB b) s = DS := ⟨_, rfl⟩
  rw [hDS] at HDL HDM ⊢
  have HDS := Lib.hid hDS
  have HB := Lib.hid hbX
  have HH := Lib.hid (h.below hbX)
  have hg := h.lt
  have hil := h.le
  obtain ⟨g3, hg3⟩ : ∃ g3, w.heap.size = g3 := ⟨_, rfl⟩
  have B3 : Blk (w.alloc (.cells #[.int .i64 (dimB b), .int .i64 (MM : Nat), .int .i64 (fallB b), .bool EE, .slice A1 n1 c1, .slice A2 n2 c2] 123)) g3 #[.int .i64 (dimB b), .int .i64 (MM : Nat), .int .i64 (fallB b), .bool EE, .slice A1 n1 c1, .slice A2 n2 c2] 123 := by rw [← hg3]; exact heap_alloc_new w _
  have HO := Lib.hid (show ∀ x, o x → x < g3 from fun x hx => by have := ho x hx; omega)
  have hg3g : g < g3 := by omega
  have hmk := make_row (P := Tryd.prog) 25 3 .i64 8 Tryd.underlying25 infoI (by decide) (dimB b) (by omega)
  have hdw : IntKind.i64.wrap ((dimB b : Int) - 1) = (dimB b : Int) - 1 := IntWalk.i64_in _ (by omega)
  have hd0 : (0 : Int) ≤ (dimB b : Int) := by omega
  have HZ0 := Lib.hid hE0
  have HIL := Lib.hid hil
  have HB3 := Lib.hid B3
  obtain ⟨gr, hgr⟩ : ∃ gr, g3 + 1 = gr := ⟨_, rfl⟩
  obtain ⟨W0, hW0⟩ : ∃ W0, w.alloc (.cells #[.int .i64 (dimB b), .int .i64 (MM : Nat), .int .i64 (fallB b), .bool EE, .slice A1 n1 c1, .slice A2 n2 c2] 123) = W0 := ⟨_, rfl⟩
  have hz0 : W0.heap.size = gr := by rw [← hW0, World.size_alloc, hg3, hgr]
  rw [hW0] at B3 HB HH HB3
  have k30 := B3.cell 0 rfl
  have hO0 := own_made W0 3 .i64 (dimB b) (by omega)
  have hbY := below_alloc (Below.refl W0.heap.size W0) (.cells (madeCells #[.int .i64 0] (dimB b)) 3)
  have B4 := B3.below hbY
  have k40 := B4.cell 0 rfl
  have HU1 := Lib.hid (show Upd (fun x => x = g) w (W0.alloc (.cells (madeCells #[.int .i64 0] (dimB b)) 3)) from Upd.of_below (below2 HB.out hbY) _)
  have HT1 := Lib.hid (HH.out.below hbY)
  have HB4 := Lib.hid B4
  have HN := Lib.hid (show g < g3 ∧ g3 < gr ∧ gr < (W0.alloc (.cells (madeCells #[.int .i64 0] (dimB b)) 3)).heap.size ∧ w.heap.size = g3 from ⟨hg3g, by omega, by rw [World.size_alloc]; omega, hg3⟩)
  obtain ⟨W1, hW1⟩ : ∃ W1, W0.alloc (.cells (madeCells #[.int .i64 0] (dimB b)) 3) = W1 := ⟨_, rfl⟩
  rw [hz0, hW1] at hO0
  rw [hW1] at k40 HU1 HT1 HB4 HN
  have HOO := Lib.hid hO0
  have HDP := Lib.hid hd
  clear hMM hEE hDS h ho hE0 hil hbX hbY B3 B4 hO0 HB HH HB3
  go_enter Tryd.func92, Tryd.ntmps92
  go_wp2
  have hO0 := HOO.out
  clear k30 k40 hmk hW0 hW1 hz0 hgr hg3
  go_loopw [2, 8] (fun sv iv wr => ∃ (j x : Nat) (z : Int) (tl : List Nat), iv = .int .i64 z ∧ z = (dimB b : Int) - 1 - (j : Int) ∧ j ≤ dimB b ∧ sv = .int .i64 (x : Int) ∧ x ≤ 256 ∧ Hid (DS = digN (MM) (dimB b - j) x ++ tl ∧ tl.length = j) ∧ Hid (OwnI 3 .i64 gr wr (.slice (some ⟨gr, 0, none⟩) (dimB b) (dimB b)) (List.replicate (dimB b - j) 0 ++ castN tl)) ∧ Hid (Upd (fun x => x = gr) W1 wr)) (fun _ iv _ => (intOf iv + 1).toNat)
  case atStart => exact ⟨0, s, _, [], rfl, by omega, Nat.zero_le _, rfl, by omega, Lib.hid ⟨by rw [HDS.out.symm]; simp, rfl⟩, Lib.hid (by simpa [castN] using hO0), Lib.hid (Upd.refl _ _)⟩
  case round =>
    clear hO0
    obtain ⟨j, x, z, tl, rfl, hz, hj, rfl, hx, hT, hO, hU⟩ := hrel
    have B3 := HB4.out.keep (hU.out.keep (ok := fun x => x ≠ gr) fun _ h => h) (by have := HN.out; omega)
    have k31 := B3.cell 1 rfl
    have k30 := B3.cell 0 rfl
    by_cases hlt : j < dimB b
    · obtain ⟨q, hq⟩ : ∃ q : Nat, dimB b - 1 - j = q := ⟨_, rfl⟩
      obtain rfl : z = (q : Int) := by omega
      have hqd : (q : Int) < (dimB b : Int) := by omega
      have hge : decide ((0 : Int) ≤ (q : Int)) = true := decide_eq_true (by omega)
      have hge2 : (0 : Int) ≤ (q : Int) := by omega
      obtain ⟨_, hfr⟩ := hO.out.at_ q (by rw [List.length_append, List.length_replicate, castN_length, hT.out.2]; omega)
      obtain ⟨hcq, _⟩ := hO.out.at_ q (by rw [List.length_append, List.length_replicate, castN_length, hT.out.2]; omega)
      obtain ⟨P, hP⟩ : ∃ P, MM + 1 = P := ⟨_, rfl⟩
      have hwP : IntKind.i64.wrap ((MM : Int) + 1) = (P : Int) := by rw [← hP, Int.natCast_succ]; exact IntWalk.i64_in _ (by omega)
      have hPn : ¬ P = 0 := by omega
      have hP0 : ((P : Int) == 0) = false := by simp [hPn]
      have hmq : x % P < P := Nat.mod_lt _ (by omega)
      have hxq : x / P ≤ x := Nat.div_le_self _ _
      have HTT := Lib.hid (show DS = digN (MM) (dimB b - (j + 1)) (x / P) ++ ((x % P) :: tl) by
        rw [hT.out.1, show dimB b - j = (dimB b - (j + 1)) + 1 by omega]
        show (digN (MM) (dimB b - (j + 1)) (x / (MM + 1)) ++ [x % (MM + 1)]) ++ tl = _
        rw [hP]; simp)
      have hrr0 : (x : Int).tmod (P : Int) = ((x % P : Nat) : Int) := by rw [Int.tmod_eq_emod_of_nonneg (by omega), ← Int.natCast_emod]
      have hmm : ((x : Int) % (P : Int)) = ((x % P : Nat) : Int) := by rw [← Int.natCast_emod]
      have hqq : ((x : Int).tdiv (P : Int)) = ((x / P : Nat) : Int) := by rw [Int.tdiv_eq_ediv_of_nonneg (by omega), ← Int.natCast_ediv]
      generalize x % P = xr at hmq HTT hrr0 hmm
      generalize x / P = xq at hxq HTT hqq
      have hrr : IntKind.i64.wrap ((x : Int).tmod (P : Int)) = (xr : Int) := by rw [hrr0]; exact IntWalk.i64_in _ (by omega)
      have hwq : IntKind.i64.wrap (xq : Int) = (xq : Int) := IntWalk.i64_in _ (by omega)
      have hwr : IntKind.i64.wrap (xr : Int) = (xr : Int) := IntWalk.i64_in _ (by omega)
      have hw1 : IntKind.i64.wrap ((q : Int) - 1) = (q : Int) - 1 := IntWalk.i64_in _ (by omega)
      obtain ⟨hset, hgs⟩ := hO.out.set q (xr : Int)
      have HST := Lib.hid (show OwnI 3 .i64 gr (wr.setCell ⟨gr, q, none⟩ (.int .i64 (xr : Int))) (.slice (some ⟨gr, 0, none⟩) (dimB b) (dimB b)) (List.replicate (dimB b - (j + 1)) 0 ++ castN (xr :: tl)) by
        have e : List.replicate (dimB b - j) (0 : Int) ++ castN tl = List.replicate (dimB b - (j + 1)) 0 ++ (0 :: castN tl) := by
          rw [show dimB b - j = (dimB b - (j + 1)) + 1 by omega, List.replicate_succ', List.append_assoc]; rfl
        rw [e, set_midK 0 _ _ _ _ (by rw [List.length_replicate]; omega) (by simp)] at hset
        rw [show castN (xr :: tl) = [(xr : Int)] ++ castN tl from rfl, ← List.append_assoc]
        exact hset)
      have HGS := Lib.hid (hU.out.trans (Upd.of_grown (o := fun x => x = gr) hgs (fun r e => by cases e; rfl)) fun _ _ h => h)
      have HZ := Lib.hid (show (q : Int) - 1 = (dimB b : Int) - 1 - ((j + 1 : Nat) : Int) by omega)
      have n3r : g3 ≠ gr := by have := HN.out; omega
      have hj1 : j + 1 ≤ dimB b := hlt
      clear hset hgs hz hq hP hlt hPn
      go_wp2
      go_roundw
      case rel => exact ⟨j + 1, xq, _, xr :: tl, rfl, HZ.out, by omega, rfl, by omega, Lib.hid ⟨HTT.out, by rw [List.length_cons, hT.out.2]⟩, HST, HGS⟩
      case measure => simp [intOf] <;> omega
    · obtain rfl : j = dimB b := by omega
      have hz0 : z = -1 := by omega
      subst hz0
      have hTL : tl = DS := by
        have h9 := hT.out.1
        rw [Nat.sub_self] at h9
        exact h9.symm
      subst hTL
      rw [Nat.sub_self] at hO
      have HO2 := Lib.hid (show OwnI 3 .i64 gr wr (.slice (some ⟨gr, 0, none⟩) (dimB b) (dimB b)) (castN tl) from hO.out)
      have HRW := Lib.hid (show Tr o wr g l i E0 from HT1.out.upd hU.out (fun x hx h9 e => by have := HO.out x h9; have := HN.out; omega))
      have HU2 := Lib.hid (hU.out)
      have HB5 := Lib.hid B3
      clear hO hU B3 k30 k31 hlt hz hx hT
      obtain ⟨W2, hW2⟩ : ∃ W2, wr = W2 := ⟨_, rfl⟩
      simp only [hW2] at HO2 HRW HU2 HB5 ⊢
      clear hW2
      go_wp2_with fail
      go_loopw [9, 10, 11, 37] (fun nv dv sv iv wr => ∃ (k j : Nat) (E : Int) (st : List Int), iv = .int .i64 (k : Int) ∧ k ≤ dimB b ∧ Hid (OwnI 3 .i64 gr wr (.slice (some ⟨gr, 0, none⟩) (dimB b) (dimB b)) (st ++ (castN tl).drop k)) ∧ Hid (st.length = k) ∧ Hid (Tr o wr g l j E) ∧ Hid ((E0 = 0 ∧ (valP b (l.drop i) (tl.take k)).2.1 = E ∧ (E = 0 → st = (valP b (l.drop i) (tl.take k)).1 ∧ j = i + (valP b (l.drop i) (tl.take k)).2.2)) ∨ (E0 ≠ 0 ∧ E = E0 ∧ j = i)) ∧ Hid (Upd (fun x => x = g ∨ x = gr) W2 wr)) (fun _ _ _ iv _ => dimB b - (intOf iv).toNat)
      case atStart =>
        refine ⟨0, i, E0, [], rfl, Nat.zero_le _, Lib.hid (by simpa using HO2.out), Lib.hid rfl, HRW, Lib.hid ?_, Lib.hid (Upd.refl _ _)⟩
        by_cases h9 : E0 = 0
        · exact .inl ⟨h9, h9.symm, fun _ => ⟨rfl, rfl⟩⟩
        · exact .inr ⟨h9, rfl, rfl⟩
      case round =>
        clear HO2 HRW
        obtain ⟨k, j, E, st, rfl, hk, hO, hL, hT, hI, hU⟩ := hrel
        have B5 := HB5.out.keep (hU.out.keep (ok := fun x => x ≠ g ∧ x ≠ gr) fun _ h h2 => by rcases h2 with h2 | h2; exact h.1 h2; exact h.2 h2) (by have := HN.out; omega)
        by_cases hlt : k < dimB b
        · have hkl : k < tl.length := by rw [HDL.out]; exact hlt
          have HKL := Lib.hid hkl
          have hki : (k : Int) < (dimB b : Int) := by omega
          have hwk : IntKind.i64.wrap ((k : Int) + 1) = (k : Int) + 1 := IntWalk.i64_in _ (by omega)
          have hlen : k < (st ++ (castN tl).drop k).length := by rw [List.length_append, List.length_drop, castN_length, hL.out]; omega
          have HLK := Lib.hid hlen
          obtain ⟨hck, hfk⟩ := hO.out.at_ k hlen
          have hnth : nth 0 (st ++ (castN tl).drop k) k = ((nth 0 tl k : Nat) : Int) := by
            rw [nth_append_right 0 _ _ _ (by rw [hL.out]; exact Nat.le_refl _), hL.out, Nat.sub_self, nth_drop, Nat.add_zero, castN_nth _ _ hkl]
          rw [hnth] at hck
          have hdm : nth 0 tl k ≤ MM := HDM.out _ (nth_mem 0 tl k hkl)
          have HVN := Lib.hid (show valP b (l.drop i) (tl.take (k + 1)) = valS b (l.drop i) (valP b (l.drop i) (tl.take k)) (nth 0 tl k) by rw [take_succ_nth 0 tl k hkl, valP_snoc])
          have HCD := Lib.hid (show (castN tl).drop k = ((nth 0 tl k : Nat) : Int) :: (castN tl).drop (k + 1) by rw [drop_nth 0 (castN tl) k (by rw [castN_length]; exact hkl), castN_nth _ _ hkl])
          have HZD := Lib.hid (show E0 ≠ 0 → nth 0 tl k = 0 from fun h9 => by
            have hs0 := HZ0.out.resolve_left h9
            have h8 := nth_mem 0 tl k hkl
            have h7 : tl = digN MM (dimB b) s := HDS.out.symm
            rw [h7, hs0] at h8
            rw [h7, hs0]
            exact digN_zero MM (dimB b) _ h8)
          obtain ⟨P, hP⟩ : ∃ P, valP b (l.drop i) (tl.take k) = P := ⟨_, rfl⟩
          rw [hP] at hI HVN
          have HOK := Lib.hid hO.out
          have hgr := HN.out
          generalize nth 0 tl k = d at hck hdm HVN HCD HZD
          clear hnth hlen hP
          by_cases hd9 : d = 0
          · have hdb : ((d : Int) == 0) = true := by simp [hd9]
            have HD0 := Lib.hid hd9
            clear hd9
            go_wp2
            go_roundw
            case rel =>
              refine ⟨k + 1, j, E, st ++ [0], by go_num, hlt, Lib.hid ?_, Lib.hid (by rw [List.length_append, hL.out]; rfl), hT, Lib.hid ?_, hU⟩
              · have h9 := hO.out
                rw [HCD.out, HD0.out] at h9
                rw [List.append_assoc]
                exact h9
              · rcases hI.out with ⟨h1, h2, h3⟩ | h1
                · refine .inl ⟨h1, ?_⟩
                  rw [HVN.out, HD0.out]
                  by_cases hE : P.2.1 = 0
                  · have hv : valF b 0 ((l.drop i).drop P.2.2) = (0, 0, 0) := by unfold valF; rw [if_pos rfl]
                    unfold valS
                    rw [if_neg (by simp [hE]), hv, if_neg (by simp)]
                    refine ⟨by rw [← h2, hE], fun h9 => ?_⟩
                    obtain ⟨h5, h6⟩ := h3 h9
                    exact ⟨by rw [h5], h6⟩
                  · unfold valS
                    rw [if_pos hE]
                    exact ⟨h2, fun h9 => absurd (h2.trans h9) hE⟩
                · exact .inr h1
            case measure => simp [intOf]; omega
          · have hdb : ((d : Int) == 0) = false := by simp [hd9]
            have hI2 : E0 = 0 ∧ P.2.1 = E ∧ (E = 0 → st = P.1 ∧ j = i + P.2.2) := by
              rcases hI.out with h1 | ⟨h1, _⟩
              · exact h1
              · exact absurd (HZD.out h1) hd9
            have HE0 := Lib.hid hI2.1
            obtain ⟨_, hPE, hPS⟩ := hI2
            subst hPE
            have HPS := Lib.hid hPS
            have HGT := Lib.hid (tget_u o g j l P.2.1 wr hT.out)
            have hjl := hT.out.le
            have HVA := Lib.hid (fun j2 v E2 => val_same b d l i j j2 v E2 P hd9 (by rw [HMM.out]; exact hdm) HIL.out (fun h9 => ⟨(hPS h9).2, hjl⟩))
            have HEZX := Lib.hid (show ugE l j P.2.1 = 0 → P.2.1 = 0 from fun h9 => by
              unfold ugE at h9; split at h9
              · assumption
              · exact h9)
            have HS01 := Lib.hid (show ugV l j P.2.1 = 1 ∨ ugV l j P.2.1 = 0 by have := ugV_le l j P.2.1; omega)
            rw [HMM.out, HEE.out] at HVA
            have HGA0 := Lib.hid (fun W (hh : Tr o W g l (ugI l j P.2.1) (ugE l j P.2.1)) => tgamma_u o g (ugI l j P.2.1) l (ugE l j P.2.1) W hh)
            have hgl := gaV_le l (ugI l j P.2.1) (ugE l j P.2.1)
            have HGZ := Lib.hid (show gaE l (ugI l j P.2.1) (ugE l j P.2.1) = 0 → ugE l j P.2.1 = 0 from fun h9 => by
              unfold gaE at h9; split at h9
              · assumption
              · exact h9)
            generalize gaV l (ugI l j P.2.1) (ugE l j P.2.1) = gm at HVA HGA0 hgl
            generalize gaE l (ugI l j P.2.1) (ugE l j P.2.1) = E2 at HVA HGA0 HGZ
            generalize ugV l j P.2.1 = s1 at HGT HVA HS01
            generalize ugE l j P.2.1 = E1 at HGT HVA HEZX HGA0 HGZ
            generalize ugI l j P.2.1 = j1 at HGT HVA HGA0
            clear hI hPS
            have hd31 : ¬ (1023 : Int) < (d : Int) := by omega
            have hdn31 : ¬ 1023 < d := by omega
            have HGA := HGA0
            clear HGA0
            by_cases hesc : EE = true ∧ d = MM
            · obtain ⟨rfl, rfl⟩ := hesc
              obtain ⟨v, hv⟩ : ∃ v : Nat, d - 1 + gm = v := ⟨_, rfl⟩
              have hw1 : IntKind.i64.wrap ((d : Int) - 1) = (d : Int) - 1 := IntWalk.i64_in _ (by omega)
              have hw2 : IntKind.i64.wrap ((d : Int) - 1 + (gm : Int)) = (v : Int) := by rw [IntWalk.i64_in _ (by omega)]; omega
              have hw3 : IntKind.i64.wrap (-(v : Int)) = -(v : Int) := IntWalk.i64_in _ (by omega)
              have HVSE := Lib.hid (show ∀ j2 E2', E2' = E2 → (E2 = 0 → j2 = j1 + (gamF (l.drop j1)).2.2) → _ from fun j2 E2' h9 h8 => by subst h9; exact HVA.out j2 v E2' (.inl ⟨rfl, rfl, by omega, rfl, h8⟩))
              have HEZ := Lib.hid (show E2 = 0 → P.2.1 = 0 from fun h9 => HEZX.out (HGZ.out h9))
              clear hd31 hdn31
              have hqe : ((d : Int) == (d : Int)) = true := by simp
              rcases HS01.out with hs1 | hs1
              · have HS1 := Lib.hid hs1
                have hsb : ((s1 : Int) == 1) = true := by simp [hs1]
                go_upto_region 13 with (go_at_call 63; refine HGT.out.mono ?_; rintro e w3 ⟨rfl, hT3, hu3⟩; have HO3 := Lib.hid (ownI_keep HOK.out (hu3.keep (ok := fun x => x ≠ g) fun _ h => h) (fun x e => by have h9 : gr = x := Option.some.inj e; omega)); have B6 := B5.keep (hu3.keep (ok := fun x => x ≠ g) fun _ h => h) (by omega); have k31 := B6.cell 1 rfl; have k33 := B6.cell 3 rfl; have HB6 := Lib.hid B6; obtain ⟨q3, f3⟩ := HO3.out.at_ k HLK.out; have HT3 := Lib.hid hT3; have HU3 := Lib.hid hu3; clear hT3 hu3 B6)
                have hdd := (Below.refl w3.heap.size w3).drew
                clear hs1 k31 k33 q3 f3
                refine wp_region_G 6 (fun W' => W'.cell? ⟨g3, 1, none⟩ = some (.int .i64 (d : Nat))) (by kernel_rfl) ((HB6.out.below hdd).cell 1 rfl) (fun hHeld => ?_)
                refine wpAnyG_takeL (i := 0) (.pointer (some ⟨g3, 1, none⟩)) [6] rfl (by kernel_rfl) (fun _ _ _ h => h) hHeld (by rfl) ?_ ?_
                · (intro W' hSw; (try dsimp only at hSw); go_simp)
                try simp only [Act.put, List.setIfInBounds_toArray, List.set_cons_zero, List.set_cons_succ]
                refine wpAnyG_takeL (i := 1) (.int .i64 (d : Nat)) [6] rfl (by kernel_rfl) (fun _ _ _ h => h) hHeld (by rfl) ?_ ?_
                · (intro W' hSw; (try dsimp only at hSw); go_simp)
                try simp only [Act.put, List.setIfInBounds_toArray, List.set_cons_zero, List.set_cons_succ]
                refine wpAnyG_takeL (i := 2) (.int .i64 ((d : Int) - 1)) [6] rfl (by kernel_rfl) (fun _ _ _ h => h) hHeld (by rfl) ?_ ?_
                · (intro W' hSw; (try dsimp only at hSw); go_simp)
                try simp only [Act.put, List.setIfInBounds_toArray, List.set_cons_zero, List.set_cons_succ]
                refine wpAnyG_takeL (i := 3) (.pointer (some ⟨g, 0, none⟩)) [6] rfl (by kernel_rfl) (fun _ _ _ h => h) hHeld (by rfl) ?_ ?_
                · (intro W' hSw; (try dsimp only at hSw); go_simp)
                try simp only [Act.put, List.setIfInBounds_toArray, List.set_cons_zero, List.set_cons_succ]
                clear hHeld
                refine wpAnyG_oneL (i := 4) (by kernel_rfl) rfl (fun K hK => ?_)
                (go_simp; go_at_call 64; refine (HGA.out _ (HT3.out.below hdd)).mono ?_; rintro e w4 ⟨rfl, ⟨j2, hT4, hj4⟩, hu4⟩)
                refine hK.out _ _ (fun _ => (((HB6.out.below hdd).keep (hu4.keep (ok := fun x => x ≠ g) fun _ h => h) (by omega)).cell 1 rfl)) ?_
                clear hK K
                try simp only [Act.put, List.setIfInBounds_toArray, List.set_cons_zero, List.set_cons_succ]
                refine wpAnyG_oneL (i := 5) (by kernel_rfl) rfl (fun K hK => ?_)
                go_simp
                refine hK.out _ _ (fun _ => (((HB6.out.below hdd).keep (hu4.keep (ok := fun x => x ≠ g) fun _ h => h) (by omega)).cell 1 rfl)) ?_
                clear hK K
                try simp only [Act.put, List.setIfInBounds_toArray, List.set_cons_zero, List.set_cons_succ]
                refine wpAnyG_oneL (i := 6) (by kernel_rfl) rfl (fun K hK => ?_)
                go_simp
                refine hK.out _ _ (fun h => Bool.noConfusion (show true = false from h)) ?_
                clear hK K
                refine wpAnyG_done (by kernel_rfl) ?_ _
                have HU4 := Lib.hid ((HU3.out.trans (Upd.of_below hdd (fun x => x = g)) fun _ _ h => h).trans hu4 fun _ _ h => h)
                have HO4 := Lib.hid (ownI_keep HOK.out (HU4.out.keep (ok := fun x => x ≠ g) fun _ h => h) (fun x e => by have h9 : gr = x := Option.some.inj e; omega))
                obtain ⟨q4, f4⟩ := HO4.out.at_ k HLK.out
                have HT4 := Lib.hid hT4
                have HVS := Lib.hid (HVSE.out j2 E2 rfl hj4)
                clear hT4 hj4 hu4 hdd
                by_cases hbig : 1023 < v
                · have HBIG := Lib.hid hbig
                  have hbi : (1023 : Int) < (v : Int) := by omega
                  have HEZ := Lib.hid (show failE E2 6 = 0 → P.2.1 = 0 from fun h9 => by
                    unfold failE at h9; split at h9
                    · cases h9
                    · exact absurd h9 ‹¬ E2 = 0›)
                  have HFL := Lib.hid (tfail_any o g j2 l E2 6 w4 HT4.out)
                  go_wp2_with (go_at_call 65; refine HFL.out.mono ?_; rintro e w5 ⟨rfl, hT5, hu5⟩; have HO5 := Lib.hid (ownI_keep HO4.out (hu5.keep (ok := fun x => x ≠ g) fun _ h => h) (fun x e => by have h9 : gr = x := Option.some.inj e; omega)); obtain ⟨q5, f5⟩ := HO5.out.at_ k HLK.out; have HT5 := Lib.hid hT5; have HU5 := Lib.hid (HU4.out.trans hu5 fun _ _ h => h); clear hT5 hu5)
                  rw [if_pos HBIG.out] at HVS
                  obtain ⟨hset0, hgs0⟩ := HO5.out.set k (v : Int)
                  obtain ⟨hset, hgs⟩ := hset0.set k (-(v : Int))
                  rw [List.set_set] at hset
                  have hub := (Upd.of_grown (o := fun x => x = gr) hgs0 (fun r e => by cases e; rfl)).trans (Upd.of_grown (o := fun x => x = gr) hgs (fun r e => by cases e; rfl)) fun _ _ h => h
                  go_roundw
                  case rel =>
                    refine ⟨k + 1, _, (failE E2 6), st ++ [-(v : Int)], by go_num, hlt, Lib.hid ?_, Lib.hid (by rw [List.length_append, hL.out]; rfl), Lib.hid ((HT5.out).upd hub (fun x _ h9 e => by have := HO.out x h9; omega)), Lib.hid (.inl ⟨HE0.out, ?_⟩), Lib.hid ((hU.out.trans (HU5.out.weak (o' := fun x => x = g ∨ x = gr) fun _ _ h => .inl h) fun _ _ h => h).trans (hub.weak (o' := fun x => x = g ∨ x = gr) fun _ _ h => .inr h) fun _ _ h => h)⟩
                    · rw [set_midK 0 _ _ _ _ hL.out (by rw [List.length_drop, castN_length]; have := HKL.out; omega), drop_one] at hset
                      exact hset
                    · rw [HVN.out]
                      exact ⟨HVS.out.1, fun h9 => by
                        have h8 := HVS.out.2 h9
                        rw [if_pos HS1.out] at h8
                        exact ⟨by rw [h8.1, (HPS.out (HEZ.out h9)).1], h8.2⟩⟩
                  case measure => simp [intOf]; omega
                · have HBIG := Lib.hid hbig
                  have hbi : ¬ (1023 : Int) < (v : Int) := by omega
                  go_wp2
                  rw [if_neg HBIG.out] at HVS
                  obtain ⟨hset0, hgs0⟩ := HO4.out.set k (v : Int)
                  obtain ⟨hset, hgs⟩ := hset0.set k (-(v : Int))
                  rw [List.set_set] at hset
                  have hub := (Upd.of_grown (o := fun x => x = gr) hgs0 (fun r e => by cases e; rfl)).trans (Upd.of_grown (o := fun x => x = gr) hgs (fun r e => by cases e; rfl)) fun _ _ h => h
                  go_roundw
                  case rel =>
                    refine ⟨k + 1, _, E2, st ++ [-(v : Int)], by go_num, hlt, Lib.hid ?_, Lib.hid (by rw [List.length_append, hL.out]; rfl), Lib.hid ((HT4.out).upd hub (fun x _ h9 e => by have := HO.out x h9; omega)), Lib.hid (.inl ⟨HE0.out, ?_⟩), Lib.hid ((hU.out.trans (HU4.out.weak (o' := fun x => x = g ∨ x = gr) fun _ _ h => .inl h) fun _ _ h => h).trans (hub.weak (o' := fun x => x = g ∨ x = gr) fun _ _ h => .inr h) fun _ _ h => h)⟩
                    · rw [set_midK 0 _ _ _ _ hL.out (by rw [List.length_drop, castN_length]; have := HKL.out; omega), drop_one] at hset
                      exact hset
                    · rw [HVN.out]
                      exact ⟨HVS.out.1, fun h9 => by
                        have h8 := HVS.out.2 h9
                        rw [if_pos HS1.out] at h8
                        exact ⟨by rw [h8.1, (HPS.out (HEZ.out h9)).1], h8.2⟩⟩
                  case measure => simp [intOf]; omega
              · have HS1 := Lib.hid hs1
                have hsb : ((s1 : Int) == 1) = false := by simp; omega
                go_upto_region 13 with (go_at_call 63; refine HGT.out.mono ?_; rintro e w3 ⟨rfl, hT3, hu3⟩; have HO3 := Lib.hid (ownI_keep HOK.out (hu3.keep (ok := fun x => x ≠ g) fun _ h => h) (fun x e => by have h9 : gr = x := Option.some.inj e; omega)); have B6 := B5.keep (hu3.keep (ok := fun x => x ≠ g) fun _ h => h) (by omega); have k31 := B6.cell 1 rfl; have k33 := B6.cell 3 rfl; have HB6 := Lib.hid B6; obtain ⟨q3, f3⟩ := HO3.out.at_ k HLK.out; have HT3 := Lib.hid hT3; have HU3 := Lib.hid hu3; clear hT3 hu3 B6)
                have hdd := (Below.refl w3.heap.size w3).drew
                clear hs1 k31 k33 q3 f3
                refine wp_region_G 6 (fun W' => W'.cell? ⟨g3, 1, none⟩ = some (.int .i64 (d : Nat))) (by kernel_rfl) ((HB6.out.below hdd).cell 1 rfl) (fun hHeld => ?_)
                refine wpAnyG_takeL (i := 0) (.pointer (some ⟨g3, 1, none⟩)) [6] rfl (by kernel_rfl) (fun _ _ _ h => h) hHeld (by rfl) ?_ ?_
                · (intro W' hSw; (try dsimp only at hSw); go_simp)
                try simp only [Act.put, List.setIfInBounds_toArray, List.set_cons_zero, List.set_cons_succ]
                refine wpAnyG_takeL (i := 1) (.int .i64 (d : Nat)) [6] rfl (by kernel_rfl) (fun _ _ _ h => h) hHeld (by rfl) ?_ ?_
                · (intro W' hSw; (try dsimp only at hSw); go_simp)
                try simp only [Act.put, List.setIfInBounds_toArray, List.set_cons_zero, List.set_cons_succ]
                refine wpAnyG_takeL (i := 2) (.int .i64 ((d : Int) - 1)) [6] rfl (by kernel_rfl) (fun _ _ _ h => h) hHeld (by rfl) ?_ ?_
                · (intro W' hSw; (try dsimp only at hSw); go_simp)
                try simp only [Act.put, List.setIfInBounds_toArray, List.set_cons_zero, List.set_cons_succ]
                refine wpAnyG_takeL (i := 3) (.pointer (some ⟨g, 0, none⟩)) [6] rfl (by kernel_rfl) (fun _ _ _ h => h) hHeld (by rfl) ?_ ?_
                · (intro W' hSw; (try dsimp only at hSw); go_simp)
                try simp only [Act.put, List.setIfInBounds_toArray, List.set_cons_zero, List.set_cons_succ]
                clear hHeld
                refine wpAnyG_oneL (i := 4) (by kernel_rfl) rfl (fun K hK => ?_)
                (go_simp; go_at_call 64; refine (HGA.out _ (HT3.out.below hdd)).mono ?_; rintro e w4 ⟨rfl, ⟨j2, hT4, hj4⟩, hu4⟩)
                refine hK.out _ _ (fun _ => (((HB6.out.below hdd).keep (hu4.keep (ok := fun x => x ≠ g) fun _ h => h) (by omega)).cell 1 rfl)) ?_
                clear hK K
                try simp only [Act.put, List.setIfInBounds_toArray, List.set_cons_zero, List.set_cons_succ]
                refine wpAnyG_oneL (i := 5) (by kernel_rfl) rfl (fun K hK => ?_)
                go_simp
                refine hK.out _ _ (fun _ => (((HB6.out.below hdd).keep (hu4.keep (ok := fun x => x ≠ g) fun _ h => h) (by omega)).cell 1 rfl)) ?_
                clear hK K
                try simp only [Act.put, List.setIfInBounds_toArray, List.set_cons_zero, List.set_cons_succ]
                refine wpAnyG_oneL (i := 6) (by kernel_rfl) rfl (fun K hK => ?_)
                go_simp
                refine hK.out _ _ (fun h => Bool.noConfusion (show true = false from h)) ?_
                clear hK K
                refine wpAnyG_done (by kernel_rfl) ?_ _
                have HU4 := Lib.hid ((HU3.out.trans (Upd.of_below hdd (fun x => x = g)) fun _ _ h => h).trans hu4 fun _ _ h => h)
                have HO4 := Lib.hid (ownI_keep HOK.out (HU4.out.keep (ok := fun x => x ≠ g) fun _ h => h) (fun x e => by have h9 : gr = x := Option.some.inj e; omega))
                obtain ⟨q4, f4⟩ := HO4.out.at_ k HLK.out
                have HT4 := Lib.hid hT4
                have HVS := Lib.hid (HVSE.out j2 E2 rfl hj4)
                clear hT4 hj4 hu4 hdd
                by_cases hbig : 1023 < v
                · have HBIG := Lib.hid hbig
                  have hbi : (1023 : Int) < (v : Int) := by omega
                  have HEZ := Lib.hid (show failE E2 6 = 0 → P.2.1 = 0 from fun h9 => by
                    unfold failE at h9; split at h9
                    · cases h9
                    · exact absurd h9 ‹¬ E2 = 0›)
                  have HFL := Lib.hid (tfail_any o g j2 l E2 6 w4 HT4.out)
                  go_wp2_with (go_at_call 65; refine HFL.out.mono ?_; rintro e w5 ⟨rfl, hT5, hu5⟩; have HO5 := Lib.hid (ownI_keep HO4.out (hu5.keep (ok := fun x => x ≠ g) fun _ h => h) (fun x e => by have h9 : gr = x := Option.some.inj e; omega)); obtain ⟨q5, f5⟩ := HO5.out.at_ k HLK.out; have HT5 := Lib.hid hT5; have HU5 := Lib.hid (HU4.out.trans hu5 fun _ _ h => h); clear hT5 hu5)
                  rw [if_pos HBIG.out] at HVS
                  obtain ⟨hset, hgs⟩ := HO5.out.set k (v : Int)
                  have hub := Upd.of_grown (o := fun x => x = gr) hgs (fun r e => by cases e; rfl)
                  go_roundw
                  case rel =>
                    refine ⟨k + 1, _, (failE E2 6), st ++ [(v : Int)], by go_num, hlt, Lib.hid ?_, Lib.hid (by rw [List.length_append, hL.out]; rfl), Lib.hid ((HT5.out).upd hub (fun x _ h9 e => by have := HO.out x h9; omega)), Lib.hid (.inl ⟨HE0.out, ?_⟩), Lib.hid ((hU.out.trans (HU5.out.weak (o' := fun x => x = g ∨ x = gr) fun _ _ h => .inl h) fun _ _ h => h).trans (hub.weak (o' := fun x => x = g ∨ x = gr) fun _ _ h => .inr h) fun _ _ h => h)⟩
                    · rw [set_midK 0 _ _ _ _ hL.out (by rw [List.length_drop, castN_length]; have := HKL.out; omega), drop_one] at hset
                      exact hset
                    · rw [HVN.out]
                      exact ⟨HVS.out.1, fun h9 => by
                        have h8 := HVS.out.2 h9
                        rw [if_neg (by have := HS1.out; omega)] at h8
                        exact ⟨by rw [h8.1, (HPS.out (HEZ.out h9)).1], h8.2⟩⟩
                  case measure => simp [intOf]; omega
                · have HBIG := Lib.hid hbig
                  have hbi : ¬ (1023 : Int) < (v : Int) := by omega
                  go_wp2
                  rw [if_neg HBIG.out] at HVS
                  obtain ⟨hset, hgs⟩ := HO4.out.set k (v : Int)
                  have hub := Upd.of_grown (o := fun x => x = gr) hgs (fun r e => by cases e; rfl)
                  go_roundw
                  case rel =>
                    refine ⟨k + 1, _, E2, st ++ [(v : Int)], by go_num, hlt, Lib.hid ?_, Lib.hid (by rw [List.length_append, hL.out]; rfl), Lib.hid ((HT4.out).upd hub (fun x _ h9 e => by have := HO.out x h9; omega)), Lib.hid (.inl ⟨HE0.out, ?_⟩), Lib.hid ((hU.out.trans (HU4.out.weak (o' := fun x => x = g ∨ x = gr) fun _ _ h => .inl h) fun _ _ h => h).trans (hub.weak (o' := fun x => x = g ∨ x = gr) fun _ _ h => .inr h) fun _ _ h => h)⟩
                    · rw [set_midK 0 _ _ _ _ hL.out (by rw [List.length_drop, castN_length]; have := HKL.out; omega), drop_one] at hset
                      exact hset
                    · rw [HVN.out]
                      exact ⟨HVS.out.1, fun h9 => by
                        have h8 := HVS.out.2 h9
                        rw [if_neg (by have := HS1.out; omega)] at h8
                        exact ⟨by rw [h8.1, (HPS.out (HEZ.out h9)).1], h8.2⟩⟩
                  case measure => simp [intOf]; omega
            · have hw3 : IntKind.i64.wrap (-(d : Int)) = -(d : Int) := IntWalk.i64_in _ (by omega)
              have HVS := Lib.hid (HVA.out j1 d E1 (.inr ⟨hesc, rfl, rfl, rfl⟩))
              rw [if_neg hdn31] at HVS
              have HEZ := HEZX
              by_cases hdM : d = MM
              · have hqe : ((d : Int) == (MM : Int)) = true := by simp [hdM]
                have hEf : EE = false := by
                  cases EE
                  · rfl
                  · exact absurd ⟨rfl, hdM⟩ hesc
                subst hEf
                clear hesc hdM
                rcases HS01.out with hs1 | hs1
                · have HS1 := Lib.hid hs1
                  have hsb : ((s1 : Int) == 1) = true := by simp [hs1]
                  clear hs1
                  go_wp2_with (go_at_call 63; refine HGT.out.mono ?_; rintro e w3 ⟨rfl, hT3, hu3⟩; have HO3 := Lib.hid (ownI_keep HOK.out (hu3.keep (ok := fun x => x ≠ g) fun _ h => h) (fun x e => by have h9 : gr = x := Option.some.inj e; omega)); have B6 := B5.keep (hu3.keep (ok := fun x => x ≠ g) fun _ h => h) (by omega); have k31 := B6.cell 1 rfl; have k33 := B6.cell 3 rfl; have HB6 := Lib.hid B6; obtain ⟨q3, f3⟩ := HO3.out.at_ k HLK.out; have HT3 := Lib.hid hT3; have HU3 := Lib.hid hu3; clear hT3 hu3 B6)
                  obtain ⟨hset0, hgs0⟩ := HO3.out.set k (d : Int)
                  obtain ⟨hset, hgs⟩ := hset0.set k (-(d : Int))
                  rw [List.set_set] at hset
                  have hub := (Upd.of_grown (o := fun x => x = gr) hgs0 (fun r e => by cases e; rfl)).trans (Upd.of_grown (o := fun x => x = gr) hgs (fun r e => by cases e; rfl)) fun _ _ h => h
                  go_roundw
                  case rel =>
                    refine ⟨k + 1, _, E1, st ++ [-(d : Int)], by go_num, hlt, Lib.hid ?_, Lib.hid (by rw [List.length_append, hL.out]; rfl), Lib.hid ((HT3.out).upd hub (fun x _ h9 e => by have := HO.out x h9; omega)), Lib.hid (.inl ⟨HE0.out, ?_⟩), Lib.hid ((hU.out.trans (HU3.out.weak (o' := fun x => x = g ∨ x = gr) fun _ _ h => .inl h) fun _ _ h => h).trans (hub.weak (o' := fun x => x = g ∨ x = gr) fun _ _ h => .inr h) fun _ _ h => h)⟩
                    · rw [set_midK 0 _ _ _ _ hL.out (by rw [List.length_drop, castN_length]; have := HKL.out; omega), drop_one] at hset
                      exact hset
                    · rw [HVN.out]
                      exact ⟨HVS.out.1, fun h9 => by
                        have h8 := HVS.out.2 h9
                        rw [if_pos HS1.out] at h8
                        exact ⟨by rw [h8.1, (HPS.out (HEZ.out h9)).1], h8.2⟩⟩
                  case measure => simp [intOf]; omega
                · have HS1 := Lib.hid hs1
                  have hsb : ((s1 : Int) == 1) = false := by simp; omega
                  clear hs1
                  go_wp2_with (go_at_call 63; refine HGT.out.mono ?_; rintro e w3 ⟨rfl, hT3, hu3⟩; have HO3 := Lib.hid (ownI_keep HOK.out (hu3.keep (ok := fun x => x ≠ g) fun _ h => h) (fun x e => by have h9 : gr = x := Option.some.inj e; omega)); have B6 := B5.keep (hu3.keep (ok := fun x => x ≠ g) fun _ h => h) (by omega); have k31 := B6.cell 1 rfl; have k33 := B6.cell 3 rfl; have HB6 := Lib.hid B6; obtain ⟨q3, f3⟩ := HO3.out.at_ k HLK.out; have HT3 := Lib.hid hT3; have HU3 := Lib.hid hu3; clear hT3 hu3 B6)
                  obtain ⟨hset, hgs⟩ := HO3.out.set k (d : Int)
                  have hub := Upd.of_grown (o := fun x => x = gr) hgs (fun r e => by cases e; rfl)
                  go_roundw
                  case rel =>
                    refine ⟨k + 1, _, E1, st ++ [(d : Int)], by go_num, hlt, Lib.hid ?_, Lib.hid (by rw [List.length_append, hL.out]; rfl), Lib.hid ((HT3.out).upd hub (fun x _ h9 e => by have := HO.out x h9; omega)), Lib.hid (.inl ⟨HE0.out, ?_⟩), Lib.hid ((hU.out.trans (HU3.out.weak (o' := fun x => x = g ∨ x = gr) fun _ _ h => .inl h) fun _ _ h => h).trans (hub.weak (o' := fun x => x = g ∨ x = gr) fun _ _ h => .inr h) fun _ _ h => h)⟩
                    · rw [set_midK 0 _ _ _ _ hL.out (by rw [List.length_drop, castN_length]; have := HKL.out; omega), drop_one] at hset
                      exact hset
                    · rw [HVN.out]
                      exact ⟨HVS.out.1, fun h9 => by
                        have h8 := HVS.out.2 h9
                        rw [if_neg (by have := HS1.out; omega)] at h8
                        exact ⟨by rw [h8.1, (HPS.out (HEZ.out h9)).1], h8.2⟩⟩
                  case measure => simp [intOf]; omega
              · have hqe : ((d : Int) == (MM : Int)) = false := by simp; omega
                clear hesc hdM
                rcases HS01.out with hs1 | hs1
                · have HS1 := Lib.hid hs1
                  have hsb : ((s1 : Int) == 1) = true := by simp [hs1]
                  clear hs1
                  go_wp2_with (go_at_call 63; refine HGT.out.mono ?_; rintro e w3 ⟨rfl, hT3, hu3⟩; have HO3 := Lib.hid (ownI_keep HOK.out (hu3.keep (ok := fun x => x ≠ g) fun _ h => h) (fun x e => by have h9 : gr = x := Option.some.inj e; omega)); have B6 := B5.keep (hu3.keep (ok := fun x => x ≠ g) fun _ h => h) (by omega); have k31 := B6.cell 1 rfl; have k33 := B6.cell 3 rfl; have HB6 := Lib.hid B6; obtain ⟨q3, f3⟩ := HO3.out.at_ k HLK.out; have HT3 := Lib.hid hT3; have HU3 := Lib.hid hu3; clear hT3 hu3 B6)
                  obtain ⟨hset0, hgs0⟩ := HO3.out.set k (d : Int)
                  obtain ⟨hset, hgs⟩ := hset0.set k (-(d : Int))
                  rw [List.set_set] at hset
                  have hub := (Upd.of_grown (o := fun x => x = gr) hgs0 (fun r e => by cases e; rfl)).trans (Upd.of_grown (o := fun x => x = gr) hgs (fun r e => by cases e; rfl)) fun _ _ h => h
                  go_roundw
                  case rel =>
                    refine ⟨k + 1, _, E1, st ++ [-(d : Int)], by go_num, hlt, Lib.hid ?_, Lib.hid (by rw [List.length_append, hL.out]; rfl), Lib.hid ((HT3.out).upd hub (fun x _ h9 e => by have := HO.out x h9; omega)), Lib.hid (.inl ⟨HE0.out, ?_⟩), Lib.hid ((hU.out.trans (HU3.out.weak (o' := fun x => x = g ∨ x = gr) fun _ _ h => .inl h) fun _ _ h => h).trans (hub.weak (o' := fun x => x = g ∨ x = gr) fun _ _ h => .inr h) fun _ _ h => h)⟩
                    · rw [set_midK 0 _ _ _ _ hL.out (by rw [List.length_drop, castN_length]; have := HKL.out; omega), drop_one] at hset
                      exact hset
                    · rw [HVN.out]
                      exact ⟨HVS.out.1, fun h9 => by
                        have h8 := HVS.out.2 h9
                        rw [if_pos HS1.out] at h8
                        exact ⟨by rw [h8.1, (HPS.out (HEZ.out h9)).1], h8.2⟩⟩
                  case measure => simp [intOf]; omega
                · have HS1 := Lib.hid hs1
                  have hsb : ((s1 : Int) == 1) = false := by simp; omega
                  clear hs1
                  go_wp2_with (go_at_call 63; refine HGT.out.mono ?_; rintro e w3 ⟨rfl, hT3, hu3⟩; have HO3 := Lib.hid (ownI_keep HOK.out (hu3.keep (ok := fun x => x ≠ g) fun _ h => h) (fun x e => by have h9 : gr = x := Option.some.inj e; omega)); have B6 := B5.keep (hu3.keep (ok := fun x => x ≠ g) fun _ h => h) (by omega); have k31 := B6.cell 1 rfl; have k33 := B6.cell 3 rfl; have HB6 := Lib.hid B6; obtain ⟨q3, f3⟩ := HO3.out.at_ k HLK.out; have HT3 := Lib.hid hT3; have HU3 := Lib.hid hu3; clear hT3 hu3 B6)
                  obtain ⟨hset, hgs⟩ := HO3.out.set k (d : Int)
                  have hub := Upd.of_grown (o := fun x => x = gr) hgs (fun r e => by cases e; rfl)
                  go_roundw
                  case rel =>
                    refine ⟨k + 1, _, E1, st ++ [(d : Int)], by go_num, hlt, Lib.hid ?_, Lib.hid (by rw [List.length_append, hL.out]; rfl), Lib.hid ((HT3.out).upd hub (fun x _ h9 e => by have := HO.out x h9; omega)), Lib.hid (.inl ⟨HE0.out, ?_⟩), Lib.hid ((hU.out.trans (HU3.out.weak (o' := fun x => x = g ∨ x = gr) fun _ _ h => .inl h) fun _ _ h => h).trans (hub.weak (o' := fun x => x = g ∨ x = gr) fun _ _ h => .inr h) fun _ _ h => h)⟩
                    · rw [set_midK 0 _ _ _ _ hL.out (by rw [List.length_drop, castN_length]; have := HKL.out; omega), drop_one] at hset
                      exact hset
                    · rw [HVN.out]
                      exact ⟨HVS.out.1, fun h9 => by
                        have h8 := HVS.out.2 h9
                        rw [if_neg (by have := HS1.out; omega)] at h8
                        exact ⟨by rw [h8.1, (HPS.out (HEZ.out h9)).1], h8.2⟩⟩
                  case measure => simp [intOf]; omega
        · obtain rfl : k = dimB b := by omega
          have HFIN := Lib.hid (show tl.take (dimB b) = tl from List.take_of_length_le (by rw [HDL.out]; exact Nat.le_refl _))
          have hgr := HN.out
          go_wp2
          go_ret
          have hO9 := hO.out
          rw [List.drop_of_length_le (by rw [castN_length, HDL.out]; exact Nat.le_refl _), List.append_nil] at hO9
          have hI9 := hI.out
          rw [HFIN.out] at hI9
          refine ⟨_, st, rfl, hO9.mono (by omega), hL.out, fun h9 => ?_, fun h9 => ?_, ?_⟩
          · rcases hI9 with ⟨_, h2, h3⟩ | ⟨h1, _⟩
            · rw [h2]
              exact ⟨⟨j, hT.out, fun h8 => (h3 h8).2⟩, fun h8 => (h3 h8).1⟩
            · exact absurd h9 h1
          · rcases hI9 with ⟨h1, _⟩ | ⟨_, h2, h3⟩
            · exact absurd h1 h9
            · have h4 := hT.out
              rw [h2, h3] at h4
              exact h4
          · exact HU1.out.trans ((HU2.out.weak (o' := fun x => x = g ∨ x = gr) fun _ _ h => .inr h).trans hU.out fun _ _ h => h) (fun x hx e => by rcases e with e | e; exact e; omega)
end Go.Proofs.YtmcdgmiheklbeaaDoor
