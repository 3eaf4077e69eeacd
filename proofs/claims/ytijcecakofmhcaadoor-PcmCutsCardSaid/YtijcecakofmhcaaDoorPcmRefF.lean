/- The document's answer, layer 2: Wide. -/
import Derived.Test.YtijcecakofmhcaaDoorPcmRefE
namespace Go.Proofs.YtijcecakofmhcaaDoor
open Go.RowKit

set_option maxHeartbeats 400000 in
theorem refWide_bad (r : Int) (A : Option Addr) (c : Nat) (s : List (List Int)) (w : World) (hS : R2 w A c s) (hv : validB r s = false) :
    Calls Tryd.prog 29 #[.agg #[.int .i64 r, .slice A s.length c]] w fun e w' => RetA (wideS r s) e w' ∧ Below w.heap.size w w' := by
  have hn := hS.len
  have HP := Lib.hid (show wideS r s = (0, [], 1) by simp [wideS, hv])
  have HV := Lib.hid hv
  clear hv
  go_enter Tryd.func29, Tryd.ntmps29
  go_wp2_with (first | ((with_reducible refine at_dst (N := 1) rfl ?_); refine ev_new #[.int .i64 r, .slice A s.length c] 24 rfl ?hr ?_; (case hr => first | (go_simp; done) | (go_simp; rfl)); intro g1 w1 eg1 zg1 b1 Bg1; skip) | ((with_reducible refine at_dst (N := 2) rfl ?_); refine ev_new #[.int .i64 0, .slice none 0 0] 24 rfl ?hr ?_; (case hr => first | (go_simp; done) | (go_simp; rfl)); intro g2 w2 eg2 zg2 b2 Bg2; replace Bg1 := Bg1.below b2; replace b1 := below2 b1 b2; have k0 := Bg1.cell 0 rfl; have k1 := Bg1.cell 1 rfl) | (go_at_call 25; refine (refValid_any r A c s _ (hS.below b1)).mono ?_; rintro e w3 ⟨rfl, b3⟩; rw [HV.out]; replace Bg2 := Bg2.below b3; replace b1 := below2 b1 b3) | ((with_reducible refine at_store (p := 2) rfl ?_); (refine ev_put #[.int .i64 0, .slice none 0 0] rfl 24 (.tmp 2) (.tmp 7) rfl g2 24 _ rfl rfl Bg2 sizeS rfl rfl ?_); intro wf Bq hqf hzf; have z0 := Bq.cell 0 rfl; have z1 := Bq.cell 1 rfl))
  have e1 := eg1.out
  have e2 := eg2.out
  have e3 := zg1.out
  refine bodyPost_ret (v := .tuple #[.agg #[.int .i64 0, .slice none 0 0], .int .i64 1]) (by simp [results, Tryd.results29, go_sem, z0, z1]) rfl ⟨by rw [HP.out]; exact RetA.none _ _, below_grown b1 b1.size hqf (fun k e => by have := Option.some.inj e; omega)⟩

set_option maxHeartbeats 1000000 in
set_option maxRecDepth 100000 in
theorem refWide_one (r : Int) (A : Option Addr) (c : Nat) (x : List Int) (w : World) (hS : R2 w A c [x]) (hv : validB r [x] = true) :
    Calls Tryd.prog 29 #[.agg #[.int .i64 r, .slice A 1 c]] w fun e w' => RetA (wideS r [x]) e w' ∧ Below w.heap.size w w' := by
  have HP := Lib.hid (show wideS r [x] = (r, [x, x], 0) by simp [wideS, hv, nth])
  have V := valid_facts hv
  have h3 : x.length ≤ 8192 := V.len
  have h4 : (x).length ≤ 8192 := by rw [V.same x (by simp)]; exact V.len
  have HV := Lib.hid hv
  clear hv V
  obtain ⟨ad, A', c', rfl, hc, hs'⟩ := rd_sl hS 0 (by simp)
  rw [add_zero] at hc
  replace hc : w.cell? ad = some (.slice A' x.length c') := hc
  replace hs' : Sl (kInt .i64) AnyB w A' c' x := hs'
  have hblk := World.block_lt_of_cell? w _ hc
  go_enter Tryd.func29, Tryd.ntmps29
  go_wp2_with (first | ((with_reducible refine at_dst (N := 1) rfl ?_); refine ev_new #[.int .i64 r, .slice (some ad) 1 c] 24 rfl ?hr ?_; (case hr => first | (go_simp; done) | (go_simp; rfl)); intro g1 w1 eg1 zg1 b1 Bg1; skip) | ((with_reducible refine at_dst (N := 2) rfl ?_); refine ev_new #[.int .i64 0, .slice none 0 0] 24 rfl ?hr ?_; (case hr => first | (go_simp; done) | (go_simp; rfl)); intro g2 w2 eg2 zg2 b2 Bg2; replace Bg1 := Bg1.below b2; replace b1 := below2 b1 b2; have k0 := Bg1.cell 0 rfl; have k1 := Bg1.cell 1 rfl) | (go_at_call 25; refine (refValid_any r (some ad) c [x] _ (hS.below b1)).mono ?_; rintro e w3 ⟨rfl, b3⟩; rw [HV.out]; replace b1 := below2 b1 b3; replace Bg1 := Bg1.below b3; replace Bg2 := Bg2.below b3; clear k0 k1; have k0 : w3.cell? ⟨g1, 0, none⟩ = some (.int .i64 r) := Bg1.cell 0 rfl; have k1 : w3.cell? ⟨g1, 1, none⟩ = some (.slice (some ad) 1 c) := Bg1.cell 1 rfl; replace hc := cell_below b1 hc))
  have tok : True := trivial
  have e12 : g1 ≠ g2 := by have := eg2.out; have := zg1.out; omega
  have ead : ad.block ≠ g2 := by have := World.block_lt_of_cell? w3 _ hc; have := hblk; have := eg2.out; have := zg1.out; have := eg1.out; omega
  have G2 : w.heap.size ≤ g2 := by have := eg2.out; have := zg1.out; have := eg1.out; omega
  have hwr : IntKind.i64.wrap 0 = 0 := by decide
  go_region_held3 (fun W => W.cell? ⟨g1, 0, none⟩ = some (.int .i64 r) ∧ W.cell? ⟨g1, 1, none⟩ = some (.slice (some ad) 1 c) ∧ W.cell? ad = some (.slice A' x.length c')) (first | go_keep | exact ⟨keep_put2 k0 e12, keep_put2 k1 e12, keep_put2 hc ead⟩ | exact ⟨keep_put2' k0 e12, keep_put2' k1 e12, keep_put2' hc ead⟩) (first | (go_at_call 70; have _t := tok; refine (own_any A' c' x _ ?h1 (by omega)).mono ?_; (case h1 => exact hs'.below (b1.drew)); clear tok; rintro e w4 ⟨v4, rfl, hO4, b4⟩; replace Bg2 := Bg2.below ((Below.refl w3.heap.size w3).drew.trans b4); replace k0 := cell_below b4 k0; replace k1 := cell_below b4 k1; replace hc := cell_below b4 hc) | (go_at_call 70; refine (own_any A' c' x _ ?h1 (by omega)).mono ?_; (case h1 => exact hs'.below (below2 b1.drew b4)); rintro e w5 ⟨v5, rfl, hO5, b5⟩; replace Bg2 := Bg2.below b5; have m0 := Bg2.cell 0 rfl; have m1 := Bg2.cell 1 rfl; have f0 := Bg2.free 0; have f1 := Bg2.free 1; have l2 := Bg2.lt; replace k0 := cell_below b5 k0; replace k1 := cell_below b5 k1; replace hc := cell_below b5 hc; obtain ⟨A4, c4, rfl, hR4⟩ := hO4.rd; obtain ⟨A5, c5, rfl, hR5⟩ := hO5.rd))
  all_goals
    go_wp2
    have Bz := ((Bg2.set 0 (.int .i64 r)).set 1 (.slice (some ⟨w5.heap.size, 0, none⟩) 2 2)).below (below_alloc (Below.refl _ _) (.cells #[.slice A4 x.length c4, .slice A5 (x).length c5] 36))
    have z0 := Bz.cell 0 rfl
    have z1 := Bz.cell 1 rfl
    have hk2 := (Keep.of_grown1 (grown_setCell w5 g2 0 (.int .i64 r))).trans (Keep.of_grown1 (grown_setCell _ g2 1 (.slice (some ⟨w5.heap.size, 0, none⟩) 2 2)))
    have s45 := b4.size
    have s34 : w.heap.size ≤ w3.drew.heap.size := b1.size
    have s3g : g2 < w3.drew.heap.size := by have := eg2.out; have := zg2.out; have := b3.size; show g2 < w3.heap.size; omega
    have h4 : Sl (kInt .i64) (fun b => w.heap.size ≤ b) _ A4 c4 x := (((hR4.below b5).weak (ok' := fun b => b ≠ g2 ∧ w.heap.size ≤ b) fun b _ hb => ⟨by omega, by omega⟩).keep (hk2.weak fun b hb => hb.1)).weak fun b _ hb => hb.2
    have h5 : Sl (kInt .i64) (fun b => w.heap.size ≤ b) _ A5 c5 (x) := ((hR5.weak (ok' := fun b => b ≠ g2 ∧ w.heap.size ≤ b) fun b _ hb => ⟨by omega, by omega⟩).keep (hk2.weak fun b hb => hb.1)).weak fun b _ hb => hb.2
    have hL := lit_sl2k _ 36 h4 h5 (by simp; have := b5.size; omega)
    have hBf := below_grown (below_grown (below2 (below2 b1.drew b4) b5) (below2 (below2 b1.drew b4) b5).size (grown_setCell w5 g2 0 (.int .i64 r)) (fun k e => by have := Option.some.inj e; omega)) (by simp; exact (below2 (below2 b1.drew b4) b5).size) (grown_setCell _ g2 1 (.slice (some ⟨w5.heap.size, 0, none⟩) 2 2)) (fun k e => by have := Option.some.inj e; omega)
    simp only [World.size_setCell] at hL
    refine bodyPost_ret (v := .tuple #[.agg #[.int .i64 r, .slice (some ⟨w5.heap.size, 0, none⟩) 2 2], .int .i64 0]) (by simp [results, Tryd.results29, go_sem, z0, z1]) rfl ⟨?_, ?_⟩
    · rw [HP.out]
      exact ⟨_, 2, rfl, hL.any⟩
    · exact below_alloc hBf _

set_option maxHeartbeats 1000000 in
set_option maxRecDepth 100000 in
theorem refWide_two (r : Int) (A : Option Addr) (c : Nat) (x y : List Int) (w : World) (hS : R2 w A c [x, y]) (hv : validB r [x, y] = true) :
    Calls Tryd.prog 29 #[.agg #[.int .i64 r, .slice A 2 c]] w fun e w' => RetA (wideS r [x, y]) e w' ∧ Below w.heap.size w w' := by
  have HP := Lib.hid (show wideS r [x, y] = (r, [x, y], 0) by simp [wideS, hv, nth])
  have V := valid_facts hv
  have h3 : x.length ≤ 8192 := V.len
  have h4 : (y).length ≤ 8192 := by rw [V.same y (by simp)]; exact V.len
  have HV := Lib.hid hv
  clear hv V
  obtain ⟨ad, A', c', rfl, hc, hs'⟩ := rd_sl hS 0 (by simp)
  obtain ⟨ad2, A2, c2, e2, hc2, hs2⟩ := rd_sl hS (2 - 1) (by simp)
  obtain rfl := Option.some.inj e2
  rw [add_zero] at hc
  rw [show (2 : Nat) - 1 = 1 from rfl, Addr.add] at hc2; simp only [Nat.one_ne_zero, if_false] at hc2
  replace hc : w.cell? ad = some (.slice A' x.length c') := hc
  replace hc2 : w.cell? ⟨ad.block, ad.off + 1, none⟩ = some (.slice A2 (y).length c2) := hc2
  replace hs' : Sl (kInt .i64) AnyB w A' c' x := hs'
  replace hs2 : Sl (kInt .i64) AnyB w A2 c2 (y) := hs2
  have hblk := World.block_lt_of_cell? w _ hc
  go_enter Tryd.func29, Tryd.ntmps29
  go_wp2_with (first | ((with_reducible refine at_dst (N := 1) rfl ?_); refine ev_new #[.int .i64 r, .slice (some ad) 2 c] 24 rfl ?hr ?_; (case hr => first | (go_simp; done) | (go_simp; rfl)); intro g1 w1 eg1 zg1 b1 Bg1; skip) | ((with_reducible refine at_dst (N := 2) rfl ?_); refine ev_new #[.int .i64 0, .slice none 0 0] 24 rfl ?hr ?_; (case hr => first | (go_simp; done) | (go_simp; rfl)); intro g2 w2 eg2 zg2 b2 Bg2; replace Bg1 := Bg1.below b2; replace b1 := below2 b1 b2; have k0 := Bg1.cell 0 rfl; have k1 := Bg1.cell 1 rfl) | (go_at_call 25; refine (refValid_any r (some ad) c [x, y] _ (hS.below b1)).mono ?_; rintro e w3 ⟨rfl, b3⟩; rw [HV.out]; replace b1 := below2 b1 b3; replace Bg1 := Bg1.below b3; replace Bg2 := Bg2.below b3; clear k0 k1; have k0 : w3.cell? ⟨g1, 0, none⟩ = some (.int .i64 r) := Bg1.cell 0 rfl; have k1 : w3.cell? ⟨g1, 1, none⟩ = some (.slice (some ad) 2 c) := Bg1.cell 1 rfl; replace hc := cell_below b1 hc; replace hc2 := cell_below b1 hc2))
  have tok : True := trivial
  have e12 : g1 ≠ g2 := by have := eg2.out; have := zg1.out; omega
  have ead : ad.block ≠ g2 := by have := World.block_lt_of_cell? w3 _ hc; have := hblk; have := eg2.out; have := zg1.out; have := eg1.out; omega
  have G2 : w.heap.size ≤ g2 := by have := eg2.out; have := zg1.out; have := eg1.out; omega
  have hwr : IntKind.i64.wrap 1 = 1 := by decide
  go_region_held3 (fun W => W.cell? ⟨g1, 0, none⟩ = some (.int .i64 r) ∧ W.cell? ⟨g1, 1, none⟩ = some (.slice (some ad) 2 c) ∧ W.cell? ad = some (.slice A' x.length c') ∧ W.cell? ⟨ad.block, ad.off + 1, none⟩ = some (.slice A2 (y).length c2)) (first | go_keep | exact ⟨keep_put2 k0 e12, keep_put2 k1 e12, keep_put2 hc ead, keep_put2 hc2 ead⟩ | exact ⟨keep_put2' k0 e12, keep_put2' k1 e12, keep_put2' hc ead, keep_put2' hc2 ead⟩) (first | (go_at_call 70; have _t := tok; refine (own_any A' c' x _ ?h1 (by omega)).mono ?_; (case h1 => exact hs'.below (b1.drew)); clear tok; rintro e w4 ⟨v4, rfl, hO4, b4⟩; replace Bg2 := Bg2.below ((Below.refl w3.heap.size w3).drew.trans b4); replace k0 := cell_below b4 k0; replace k1 := cell_below b4 k1; replace hc := cell_below b4 hc; replace hc2 := cell_below b4 hc2) | (go_at_call 70; refine (own_any A2 c2 (y) _ ?h1 (by omega)).mono ?_; (case h1 => exact hs2.below (below2 b1.drew b4)); rintro e w5 ⟨v5, rfl, hO5, b5⟩; replace Bg2 := Bg2.below b5; have m0 := Bg2.cell 0 rfl; have m1 := Bg2.cell 1 rfl; have f0 := Bg2.free 0; have f1 := Bg2.free 1; have l2 := Bg2.lt; replace k0 := cell_below b5 k0; replace k1 := cell_below b5 k1; replace hc := cell_below b5 hc; replace hc2 := cell_below b5 hc2; obtain ⟨A4, c4, rfl, hR4⟩ := hO4.rd; obtain ⟨A5, c5, rfl, hR5⟩ := hO5.rd))
  all_goals
    go_wp2
    have Bz := ((Bg2.set 0 (.int .i64 r)).set 1 (.slice (some ⟨w5.heap.size, 0, none⟩) 2 2)).below (below_alloc (Below.refl _ _) (.cells #[.slice A4 x.length c4, .slice A5 (y).length c5] 36))
    have z0 := Bz.cell 0 rfl
    have z1 := Bz.cell 1 rfl
    have hk2 := (Keep.of_grown1 (grown_setCell w5 g2 0 (.int .i64 r))).trans (Keep.of_grown1 (grown_setCell _ g2 1 (.slice (some ⟨w5.heap.size, 0, none⟩) 2 2)))
    have s45 := b4.size
    have s34 : w.heap.size ≤ w3.drew.heap.size := b1.size
    have s3g : g2 < w3.drew.heap.size := by have := eg2.out; have := zg2.out; have := b3.size; show g2 < w3.heap.size; omega
    have h4 : Sl (kInt .i64) (fun b => w.heap.size ≤ b) _ A4 c4 x := (((hR4.below b5).weak (ok' := fun b => b ≠ g2 ∧ w.heap.size ≤ b) fun b _ hb => ⟨by omega, by omega⟩).keep (hk2.weak fun b hb => hb.1)).weak fun b _ hb => hb.2
    have h5 : Sl (kInt .i64) (fun b => w.heap.size ≤ b) _ A5 c5 (y) := ((hR5.weak (ok' := fun b => b ≠ g2 ∧ w.heap.size ≤ b) fun b _ hb => ⟨by omega, by omega⟩).keep (hk2.weak fun b hb => hb.1)).weak fun b _ hb => hb.2
    have hL := lit_sl2k _ 36 h4 h5 (by simp; have := b5.size; omega)
    have hBf := below_grown (below_grown (below2 (below2 b1.drew b4) b5) (below2 (below2 b1.drew b4) b5).size (grown_setCell w5 g2 0 (.int .i64 r)) (fun k e => by have := Option.some.inj e; omega)) (by simp; exact (below2 (below2 b1.drew b4) b5).size) (grown_setCell _ g2 1 (.slice (some ⟨w5.heap.size, 0, none⟩) 2 2)) (fun k e => by have := Option.some.inj e; omega)
    simp only [World.size_setCell] at hL
    refine bodyPost_ret (v := .tuple #[.agg #[.int .i64 r, .slice (some ⟨w5.heap.size, 0, none⟩) 2 2], .int .i64 0]) (by simp [results, Tryd.results29, go_sem, z0, z1]) rfl ⟨?_, ?_⟩
    · rw [HP.out]
      exact ⟨_, 2, rfl, hL.any⟩
    · exact below_alloc hBf _

theorem refWide_any (r : Int) (A : Option Addr) (c : Nat) (s : List (List Int)) (w : World) (hS : R2 w A c s) :
    Calls Tryd.prog 29 #[.agg #[.int .i64 r, .slice A s.length c]] w fun e w' => RetA (wideS r s) e w' ∧ Below w.heap.size w w' := by
  cases hv : validB r s
  · exact refWide_bad r A c s w hS hv
  · have V := valid_facts hv
    have h1 := V.one
    have h2 := V.two
    match s, h1, h2, hS, hv with
    | [x], _, _, hS, hv => exact refWide_one r A c x w hS hv
    | [x, y], _, _, hS, hv => exact refWide_two r A c x y w hS hv
end Go.Proofs.YtijcecakofmhcaaDoor
