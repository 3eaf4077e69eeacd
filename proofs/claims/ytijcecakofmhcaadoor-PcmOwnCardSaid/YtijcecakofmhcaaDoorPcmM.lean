/- pcm: Wide: what the call returns, for any sound. -/
import Derived.Test.YtijcecakofmhcaaDoorPcmH
namespace Go.Proofs.YtijcecakofmhcaaDoor
open Go.RowKit

theorem lit_sl2k {α : Type} {k : Kd α} {ok : Nat → Prop} (W : World) (e : TypeId) {A1 A2 : Option Addr} {c1 c2 : Nat} {xs ys : List α} (h1 : Sl k ok W A1 c1 xs) (h2 : Sl k ok W A2 c2 ys) (hok : ok W.heap.size) :
    Sl (kSl k) ok (W.alloc (.cells #[.slice A1 xs.length c1, .slice A2 ys.length c2] e)) (some ⟨W.heap.size, 0, none⟩) 2 [xs, ys] := by
  have hb := below_alloc (Below.refl W.heap.size W) (.cells #[.slice A1 xs.length c1, .slice A2 ys.length c2] e)
  refine ⟨Nat.le_refl _, by omega, fun j hj => ?_⟩
  match j, hj with
  | 0, _ =>
    refine ⟨_, _, rfl, hok, by simp, ⟨A1, c1, rfl, h1.below hb⟩, fun i v hv => ?_⟩
    match i, hv with
    | 0, hv =>
      simp at hv
      subst hv
      simp [kSl, Addr.add, nth]
  | 1, _ =>
    refine ⟨_, _, rfl, hok, by simp, ⟨A2, c2, rfl, h2.below hb⟩, fun i v hv => ?_⟩
    match i, hv with
    | 0, hv =>
      simp at hv
      subst hv
      simp [kSl, Addr.add, nth]
theorem lit_sl1k {α : Type} {k : Kd α} {ok : Nat → Prop} (W : World) (e : TypeId) {A1 : Option Addr} {c1 : Nat} {xs : List α} (h1 : Sl k ok W A1 c1 xs) (hok : ok W.heap.size) :
    Sl (kSl k) ok (W.alloc (.cells #[.slice A1 xs.length c1] e)) (some ⟨W.heap.size, 0, none⟩) 1 [xs] := by
  have hb := below_alloc (Below.refl W.heap.size W) (.cells #[.slice A1 xs.length c1] e)
  refine ⟨Nat.le_refl _, by omega, fun j hj => ?_⟩
  obtain rfl : j = 0 := by simp at hj; omega
  refine ⟨_, _, rfl, hok, by simp, ⟨A1, c1, rfl, h1.below hb⟩, fun i v hv => ?_⟩
  match i, hv with
  | 0, hv =>
    simp at hv
    subst hv
    simp [kSl, Addr.add, nth]
theorem keep_put2 {W : World} {g2 : Nat} {u v : Value} {o : Obj} {a : Addr} {x : Value} (h : W.cell? a = some x) (hne : a.block ≠ g2) :
    (((W.setCell ⟨g2, 0, none⟩ u).setCell ⟨g2, 1, none⟩ v).alloc o).cell? a = some x :=
  cell_below (below_alloc (Below.refl _ _) o) ((Keep.of_grown1 (grown_setCell _ g2 1 v)).cell hne ((Keep.of_grown1 (grown_setCell W g2 0 u)).cell hne h))
theorem keep_put2' {W : World} {g2 : Nat} {u v : Value} {o : Obj} {a : Addr} {x : Value} (h : W.cell? a = some x) (hne : a.block ≠ g2) :
    (((W.alloc o).setCell ⟨g2, 0, none⟩ u).setCell ⟨g2, 1, none⟩ v).cell? a = some x :=
  ((Keep.of_grown1 (grown_setCell _ g2 1 v)).cell hne ((Keep.of_grown1 (grown_setCell _ g2 0 u)).cell hne (cell_below (below_alloc (Below.refl _ _) o) h)))
set_option maxHeartbeats 1000000 in
set_option maxRecDepth 100000 in
theorem wide_T (r : Int) (A : Option Addr) (c : Nat) (s : List (List Int)) (w : World) (hG : GR w) (hS : R2 w A c s) :
    Calls Tryd.prog 28 #[.agg #[.int .i64 r, .slice A s.length c]] w fun e w' => RetT w.heap.size (wideS r s) e w' ∧ Below w.heap.size w w' := by
  have hn := hS.len
  cases hv : validB r s
  · have H := Lib.hid (checkE_no hv)
    have HP := Lib.hid (show wideS r s = (0, [], 1) by simp [wideS, hv])
    clear hv
    go_enter Tryd.func28, Tryd.ntmps28
    go_wp2_with (first | ((with_reducible refine at_dst (N := 1) rfl ?_); refine ev_new #[.int .i64 r, .slice A s.length c] 24 rfl ?hr ?_; (case hr => first | (go_simp; done) | (go_simp; rfl)); intro g1 w1 eg1 zg1 b1 Bg1; have k0 := Bg1.cell 0 rfl; have k1 := Bg1.cell 1 rfl) | ((with_reducible refine at_dst (N := 2) rfl ?_); refine ev_new #[.int .i64 0, .slice none 0 0] 24 rfl ?hr ?_; (case hr => first | (go_simp; done) | (go_simp; rfl)); intro g2 w2 eg2 zg2 b2 Bg2; replace Bg1 := Bg1.below b2; replace k0 := cell_below b2 k0; replace k1 := cell_below b2 k1; replace b1 := below2 b1 b2) | (go_at_call 48; refine (check_any _ _ _ _ _ (hG.below b1) (hS.below b1)).mono ?_; rintro e w3 ⟨rfl, b3⟩; rw [H.out]; replace b1 := below2 b1 b3; replace Bg2 := Bg2.below b3) | ((with_reducible refine at_store (p := 2) rfl ?_); (refine ev_put #[.int .i64 0, .slice none 0 0] rfl 24 (.tmp 2) (.tmp 10) rfl g2 24 _ rfl rfl Bg2 sizeS rfl rfl ?_); intro w4 Bq hq4 hz4; have z0 := Bq.cell 0 rfl; have z1 := Bq.cell 1 rfl))
    refine bodyPost_ret (v := .tuple #[.agg #[.int .i64 0, .slice none 0 0], .int .i64 1]) (by simp [results, Tryd.results28, go_sem, z0, z1]) rfl ⟨?_, ?_⟩
    · rw [HP.out]; exact RetT.none _ _ _
    · exact below_grown b1 b1.size hq4 (fun k e => by have := Option.some.inj e; have := eg2.out; have := zg1.out; have := eg1.out; omega)
  · have V := valid_facts hv
    have HP := Lib.hid (show wideS r s = (r, [nth [] s 0, nth [] s (s.length - 1)], 0) by simp [wideS, hv])
    have H := Lib.hid (checkE_ok hv)
    have h1 := V.one
    have h2 := V.two
    have h3 := V.len
    clear hv
    have hs0 : (0 : Nat) < s.length := by omega
    have hsl : s.length - 1 < s.length := by omega
    have hl0 : (nth [] s 0).length ≤ 8192 := h3
    have hl1 : (nth [] s (s.length - 1)).length ≤ 8192 := by rw [V.same _ (nth_mem [] s _ hsl)]; exact h3
    obtain ⟨ad, A', c', rfl, hc, hs'⟩ := rd_sl hS 0 hs0
    rw [add_zero] at hc
    have hblk := World.block_lt_of_cell? w _ hc
    obtain ⟨ad2, A2, c2, e2, hc2, hs2⟩ := rd_sl hS (s.length - 1) hsl
    obtain rfl := Option.some.inj e2
    go_enter Tryd.func28, Tryd.ntmps28
    go_wp2_with (first | ((with_reducible refine at_dst (N := 1) rfl ?_); refine ev_new #[.int .i64 r, .slice (some ad) s.length c] 24 rfl ?hr ?_; (case hr => first | (go_simp; done) | (go_simp; rfl)); intro g1 w1 eg1 zg1 b1 Bg1; have k0 := Bg1.cell 0 rfl; have k1 := Bg1.cell 1 rfl) | ((with_reducible refine at_dst (N := 2) rfl ?_); refine ev_new #[.int .i64 0, .slice none 0 0] 24 rfl ?hr ?_; (case hr => first | (go_simp; done) | (go_simp; rfl)); intro g2 w2 eg2 zg2 b2 Bg2; replace Bg1 := Bg1.below b2; replace k0 := cell_below b2 k0; replace k1 := cell_below b2 k1; replace b1 := below2 b1 b2) | (go_at_call 48; refine (check_any _ _ _ _ _ (hG.below b1) (hS.below b1)).mono ?_; rintro e w3 ⟨rfl, b3⟩; rw [H.out]; replace b1 := below2 b1 b3; replace Bg1 := Bg1.below b3; replace Bg2 := Bg2.below b3; clear k0 k1; have k0 : w3.cell? ⟨g1, 0, none⟩ = some (.int .i64 r) := Bg1.cell 0 rfl; have k1 : w3.cell? ⟨g1, 1, none⟩ = some (.slice (some ad) s.length c) := Bg1.cell 1 rfl; replace hc := cell_below b1 hc; replace hc2 := cell_below b1 hc2))
    have tok : True := trivial
    have e12 : g1 ≠ g2 := by have := eg2.out; have := zg1.out; omega
    have ead : ad.block ≠ g2 := by have := World.block_lt_of_cell? w3 _ hc; have := hblk; have := eg2.out; have := zg1.out; have := eg1.out; omega
    have G2 : w.heap.size ≤ g2 := by have := eg2.out; have := zg1.out; have := eg1.out; omega
    go_region_held3 (fun W => W.cell? ⟨g1, 0, none⟩ = some (.int .i64 r) ∧ W.cell? ⟨g1, 1, none⟩ = some (.slice (some ad) s.length c) ∧ W.cell? ad = some (.slice A' (nth [] s 0).length c')) (first | go_keep | exact ⟨keep_put2 k0 e12, keep_put2 k1 e12, keep_put2 hc ead⟩ | exact ⟨keep_put2' k0 e12, keep_put2' k1 e12, keep_put2' hc ead⟩) (first | (go_at_call 68; have _t := tok; refine (clone_any A' c' (nth [] s 0) _ ?h1 (by omega)).mono ?_; (case h1 => exact hs'.below (b1.drew)); clear tok; rintro e w4 ⟨v4, rfl, hO4, b4⟩; replace Bg2 := Bg2.below ((Below.refl w3.heap.size w3).drew.trans b4); replace k0 := cell_below b4 k0; replace k1 := cell_below b4 k1; replace hc := cell_below b4 hc) | (go_at_call 68; refine (clone_any A2 c2 (nth [] s (s.length - 1)) _ ?h1 (by omega)).mono ?_; (case h1 => exact hs2.below (below2 b1.drew b4)); rintro e w5 ⟨v5, rfl, hO5, b5⟩; replace Bg2 := Bg2.below b5; have m0 := Bg2.cell 0 rfl; have m1 := Bg2.cell 1 rfl; have f0 := Bg2.free 0; have f1 := Bg2.free 1; have l2 := Bg2.lt; replace k0 := cell_below b5 k0; replace k1 := cell_below b5 k1; replace hc := cell_below b5 hc; obtain ⟨A4, c4, rfl, hR4⟩ := hO4.rdT; obtain ⟨A5, c5, rfl, hR5⟩ := hO5.rdT))
    go_wp2
    have Bz := ((Bg2.set 0 (.int .i64 r)).set 1 (.slice (some ⟨w5.heap.size, 0, none⟩) 2 2)).below (below_alloc (Below.refl _ _) (.cells #[.slice A4 (nth [] s 0).length c4, .slice A5 (nth [] s (s.length - 1)).length c5] 36))
    have z0 := Bz.cell 0 rfl
    have z1 := Bz.cell 1 rfl
    have hk2 := (Keep.of_grown1 (grown_setCell w5 g2 0 (.int .i64 r))).trans (Keep.of_grown1 (grown_setCell _ g2 1 (.slice (some ⟨w5.heap.size, 0, none⟩) 2 2)))
    have s45 := b4.size
    have s34 : w.heap.size ≤ w3.drew.heap.size := b1.size
    have s3g : g2 < w3.drew.heap.size := by have := eg2.out; have := zg2.out; have := b3.size; show g2 < w3.heap.size; omega
    have h4 : SlT (fun b => w.heap.size ≤ b) _ A4 c4 (nth [] s 0) := (((hR4.below b5).weak (ok' := fun b => b ≠ g2 ∧ w.heap.size ≤ b) fun b _ hb => ⟨by omega, by omega⟩).keep (hk2.weak fun b hb => hb.1)).weak fun b _ hb => hb.2
    have h5 : SlT (fun b => w.heap.size ≤ b) _ A5 c5 (nth [] s (s.length - 1)) := ((hR5.weak (ok' := fun b => b ≠ g2 ∧ w.heap.size ≤ b) fun b _ hb => ⟨by omega, by omega⟩).keep (hk2.weak fun b hb => hb.1)).weak fun b _ hb => hb.2
    have hL := lit_sl2T _ 36 h4 h5 (by simp; have := b5.size; omega)
    have hBf := below_grown (below_grown (below2 (below2 b1.drew b4) b5) (below2 (below2 b1.drew b4) b5).size (grown_setCell w5 g2 0 (.int .i64 r)) (fun k e => by have := Option.some.inj e; omega)) (by simp; exact (below2 (below2 b1.drew b4) b5).size) (grown_setCell _ g2 1 (.slice (some ⟨w5.heap.size, 0, none⟩) 2 2)) (fun k e => by have := Option.some.inj e; omega)
    simp only [World.size_setCell] at hL
    refine bodyPost_ret (v := .tuple #[.agg #[.int .i64 r, .slice (some ⟨w5.heap.size, 0, none⟩) 2 2], .int .i64 0]) (by simp [results, Tryd.results28, go_sem, z0, z1]) rfl ⟨?_, ?_⟩
    · rw [HP.out]
      exact ⟨_, 2, rfl, hL⟩
    · exact below_alloc hBf _
theorem wide_any (r : Int) (A : Option Addr) (c : Nat) (s : List (List Int)) (w : World) (hG : GR w) (hS : R2 w A c s) :
    Calls Tryd.prog 28 #[.agg #[.int .i64 r, .slice A s.length c]] w fun e w' => RetS w.heap.size (wideS r s) e w' ∧ Below w.heap.size w w' :=
  (wide_T r A c s w hG hS).mono fun _ _ h => ⟨h.1.toS, h.2⟩
end Go.Proofs.YtijcecakofmhcaaDoor
