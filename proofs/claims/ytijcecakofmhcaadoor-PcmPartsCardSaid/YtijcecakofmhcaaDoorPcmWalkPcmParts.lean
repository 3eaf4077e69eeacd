/- The law PcmParts: the walk. -/
import Derived.Test.YtijcecakofmhcaaDoorPcmWalkLib
import Derived.Test.YtijcecakofmhcaaDoorPcmPlainA
import Derived.Test.YtijcecakofmhcaaDoorPcmJ
import Derived.Test.YtijcecakofmhcaaDoorPcmO
import Derived.Test.YtijcecakofmhcaaDoorPcmK
import Derived.Test.YtijcecakofmhcaaDoorPcmL
namespace Go.Proofs.YtijcecakofmhcaaDoor
open Go.RowKit

theorem box_put {α : Type} {k : Kd α} {W V : World} {g n0 : Nat} {t : TypeId} {a0 a1 : Value} {A : Option Addr} {c : Nat} {xs : List α} (z : Blk V g #[a0, a1] t) (D : Below W.heap.size W V) (hg : W.heap.size ≤ g) (S : Sl k (fun b => n0 ≤ b) V A c xs) (hn : g < n0) (u v : Value) :
    Blk ((V.setCell ⟨g, 0, none⟩ u).setCell ⟨g, 1, none⟩ v) g #[u, v] t ∧ Sl k AnyB ((V.setCell ⟨g, 0, none⟩ u).setCell ⟨g, 1, none⟩ v) A c xs ∧ Below W.heap.size W ((V.setCell ⟨g, 0, none⟩ u).setCell ⟨g, 1, none⟩ v) := by
  have h1 := grown_setCell V g 0 u
  have h2 := grown_setCell (V.setCell ⟨g, 0, none⟩ u) g 1 v
  refine ⟨(z.set 0 u).set 1 v, ((S.keep ((Keep.of_grown1 h1).weak fun i hi => ?_)).keep ((Keep.of_grown1 h2).weak fun i hi => ?_)).any, ?_⟩
  · have hi : n0 ≤ i := hi
    omega
  · have hi : n0 ≤ i := hi
    omega
  · exact below_grown (below_grown D D.size h1 (fun k e => by have := Option.some.inj e; omega)) (Nat.le_trans D.size h1.size) h2 (fun k e => by have := Option.some.inj e; omega)
theorem box_new {α : Type} {k : Kd α} {W V : World} {t : TypeId} {ok : Nat → Prop} {A : Option Addr} {c : Nat} {xs : List α} (D : Below W.heap.size W V) (S : Sl k ok V A c xs) (u v : Value) :
    Blk (V.alloc (.cells #[u, v] t)) V.heap.size #[u, v] t ∧ Sl k AnyB (V.alloc (.cells #[u, v] t)) A c xs ∧ Below W.heap.size W (V.alloc (.cells #[u, v] t)) :=
  ⟨heap_alloc_new V _, (S.below (below_alloc (Below.refl _ _) _)).any, below_alloc D _⟩

theorem power_bd {r : Int} {s : List (List Int)} (hv : validB r s = true) : ∀ j, j < s.length → 0 ≤ nth 0 (s.map sqSum) j ∧ nth 0 (s.map sqSum) j ≤ 8796093022208 := fun j hj => by
  have V := valid_facts hv
  have hm := nth_mem [] s j hj
  have hl := V.same _ hm
  have h3 := V.len
  rw [nth_map_list [] 0 sqSum s j hj]
  have := sq_bd _ (V.smp _ hm) (by omega) _ (Nat.le_refl _)
  rw [List.take_length] at this
  omega

set_option maxHeartbeats 2000000 in
set_option maxRecDepth 100000 in
theorem pcmParts_walk (x0 : Int) (A0 : Option Addr) (c0 : Nat) (s0 : List (List Int)) (a1 : Int) (w : World) (hG : GR w) (hR0 : R2 w A0 c0 s0) (hF0 : Fits s0) (hw1 : (Lit.int .u16 a1).wf = true) :
    Calls Tryd.prog 9 #[.agg #[.int .i64 x0, .slice A0 s0.length c0], .int .u16 a1] w fun e w' => e = .returned (.bool true) ∧ Below w.heap.size w w' := by
  have hn := hR0.len
  have hu : 0 ≤ a1 ∧ a1 ≤ 65535 := by simpa [Lit.wf, IntKind.min, IntKind.max, IntKind.signed, IntKind.bits] using hw1
  clear hw1
  cases hb : smallB s0 20000
  · have HB := Lib.hid hb
    clear hb
    go_enter Tryd.func9, Tryd.ntmps9
    go_wp2_with (((with_reducible refine at_dst (N := 2) rfl ?_); refine ev_new #[.int .i64 x0, .slice A0 s0.length c0] 24 rfl ?hr ?_; (case hr => first | (go_simp; done) | (go_simp; rfl)); intro p0 wp0 ep0 zp0 BX Bp0; have kp0_0 := Bp0.cell 0 rfl; have kp0_1 := Bp0.cell 1 rfl))
    replace hR0 := hR0.below BX
    have KK := trivial
    refine (few1 wp0 x0 A0 c0 s0 hR0 hF0).mono ?_
    rintro e W1 ⟨rfl, b1⟩
    rw [HB.out]
    replace BX := below2 BX b1
    replace hR0 := hR0.below b1
    replace Bp0 := Bp0.below b1
    clear b1 KK
    clear kp0_0 kp0_1
    have kBp0_0 := Bp0.cell 0 rfl
    have kBp0_1 := Bp0.cell 1 rfl
    go_wp2_with fail
    refine (awake_any _ (hG.below BX)).mono ?_
    rintro e W2 ⟨rfl, b2⟩
    replace BX := below2 BX b2
    go_wp2_with fail
    go_ret
    exact ⟨rfl, BX⟩
  · have HB := Lib.hid hb
    clear hb
    cases hv : validB x0 s0
    · have HV := Lib.hid hv
      clear hv
      go_enter Tryd.func9, Tryd.ntmps9
      go_wp2_with (((with_reducible refine at_dst (N := 2) rfl ?_); refine ev_new #[.int .i64 x0, .slice A0 s0.length c0] 24 rfl ?hr ?_; (case hr => first | (go_simp; done) | (go_simp; rfl)); intro p0 wp0 ep0 zp0 BX Bp0; have kp0_0 := Bp0.cell 0 rfl; have kp0_1 := Bp0.cell 1 rfl))
      replace hR0 := hR0.below BX
      have KK := trivial
      refine (few1 wp0 x0 A0 c0 s0 hR0 hF0).mono ?_
      rintro e W1 ⟨rfl, b1⟩
      rw [HB.out]
      replace BX := below2 BX b1
      replace hR0 := hR0.below b1
      replace Bp0 := Bp0.below b1
      clear b1 KK
      clear kp0_0 kp0_1
      have kBp0_0 := Bp0.cell 0 rfl
      have kBp0_1 := Bp0.cell 1 rfl
      go_wp2_with fail
      refine (refValid_any x0 A0 c0 s0 _ hR0).mono ?_
      rw [HV.out]
      rintro e W2 ⟨rfl, b2⟩
      replace BX := below2 BX b2
      replace hR0 := hR0.below b2
      replace Bp0 := Bp0.below b2
      clear b2
      clear kBp0_0 kBp0_1
      have kBp0_0 := Bp0.cell 0 rfl
      have kBp0_1 := Bp0.cell 1 rfl
      go_wp2_with fail
      refine (awake_any _ (hG.below BX)).mono ?_
      rintro e W3 ⟨rfl, b3⟩
      replace BX := below2 BX b3
      go_wp2_with fail
      go_ret
      exact ⟨rfl, BX⟩
    · have V := valid_facts hv
      have HV := Lib.hid hv
      have h1 := V.one
      have h3 := V.len
      obtain ⟨m, rfl⟩ : ∃ m : Nat, a1 = m := ⟨a1.toNat, by omega⟩
      obtain ⟨N, hN⟩ : ∃ N, len0 s0 = N := ⟨_, rfl⟩
      obtain ⟨q, hq⟩ : ∃ q, m % (N + 1) = q := ⟨_, rfl⟩
      have hqN : q ≤ N := by rw [← hq]; have := Nat.mod_lt m (show 0 < N + 1 by omega); omega
      have hmj : (m : Int) % ((N : Int) + 1) = (q : Int) := by rw [← hq]; simp
      have hmt : Int.tmod (m : Int) ((N : Int) + 1) = (q : Int) := by rw [Int.tmod_eq_emod_of_nonneg (by omega)]; exact hmj
      obtain ⟨P1, P2, P3, P4, P5, P6⟩ := parts hv q (by omega)
      rw [hN] at P2 h3
      have HN := Lib.hid hN
      have HSum := Lib.hid (fun j hj => power_sum s0 q j hj)
      have HBnd := Lib.hid (power_bd hv)
      obtain ⟨T1, hT1⟩ : ∃ T, s0.map (fun c => c.take q) = T := ⟨_, rfl⟩
      obtain ⟨T2, hT2⟩ : ∃ T, s0.map (fun c => c.drop q) = T := ⟨_, rfl⟩
      obtain ⟨L1, hL1⟩ : ∃ L, s0.map (fun c => sqSum (c.take q)) = L := ⟨_, rfl⟩
      obtain ⟨L2, hL2⟩ : ∃ L, s0.map (fun c => sqSum (c.drop q)) = L := ⟨_, rfl⟩
      obtain ⟨L3, hL3⟩ : ∃ L, s0.map sqSum = L := ⟨_, rfl⟩
      have HL : Hid (L1.length = s0.length ∧ L2.length = s0.length ∧ L3.length = s0.length) := Lib.hid (by rw [← hL1, ← hL2, ← hL3]; simp)
      rw [hT1] at P1 P3 P4
      rw [hT2] at P2 P3 P5
      rw [hL1] at P4 HSum
      rw [hL2] at P5 HSum
      rw [hL3] at P6 HSum HBnd
      have H1 := Lib.hid P1
      have H2 := Lib.hid P2
      have H3 := Lib.hid P3
      have H4 := Lib.hid P4
      have H5 := Lib.hid P5
      have H6 := Lib.hid P6
      clear hv V P1 P2 P3 P4 P5 P6 hN hq hT1 hT2 hL1 hL2 hL3
      go_enter Tryd.func9, Tryd.ntmps9
      go_wp2_with (((with_reducible refine at_dst (N := 2) rfl ?_); refine ev_new #[.int .i64 x0, .slice A0 s0.length c0] 24 rfl ?hr ?_; (case hr => first | (go_simp; done) | (go_simp; rfl)); intro p0 wp0 ep0 zp0 BX Bp0; have kp0_0 := Bp0.cell 0 rfl; have kp0_1 := Bp0.cell 1 rfl))
      replace hR0 := hR0.below BX
      have KK := trivial
      refine (few1 wp0 x0 A0 c0 s0 hR0 hF0).mono ?_
      rintro e W1 ⟨rfl, b1⟩
      rw [HB.out]
      replace BX := below2 BX b1
      replace hR0 := hR0.below b1
      replace Bp0 := Bp0.below b1
      clear b1 KK
      clear kp0_0 kp0_1
      have kBp0_0 := Bp0.cell 0 rfl
      have kBp0_1 := Bp0.cell 1 rfl
      go_wp2_with fail
      refine (refValid_any x0 A0 c0 s0 _ hR0).mono ?_
      rw [HV.out]
      rintro e W2 ⟨rfl, b2⟩
      replace BX := below2 BX b2
      replace hR0 := hR0.below b2
      replace Bp0 := Bp0.below b2
      clear b2
      clear kBp0_0 kBp0_1
      have kBp0_0 := Bp0.cell 0 rfl
      have kBp0_1 := Bp0.cell 1 rfl
      go_wp2_with fail
      refine (refLen_any x0 A0 c0 s0 _ hR0 h1).mono ?_
      rw [HN.out]
      rintro e W3 ⟨rfl, b3⟩
      replace BX := below2 BX b3
      replace hR0 := hR0.below b3
      replace Bp0 := Bp0.below b3
      clear b3
      clear kBp0_0 kBp0_1
      have kBp0_0 := Bp0.cell 0 rfl
      have kBp0_1 := Bp0.cell 1 rfl
      go_wp2_with fail
      refine (cut_any x0 A0 c0 s0 0 q _ (hG.below BX) hR0).mono ?_
      rw [H1.out]
      rintro e W4 ⟨⟨A4, c4, rfl, S4⟩, b4⟩
      dsimp only at S4 ⊢
      replace S4 := S4.any
      replace BX := below2 BX b4
      replace hR0 := hR0.below b4
      replace Bp0 := Bp0.below b4
      have Ba4 := below_alloc (Below.refl W4.heap.size W4) (.cells #[.int .i64 x0, .slice A4 T1.length c4] 24)
      have P4 : Blk (W4.alloc (.cells #[.int .i64 x0, .slice A4 T1.length c4] 24)) W4.heap.size #[.int .i64 x0, .slice A4 T1.length c4] 24 := heap_alloc_new W4 _
      replace BX := below2 BX Ba4
      replace hR0 := hR0.below Ba4
      replace Bp0 := Bp0.below Ba4
      replace S4 := S4.below Ba4
      clear Ba4
      clear kBp0_0 kBp0_1
      have kBp0_0 := Bp0.cell 0 rfl
      have kBp0_1 := Bp0.cell 1 rfl
      have kP4_0 := P4.cell 0 rfl
      have kP4_1 := P4.cell 1 rfl
      clear b4
      clear hmj hmt
      go_upto_region 5 with fail
      clear kBp0_0 kBp0_1 kP4_0 kP4_1
      generalize hWL : (W4.alloc (.cells #[.int .i64 x0, .slice A4 T1.length c4] 24)) = WL at hR0 Bp0 S4 P4 BX ⊢
      generalize W4.heap.size = g4 at P4 ⊢
      clear hWL
      go_cut [8, 9] (fun s8 s9 wx => ∃ (g : Nat) (A2 : Option Addr) (c2 : Nat), s8 = .pointer (some ⟨g, 0, none⟩) ∧ s9 = .int .i64 0 ∧ Blk wx g #[.int .i64 x0, .slice A2 T2.length c2] 24 ∧ R2 wx A2 c2 T2 ∧ Below WL.heap.size WL wx)
      case first =>
        have D := (Below.refl WL.heap.size WL).drew
        have lp0 := Bp0.lt
        have n1 : WL.heap.size ≠ p0 := by omega
        have a0 := Bp0.cell 0 rfl
        have a1 := Bp0.cell 1 rfl
        go_region_held3 (fun W => W.cell? ⟨p0, 0, none⟩ = some (.int .i64 x0) ∧ W.cell? ⟨p0, 1, none⟩ = some (.slice A0 s0.length c0)) (go_keep) (first | (go_at_call 34; refine (refLen_any x0 A0 c0 s0 _ ?hh h1).mono ?_; (case hh => first | exact hR0.below D | exact hR0.below (below_alloc D _)); rw [HN.out]; rintro e V1 ⟨rfl, b⟩; clear a0 a1; have D1 : Below WL.heap.size WL V1 := (by first | exact below2 D b | exact below2 (below_alloc D _) b); have a0 := (Bp0.below D1).cell 0 rfl; have a1 := (Bp0.below D1).cell 1 rfl; have n2 : V1.heap.size ≠ p0 := (by have := D1.size; omega); (try have z1 : Blk V1 WL.heap.size #[.int .i64 0, .slice none 0 0] 24 := Blk.below (heap_alloc_new WL.drew _) b); (try have y0 := z1.cell 0 rfl); (try have y1 := z1.cell 1 rfl)) | (go_at_call 30; refine (cut_any x0 A0 c0 s0 q N _ ?hg ?hh).mono ?_; (case hg => first | exact (hG.below BX).below D1 | exact (hG.below BX).below (below_alloc D1 _)); (case hh => first | exact hR0.below D1 | exact hR0.below (below_alloc D1 _)); rw [H2.out]; rintro e V2 ⟨⟨A2, c2, rfl, S2⟩, b2⟩; clear a0 a1; have D2 : Below WL.heap.size WL V2 := (by first | exact below2 D1 b2 | exact below2 (below_alloc D1 _) b2); have a0 := (Bp0.below D2).cell 0 rfl; have a1 := (Bp0.below D2).cell 1 rfl; have n3 : V2.heap.size ≠ p0 := (by have := D2.size; omega); (first | have z2 := z1.below b2 | have z2 : Blk V2 V1.heap.size #[.int .i64 0, .slice none 0 0] 24 := Blk.below (heap_alloc_new V1 _) b2 | skip); (try have f0 := z2.free 0); (try have f1 := z2.free 1); (try clear y0 y1); (try have y0 := z2.cell 0 rfl); (try have y1 := z2.cell 1 rfl)))
        all_goals
          go_wp2_with fail
          go_meet
          first | (obtain ⟨q1, q2, q3⟩ := box_put z2 D2 (show WL.heap.size ≤ WL.heap.size by first | exact Nat.le_refl _ | exact D1.size) S2 (show WL.heap.size < _ by have := b.size; simp at this ⊢; omega) (.int .i64 x0) (.slice A2 T2.length c2); exact ⟨_, A2, c2, rfl, rfl, q1, q2, q3⟩) | (obtain ⟨q1, q2, q3⟩ := box_put z2 D2 (show WL.heap.size ≤ V1.heap.size by first | exact Nat.le_refl _ | exact D1.size) S2 (show V1.heap.size < _ by simp) (.int .i64 x0) (.slice A2 T2.length c2); exact ⟨_, A2, c2, rfl, rfl, q1, q2, q3⟩) | (obtain ⟨q1, q2, q3⟩ := box_new D2 S2 (.int .i64 x0) (.slice A2 T2.length c2); exact ⟨_, A2, c2, rfl, rfl, q1, q2, q3⟩)
      case rest =>
        obtain ⟨g8, A8, c8, rfl, rfl, P8, S8, b8⟩ := hcut
        replace BX := below2 BX b8
        replace hR0 := hR0.below b8
        replace Bp0 := Bp0.below b8
        replace S4 := S4.below b8
        replace P4 := P4.below b8
        clear b8
        have kBp0_0 := Bp0.cell 0 rfl
        have kBp0_1 := Bp0.cell 1 rfl
        have kP4_0 := P4.cell 0 rfl
        have kP4_1 := P4.cell 1 rfl
        have kP8_0 := P8.cell 0 rfl
        have kP8_1 := P8.cell 1 rfl
        go_wp2_with fail
        refine (join_any x0 A4 c4 T1 x0 A8 c8 T2 _ (hG.below BX) S4 S8).mono ?_
        rw [H3.out]
        rintro e W21 ⟨⟨A21, c21, rfl, S21⟩, b21⟩
        dsimp only at S21 ⊢
        replace S21 := S21.any
        replace BX := below2 BX b21
        replace hR0 := hR0.below b21
        replace Bp0 := Bp0.below b21
        replace S4 := S4.below b21
        replace P4 := P4.below b21
        replace S8 := S8.below b21
        replace P8 := P8.below b21
        have Ba21 := below_alloc (Below.refl W21.heap.size W21) (.cells #[.int .i64 x0, .slice A21 s0.length c21] 24)
        have P21 : Blk (W21.alloc (.cells #[.int .i64 x0, .slice A21 s0.length c21] 24)) W21.heap.size #[.int .i64 x0, .slice A21 s0.length c21] 24 := heap_alloc_new W21 _
        replace BX := below2 BX Ba21
        replace hR0 := hR0.below Ba21
        replace Bp0 := Bp0.below Ba21
        replace S4 := S4.below Ba21
        replace P4 := P4.below Ba21
        replace S8 := S8.below Ba21
        replace P8 := P8.below Ba21
        replace S21 := S21.below Ba21
        clear Ba21
        clear kBp0_0 kBp0_1 kP4_0 kP4_1 kP8_0 kP8_1
        have kBp0_0 := Bp0.cell 0 rfl
        have kBp0_1 := Bp0.cell 1 rfl
        have kP4_0 := P4.cell 0 rfl
        have kP4_1 := P4.cell 1 rfl
        have kP8_0 := P8.cell 0 rfl
        have kP8_1 := P8.cell 1 rfl
        have kP21_0 := P21.cell 0 rfl
        have kP21_1 := P21.cell 1 rfl
        clear b21
        go_wp2_with fail
        refine (power_any x0 A4 c4 T1 _ (hG.below BX) S4).mono ?_
        rw [H4.out]
        rintro e W22 ⟨v22, rfl, O22, b22⟩
        dsimp only at O22 ⊢
        obtain ⟨A22, c22, rfl, S22⟩ := O22.rd
        replace S22 := S22.any
        replace BX := below2 BX b22
        replace hR0 := hR0.below b22
        replace Bp0 := Bp0.below b22
        replace S4 := S4.below b22
        replace P4 := P4.below b22
        replace S8 := S8.below b22
        replace P8 := P8.below b22
        replace S21 := S21.below b22
        replace P21 := P21.below b22
        clear b22 O22
        clear kBp0_0 kBp0_1 kP4_0 kP4_1 kP8_0 kP8_1 kP21_0 kP21_1
        have kBp0_0 := Bp0.cell 0 rfl
        have kBp0_1 := Bp0.cell 1 rfl
        have kP4_0 := P4.cell 0 rfl
        have kP4_1 := P4.cell 1 rfl
        have kP8_0 := P8.cell 0 rfl
        have kP8_1 := P8.cell 1 rfl
        have kP21_0 := P21.cell 0 rfl
        have kP21_1 := P21.cell 1 rfl
        go_wp2_with fail
        refine (power_any x0 A8 c8 T2 _ (hG.below BX) S8).mono ?_
        rw [H5.out]
        rintro e W23 ⟨v23, rfl, O23, b23⟩
        dsimp only at O23 ⊢
        obtain ⟨A23, c23, rfl, S23⟩ := O23.rd
        replace S23 := S23.any
        replace BX := below2 BX b23
        replace hR0 := hR0.below b23
        replace Bp0 := Bp0.below b23
        replace S4 := S4.below b23
        replace P4 := P4.below b23
        replace S8 := S8.below b23
        replace P8 := P8.below b23
        replace S21 := S21.below b23
        replace P21 := P21.below b23
        replace S22 := S22.below b23
        clear b23 O23
        clear kBp0_0 kBp0_1 kP4_0 kP4_1 kP8_0 kP8_1 kP21_0 kP21_1
        have kBp0_0 := Bp0.cell 0 rfl
        have kBp0_1 := Bp0.cell 1 rfl
        have kP4_0 := P4.cell 0 rfl
        have kP4_1 := P4.cell 1 rfl
        have kP8_0 := P8.cell 0 rfl
        have kP8_1 := P8.cell 1 rfl
        have kP21_0 := P21.cell 0 rfl
        have kP21_1 := P21.cell 1 rfl
        go_wp2_with fail
        refine (power_any x0 A21 c21 s0 _ (hG.below BX) S21).mono ?_
        rw [H6.out]
        rintro e W24 ⟨v24, rfl, O24, b24⟩
        dsimp only at O24 ⊢
        obtain ⟨A24, c24, rfl, S24⟩ := O24.rd
        replace S24 := S24.any
        replace BX := below2 BX b24
        replace hR0 := hR0.below b24
        replace Bp0 := Bp0.below b24
        replace S4 := S4.below b24
        replace P4 := P4.below b24
        replace S8 := S8.below b24
        replace P8 := P8.below b24
        replace S21 := S21.below b24
        replace P21 := P21.below b24
        replace S22 := S22.below b24
        replace S23 := S23.below b24
        clear b24 O24
        clear kBp0_0 kBp0_1 kP4_0 kP4_1 kP8_0 kP8_1 kP21_0 kP21_1
        have kBp0_0 := Bp0.cell 0 rfl
        have kBp0_1 := Bp0.cell 1 rfl
        have kP4_0 := P4.cell 0 rfl
        have kP4_1 := P4.cell 1 rfl
        have kP8_0 := P8.cell 0 rfl
        have kP8_1 := P8.cell 1 rfl
        have kP21_0 := P21.cell 0 rfl
        have kP21_1 := P21.cell 1 rfl
        have y1 := HL.out.1
        have y2 := HL.out.2.1
        have y3 := HL.out.2.2
        rw [y1, y2, y3]
        clear y1 y2 y3
        go_wp2_with fail
        refine (same_self _ _ _ _ _ _ _ hR0 S21).mono ?_
        rintro e W25 ⟨rfl, b25⟩
        replace BX := below2 BX b25
        replace hR0 := hR0.below b25
        replace Bp0 := Bp0.below b25
        replace S4 := S4.below b25
        replace P4 := P4.below b25
        replace S8 := S8.below b25
        replace P8 := P8.below b25
        replace S21 := S21.below b25
        replace P21 := P21.below b25
        replace S22 := S22.below b25
        replace S23 := S23.below b25
        replace S24 := S24.below b25
        clear b25
        clear kBp0_0 kBp0_1 kP4_0 kP4_1 kP8_0 kP8_1 kP21_0 kP21_1
        have kBp0_0 := Bp0.cell 0 rfl
        have kBp0_1 := Bp0.cell 1 rfl
        have kP4_0 := P4.cell 0 rfl
        have kP4_1 := P4.cell 1 rfl
        have kP8_0 := P8.cell 0 rfl
        have kP8_1 := P8.cell 1 rfl
        have kP21_0 := P21.cell 0 rfl
        have kP21_1 := P21.cell 1 rfl
        go_wp2_with fail
        clear kBp0_0 kBp0_1 kP4_0 kP4_1 kP8_0 kP8_1 kP21_0 kP21_1
        go_loopw [114] (fun i wr => ∃ k : Nat, k ≤ s0.length ∧ i = .int .i64 k ∧ Below W25.heap.size W25 wr) (fun i _ => s0.length - (intOf i).toNat)
        case atStart => exact ⟨0, Nat.zero_le _, rfl, Below.refl _ _⟩
        case round =>
          obtain ⟨k, hk, rfl, hB⟩ := hrel
          by_cases hlt : k < s0.length
          · have y1 := HL.out.1
            have y2 := HL.out.2.1
            have y3 := HL.out.2.2
            obtain ⟨d1, rfl, q1⟩ := rd_int (S22.below hB) k (by omega)
            obtain ⟨d2, rfl, q2⟩ := rd_int (S23.below hB) k (by omega)
            obtain ⟨d3, rfl, q3⟩ := rd_int (S24.below hB) k (by omega)
            have hsum := HSum.out k hlt
            have hbd := HBnd.out k hlt
            have hwr : IntKind.i64.wrap (nth 0 L1 k + nth 0 L2 k) = nth 0 L3 k := by rw [hsum]; exact IntWalk.i64_in _ (by omega)
            clear hsum hbd y1 y2 y3
            go_wp2_with fail
            go_quiet (fail)
            go_wp2_with fail
            go_roundw
            case rel => exact ⟨k + 1, by omega, by go_num, below_drewN hB _⟩
            case measure => simp [intOf]; omega
          · replace BX := below2 BX hB
            go_wp2_with fail
            refine (awake_any _ (hG.below BX)).mono ?_
            rintro e Wz ⟨rfl, bz⟩
            replace BX := below2 BX bz
            go_wp2_with fail
            go_ret
            exact ⟨rfl, BX⟩
end Go.Proofs.YtijcecakofmhcaaDoor
