/- The law PcmChecks: the walk. -/
import Derived.Test.YtijcecakofmhcaaDoorPcmWalkLib
import Derived.Test.YtijcecakofmhcaaDoorPcmRefH
import Derived.Test.YtijcecakofmhcaaDoorPcmRefJ
import Derived.Test.YtijcecakofmhcaaDoorPcmL
namespace Go.Proofs.YtijcecakofmhcaaDoor
open Go.RowKit

set_option maxHeartbeats 4000000 in
set_option maxRecDepth 100000 in
theorem pcmChecks_walk (x0 : Int) (A0 : Option Addr) (c0 : Nat) (s0 : List (List Int)) (x1 : Int) (A1 : Option Addr) (c1 : Nat) (s1 : List (List Int)) (w : World) (hG : GR w) (hR0 : R2 w A0 c0 s0) (hF0 : Fits s0) (hR1 : R2 w A1 c1 s1) (hF1 : Fits s1) :
    Calls Tryd.prog 11 #[.agg #[.int .i64 x0, .slice A0 s0.length c0], .agg #[.int .i64 x1, .slice A1 s1.length c1]] w fun e w' => e = .returned (.bool true) ∧ Below w.heap.size w w' := by
  have hn := hR0.len
  have hn1 := hR1.len
  cases hb : (smallB s0 20000 && smallB s1 20000)
  · have HB := Lib.hid hb
    clear hb
    go_enter Tryd.func11, Tryd.ntmps11
    go_wp2_with (first | ((with_reducible refine at_dst (N := 2) rfl ?_); refine ev_new #[.int .i64 x0, .slice A0 s0.length c0] 24 rfl ?hr ?_; (case hr => first | (go_simp; done) | (go_simp; rfl)); intro p0 wp0 ep0 zp0 BX Bp0; skip) | ((with_reducible refine at_dst (N := 3) rfl ?_); refine ev_new #[.int .i64 x1, .slice A1 s1.length c1] 24 rfl ?hr ?_; (case hr => first | (go_simp; done) | (go_simp; rfl)); intro p1 wp1 ep1 zp1 bb1 Bp1; replace BX := below2 BX bb1; replace Bp0 := Bp0.below bb1; have kp0_0 := Bp0.cell 0 rfl; have kp0_1 := Bp0.cell 1 rfl; have kp1_0 := Bp1.cell 0 rfl; have kp1_1 := Bp1.cell 1 rfl))
    replace hR0 := hR0.below BX
    replace hR1 := hR1.below BX
    have KK := trivial
    refine (few2 wp1 x0 A0 c0 s0 x1 A1 c1 s1 hR0 hF0 hR1 hF1).mono ?_
    rintro e W1 ⟨rfl, b1⟩
    rw [HB.out]
    replace BX := below2 BX b1
    replace hR0 := hR0.below b1
    replace hR1 := hR1.below b1
    replace Bp0 := Bp0.below b1
    replace Bp1 := Bp1.below b1
    clear b1 KK
    clear kp0_0 kp0_1 kp1_0 kp1_1
    have kBp0_0 := Bp0.cell 0 rfl
    have kBp0_1 := Bp0.cell 1 rfl
    have kBp1_0 := Bp1.cell 0 rfl
    have kBp1_1 := Bp1.cell 1 rfl
    go_wp2_with fail
    refine (awake_any _ (hG.below BX)).mono ?_
    rintro e W2 ⟨rfl, b2⟩
    replace BX := below2 BX b2
    go_wp2_with fail
    go_ret
    exact ⟨rfl, BX⟩
  · have HB := Lib.hid hb
    clear hb
    obtain ⟨ck, hck⟩ : ∃ ck, checkE x0 s0 = ck := ⟨_, rfl⟩
    have HCK := Lib.hid hck
    obtain ⟨bv, hbv⟩ : ∃ bv, sameB x0 s0 x1 s1 = bv := ⟨_, rfl⟩
    have HBV := Lib.hid hbv
    clear hck hbv
    go_enter Tryd.func11, Tryd.ntmps11
    go_wp2_with (first | ((with_reducible refine at_dst (N := 2) rfl ?_); refine ev_new #[.int .i64 x0, .slice A0 s0.length c0] 24 rfl ?hr ?_; (case hr => first | (go_simp; done) | (go_simp; rfl)); intro p0 wp0 ep0 zp0 BX Bp0; skip) | ((with_reducible refine at_dst (N := 3) rfl ?_); refine ev_new #[.int .i64 x1, .slice A1 s1.length c1] 24 rfl ?hr ?_; (case hr => first | (go_simp; done) | (go_simp; rfl)); intro p1 wp1 ep1 zp1 bb1 Bp1; replace BX := below2 BX bb1; replace Bp0 := Bp0.below bb1; have kp0_0 := Bp0.cell 0 rfl; have kp0_1 := Bp0.cell 1 rfl; have kp1_0 := Bp1.cell 0 rfl; have kp1_1 := Bp1.cell 1 rfl))
    replace hR0 := hR0.below BX
    replace hR1 := hR1.below BX
    have KK := trivial
    refine (few2 wp1 x0 A0 c0 s0 x1 A1 c1 s1 hR0 hF0 hR1 hF1).mono ?_
    rintro e W1 ⟨rfl, b1⟩
    rw [HB.out]
    replace BX := below2 BX b1
    replace hR0 := hR0.below b1
    replace hR1 := hR1.below b1
    replace Bp0 := Bp0.below b1
    replace Bp1 := Bp1.below b1
    clear b1 KK
    clear kp0_0 kp0_1 kp1_0 kp1_1
    have kBp0_0 := Bp0.cell 0 rfl
    have kBp0_1 := Bp0.cell 1 rfl
    have kBp1_0 := Bp1.cell 0 rfl
    have kBp1_1 := Bp1.cell 1 rfl
    go_wp2_with fail
    refine (frames_any x0 A0 c0 s0 _ (hG.below BX) hR0).mono ?_
    obtain ⟨R2, E2, hR2⟩ : ∃ R2 E2, framesS x0 s0 = (R2, E2) := ⟨_, _, rfl⟩
    have HR2 := Lib.hid hR2
    rw [hR2]
    clear hR2
    rintro e W2 ⟨rfl, b2⟩
    dsimp only
    replace BX := below2 BX b2
    replace hR0 := hR0.below b2
    replace hR1 := hR1.below b2
    replace Bp0 := Bp0.below b2
    replace Bp1 := Bp1.below b2
    clear b2
    clear kBp0_0 kBp0_1 kBp1_0 kBp1_1
    have kBp0_0 := Bp0.cell 0 rfl
    have kBp0_1 := Bp0.cell 1 rfl
    have kBp1_0 := Bp1.cell 0 rfl
    have kBp1_1 := Bp1.cell 1 rfl
    go_wp2_with fail
    refine (refFrames_any x0 A0 c0 s0 _ hR0).mono ?_
    rw [HR2.out]
    rintro e W3 ⟨rfl, b3⟩
    dsimp only
    replace BX := below2 BX b3
    replace hR0 := hR0.below b3
    replace hR1 := hR1.below b3
    replace Bp0 := Bp0.below b3
    replace Bp1 := Bp1.below b3
    clear b3
    clear kBp0_0 kBp0_1 kBp1_0 kBp1_1
    have kBp0_0 := Bp0.cell 0 rfl
    have kBp0_1 := Bp0.cell 1 rfl
    have kBp1_0 := Bp1.cell 0 rfl
    have kBp1_1 := Bp1.cell 1 rfl
    go_wp2_with fail
    refine (pad_any x0 A0 c0 s0 _ (hG.below BX) hR0).mono ?_
    obtain ⟨R4, T4, E4, hR4⟩ : ∃ R4 T4 E4, padS x0 s0 = (R4, T4, E4) := ⟨_, _, _, rfl⟩
    have HR4 := Lib.hid hR4
    rw [hR4]
    clear hR4
    rintro e W4 ⟨⟨A4, c4, rfl, S4⟩, b4⟩
    dsimp only at S4 ⊢
    replace S4 := S4.any
    replace BX := below2 BX b4
    replace hR0 := hR0.below b4
    replace hR1 := hR1.below b4
    replace Bp0 := Bp0.below b4
    replace Bp1 := Bp1.below b4
    have Ba4 := below_alloc (Below.refl W4.heap.size W4) (.cells #[.int .i64 R4, .slice A4 T4.length c4] 24)
    have P4 : Blk (W4.alloc (.cells #[.int .i64 R4, .slice A4 T4.length c4] 24)) W4.heap.size #[.int .i64 R4, .slice A4 T4.length c4] 24 := heap_alloc_new W4 _
    replace BX := below2 BX Ba4
    replace hR0 := hR0.below Ba4
    replace hR1 := hR1.below Ba4
    replace Bp0 := Bp0.below Ba4
    replace Bp1 := Bp1.below Ba4
    replace S4 := S4.below Ba4
    clear Ba4
    clear kBp0_0 kBp0_1 kBp1_0 kBp1_1
    have kBp0_0 := Bp0.cell 0 rfl
    have kBp0_1 := Bp0.cell 1 rfl
    have kBp1_0 := Bp1.cell 0 rfl
    have kBp1_1 := Bp1.cell 1 rfl
    have kP4_0 := P4.cell 0 rfl
    have kP4_1 := P4.cell 1 rfl
    clear b4
    go_wp2_with fail
    refine (refPad_any x0 A0 c0 s0 _ hR0).mono ?_
    rw [HR4.out]
    rintro e W5 ⟨⟨A5, c5, rfl, S5⟩, b5⟩
    dsimp only at S5 ⊢
    replace S5 := S5.any
    replace BX := below2 BX b5
    replace hR0 := hR0.below b5
    replace hR1 := hR1.below b5
    replace Bp0 := Bp0.below b5
    replace Bp1 := Bp1.below b5
    replace S4 := S4.below b5
    replace P4 := P4.below b5
    have Ba5 := below_alloc (Below.refl W5.heap.size W5) (.cells #[.int .i64 R4, .slice A5 T4.length c5] 24)
    have P5 : Blk (W5.alloc (.cells #[.int .i64 R4, .slice A5 T4.length c5] 24)) W5.heap.size #[.int .i64 R4, .slice A5 T4.length c5] 24 := heap_alloc_new W5 _
    replace BX := below2 BX Ba5
    replace hR0 := hR0.below Ba5
    replace hR1 := hR1.below Ba5
    replace Bp0 := Bp0.below Ba5
    replace Bp1 := Bp1.below Ba5
    replace S4 := S4.below Ba5
    replace P4 := P4.below Ba5
    replace S5 := S5.below Ba5
    clear Ba5
    clear kBp0_0 kBp0_1 kBp1_0 kBp1_1 kP4_0 kP4_1
    have kBp0_0 := Bp0.cell 0 rfl
    have kBp0_1 := Bp0.cell 1 rfl
    have kBp1_0 := Bp1.cell 0 rfl
    have kBp1_1 := Bp1.cell 1 rfl
    have kP4_0 := P4.cell 0 rfl
    have kP4_1 := P4.cell 1 rfl
    have kP5_0 := P5.cell 0 rfl
    have kP5_1 := P5.cell 1 rfl
    clear b5
    go_wp2_with fail
    refine (peak_any x0 A0 c0 s0 _ (hG.below BX) hR0).mono ?_
    obtain ⟨R6, E6, hR6⟩ : ∃ R6 E6, peakS x0 s0 = (R6, E6) := ⟨_, _, rfl⟩
    have HR6 := Lib.hid hR6
    rw [hR6]
    clear hR6
    rintro e W6 ⟨rfl, b6⟩
    dsimp only
    replace BX := below2 BX b6
    replace hR0 := hR0.below b6
    replace hR1 := hR1.below b6
    replace Bp0 := Bp0.below b6
    replace Bp1 := Bp1.below b6
    replace S4 := S4.below b6
    replace P4 := P4.below b6
    replace S5 := S5.below b6
    replace P5 := P5.below b6
    clear b6
    clear kBp0_0 kBp0_1 kBp1_0 kBp1_1 kP4_0 kP4_1 kP5_0 kP5_1
    have kBp0_0 := Bp0.cell 0 rfl
    have kBp0_1 := Bp0.cell 1 rfl
    have kBp1_0 := Bp1.cell 0 rfl
    have kBp1_1 := Bp1.cell 1 rfl
    have kP4_0 := P4.cell 0 rfl
    have kP4_1 := P4.cell 1 rfl
    have kP5_0 := P5.cell 0 rfl
    have kP5_1 := P5.cell 1 rfl
    go_wp2_with fail
    refine (refPeak_any x0 A0 c0 s0 _ hR0).mono ?_
    rw [HR6.out]
    rintro e W7 ⟨rfl, b7⟩
    dsimp only
    replace BX := below2 BX b7
    replace hR0 := hR0.below b7
    replace hR1 := hR1.below b7
    replace Bp0 := Bp0.below b7
    replace Bp1 := Bp1.below b7
    replace S4 := S4.below b7
    replace P4 := P4.below b7
    replace S5 := S5.below b7
    replace P5 := P5.below b7
    clear b7
    clear kBp0_0 kBp0_1 kBp1_0 kBp1_1 kP4_0 kP4_1 kP5_0 kP5_1
    have kBp0_0 := Bp0.cell 0 rfl
    have kBp0_1 := Bp0.cell 1 rfl
    have kBp1_0 := Bp1.cell 0 rfl
    have kBp1_1 := Bp1.cell 1 rfl
    have kP4_0 := P4.cell 0 rfl
    have kP4_1 := P4.cell 1 rfl
    have kP5_0 := P5.cell 0 rfl
    have kP5_1 := P5.cell 1 rfl
    go_wp2_with fail
    refine (power_any x0 A0 c0 s0 _ (hG.below BX) hR0).mono ?_
    obtain ⟨R8, E8, hR8⟩ : ∃ R8 E8, powerS x0 s0 = (R8, E8) := ⟨_, _, rfl⟩
    have HR8 := Lib.hid hR8
    rw [hR8]
    clear hR8
    rintro e W8 ⟨v8, rfl, O8, b8⟩
    dsimp only at O8 ⊢
    obtain ⟨A8, c8, rfl, S8⟩ := O8.rd
    replace S8 := S8.any
    replace BX := below2 BX b8
    replace hR0 := hR0.below b8
    replace hR1 := hR1.below b8
    replace Bp0 := Bp0.below b8
    replace Bp1 := Bp1.below b8
    replace S4 := S4.below b8
    replace P4 := P4.below b8
    replace S5 := S5.below b8
    replace P5 := P5.below b8
    clear b8 O8
    clear kBp0_0 kBp0_1 kBp1_0 kBp1_1 kP4_0 kP4_1 kP5_0 kP5_1
    have kBp0_0 := Bp0.cell 0 rfl
    have kBp0_1 := Bp0.cell 1 rfl
    have kBp1_0 := Bp1.cell 0 rfl
    have kBp1_1 := Bp1.cell 1 rfl
    have kP4_0 := P4.cell 0 rfl
    have kP4_1 := P4.cell 1 rfl
    have kP5_0 := P5.cell 0 rfl
    have kP5_1 := P5.cell 1 rfl
    go_wp2_with fail
    refine (refPower_any x0 A0 c0 s0 _ hR0).mono ?_
    rw [HR8.out]
    rintro e W9 ⟨v9, rfl, O9, b9⟩
    dsimp only at O9 ⊢
    obtain ⟨A9, c9, rfl, S9⟩ := O9.rd
    replace S9 := S9.any
    replace BX := below2 BX b9
    replace hR0 := hR0.below b9
    replace hR1 := hR1.below b9
    replace Bp0 := Bp0.below b9
    replace Bp1 := Bp1.below b9
    replace S4 := S4.below b9
    replace P4 := P4.below b9
    replace S5 := S5.below b9
    replace P5 := P5.below b9
    replace S8 := S8.below b9
    clear b9 O9
    clear kBp0_0 kBp0_1 kBp1_0 kBp1_1 kP4_0 kP4_1 kP5_0 kP5_1
    have kBp0_0 := Bp0.cell 0 rfl
    have kBp0_1 := Bp0.cell 1 rfl
    have kBp1_0 := Bp1.cell 0 rfl
    have kBp1_1 := Bp1.cell 1 rfl
    have kP4_0 := P4.cell 0 rfl
    have kP4_1 := P4.cell 1 rfl
    have kP5_0 := P5.cell 0 rfl
    have kP5_1 := P5.cell 1 rfl
    go_wp2_with fail
    clear kBp0_0 kBp0_1 kBp1_0 kBp1_1 kP4_0 kP4_1 kP5_0 kP5_1
    generalize W4.heap.size = g4 at P4 ⊢
    generalize W5.heap.size = g5 at P5 ⊢
    have D := (Below.refl W9.heap.size W9).drew
    have a0 := (Bp0).cell 0 rfl; have a1 := (Bp0).cell 1 rfl; have a2 := (Bp1).cell 0 rfl; have a3 := (Bp1).cell 1 rfl; have a4 := (P4).cell 0 rfl; have a5 := (P4).cell 1 rfl; have a6 := (P5).cell 0 rfl; have a7 := (P5).cell 1 rfl
    have t0 := trivial
    go_region_held3 (fun W => W.cell? ⟨p0, 0, none⟩ = some (.int .i64 x0) ∧ W.cell? ⟨p0, 1, none⟩ = some (.slice A0 s0.length c0) ∧ W.cell? ⟨p1, 0, none⟩ = some (.int .i64 x1) ∧ W.cell? ⟨p1, 1, none⟩ = some (.slice A1 s1.length c1) ∧ W.cell? ⟨g4, 0, none⟩ = some (.int .i64 R4) ∧ W.cell? ⟨g4, 1, none⟩ = some (.slice A4 T4.length c4) ∧ W.cell? ⟨g5, 0, none⟩ = some (.int .i64 R4) ∧ W.cell? ⟨g5, 1, none⟩ = some (.slice A5 T4.length c5)) (go_keep) (first | (go_at_call 48; have _t := t0; clear t0; refine (check_any x0 A0 c0 s0 _ ((hG.below BX).below D) (hR0.below D)).mono ?_; rw [HCK.out]; rintro e V0 ⟨rfl, b⟩; replace D := below2 D b; clear b a0 a1 a2 a3 a4 a5 a6 a7; have a0 := (Bp0.below D).cell 0 rfl; have a1 := (Bp0.below D).cell 1 rfl; have a2 := (Bp1.below D).cell 0 rfl; have a3 := (Bp1.below D).cell 1 rfl; have a4 := (P4.below D).cell 0 rfl; have a5 := (P4.below D).cell 1 rfl; have a6 := (P5.below D).cell 0 rfl; have a7 := (P5.below D).cell 1 rfl; have t1 := trivial) | (go_at_call 49; have _t := t1; clear t1; refine (refCheck_any x0 A0 c0 s0 _ (hR0.below D)).mono ?_; rw [HCK.out]; rintro e V1 ⟨rfl, b⟩; replace D := below2 D b; clear b a0 a1 a2 a3 a4 a5 a6 a7; have a0 := (Bp0.below D).cell 0 rfl; have a1 := (Bp0.below D).cell 1 rfl; have a2 := (Bp1.below D).cell 0 rfl; have a3 := (Bp1.below D).cell 1 rfl; have a4 := (P4.below D).cell 0 rfl; have a5 := (P4.below D).cell 1 rfl; have a6 := (P5.below D).cell 0 rfl; have a7 := (P5.below D).cell 1 rfl; have t2 := trivial) | (go_at_call 50; have _t := t2; clear t2; refine (same_any x0 A0 c0 s0 x1 A1 c1 s1 _ (hR0.below D) (hR1.below D)).mono ?_; rw [HBV.out]; rintro e V2 ⟨rfl, b⟩; replace D := below2 D b; clear b a0 a1 a2 a3 a4 a5 a6 a7; have a0 := (Bp0.below D).cell 0 rfl; have a1 := (Bp0.below D).cell 1 rfl; have a2 := (Bp1.below D).cell 0 rfl; have a3 := (Bp1.below D).cell 1 rfl; have a4 := (P4.below D).cell 0 rfl; have a5 := (P4.below D).cell 1 rfl; have a6 := (P5.below D).cell 0 rfl; have a7 := (P5.below D).cell 1 rfl; have t3 := trivial) | (go_at_call 19; have _t := t3; clear t3; refine (refSame_any x0 A0 c0 s0 x1 A1 c1 s1 _ (hR0.below D) (hR1.below D)).mono ?_; rw [HBV.out]; rintro e V3 ⟨rfl, b⟩; replace D := below2 D b; clear b a0 a1 a2 a3 a4 a5 a6 a7; have a0 := (Bp0.below D).cell 0 rfl; have a1 := (Bp0.below D).cell 1 rfl; have a2 := (Bp1.below D).cell 0 rfl; have a3 := (Bp1.below D).cell 1 rfl; have a4 := (P4.below D).cell 0 rfl; have a5 := (P4.below D).cell 1 rfl; have a6 := (P5.below D).cell 0 rfl; have a7 := (P5.below D).cell 1 rfl; have t4 := trivial) | (go_at_call 50; have _t := t4; clear t4; refine (same_any x0 A0 c0 s0 x0 A0 c0 s0 _ (hR0.below D) (hR0.below D)).mono ?_; rw [sameB_self]; rintro e V4 ⟨rfl, b⟩; replace D := below2 D b; clear b a0 a1 a2 a3 a4 a5 a6 a7; have a0 := (Bp0.below D).cell 0 rfl; have a1 := (Bp0.below D).cell 1 rfl; have a2 := (Bp1.below D).cell 0 rfl; have a3 := (Bp1.below D).cell 1 rfl; have a4 := (P4.below D).cell 0 rfl; have a5 := (P4.below D).cell 1 rfl; have a6 := (P5.below D).cell 0 rfl; have a7 := (P5.below D).cell 1 rfl; have t5 := trivial) | (go_at_call 19; have _t := t5; clear t5; refine (refSame_any R4 A4 c4 T4 R4 A5 c5 T4 _ (S4.below D) (S5.below D)).mono ?_; rw [sameB_self]; rintro e V5 ⟨rfl, b⟩; replace D := below2 D b; clear b a0 a1 a2 a3 a4 a5 a6 a7; have a0 := (Bp0.below D).cell 0 rfl; have a1 := (Bp0.below D).cell 1 rfl; have a2 := (Bp1.below D).cell 0 rfl; have a3 := (Bp1.below D).cell 1 rfl; have a4 := (P4.below D).cell 0 rfl; have a5 := (P4.below D).cell 1 rfl; have a6 := (P5.below D).cell 0 rfl; have a7 := (P5.below D).cell 1 rfl; have t6 := trivial) | (go_at_call 24; have _t := t6; clear t6; refine (ints_self _ _ R8 _ _ _ (S8.below D) (S9.below D)).mono ?_; rintro e V6 ⟨rfl, b⟩; replace D := below2 D b; clear b a0 a1 a2 a3 a4 a5 a6 a7; have a0 := (Bp0.below D).cell 0 rfl; have a1 := (Bp0.below D).cell 1 rfl; have a2 := (Bp1.below D).cell 0 rfl; have a3 := (Bp1.below D).cell 1 rfl; have a4 := (P4.below D).cell 0 rfl; have a5 := (P4.below D).cell 1 rfl; have a6 := (P5.below D).cell 0 rfl; have a7 := (P5.below D).cell 1 rfl; have t7 := trivial) | (go_at_call 13; have _t := t7; clear t7; refine (awake_any _ ((hG.below BX).below D)).mono ?_; rintro e V7 ⟨rfl, b⟩; replace D := below2 D b; clear b a0 a1 a2 a3 a4 a5 a6 a7; have a0 := (Bp0.below D).cell 0 rfl; have a1 := (Bp0.below D).cell 1 rfl; have a2 := (Bp1.below D).cell 0 rfl; have a3 := (Bp1.below D).cell 1 rfl; have a4 := (P4.below D).cell 0 rfl; have a5 := (P4.below D).cell 1 rfl; have a6 := (P5.below D).cell 0 rfl; have a7 := (P5.below D).cell 1 rfl; have t8 := trivial))
    go_wp2
    go_ret
    exact ⟨rfl, below2 BX D⟩
end Go.Proofs.YtijcecakofmhcaaDoor
