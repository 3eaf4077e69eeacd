/- The law PcmCuts: the walk. -/
import Derived.Test.YtijcecakofmhcaaDoorPcmWalkLib
import Derived.Test.YtijcecakofmhcaaDoorPcmRefF
import Derived.Test.YtijcecakofmhcaaDoorPcmRefG
import Derived.Test.YtijcecakofmhcaaDoorPcmJ
namespace Go.Proofs.YtijcecakofmhcaaDoor
open Go.RowKit

set_option maxHeartbeats 2000000 in
set_option maxRecDepth 100000 in
theorem pcmCuts_walk (x0 : Int) (A0 : Option Addr) (c0 : Nat) (s0 : List (List Int)) (i1 j1 : Int) (w : World) (hG : GR w) (hR0 : R2 w A0 c0 s0) (hF0 : Fits s0) :
    Calls Tryd.prog 6 #[.agg #[.int .i64 x0, .slice A0 s0.length c0], .agg #[.int .i64 i1, .int .i64 j1]] w fun e w' => e = .returned (.bool true) ∧ Below w.heap.size w w' := by
  have hn := hR0.len
  cases hb : smallB s0 20000
  · have HB := Lib.hid hb
    clear hb
    go_enter Tryd.func6, Tryd.ntmps6
    go_wp2_with (first | ((with_reducible refine at_dst (N := 2) rfl ?_); refine ev_new #[.int .i64 x0, .slice A0 s0.length c0] 24 rfl ?hr ?_; (case hr => first | (go_simp; done) | (go_simp; rfl)); intro p0 wp0 ep0 zp0 BX Bp0; skip) | ((with_reducible refine at_dst (N := 3) rfl ?_); refine ev_new #[.int .i64 i1, .int .i64 j1] 37 rfl ?hr ?_; (case hr => first | (go_simp; done) | (go_simp; rfl)); intro p1 wp1 ep1 zp1 bb1 Bp1; replace BX := below2 BX bb1; replace Bp0 := Bp0.below bb1; have kp0_0 := Bp0.cell 0 rfl; have kp0_1 := Bp0.cell 1 rfl; have kp1_0 := Bp1.cell 0 rfl; have kp1_1 := Bp1.cell 1 rfl))
    replace hR0 := hR0.below BX
    have KK := trivial
    refine (few1 wp1 x0 A0 c0 s0 hR0 hF0).mono ?_
    rintro e W1 ⟨rfl, b1⟩
    rw [HB.out]
    replace BX := below2 BX b1
    replace hR0 := hR0.below b1
    replace Bp0 := Bp0.below b1
    replace Bp1 := Bp1.below b1
    clear b1 KK
    clear kp0_0 kp0_1 kp1_0 kp1_1
    have kBp0_0 := Bp0.cell 0 rfl
    have kBp0_1 := Bp0.cell 1 rfl
    have kBp1_0 := Bp1.cell 0 rfl
    have kBp1_1 := Bp1.cell 1 rfl
    go_wp2_with fail
    refine (awake_any _ (hG.below BX)).mono ?_
    rintro e W2 ⟨rfl, b2⟩
    replace BX := below2 BX b2
    go_wp2_with fail
    go_ret
    exact ⟨rfl, BX⟩
  · have HB := Lib.hid hb
    clear hb
    go_enter Tryd.func6, Tryd.ntmps6
    go_wp2_with (first | ((with_reducible refine at_dst (N := 2) rfl ?_); refine ev_new #[.int .i64 x0, .slice A0 s0.length c0] 24 rfl ?hr ?_; (case hr => first | (go_simp; done) | (go_simp; rfl)); intro p0 wp0 ep0 zp0 BX Bp0; skip) | ((with_reducible refine at_dst (N := 3) rfl ?_); refine ev_new #[.int .i64 i1, .int .i64 j1] 37 rfl ?hr ?_; (case hr => first | (go_simp; done) | (go_simp; rfl)); intro p1 wp1 ep1 zp1 bb1 Bp1; replace BX := below2 BX bb1; replace Bp0 := Bp0.below bb1; have kp0_0 := Bp0.cell 0 rfl; have kp0_1 := Bp0.cell 1 rfl; have kp1_0 := Bp1.cell 0 rfl; have kp1_1 := Bp1.cell 1 rfl))
    replace hR0 := hR0.below BX
    have KK := trivial
    refine (few1 wp1 x0 A0 c0 s0 hR0 hF0).mono ?_
    rintro e W1 ⟨rfl, b1⟩
    rw [HB.out]
    replace BX := below2 BX b1
    replace hR0 := hR0.below b1
    replace Bp0 := Bp0.below b1
    replace Bp1 := Bp1.below b1
    clear b1 KK
    clear kp0_0 kp0_1 kp1_0 kp1_1
    have kBp0_0 := Bp0.cell 0 rfl
    have kBp0_1 := Bp0.cell 1 rfl
    have kBp1_0 := Bp1.cell 0 rfl
    have kBp1_1 := Bp1.cell 1 rfl
    go_wp2_with fail
    refine (mono_any x0 A0 c0 s0 _ (hG.below BX) hR0).mono ?_
    obtain ⟨R2, T2, E2, hR2⟩ : ∃ R2 T2 E2, monoS x0 s0 = (R2, T2, E2) := ⟨_, _, _, rfl⟩
    have HR2 := Lib.hid hR2
    rw [hR2]
    clear hR2
    rintro e W2 ⟨⟨A2, c2, rfl, S2⟩, b2⟩
    dsimp only at S2 ⊢
    replace S2 := S2.any
    replace BX := below2 BX b2
    replace hR0 := hR0.below b2
    replace Bp0 := Bp0.below b2
    replace Bp1 := Bp1.below b2
    have Ba2 := below_alloc (Below.refl W2.heap.size W2) (.cells #[.int .i64 R2, .slice A2 T2.length c2] 24)
    have P2 : Blk (W2.alloc (.cells #[.int .i64 R2, .slice A2 T2.length c2] 24)) W2.heap.size #[.int .i64 R2, .slice A2 T2.length c2] 24 := heap_alloc_new W2 _
    replace BX := below2 BX Ba2
    replace hR0 := hR0.below Ba2
    replace Bp0 := Bp0.below Ba2
    replace Bp1 := Bp1.below Ba2
    replace S2 := S2.below Ba2
    clear b2 Ba2
    clear kBp0_0 kBp0_1 kBp1_0 kBp1_1
    have kBp0_0 := Bp0.cell 0 rfl
    have kBp0_1 := Bp0.cell 1 rfl
    have kBp1_0 := Bp1.cell 0 rfl
    have kBp1_1 := Bp1.cell 1 rfl
    have kP2_0 := P2.cell 0 rfl
    have kP2_1 := P2.cell 1 rfl
    go_wp2_with fail
    refine (refMono_any x0 A0 c0 s0 _ hR0).mono ?_
    rw [HR2.out]
    rintro e W3 ⟨⟨A3, c3, rfl, S3⟩, b3⟩
    dsimp only at S3 ⊢
    replace S3 := S3.any
    replace BX := below2 BX b3
    replace hR0 := hR0.below b3
    replace Bp0 := Bp0.below b3
    replace Bp1 := Bp1.below b3
    replace S2 := S2.below b3
    replace P2 := P2.below b3
    have Ba3 := below_alloc (Below.refl W3.heap.size W3) (.cells #[.int .i64 R2, .slice A3 T2.length c3] 24)
    have P3 : Blk (W3.alloc (.cells #[.int .i64 R2, .slice A3 T2.length c3] 24)) W3.heap.size #[.int .i64 R2, .slice A3 T2.length c3] 24 := heap_alloc_new W3 _
    replace BX := below2 BX Ba3
    replace hR0 := hR0.below Ba3
    replace Bp0 := Bp0.below Ba3
    replace Bp1 := Bp1.below Ba3
    replace S2 := S2.below Ba3
    replace P2 := P2.below Ba3
    replace S3 := S3.below Ba3
    clear b3 Ba3
    clear kBp0_0 kBp0_1 kBp1_0 kBp1_1 kP2_0 kP2_1
    have kBp0_0 := Bp0.cell 0 rfl
    have kBp0_1 := Bp0.cell 1 rfl
    have kBp1_0 := Bp1.cell 0 rfl
    have kBp1_1 := Bp1.cell 1 rfl
    have kP2_0 := P2.cell 0 rfl
    have kP2_1 := P2.cell 1 rfl
    have kP3_0 := P3.cell 0 rfl
    have kP3_1 := P3.cell 1 rfl
    go_wp2_with fail
    refine (wide_any x0 A0 c0 s0 _ (hG.below BX) hR0).mono ?_
    obtain ⟨R4, T4, E4, hR4⟩ : ∃ R4 T4 E4, wideS x0 s0 = (R4, T4, E4) := ⟨_, _, _, rfl⟩
    have HR4 := Lib.hid hR4
    rw [hR4]
    clear hR4
    rintro e W4 ⟨⟨A4, c4, rfl, S4⟩, b4⟩
    dsimp only at S4 ⊢
    replace S4 := S4.any
    replace BX := below2 BX b4
    replace hR0 := hR0.below b4
    replace Bp0 := Bp0.below b4
    replace Bp1 := Bp1.below b4
    replace S2 := S2.below b4
    replace P2 := P2.below b4
    replace S3 := S3.below b4
    replace P3 := P3.below b4
    have Ba4 := below_alloc (Below.refl W4.heap.size W4) (.cells #[.int .i64 R4, .slice A4 T4.length c4] 24)
    have P4 : Blk (W4.alloc (.cells #[.int .i64 R4, .slice A4 T4.length c4] 24)) W4.heap.size #[.int .i64 R4, .slice A4 T4.length c4] 24 := heap_alloc_new W4 _
    replace BX := below2 BX Ba4
    replace hR0 := hR0.below Ba4
    replace Bp0 := Bp0.below Ba4
    replace Bp1 := Bp1.below Ba4
    replace S2 := S2.below Ba4
    replace P2 := P2.below Ba4
    replace S3 := S3.below Ba4
    replace P3 := P3.below Ba4
    replace S4 := S4.below Ba4
    clear b4 Ba4
    clear kBp0_0 kBp0_1 kBp1_0 kBp1_1 kP2_0 kP2_1 kP3_0 kP3_1
    have kBp0_0 := Bp0.cell 0 rfl
    have kBp0_1 := Bp0.cell 1 rfl
    have kBp1_0 := Bp1.cell 0 rfl
    have kBp1_1 := Bp1.cell 1 rfl
    have kP2_0 := P2.cell 0 rfl
    have kP2_1 := P2.cell 1 rfl
    have kP3_0 := P3.cell 0 rfl
    have kP3_1 := P3.cell 1 rfl
    have kP4_0 := P4.cell 0 rfl
    have kP4_1 := P4.cell 1 rfl
    go_wp2_with fail
    refine (refWide_any x0 A0 c0 s0 _ hR0).mono ?_
    rw [HR4.out]
    rintro e W5 ⟨⟨A5, c5, rfl, S5⟩, b5⟩
    dsimp only at S5 ⊢
    replace S5 := S5.any
    replace BX := below2 BX b5
    replace hR0 := hR0.below b5
    replace Bp0 := Bp0.below b5
    replace Bp1 := Bp1.below b5
    replace S2 := S2.below b5
    replace P2 := P2.below b5
    replace S3 := S3.below b5
    replace P3 := P3.below b5
    replace S4 := S4.below b5
    replace P4 := P4.below b5
    have Ba5 := below_alloc (Below.refl W5.heap.size W5) (.cells #[.int .i64 R4, .slice A5 T4.length c5] 24)
    have P5 : Blk (W5.alloc (.cells #[.int .i64 R4, .slice A5 T4.length c5] 24)) W5.heap.size #[.int .i64 R4, .slice A5 T4.length c5] 24 := heap_alloc_new W5 _
    replace BX := below2 BX Ba5
    replace hR0 := hR0.below Ba5
    replace Bp0 := Bp0.below Ba5
    replace Bp1 := Bp1.below Ba5
    replace S2 := S2.below Ba5
    replace P2 := P2.below Ba5
    replace S3 := S3.below Ba5
    replace P3 := P3.below Ba5
    replace S4 := S4.below Ba5
    replace P4 := P4.below Ba5
    replace S5 := S5.below Ba5
    clear b5 Ba5
    clear kBp0_0 kBp0_1 kBp1_0 kBp1_1 kP2_0 kP2_1 kP3_0 kP3_1 kP4_0 kP4_1
    have kBp0_0 := Bp0.cell 0 rfl
    have kBp0_1 := Bp0.cell 1 rfl
    have kBp1_0 := Bp1.cell 0 rfl
    have kBp1_1 := Bp1.cell 1 rfl
    have kP2_0 := P2.cell 0 rfl
    have kP2_1 := P2.cell 1 rfl
    have kP3_0 := P3.cell 0 rfl
    have kP3_1 := P3.cell 1 rfl
    have kP4_0 := P4.cell 0 rfl
    have kP4_1 := P4.cell 1 rfl
    have kP5_0 := P5.cell 0 rfl
    have kP5_1 := P5.cell 1 rfl
    go_wp2_with fail
    refine (cut_any x0 A0 c0 s0 i1 j1 _ (hG.below BX) hR0).mono ?_
    obtain ⟨R6, T6, E6, hR6⟩ : ∃ R6 T6 E6, cutS x0 s0 i1 j1 = (R6, T6, E6) := ⟨_, _, _, rfl⟩
    have HR6 := Lib.hid hR6
    rw [hR6]
    clear hR6
    rintro e W6 ⟨⟨A6, c6, rfl, S6⟩, b6⟩
    dsimp only at S6 ⊢
    replace S6 := S6.any
    replace BX := below2 BX b6
    replace hR0 := hR0.below b6
    replace Bp0 := Bp0.below b6
    replace Bp1 := Bp1.below b6
    replace S2 := S2.below b6
    replace P2 := P2.below b6
    replace S3 := S3.below b6
    replace P3 := P3.below b6
    replace S4 := S4.below b6
    replace P4 := P4.below b6
    replace S5 := S5.below b6
    replace P5 := P5.below b6
    have Ba6 := below_alloc (Below.refl W6.heap.size W6) (.cells #[.int .i64 R6, .slice A6 T6.length c6] 24)
    have P6 : Blk (W6.alloc (.cells #[.int .i64 R6, .slice A6 T6.length c6] 24)) W6.heap.size #[.int .i64 R6, .slice A6 T6.length c6] 24 := heap_alloc_new W6 _
    replace BX := below2 BX Ba6
    replace hR0 := hR0.below Ba6
    replace Bp0 := Bp0.below Ba6
    replace Bp1 := Bp1.below Ba6
    replace S2 := S2.below Ba6
    replace P2 := P2.below Ba6
    replace S3 := S3.below Ba6
    replace P3 := P3.below Ba6
    replace S4 := S4.below Ba6
    replace P4 := P4.below Ba6
    replace S5 := S5.below Ba6
    replace P5 := P5.below Ba6
    replace S6 := S6.below Ba6
    clear b6 Ba6
    clear kBp0_0 kBp0_1 kBp1_0 kBp1_1 kP2_0 kP2_1 kP3_0 kP3_1 kP4_0 kP4_1 kP5_0 kP5_1
    have kBp0_0 := Bp0.cell 0 rfl
    have kBp0_1 := Bp0.cell 1 rfl
    have kBp1_0 := Bp1.cell 0 rfl
    have kBp1_1 := Bp1.cell 1 rfl
    have kP2_0 := P2.cell 0 rfl
    have kP2_1 := P2.cell 1 rfl
    have kP3_0 := P3.cell 0 rfl
    have kP3_1 := P3.cell 1 rfl
    have kP4_0 := P4.cell 0 rfl
    have kP4_1 := P4.cell 1 rfl
    have kP5_0 := P5.cell 0 rfl
    have kP5_1 := P5.cell 1 rfl
    have kP6_0 := P6.cell 0 rfl
    have kP6_1 := P6.cell 1 rfl
    go_wp2_with fail
    refine (refCut_any x0 A0 c0 s0 i1 j1 _ hR0).mono ?_
    rw [HR6.out]
    rintro e W7 ⟨⟨A7, c7, rfl, S7⟩, b7⟩
    dsimp only at S7 ⊢
    replace S7 := S7.any
    replace BX := below2 BX b7
    replace hR0 := hR0.below b7
    replace Bp0 := Bp0.below b7
    replace Bp1 := Bp1.below b7
    replace S2 := S2.below b7
    replace P2 := P2.below b7
    replace S3 := S3.below b7
    replace P3 := P3.below b7
    replace S4 := S4.below b7
    replace P4 := P4.below b7
    replace S5 := S5.below b7
    replace P5 := P5.below b7
    replace S6 := S6.below b7
    replace P6 := P6.below b7
    have Ba7 := below_alloc (Below.refl W7.heap.size W7) (.cells #[.int .i64 R6, .slice A7 T6.length c7] 24)
    have P7 : Blk (W7.alloc (.cells #[.int .i64 R6, .slice A7 T6.length c7] 24)) W7.heap.size #[.int .i64 R6, .slice A7 T6.length c7] 24 := heap_alloc_new W7 _
    replace BX := below2 BX Ba7
    replace hR0 := hR0.below Ba7
    replace Bp0 := Bp0.below Ba7
    replace Bp1 := Bp1.below Ba7
    replace S2 := S2.below Ba7
    replace P2 := P2.below Ba7
    replace S3 := S3.below Ba7
    replace P3 := P3.below Ba7
    replace S4 := S4.below Ba7
    replace P4 := P4.below Ba7
    replace S5 := S5.below Ba7
    replace P5 := P5.below Ba7
    replace S6 := S6.below Ba7
    replace P6 := P6.below Ba7
    replace S7 := S7.below Ba7
    clear b7 Ba7
    clear kBp0_0 kBp0_1 kBp1_0 kBp1_1 kP2_0 kP2_1 kP3_0 kP3_1 kP4_0 kP4_1 kP5_0 kP5_1 kP6_0 kP6_1
    have kBp0_0 := Bp0.cell 0 rfl
    have kBp0_1 := Bp0.cell 1 rfl
    have kBp1_0 := Bp1.cell 0 rfl
    have kBp1_1 := Bp1.cell 1 rfl
    have kP2_0 := P2.cell 0 rfl
    have kP2_1 := P2.cell 1 rfl
    have kP3_0 := P3.cell 0 rfl
    have kP3_1 := P3.cell 1 rfl
    have kP4_0 := P4.cell 0 rfl
    have kP4_1 := P4.cell 1 rfl
    have kP5_0 := P5.cell 0 rfl
    have kP5_1 := P5.cell 1 rfl
    have kP6_0 := P6.cell 0 rfl
    have kP6_1 := P6.cell 1 rfl
    have kP7_0 := P7.cell 0 rfl
    have kP7_1 := P7.cell 1 rfl
    go_wp2_with fail
    refine (same_self _ _ _ _ _ _ _ S2 S3).mono ?_
    rintro e W8 ⟨rfl, b8⟩
    replace BX := below2 BX b8
    replace hR0 := hR0.below b8
    replace Bp0 := Bp0.below b8
    replace Bp1 := Bp1.below b8
    replace S2 := S2.below b8
    replace P2 := P2.below b8
    replace S3 := S3.below b8
    replace P3 := P3.below b8
    replace S4 := S4.below b8
    replace P4 := P4.below b8
    replace S5 := S5.below b8
    replace P5 := P5.below b8
    replace S6 := S6.below b8
    replace P6 := P6.below b8
    replace S7 := S7.below b8
    replace P7 := P7.below b8
    clear b8
    clear kBp0_0 kBp0_1 kBp1_0 kBp1_1 kP2_0 kP2_1 kP3_0 kP3_1 kP4_0 kP4_1 kP5_0 kP5_1 kP6_0 kP6_1 kP7_0 kP7_1
    have kBp0_0 := Bp0.cell 0 rfl
    have kBp0_1 := Bp0.cell 1 rfl
    have kBp1_0 := Bp1.cell 0 rfl
    have kBp1_1 := Bp1.cell 1 rfl
    have kP2_0 := P2.cell 0 rfl
    have kP2_1 := P2.cell 1 rfl
    have kP3_0 := P3.cell 0 rfl
    have kP3_1 := P3.cell 1 rfl
    have kP4_0 := P4.cell 0 rfl
    have kP4_1 := P4.cell 1 rfl
    have kP5_0 := P5.cell 0 rfl
    have kP5_1 := P5.cell 1 rfl
    have kP6_0 := P6.cell 0 rfl
    have kP6_1 := P6.cell 1 rfl
    have kP7_0 := P7.cell 0 rfl
    have kP7_1 := P7.cell 1 rfl
    go_wp2_with fail
    refine (same_self _ _ _ _ _ _ _ S4 S5).mono ?_
    rintro e W9 ⟨rfl, b9⟩
    replace BX := below2 BX b9
    replace hR0 := hR0.below b9
    replace Bp0 := Bp0.below b9
    replace Bp1 := Bp1.below b9
    replace S2 := S2.below b9
    replace P2 := P2.below b9
    replace S3 := S3.below b9
    replace P3 := P3.below b9
    replace S4 := S4.below b9
    replace P4 := P4.below b9
    replace S5 := S5.below b9
    replace P5 := P5.below b9
    replace S6 := S6.below b9
    replace P6 := P6.below b9
    replace S7 := S7.below b9
    replace P7 := P7.below b9
    clear b9
    clear kBp0_0 kBp0_1 kBp1_0 kBp1_1 kP2_0 kP2_1 kP3_0 kP3_1 kP4_0 kP4_1 kP5_0 kP5_1 kP6_0 kP6_1 kP7_0 kP7_1
    have kBp0_0 := Bp0.cell 0 rfl
    have kBp0_1 := Bp0.cell 1 rfl
    have kBp1_0 := Bp1.cell 0 rfl
    have kBp1_1 := Bp1.cell 1 rfl
    have kP2_0 := P2.cell 0 rfl
    have kP2_1 := P2.cell 1 rfl
    have kP3_0 := P3.cell 0 rfl
    have kP3_1 := P3.cell 1 rfl
    have kP4_0 := P4.cell 0 rfl
    have kP4_1 := P4.cell 1 rfl
    have kP5_0 := P5.cell 0 rfl
    have kP5_1 := P5.cell 1 rfl
    have kP6_0 := P6.cell 0 rfl
    have kP6_1 := P6.cell 1 rfl
    have kP7_0 := P7.cell 0 rfl
    have kP7_1 := P7.cell 1 rfl
    go_wp2_with fail
    refine (same_self _ _ _ _ _ _ _ S6 S7).mono ?_
    rintro e W10 ⟨rfl, b10⟩
    replace BX := below2 BX b10
    replace hR0 := hR0.below b10
    replace Bp0 := Bp0.below b10
    replace Bp1 := Bp1.below b10
    replace S2 := S2.below b10
    replace P2 := P2.below b10
    replace S3 := S3.below b10
    replace P3 := P3.below b10
    replace S4 := S4.below b10
    replace P4 := P4.below b10
    replace S5 := S5.below b10
    replace P5 := P5.below b10
    replace S6 := S6.below b10
    replace P6 := P6.below b10
    replace S7 := S7.below b10
    replace P7 := P7.below b10
    clear b10
    clear kBp0_0 kBp0_1 kBp1_0 kBp1_1 kP2_0 kP2_1 kP3_0 kP3_1 kP4_0 kP4_1 kP5_0 kP5_1 kP6_0 kP6_1 kP7_0 kP7_1
    have kBp0_0 := Bp0.cell 0 rfl
    have kBp0_1 := Bp0.cell 1 rfl
    have kBp1_0 := Bp1.cell 0 rfl
    have kBp1_1 := Bp1.cell 1 rfl
    have kP2_0 := P2.cell 0 rfl
    have kP2_1 := P2.cell 1 rfl
    have kP3_0 := P3.cell 0 rfl
    have kP3_1 := P3.cell 1 rfl
    have kP4_0 := P4.cell 0 rfl
    have kP4_1 := P4.cell 1 rfl
    have kP5_0 := P5.cell 0 rfl
    have kP5_1 := P5.cell 1 rfl
    have kP6_0 := P6.cell 0 rfl
    have kP6_1 := P6.cell 1 rfl
    have kP7_0 := P7.cell 0 rfl
    have kP7_1 := P7.cell 1 rfl
    go_wp2_with fail
    refine (awake_any _ (hG.below BX)).mono ?_
    rintro e W11 ⟨rfl, b11⟩
    replace BX := below2 BX b11
    go_wp2_with fail
    go_ret
    exact ⟨rfl, BX⟩
end Go.Proofs.YtijcecakofmhcaaDoor
