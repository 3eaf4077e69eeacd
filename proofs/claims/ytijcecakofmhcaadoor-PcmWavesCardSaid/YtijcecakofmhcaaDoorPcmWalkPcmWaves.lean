/- The law PcmWaves: the walk. -/
import Derived.Test.YtijcecakofmhcaaDoorPcmWalkLib
import Derived.Test.YtijcecakofmhcaaDoorPcmRefP
import Derived.Test.YtijcecakofmhcaaDoorPcmRefN
namespace Go.Proofs.YtijcecakofmhcaaDoor
open Go.RowKit

set_option maxHeartbeats 4000000 in
set_option maxRecDepth 100000 in
theorem pcmWaves_walk (x0 : Int) (A0 : Option Addr) (c0 : Nat) (s0 : List (List Int)) (A1 : Option Addr) (c1 : Nat) (s1 : List Int) (w : World) (hG : GR w) (hR0 : R2 w A0 c0 s0) (hF0 : Fits s0) (hR1 : RY w A1 c1 s1) (hY1 : Bytes s1) (hF1 : s1.length ≤ 140737488355328) :
    Calls Tryd.prog 3 #[.agg #[.int .i64 x0, .slice A0 s0.length c0], .slice A1 s1.length c1] w fun e w' => e = .returned (.bool true) ∧ Below w.heap.size w w' := by
  have hn := hR0.len
  cases hb : smallB s0 20000
  · have HB := Lib.hid hb
    clear hb
    go_enter Tryd.func3, Tryd.ntmps3
    go_wp2_with (((with_reducible refine at_dst (N := 2) rfl ?_); refine ev_new #[.int .i64 x0, .slice A0 s0.length c0] 24 rfl ?hr ?_; (case hr => first | (go_simp; done) | (go_simp; rfl)); intro p0 wp0 ep0 zp0 BX Bp0; have kp0_0 := Bp0.cell 0 rfl; have kp0_1 := Bp0.cell 1 rfl))
    replace hR0 := hR0.below BX
    replace hR1 := hR1.below BX
    have KK := trivial
    refine (few1 wp0 x0 A0 c0 s0 hR0 hF0).mono ?_
    rintro e W1 ⟨rfl, b1⟩
    rw [HB.out]
    replace BX := below2 BX b1
    replace hR0 := hR0.below b1
    replace hR1 := hR1.below b1
    replace Bp0 := Bp0.below b1
    clear b1 KK
    clear kp0_0 kp0_1
    have kBp0_0 := Bp0.cell 0 rfl
    have kBp0_1 := Bp0.cell 1 rfl
    go_wp2_with fail
    refine (awake_any _ (hG.below BX)).mono ?_
    rintro e W2 ⟨rfl, b2⟩
    replace BX := below2 BX b2
    go_wp2_with fail
    go_ret
    exact ⟨rfl, BX⟩
  · have HB := Lib.hid hb
    clear hb
    by_cases hbig : 50000 < s1.length
    · have hbi : (50000 : Int) < (s1.length : Int) := by omega
      go_enter Tryd.func3, Tryd.ntmps3
      go_wp2_with (((with_reducible refine at_dst (N := 2) rfl ?_); refine ev_new #[.int .i64 x0, .slice A0 s0.length c0] 24 rfl ?hr ?_; (case hr => first | (go_simp; done) | (go_simp; rfl)); intro p0 wp0 ep0 zp0 BX Bp0; have kp0_0 := Bp0.cell 0 rfl; have kp0_1 := Bp0.cell 1 rfl))
      replace hR0 := hR0.below BX
      replace hR1 := hR1.below BX
      have KK := trivial
      refine (few1 wp0 x0 A0 c0 s0 hR0 hF0).mono ?_
      rintro e W1 ⟨rfl, b1⟩
      rw [HB.out]
      replace BX := below2 BX b1
      replace hR0 := hR0.below b1
      replace hR1 := hR1.below b1
      replace Bp0 := Bp0.below b1
      clear b1 KK
      clear kp0_0 kp0_1
      have kBp0_0 := Bp0.cell 0 rfl
      have kBp0_1 := Bp0.cell 1 rfl
      go_wp2_with fail
      refine (awake_any _ (hG.below BX)).mono ?_
      rintro e W2 ⟨rfl, b2⟩
      replace BX := below2 BX b2
      go_wp2_with fail
      go_ret
      exact ⟨rfl, BX⟩
    · have hbi : ¬ (50000 : Int) < (s1.length : Int) := by omega
      have hl1 : s1.length ≤ 60000 := by omega
      go_enter Tryd.func3, Tryd.ntmps3
      go_wp2_with (((with_reducible refine at_dst (N := 2) rfl ?_); refine ev_new #[.int .i64 x0, .slice A0 s0.length c0] 24 rfl ?hr ?_; (case hr => first | (go_simp; done) | (go_simp; rfl)); intro p0 wp0 ep0 zp0 BX Bp0; have kp0_0 := Bp0.cell 0 rfl; have kp0_1 := Bp0.cell 1 rfl))
      replace hR0 := hR0.below BX
      replace hR1 := hR1.below BX
      have KK := trivial
      refine (few1 wp0 x0 A0 c0 s0 hR0 hF0).mono ?_
      rintro e W1 ⟨rfl, b1⟩
      rw [HB.out]
      replace BX := below2 BX b1
      replace hR0 := hR0.below b1
      replace hR1 := hR1.below b1
      replace Bp0 := Bp0.below b1
      clear b1 KK
      clear kp0_0 kp0_1
      have kBp0_0 := Bp0.cell 0 rfl
      have kBp0_1 := Bp0.cell 1 rfl
      go_wp2_with fail
      refine (wave_any x0 A0 c0 s0 _ (hG.below BX) hR0).mono ?_
      obtain ⟨R2, E2, hR2⟩ : ∃ R2 E2, waveS x0 s0 = (R2, E2) := ⟨_, _, rfl⟩
      have HR2 := Lib.hid hR2
      rw [hR2]
      clear hR2
      rintro e W2 ⟨⟨v2, rfl, O2⟩, b2⟩
      dsimp only at O2 ⊢
      obtain ⟨A2, c2, rfl, S2⟩ := O2.rd
      replace S2 := S2.any
      replace BX := below2 BX b2
      replace hR0 := hR0.below b2
      replace hR1 := hR1.below b2
      replace Bp0 := Bp0.below b2
      clear b2 O2
      clear kBp0_0 kBp0_1
      have kBp0_0 := Bp0.cell 0 rfl
      have kBp0_1 := Bp0.cell 1 rfl
      go_wp2_with fail
      refine (refWave_any x0 A0 c0 s0 _ hR0).mono ?_
      rw [HR2.out]
      rintro e W3 ⟨⟨v3, rfl, O3⟩, b3⟩
      dsimp only at O3 ⊢
      obtain ⟨A3, c3, rfl, S3⟩ := O3.rd
      replace S3 := S3.any
      replace BX := below2 BX b3
      replace hR0 := hR0.below b3
      replace hR1 := hR1.below b3
      replace Bp0 := Bp0.below b3
      replace S2 := S2.below b3
      clear b3 O3
      clear kBp0_0 kBp0_1
      have kBp0_0 := Bp0.cell 0 rfl
      have kBp0_1 := Bp0.cell 1 rfl
      go_wp2_with fail
      refine (read_any A1 c1 s1 _ (hG.below BX) hR1 hY1 hl1).mono ?_
      obtain ⟨R4, T4, E4, hR4⟩ : ∃ R4 T4 E4, readS s1 = (R4, T4, E4) := ⟨_, _, _, rfl⟩
      have HR4 := Lib.hid hR4
      rw [hR4]
      clear hR4
      rintro e W4 ⟨⟨A4, c4, rfl, S4⟩, b4⟩
      dsimp only at S4 ⊢
      replace S4 := S4.any
      replace BX := below2 BX b4
      replace hR0 := hR0.below b4
      replace hR1 := hR1.below b4
      replace Bp0 := Bp0.below b4
      replace S2 := S2.below b4
      replace S3 := S3.below b4
      have Ba4 := below_alloc (Below.refl W4.heap.size W4) (.cells #[.int .i64 R4, .slice A4 T4.length c4] 24)
      have P4 : Blk (W4.alloc (.cells #[.int .i64 R4, .slice A4 T4.length c4] 24)) W4.heap.size #[.int .i64 R4, .slice A4 T4.length c4] 24 := heap_alloc_new W4 _
      replace BX := below2 BX Ba4
      replace hR0 := hR0.below Ba4
      replace hR1 := hR1.below Ba4
      replace Bp0 := Bp0.below Ba4
      replace S2 := S2.below Ba4
      replace S3 := S3.below Ba4
      replace S4 := S4.below Ba4
      clear Ba4
      clear kBp0_0 kBp0_1
      have kBp0_0 := Bp0.cell 0 rfl
      have kBp0_1 := Bp0.cell 1 rfl
      have kP4_0 := P4.cell 0 rfl
      have kP4_1 := P4.cell 1 rfl
      clear b4
      go_wp2_with fail
      refine (refRead_any A1 c1 s1 _ hR1 hY1 hl1).mono ?_
      rw [HR4.out]
      rintro e W5 ⟨⟨A5, c5, rfl, S5⟩, b5⟩
      dsimp only at S5 ⊢
      replace S5 := S5.any
      replace BX := below2 BX b5
      replace hR0 := hR0.below b5
      replace hR1 := hR1.below b5
      replace Bp0 := Bp0.below b5
      replace S2 := S2.below b5
      replace S3 := S3.below b5
      replace S4 := S4.below b5
      replace P4 := P4.below b5
      have Ba5 := below_alloc (Below.refl W5.heap.size W5) (.cells #[.int .i64 R4, .slice A5 T4.length c5] 24)
      have P5 : Blk (W5.alloc (.cells #[.int .i64 R4, .slice A5 T4.length c5] 24)) W5.heap.size #[.int .i64 R4, .slice A5 T4.length c5] 24 := heap_alloc_new W5 _
      replace BX := below2 BX Ba5
      replace hR0 := hR0.below Ba5
      replace hR1 := hR1.below Ba5
      replace Bp0 := Bp0.below Ba5
      replace S2 := S2.below Ba5
      replace S3 := S3.below Ba5
      replace S4 := S4.below Ba5
      replace P4 := P4.below Ba5
      replace S5 := S5.below Ba5
      clear Ba5
      clear kBp0_0 kBp0_1 kP4_0 kP4_1
      have kBp0_0 := Bp0.cell 0 rfl
      have kBp0_1 := Bp0.cell 1 rfl
      have kP4_0 := P4.cell 0 rfl
      have kP4_1 := P4.cell 1 rfl
      have kP5_0 := P5.cell 0 rfl
      have kP5_1 := P5.cell 1 rfl
      clear b5
      go_wp2_with fail
      refine (same1_b A2 c2 R2 A3 c3 R2 _ S2 S3).mono ?_
      rw [(show decide (R2 = R2) = true from decide_eq_true rfl)]
      rintro e W6 ⟨rfl, b6⟩
      replace BX := below2 BX b6
      replace hR0 := hR0.below b6
      replace hR1 := hR1.below b6
      replace Bp0 := Bp0.below b6
      replace S2 := S2.below b6
      replace S3 := S3.below b6
      replace S4 := S4.below b6
      replace P4 := P4.below b6
      replace S5 := S5.below b6
      replace P5 := P5.below b6
      clear b6
      clear kBp0_0 kBp0_1 kP4_0 kP4_1 kP5_0 kP5_1
      have kBp0_0 := Bp0.cell 0 rfl
      have kBp0_1 := Bp0.cell 1 rfl
      have kP4_0 := P4.cell 0 rfl
      have kP4_1 := P4.cell 1 rfl
      have kP5_0 := P5.cell 0 rfl
      have kP5_1 := P5.cell 1 rfl
      go_wp2_with fail
      refine (same_self _ _ _ _ _ _ _ S4 S5).mono ?_
      rintro e W7 ⟨rfl, b7⟩
      replace BX := below2 BX b7
      replace hR0 := hR0.below b7
      replace hR1 := hR1.below b7
      replace Bp0 := Bp0.below b7
      replace S2 := S2.below b7
      replace S3 := S3.below b7
      replace S4 := S4.below b7
      replace P4 := P4.below b7
      replace S5 := S5.below b7
      replace P5 := P5.below b7
      clear b7
      clear kBp0_0 kBp0_1 kP4_0 kP4_1 kP5_0 kP5_1
      have kBp0_0 := Bp0.cell 0 rfl
      have kBp0_1 := Bp0.cell 1 rfl
      have kP4_0 := P4.cell 0 rfl
      have kP4_1 := P4.cell 1 rfl
      have kP5_0 := P5.cell 0 rfl
      have kP5_1 := P5.cell 1 rfl
      go_wp2_with fail
      refine (awake_any _ (hG.below BX)).mono ?_
      rintro e W8 ⟨rfl, b8⟩
      replace BX := below2 BX b8
      go_wp2_with fail
      go_ret
      exact ⟨rfl, BX⟩
end Go.Proofs.YtijcecakofmhcaaDoor
