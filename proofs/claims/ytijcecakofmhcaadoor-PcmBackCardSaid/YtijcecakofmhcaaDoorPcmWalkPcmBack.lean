/- The law PcmBack: the walk. -/
import Derived.Test.YtijcecakofmhcaaDoorPcmWalkLib
import Derived.Test.YtijcecakofmhcaaDoorPcmPlainC
import Derived.Test.YtijcecakofmhcaaDoorPcmH
import Derived.Test.YtijcecakofmhcaaDoorPcmT
namespace Go.Proofs.YtijcecakofmhcaaDoor
open Go.RowKit

set_option maxHeartbeats 4000000 in
set_option maxRecDepth 100000 in
theorem pcmBack_walk (x0 : Int) (A0 : Option Addr) (c0 : Nat) (s0 : List (List Int)) (A1 : Option Addr) (c1 : Nat) (s1 : List Int) (w : World) (hG : GR w) (hR0 : R2 w A0 c0 s0) (hF0 : Fits s0) (hR1 : RY w A1 c1 s1) (hY1 : Bytes s1) (hF1 : s1.length ≤ 140737488355328) :
    Calls Tryd.prog 5 #[.agg #[.int .i64 x0, .slice A0 s0.length c0], .slice A1 s1.length c1] w fun e w' => e = .returned (.bool true) ∧ Below w.heap.size w w' := by
  have hn := hR0.len
  cases hb : smallB s0 20000
  · have HB := Lib.hid hb
    clear hb
    go_enter Tryd.func5, Tryd.ntmps5
    go_wp2_with (((with_reducible refine at_dst (N := 2) rfl ?_); refine ev_new #[.int .i64 x0, .slice A0 s0.length c0] 24 rfl ?hr ?_; (case hr => first | (go_simp; done) | (go_simp; rfl)); intro p0 wp0 ep0 zp0 BX Bp0; have kp0_0 := Bp0.cell 0 rfl; have kp0_1 := Bp0.cell 1 rfl))
    replace hR0 := hR0.below BX
    replace hR1 := hR1.below BX
    have KK := trivial
    refine (few1 wp0 x0 A0 c0 s0 hR0 hF0).mono ?_
    rintro e W1 ⟨rfl, b1⟩
    rw [HB.out]
    replace BX := below2 BX b1
    replace hR0 := hR0.below b1
    replace hR1 := hR1.below b1
    replace Bp0 := Bp0.below b1
    clear b1 KK
    clear kp0_0 kp0_1
    have kBp0_0 := Bp0.cell 0 rfl
    have kBp0_1 := Bp0.cell 1 rfl
    go_wp2_with fail
    refine (awake_any _ (hG.below BX)).mono ?_
    rintro e W2 ⟨rfl, b2⟩
    replace BX := below2 BX b2
    go_wp2_with fail
    go_ret
    exact ⟨rfl, BX⟩
  · have HB := Lib.hid hb
    clear hb
    by_cases hbig : 50000 < s1.length
    · have hbi : (50000 : Int) < (s1.length : Int) := by omega
      go_enter Tryd.func5, Tryd.ntmps5
      go_wp2_with (((with_reducible refine at_dst (N := 2) rfl ?_); refine ev_new #[.int .i64 x0, .slice A0 s0.length c0] 24 rfl ?hr ?_; (case hr => first | (go_simp; done) | (go_simp; rfl)); intro p0 wp0 ep0 zp0 BX Bp0; have kp0_0 := Bp0.cell 0 rfl; have kp0_1 := Bp0.cell 1 rfl))
      replace hR0 := hR0.below BX
      replace hR1 := hR1.below BX
      have KK := trivial
      refine (few1 wp0 x0 A0 c0 s0 hR0 hF0).mono ?_
      rintro e W1 ⟨rfl, b1⟩
      rw [HB.out]
      replace BX := below2 BX b1
      replace hR0 := hR0.below b1
      replace hR1 := hR1.below b1
      replace Bp0 := Bp0.below b1
      clear b1 KK
      clear kp0_0 kp0_1
      have kBp0_0 := Bp0.cell 0 rfl
      have kBp0_1 := Bp0.cell 1 rfl
      go_wp2_with fail
      refine (awake_any _ (hG.below BX)).mono ?_
      rintro e W2 ⟨rfl, b2⟩
      replace BX := below2 BX b2
      go_wp2_with fail
      go_ret
      exact ⟨rfl, BX⟩
    · have hbi : ¬ (50000 : Int) < (s1.length : Int) := by omega
      obtain ⟨R, T, E, hRS⟩ : ∃ R T E, readS s1 = (R, T, E) := ⟨_, _, _, rfl⟩
      have HF := Lib.hid (back_file s1 hY1)
      rw [hRS] at HF
      have HR := Lib.hid hRS
      have hl1 : s1.length ≤ 60000 := by omega
      clear hRS
      cases hv : validB x0 s0
      · have HV := Lib.hid hv
        clear hv
        go_enter Tryd.func5, Tryd.ntmps5
        go_wp2_with (((with_reducible refine at_dst (N := 2) rfl ?_); refine ev_new #[.int .i64 x0, .slice A0 s0.length c0] 24 rfl ?hr ?_; (case hr => first | (go_simp; done) | (go_simp; rfl)); intro p0 wp0 ep0 zp0 BX Bp0; have kp0_0 := Bp0.cell 0 rfl; have kp0_1 := Bp0.cell 1 rfl))
        replace hR0 := hR0.below BX
        replace hR1 := hR1.below BX
        have KK := trivial
        refine (few1 wp0 x0 A0 c0 s0 hR0 hF0).mono ?_
        rintro e W1 ⟨rfl, b1⟩
        rw [HB.out]
        replace BX := below2 BX b1
        replace hR0 := hR0.below b1
        replace hR1 := hR1.below b1
        replace Bp0 := Bp0.below b1
        clear b1 KK
        clear kp0_0 kp0_1
        have kBp0_0 := Bp0.cell 0 rfl
        have kBp0_1 := Bp0.cell 1 rfl
        go_wp2_with fail
        refine (refValid_any x0 A0 c0 s0 _ hR0).mono ?_
        rw [HV.out]
        rintro e W2 ⟨rfl, b2⟩
        replace BX := below2 BX b2
        replace hR0 := hR0.below b2
        replace hR1 := hR1.below b2
        replace Bp0 := Bp0.below b2
        clear b2
        clear kBp0_0 kBp0_1
        have kBp0_0 := Bp0.cell 0 rfl
        have kBp0_1 := Bp0.cell 1 rfl
        rcases HF.out with ⟨h1, h2, h3⟩ | ⟨h1, h2, h3, h4⟩
        · have hE : (E != 0) = true := by simpa using h1
          have HS : Hid (sameB R T 0 [] = true) := Lib.hid (by have e2 : R = 0 := h2; have e3 : T = [] := h3; rw [e2, e3]; exact sameB_self 0 [])
          clear h1 h2 h3 HF
          go_wp2_with fail
          refine (read_any A1 c1 s1 _ (hG.below BX) hR1 hY1 hl1).mono ?_
          rw [HR.out]
          rintro e W3 ⟨⟨A3, c3, rfl, S3⟩, b3⟩
          dsimp only at S3 ⊢
          replace S3 := S3.any
          replace BX := below2 BX b3
          replace hR0 := hR0.below b3
          replace hR1 := hR1.below b3
          replace Bp0 := Bp0.below b3
          have Ba3 := below_alloc (Below.refl W3.heap.size W3) (.cells #[.int .i64 R, .slice A3 T.length c3] 24)
          have P3 : Blk (W3.alloc (.cells #[.int .i64 R, .slice A3 T.length c3] 24)) W3.heap.size #[.int .i64 R, .slice A3 T.length c3] 24 := heap_alloc_new W3 _
          replace BX := below2 BX Ba3
          replace hR0 := hR0.below Ba3
          replace hR1 := hR1.below Ba3
          replace Bp0 := Bp0.below Ba3
          replace S3 := S3.below Ba3
          clear Ba3
          clear kBp0_0 kBp0_1
          have kBp0_0 := Bp0.cell 0 rfl
          have kBp0_1 := Bp0.cell 1 rfl
          have kP3_0 := P3.cell 0 rfl
          have kP3_1 := P3.cell 1 rfl
          clear b3
          go_wp2_with fail
          refine (refSame_any R A3 c3 T 0 none 0 [] _ S3 ⟨Nat.le_refl _, by omega, Kd.Rd.nil _ _ _ _⟩).mono ?_
          rw [HS.out]
          rintro e W4 ⟨rfl, b4⟩
          replace BX := below2 BX b4
          replace hR0 := hR0.below b4
          replace hR1 := hR1.below b4
          replace Bp0 := Bp0.below b4
          replace S3 := S3.below b4
          replace P3 := P3.below b4
          clear b4
          clear kBp0_0 kBp0_1 kP3_0 kP3_1
          have kBp0_0 := Bp0.cell 0 rfl
          have kBp0_1 := Bp0.cell 1 rfl
          have kP3_0 := P3.cell 0 rfl
          have kP3_1 := P3.cell 1 rfl
          go_wp2_with fail
          refine (awake_any _ (hG.below BX)).mono ?_
          rintro e W5 ⟨rfl, b5⟩
          replace BX := below2 BX b5
          go_wp2_with fail
          go_ret
          exact ⟨rfl, BX⟩
        · have h1 : E = 0 := h1
          have h2 : validB R T = true := h2
          have h3 : (waveL R T).length ≤ s1.length := h3
          have h4 : (waveL R T).length = s1.length → waveL R T = s1 := h4
          have HV2 := Lib.hid h2
          have HW2 : Hid (waveS R T = (waveL R T, 0)) := Lib.hid (by unfold waveS; rw [if_pos h2])
          obtain ⟨L2, hL2⟩ : ∃ L, waveL R T = L := ⟨_, rfl⟩
          rw [hL2] at h3 h4 HW2
          have h3i : (L2.length : Int) ≤ (s1.length : Int) := by omega
          obtain rfl := h1
          clear h2 hL2 HF
          by_cases hq : L2.length = s1.length
          · have HQ := Lib.hid (decide_eq_true (h4 hq))
            have hqb : ((L2.length : Int) != (s1.length : Int)) = false := by simp [hq]
            clear hq h4
            go_wp2_with fail
            refine (read_any A1 c1 s1 _ (hG.below BX) hR1 hY1 hl1).mono ?_
            rw [HR.out]
            rintro e W3 ⟨⟨A3, c3, rfl, S3⟩, b3⟩
            dsimp only at S3 ⊢
            replace S3 := S3.any
            replace BX := below2 BX b3
            replace hR0 := hR0.below b3
            replace hR1 := hR1.below b3
            replace Bp0 := Bp0.below b3
            have Ba3 := below_alloc (Below.refl W3.heap.size W3) (.cells #[.int .i64 R, .slice A3 T.length c3] 24)
            have P3 : Blk (W3.alloc (.cells #[.int .i64 R, .slice A3 T.length c3] 24)) W3.heap.size #[.int .i64 R, .slice A3 T.length c3] 24 := heap_alloc_new W3 _
            replace BX := below2 BX Ba3
            replace hR0 := hR0.below Ba3
            replace hR1 := hR1.below Ba3
            replace Bp0 := Bp0.below Ba3
            replace S3 := S3.below Ba3
            clear Ba3
            clear kBp0_0 kBp0_1
            have kBp0_0 := Bp0.cell 0 rfl
            have kBp0_1 := Bp0.cell 1 rfl
            have kP3_0 := P3.cell 0 rfl
            have kP3_1 := P3.cell 1 rfl
            clear b3
            go_wp2_with fail
            refine (refValid_any R A3 c3 T _ S3).mono ?_
            rw [HV2.out]
            rintro e W4 ⟨rfl, b4⟩
            replace BX := below2 BX b4
            replace hR0 := hR0.below b4
            replace hR1 := hR1.below b4
            replace Bp0 := Bp0.below b4
            replace S3 := S3.below b4
            replace P3 := P3.below b4
            clear b4
            clear kBp0_0 kBp0_1 kP3_0 kP3_1
            have kBp0_0 := Bp0.cell 0 rfl
            have kBp0_1 := Bp0.cell 1 rfl
            have kP3_0 := P3.cell 0 rfl
            have kP3_1 := P3.cell 1 rfl
            go_wp2_with fail
            refine (wave_any R A3 c3 T _ (hG.below BX) S3).mono ?_
            rw [HW2.out]
            rintro e W5 ⟨⟨v5, rfl, O5⟩, b5⟩
            dsimp only at O5 ⊢
            obtain ⟨A5, c5, rfl, S5⟩ := O5.rd
            replace S5 := S5.any
            replace BX := below2 BX b5
            replace hR0 := hR0.below b5
            replace hR1 := hR1.below b5
            replace Bp0 := Bp0.below b5
            replace S3 := S3.below b5
            replace P3 := P3.below b5
            clear b5 O5
            clear kBp0_0 kBp0_1 kP3_0 kP3_1
            have kBp0_0 := Bp0.cell 0 rfl
            have kBp0_1 := Bp0.cell 1 rfl
            have kP3_0 := P3.cell 0 rfl
            have kP3_1 := P3.cell 1 rfl
            go_wp2_with fail
            refine (same1_b A5 c5 L2 A1 c1 s1 _ S5 hR1).mono ?_
            rw [HQ.out]
            rintro e W6 ⟨rfl, b6⟩
            replace BX := below2 BX b6
            replace hR0 := hR0.below b6
            replace hR1 := hR1.below b6
            replace Bp0 := Bp0.below b6
            replace S3 := S3.below b6
            replace P3 := P3.below b6
            replace S5 := S5.below b6
            clear b6
            clear kBp0_0 kBp0_1 kP3_0 kP3_1
            have kBp0_0 := Bp0.cell 0 rfl
            have kBp0_1 := Bp0.cell 1 rfl
            have kP3_0 := P3.cell 0 rfl
            have kP3_1 := P3.cell 1 rfl
            go_wp2_with fail
            refine (awake_any _ (hG.below BX)).mono ?_
            rintro e W7 ⟨rfl, b7⟩
            replace BX := below2 BX b7
            go_wp2_with fail
            go_ret
            exact ⟨rfl, BX⟩
          · have hqb : ((L2.length : Int) != (s1.length : Int)) = true := by simp; omega
            clear hq h4
            go_wp2_with fail
            refine (read_any A1 c1 s1 _ (hG.below BX) hR1 hY1 hl1).mono ?_
            rw [HR.out]
            rintro e W3 ⟨⟨A3, c3, rfl, S3⟩, b3⟩
            dsimp only at S3 ⊢
            replace S3 := S3.any
            replace BX := below2 BX b3
            replace hR0 := hR0.below b3
            replace hR1 := hR1.below b3
            replace Bp0 := Bp0.below b3
            have Ba3 := below_alloc (Below.refl W3.heap.size W3) (.cells #[.int .i64 R, .slice A3 T.length c3] 24)
            have P3 : Blk (W3.alloc (.cells #[.int .i64 R, .slice A3 T.length c3] 24)) W3.heap.size #[.int .i64 R, .slice A3 T.length c3] 24 := heap_alloc_new W3 _
            replace BX := below2 BX Ba3
            replace hR0 := hR0.below Ba3
            replace hR1 := hR1.below Ba3
            replace Bp0 := Bp0.below Ba3
            replace S3 := S3.below Ba3
            clear Ba3
            clear kBp0_0 kBp0_1
            have kBp0_0 := Bp0.cell 0 rfl
            have kBp0_1 := Bp0.cell 1 rfl
            have kP3_0 := P3.cell 0 rfl
            have kP3_1 := P3.cell 1 rfl
            clear b3
            go_wp2_with fail
            refine (refValid_any R A3 c3 T _ S3).mono ?_
            rw [HV2.out]
            rintro e W4 ⟨rfl, b4⟩
            replace BX := below2 BX b4
            replace hR0 := hR0.below b4
            replace hR1 := hR1.below b4
            replace Bp0 := Bp0.below b4
            replace S3 := S3.below b4
            replace P3 := P3.below b4
            clear b4
            clear kBp0_0 kBp0_1 kP3_0 kP3_1
            have kBp0_0 := Bp0.cell 0 rfl
            have kBp0_1 := Bp0.cell 1 rfl
            have kP3_0 := P3.cell 0 rfl
            have kP3_1 := P3.cell 1 rfl
            go_wp2_with fail
            refine (wave_any R A3 c3 T _ (hG.below BX) S3).mono ?_
            rw [HW2.out]
            rintro e W5 ⟨⟨v5, rfl, O5⟩, b5⟩
            dsimp only at O5 ⊢
            obtain ⟨A5, c5, rfl, S5⟩ := O5.rd
            replace S5 := S5.any
            replace BX := below2 BX b5
            replace hR0 := hR0.below b5
            replace hR1 := hR1.below b5
            replace Bp0 := Bp0.below b5
            replace S3 := S3.below b5
            replace P3 := P3.below b5
            clear b5 O5
            clear kBp0_0 kBp0_1 kP3_0 kP3_1
            have kBp0_0 := Bp0.cell 0 rfl
            have kBp0_1 := Bp0.cell 1 rfl
            have kP3_0 := P3.cell 0 rfl
            have kP3_1 := P3.cell 1 rfl
            go_wp2_with fail
            refine (awake_any _ (hG.below BX)).mono ?_
            rintro e W6 ⟨rfl, b6⟩
            replace BX := below2 BX b6
            go_wp2_with fail
            go_ret
            exact ⟨rfl, BX⟩
      · have HV := Lib.hid hv
        have HW : Hid (waveS x0 s0 = (waveL x0 s0, 0)) := Lib.hid (by unfold waveS; rw [if_pos hv])
        have HI : Hid (interS x0 s0 = (weave s0, 0)) := Lib.hid (by unfold interS; rw [if_pos hv])
        have HRW := Lib.hid (back_read hv)
        have HSP := Lib.hid (back_split hv)
        have HYL := Lib.hid (waveL_bytes x0 s0)
        have HLL := Lib.hid (waveL_small hv)
        obtain ⟨L, hL⟩ : ∃ L, waveL x0 s0 = L := ⟨_, rfl⟩
        obtain ⟨V, hV⟩ : ∃ V, weave s0 = V := ⟨_, rfl⟩
        rw [hL] at HW HRW HYL HLL
        rw [hV] at HI HSP
        clear hv hL hV
        go_enter Tryd.func5, Tryd.ntmps5
        go_wp2_with (((with_reducible refine at_dst (N := 2) rfl ?_); refine ev_new #[.int .i64 x0, .slice A0 s0.length c0] 24 rfl ?hr ?_; (case hr => first | (go_simp; done) | (go_simp; rfl)); intro p0 wp0 ep0 zp0 BX Bp0; have kp0_0 := Bp0.cell 0 rfl; have kp0_1 := Bp0.cell 1 rfl))
        replace hR0 := hR0.below BX
        replace hR1 := hR1.below BX
        have KK := trivial
        refine (few1 wp0 x0 A0 c0 s0 hR0 hF0).mono ?_
        rintro e W1 ⟨rfl, b1⟩
        rw [HB.out]
        replace BX := below2 BX b1
        replace hR0 := hR0.below b1
        replace hR1 := hR1.below b1
        replace Bp0 := Bp0.below b1
        clear b1 KK
        clear kp0_0 kp0_1
        have kBp0_0 := Bp0.cell 0 rfl
        have kBp0_1 := Bp0.cell 1 rfl
        go_wp2_with fail
        refine (refValid_any x0 A0 c0 s0 _ hR0).mono ?_
        rw [HV.out]
        rintro e W2 ⟨rfl, b2⟩
        replace BX := below2 BX b2
        replace hR0 := hR0.below b2
        replace hR1 := hR1.below b2
        replace Bp0 := Bp0.below b2
        clear b2
        clear kBp0_0 kBp0_1
        have kBp0_0 := Bp0.cell 0 rfl
        have kBp0_1 := Bp0.cell 1 rfl
        go_wp2_with fail
        refine (wave_any x0 A0 c0 s0 _ (hG.below BX) hR0).mono ?_
        rw [HW.out]
        rintro e W3 ⟨⟨v3, rfl, O3⟩, b3⟩
        dsimp only at O3 ⊢
        obtain ⟨A3, c3, rfl, S3⟩ := O3.rd
        replace S3 := S3.any
        replace BX := below2 BX b3
        replace hR0 := hR0.below b3
        replace hR1 := hR1.below b3
        replace Bp0 := Bp0.below b3
        clear b3 O3
        clear kBp0_0 kBp0_1
        have kBp0_0 := Bp0.cell 0 rfl
        have kBp0_1 := Bp0.cell 1 rfl
        go_wp2_with fail
        refine (read_any A3 c3 L _ (hG.below BX) S3 HYL.out HLL.out).mono ?_
        rw [HRW.out]
        rintro e W4 ⟨⟨A4, c4, rfl, S4⟩, b4⟩
        dsimp only at S4 ⊢
        replace S4 := S4.any
        replace BX := below2 BX b4
        replace hR0 := hR0.below b4
        replace hR1 := hR1.below b4
        replace Bp0 := Bp0.below b4
        replace S3 := S3.below b4
        have Ba4 := below_alloc (Below.refl W4.heap.size W4) (.cells #[.int .i64 x0, .slice A4 s0.length c4] 24)
        have P4 : Blk (W4.alloc (.cells #[.int .i64 x0, .slice A4 s0.length c4] 24)) W4.heap.size #[.int .i64 x0, .slice A4 s0.length c4] 24 := heap_alloc_new W4 _
        replace BX := below2 BX Ba4
        replace hR0 := hR0.below Ba4
        replace hR1 := hR1.below Ba4
        replace Bp0 := Bp0.below Ba4
        replace S3 := S3.below Ba4
        replace S4 := S4.below Ba4
        clear Ba4
        clear kBp0_0 kBp0_1
        have kBp0_0 := Bp0.cell 0 rfl
        have kBp0_1 := Bp0.cell 1 rfl
        have kP4_0 := P4.cell 0 rfl
        have kP4_1 := P4.cell 1 rfl
        clear b4
        go_wp2_with fail
        refine (inter_any x0 A0 c0 s0 _ (hG.below BX) hR0).mono ?_
        rw [HI.out]
        rintro e W5 ⟨v5, rfl, O5, b5⟩
        dsimp only at O5 ⊢
        obtain ⟨A5, c5, rfl, S5⟩ := O5.rd
        replace S5 := S5.any
        replace BX := below2 BX b5
        replace hR0 := hR0.below b5
        replace hR1 := hR1.below b5
        replace Bp0 := Bp0.below b5
        replace S3 := S3.below b5
        replace S4 := S4.below b5
        replace P4 := P4.below b5
        clear b5 O5
        clear kBp0_0 kBp0_1 kP4_0 kP4_1
        have kBp0_0 := Bp0.cell 0 rfl
        have kBp0_1 := Bp0.cell 1 rfl
        have kP4_0 := P4.cell 0 rfl
        have kP4_1 := P4.cell 1 rfl
        go_wp2_with fail
        refine (split_any A5 c5 V s0.length x0 _ (hG.below BX) S5).mono ?_
        rw [HSP.out]
        rintro e W6 ⟨⟨A6, c6, rfl, S6⟩, b6⟩
        dsimp only at S6 ⊢
        replace S6 := S6.any
        replace BX := below2 BX b6
        replace hR0 := hR0.below b6
        replace hR1 := hR1.below b6
        replace Bp0 := Bp0.below b6
        replace S3 := S3.below b6
        replace S4 := S4.below b6
        replace P4 := P4.below b6
        replace S5 := S5.below b6
        have Ba6 := below_alloc (Below.refl W6.heap.size W6) (.cells #[.int .i64 x0, .slice A6 s0.length c6] 24)
        have P6 : Blk (W6.alloc (.cells #[.int .i64 x0, .slice A6 s0.length c6] 24)) W6.heap.size #[.int .i64 x0, .slice A6 s0.length c6] 24 := heap_alloc_new W6 _
        replace BX := below2 BX Ba6
        replace hR0 := hR0.below Ba6
        replace hR1 := hR1.below Ba6
        replace Bp0 := Bp0.below Ba6
        replace S3 := S3.below Ba6
        replace S4 := S4.below Ba6
        replace P4 := P4.below Ba6
        replace S5 := S5.below Ba6
        replace S6 := S6.below Ba6
        clear Ba6
        clear kBp0_0 kBp0_1 kP4_0 kP4_1
        have kBp0_0 := Bp0.cell 0 rfl
        have kBp0_1 := Bp0.cell 1 rfl
        have kP4_0 := P4.cell 0 rfl
        have kP4_1 := P4.cell 1 rfl
        have kP6_0 := P6.cell 0 rfl
        have kP6_1 := P6.cell 1 rfl
        clear b6
        go_wp2_with fail
        refine (same_self _ _ _ _ _ _ _ hR0 S4).mono ?_
        rintro e W7 ⟨rfl, b7⟩
        replace BX := below2 BX b7
        replace hR0 := hR0.below b7
        replace hR1 := hR1.below b7
        replace Bp0 := Bp0.below b7
        replace S3 := S3.below b7
        replace S4 := S4.below b7
        replace P4 := P4.below b7
        replace S5 := S5.below b7
        replace S6 := S6.below b7
        replace P6 := P6.below b7
        clear b7
        clear kBp0_0 kBp0_1 kP4_0 kP4_1 kP6_0 kP6_1
        have kBp0_0 := Bp0.cell 0 rfl
        have kBp0_1 := Bp0.cell 1 rfl
        have kP4_0 := P4.cell 0 rfl
        have kP4_1 := P4.cell 1 rfl
        have kP6_0 := P6.cell 0 rfl
        have kP6_1 := P6.cell 1 rfl
        go_wp2_with fail
        refine (same_self _ _ _ _ _ _ _ hR0 S6).mono ?_
        rintro e W8 ⟨rfl, b8⟩
        replace BX := below2 BX b8
        replace hR0 := hR0.below b8
        replace hR1 := hR1.below b8
        replace Bp0 := Bp0.below b8
        replace S3 := S3.below b8
        replace S4 := S4.below b8
        replace P4 := P4.below b8
        replace S5 := S5.below b8
        replace S6 := S6.below b8
        replace P6 := P6.below b8
        clear b8
        clear kBp0_0 kBp0_1 kP4_0 kP4_1 kP6_0 kP6_1
        have kBp0_0 := Bp0.cell 0 rfl
        have kBp0_1 := Bp0.cell 1 rfl
        have kP4_0 := P4.cell 0 rfl
        have kP4_1 := P4.cell 1 rfl
        have kP6_0 := P6.cell 0 rfl
        have kP6_1 := P6.cell 1 rfl
        rcases HF.out with ⟨h1, h2, h3⟩ | ⟨h1, h2, h3, h4⟩
        · have hE : (E != 0) = true := by simpa using h1
          have HS : Hid (sameB R T 0 [] = true) := Lib.hid (by have e2 : R = 0 := h2; have e3 : T = [] := h3; rw [e2, e3]; exact sameB_self 0 [])
          clear h1 h2 h3 HF
          go_wp2_with fail
          refine (read_any A1 c1 s1 _ (hG.below BX) hR1 hY1 hl1).mono ?_
          rw [HR.out]
          rintro e W9 ⟨⟨A9, c9, rfl, S9⟩, b9⟩
          dsimp only at S9 ⊢
          replace S9 := S9.any
          replace BX := below2 BX b9
          replace hR0 := hR0.below b9
          replace hR1 := hR1.below b9
          replace Bp0 := Bp0.below b9
          replace S3 := S3.below b9
          replace S4 := S4.below b9
          replace P4 := P4.below b9
          replace S5 := S5.below b9
          replace S6 := S6.below b9
          replace P6 := P6.below b9
          have Ba9 := below_alloc (Below.refl W9.heap.size W9) (.cells #[.int .i64 R, .slice A9 T.length c9] 24)
          have P9 : Blk (W9.alloc (.cells #[.int .i64 R, .slice A9 T.length c9] 24)) W9.heap.size #[.int .i64 R, .slice A9 T.length c9] 24 := heap_alloc_new W9 _
          replace BX := below2 BX Ba9
          replace hR0 := hR0.below Ba9
          replace hR1 := hR1.below Ba9
          replace Bp0 := Bp0.below Ba9
          replace S3 := S3.below Ba9
          replace S4 := S4.below Ba9
          replace P4 := P4.below Ba9
          replace S5 := S5.below Ba9
          replace S6 := S6.below Ba9
          replace P6 := P6.below Ba9
          replace S9 := S9.below Ba9
          clear Ba9
          clear kBp0_0 kBp0_1 kP4_0 kP4_1 kP6_0 kP6_1
          have kBp0_0 := Bp0.cell 0 rfl
          have kBp0_1 := Bp0.cell 1 rfl
          have kP4_0 := P4.cell 0 rfl
          have kP4_1 := P4.cell 1 rfl
          have kP6_0 := P6.cell 0 rfl
          have kP6_1 := P6.cell 1 rfl
          have kP9_0 := P9.cell 0 rfl
          have kP9_1 := P9.cell 1 rfl
          clear b9
          go_wp2_with fail
          refine (refSame_any R A9 c9 T 0 none 0 [] _ S9 ⟨Nat.le_refl _, by omega, Kd.Rd.nil _ _ _ _⟩).mono ?_
          rw [HS.out]
          rintro e W10 ⟨rfl, b10⟩
          replace BX := below2 BX b10
          replace hR0 := hR0.below b10
          replace hR1 := hR1.below b10
          replace Bp0 := Bp0.below b10
          replace S3 := S3.below b10
          replace S4 := S4.below b10
          replace P4 := P4.below b10
          replace S5 := S5.below b10
          replace S6 := S6.below b10
          replace P6 := P6.below b10
          replace S9 := S9.below b10
          replace P9 := P9.below b10
          clear b10
          clear kBp0_0 kBp0_1 kP4_0 kP4_1 kP6_0 kP6_1 kP9_0 kP9_1
          have kBp0_0 := Bp0.cell 0 rfl
          have kBp0_1 := Bp0.cell 1 rfl
          have kP4_0 := P4.cell 0 rfl
          have kP4_1 := P4.cell 1 rfl
          have kP6_0 := P6.cell 0 rfl
          have kP6_1 := P6.cell 1 rfl
          have kP9_0 := P9.cell 0 rfl
          have kP9_1 := P9.cell 1 rfl
          go_wp2_with fail
          refine (awake_any _ (hG.below BX)).mono ?_
          rintro e W11 ⟨rfl, b11⟩
          replace BX := below2 BX b11
          go_wp2_with fail
          go_ret
          exact ⟨rfl, BX⟩
        · have h1 : E = 0 := h1
          have h2 : validB R T = true := h2
          have h3 : (waveL R T).length ≤ s1.length := h3
          have h4 : (waveL R T).length = s1.length → waveL R T = s1 := h4
          have HV2 := Lib.hid h2
          have HW2 : Hid (waveS R T = (waveL R T, 0)) := Lib.hid (by unfold waveS; rw [if_pos h2])
          obtain ⟨L2, hL2⟩ : ∃ L, waveL R T = L := ⟨_, rfl⟩
          rw [hL2] at h3 h4 HW2
          have h3i : (L2.length : Int) ≤ (s1.length : Int) := by omega
          obtain rfl := h1
          clear h2 hL2 HF
          by_cases hq : L2.length = s1.length
          · have HQ := Lib.hid (decide_eq_true (h4 hq))
            have hqb : ((L2.length : Int) != (s1.length : Int)) = false := by simp [hq]
            clear hq h4
            go_wp2_with fail
            refine (read_any A1 c1 s1 _ (hG.below BX) hR1 hY1 hl1).mono ?_
            rw [HR.out]
            rintro e W9 ⟨⟨A9, c9, rfl, S9⟩, b9⟩
            dsimp only at S9 ⊢
            replace S9 := S9.any
            replace BX := below2 BX b9
            replace hR0 := hR0.below b9
            replace hR1 := hR1.below b9
            replace Bp0 := Bp0.below b9
            replace S3 := S3.below b9
            replace S4 := S4.below b9
            replace P4 := P4.below b9
            replace S5 := S5.below b9
            replace S6 := S6.below b9
            replace P6 := P6.below b9
            have Ba9 := below_alloc (Below.refl W9.heap.size W9) (.cells #[.int .i64 R, .slice A9 T.length c9] 24)
            have P9 : Blk (W9.alloc (.cells #[.int .i64 R, .slice A9 T.length c9] 24)) W9.heap.size #[.int .i64 R, .slice A9 T.length c9] 24 := heap_alloc_new W9 _
            replace BX := below2 BX Ba9
            replace hR0 := hR0.below Ba9
            replace hR1 := hR1.below Ba9
            replace Bp0 := Bp0.below Ba9
            replace S3 := S3.below Ba9
            replace S4 := S4.below Ba9
            replace P4 := P4.below Ba9
            replace S5 := S5.below Ba9
            replace S6 := S6.below Ba9
            replace P6 := P6.below Ba9
            replace S9 := S9.below Ba9
            clear Ba9
            clear kBp0_0 kBp0_1 kP4_0 kP4_1 kP6_0 kP6_1
            have kBp0_0 := Bp0.cell 0 rfl
            have kBp0_1 := Bp0.cell 1 rfl
            have kP4_0 := P4.cell 0 rfl
            have kP4_1 := P4.cell 1 rfl
            have kP6_0 := P6.cell 0 rfl
            have kP6_1 := P6.cell 1 rfl
            have kP9_0 := P9.cell 0 rfl
            have kP9_1 := P9.cell 1 rfl
            clear b9
            go_wp2_with fail
            refine (refValid_any R A9 c9 T _ S9).mono ?_
            rw [HV2.out]
            rintro e W10 ⟨rfl, b10⟩
            replace BX := below2 BX b10
            replace hR0 := hR0.below b10
            replace hR1 := hR1.below b10
            replace Bp0 := Bp0.below b10
            replace S3 := S3.below b10
            replace S4 := S4.below b10
            replace P4 := P4.below b10
            replace S5 := S5.below b10
            replace S6 := S6.below b10
            replace P6 := P6.below b10
            replace S9 := S9.below b10
            replace P9 := P9.below b10
            clear b10
            clear kBp0_0 kBp0_1 kP4_0 kP4_1 kP6_0 kP6_1 kP9_0 kP9_1
            have kBp0_0 := Bp0.cell 0 rfl
            have kBp0_1 := Bp0.cell 1 rfl
            have kP4_0 := P4.cell 0 rfl
            have kP4_1 := P4.cell 1 rfl
            have kP6_0 := P6.cell 0 rfl
            have kP6_1 := P6.cell 1 rfl
            have kP9_0 := P9.cell 0 rfl
            have kP9_1 := P9.cell 1 rfl
            go_wp2_with fail
            refine (wave_any R A9 c9 T _ (hG.below BX) S9).mono ?_
            rw [HW2.out]
            rintro e W11 ⟨⟨v11, rfl, O11⟩, b11⟩
            dsimp only at O11 ⊢
            obtain ⟨A11, c11, rfl, S11⟩ := O11.rd
            replace S11 := S11.any
            replace BX := below2 BX b11
            replace hR0 := hR0.below b11
            replace hR1 := hR1.below b11
            replace Bp0 := Bp0.below b11
            replace S3 := S3.below b11
            replace S4 := S4.below b11
            replace P4 := P4.below b11
            replace S5 := S5.below b11
            replace S6 := S6.below b11
            replace P6 := P6.below b11
            replace S9 := S9.below b11
            replace P9 := P9.below b11
            clear b11 O11
            clear kBp0_0 kBp0_1 kP4_0 kP4_1 kP6_0 kP6_1 kP9_0 kP9_1
            have kBp0_0 := Bp0.cell 0 rfl
            have kBp0_1 := Bp0.cell 1 rfl
            have kP4_0 := P4.cell 0 rfl
            have kP4_1 := P4.cell 1 rfl
            have kP6_0 := P6.cell 0 rfl
            have kP6_1 := P6.cell 1 rfl
            have kP9_0 := P9.cell 0 rfl
            have kP9_1 := P9.cell 1 rfl
            go_wp2_with fail
            refine (same1_b A11 c11 L2 A1 c1 s1 _ S11 hR1).mono ?_
            rw [HQ.out]
            rintro e W12 ⟨rfl, b12⟩
            replace BX := below2 BX b12
            replace hR0 := hR0.below b12
            replace hR1 := hR1.below b12
            replace Bp0 := Bp0.below b12
            replace S3 := S3.below b12
            replace S4 := S4.below b12
            replace P4 := P4.below b12
            replace S5 := S5.below b12
            replace S6 := S6.below b12
            replace P6 := P6.below b12
            replace S9 := S9.below b12
            replace P9 := P9.below b12
            replace S11 := S11.below b12
            clear b12
            clear kBp0_0 kBp0_1 kP4_0 kP4_1 kP6_0 kP6_1 kP9_0 kP9_1
            have kBp0_0 := Bp0.cell 0 rfl
            have kBp0_1 := Bp0.cell 1 rfl
            have kP4_0 := P4.cell 0 rfl
            have kP4_1 := P4.cell 1 rfl
            have kP6_0 := P6.cell 0 rfl
            have kP6_1 := P6.cell 1 rfl
            have kP9_0 := P9.cell 0 rfl
            have kP9_1 := P9.cell 1 rfl
            go_wp2_with fail
            refine (awake_any _ (hG.below BX)).mono ?_
            rintro e W13 ⟨rfl, b13⟩
            replace BX := below2 BX b13
            go_wp2_with fail
            go_ret
            exact ⟨rfl, BX⟩
          · have hqb : ((L2.length : Int) != (s1.length : Int)) = true := by simp; omega
            clear hq h4
            go_wp2_with fail
            refine (read_any A1 c1 s1 _ (hG.below BX) hR1 hY1 hl1).mono ?_
            rw [HR.out]
            rintro e W9 ⟨⟨A9, c9, rfl, S9⟩, b9⟩
            dsimp only at S9 ⊢
            replace S9 := S9.any
            replace BX := below2 BX b9
            replace hR0 := hR0.below b9
            replace hR1 := hR1.below b9
            replace Bp0 := Bp0.below b9
            replace S3 := S3.below b9
            replace S4 := S4.below b9
            replace P4 := P4.below b9
            replace S5 := S5.below b9
            replace S6 := S6.below b9
            replace P6 := P6.below b9
            have Ba9 := below_alloc (Below.refl W9.heap.size W9) (.cells #[.int .i64 R, .slice A9 T.length c9] 24)
            have P9 : Blk (W9.alloc (.cells #[.int .i64 R, .slice A9 T.length c9] 24)) W9.heap.size #[.int .i64 R, .slice A9 T.length c9] 24 := heap_alloc_new W9 _
            replace BX := below2 BX Ba9
            replace hR0 := hR0.below Ba9
            replace hR1 := hR1.below Ba9
            replace Bp0 := Bp0.below Ba9
            replace S3 := S3.below Ba9
            replace S4 := S4.below Ba9
            replace P4 := P4.below Ba9
            replace S5 := S5.below Ba9
            replace S6 := S6.below Ba9
            replace P6 := P6.below Ba9
            replace S9 := S9.below Ba9
            clear Ba9
            clear kBp0_0 kBp0_1 kP4_0 kP4_1 kP6_0 kP6_1
            have kBp0_0 := Bp0.cell 0 rfl
            have kBp0_1 := Bp0.cell 1 rfl
            have kP4_0 := P4.cell 0 rfl
            have kP4_1 := P4.cell 1 rfl
            have kP6_0 := P6.cell 0 rfl
            have kP6_1 := P6.cell 1 rfl
            have kP9_0 := P9.cell 0 rfl
            have kP9_1 := P9.cell 1 rfl
            clear b9
            go_wp2_with fail
            refine (refValid_any R A9 c9 T _ S9).mono ?_
            rw [HV2.out]
            rintro e W10 ⟨rfl, b10⟩
            replace BX := below2 BX b10
            replace hR0 := hR0.below b10
            replace hR1 := hR1.below b10
            replace Bp0 := Bp0.below b10
            replace S3 := S3.below b10
            replace S4 := S4.below b10
            replace P4 := P4.below b10
            replace S5 := S5.below b10
            replace S6 := S6.below b10
            replace P6 := P6.below b10
            replace S9 := S9.below b10
            replace P9 := P9.below b10
            clear b10
            clear kBp0_0 kBp0_1 kP4_0 kP4_1 kP6_0 kP6_1 kP9_0 kP9_1
            have kBp0_0 := Bp0.cell 0 rfl
            have kBp0_1 := Bp0.cell 1 rfl
            have kP4_0 := P4.cell 0 rfl
            have kP4_1 := P4.cell 1 rfl
            have kP6_0 := P6.cell 0 rfl
            have kP6_1 := P6.cell 1 rfl
            have kP9_0 := P9.cell 0 rfl
            have kP9_1 := P9.cell 1 rfl
            go_wp2_with fail
            refine (wave_any R A9 c9 T _ (hG.below BX) S9).mono ?_
            rw [HW2.out]
            rintro e W11 ⟨⟨v11, rfl, O11⟩, b11⟩
            dsimp only at O11 ⊢
            obtain ⟨A11, c11, rfl, S11⟩ := O11.rd
            replace S11 := S11.any
            replace BX := below2 BX b11
            replace hR0 := hR0.below b11
            replace hR1 := hR1.below b11
            replace Bp0 := Bp0.below b11
            replace S3 := S3.below b11
            replace S4 := S4.below b11
            replace P4 := P4.below b11
            replace S5 := S5.below b11
            replace S6 := S6.below b11
            replace P6 := P6.below b11
            replace S9 := S9.below b11
            replace P9 := P9.below b11
            clear b11 O11
            clear kBp0_0 kBp0_1 kP4_0 kP4_1 kP6_0 kP6_1 kP9_0 kP9_1
            have kBp0_0 := Bp0.cell 0 rfl
            have kBp0_1 := Bp0.cell 1 rfl
            have kP4_0 := P4.cell 0 rfl
            have kP4_1 := P4.cell 1 rfl
            have kP6_0 := P6.cell 0 rfl
            have kP6_1 := P6.cell 1 rfl
            have kP9_0 := P9.cell 0 rfl
            have kP9_1 := P9.cell 1 rfl
            go_wp2_with fail
            refine (awake_any _ (hG.below BX)).mono ?_
            rintro e W12 ⟨rfl, b12⟩
            replace BX := below2 BX b12
            go_wp2_with fail
            go_ret
            exact ⟨rfl, BX⟩
end Go.Proofs.YtijcecakofmhcaaDoor
