/- The law PcmMixed: the walk. -/
import Derived.Test.YtijcecakofmhcaaDoorPcmWalkLib
import Derived.Test.YtijcecakofmhcaaDoorPcmPlainA
import Derived.Test.YtijcecakofmhcaaDoorPcmQ
import Derived.Test.YtijcecakofmhcaaDoorPcmN
import Derived.Test.YtijcecakofmhcaaDoorPcmM
import Derived.Test.YtijcecakofmhcaaDoorPcmL
import Derived.Test.YtijcecakofmhcaaDoorHeld
namespace Go.Proofs.YtijcecakofmhcaaDoor
open Go.RowKit

set_option maxHeartbeats 4000000 in
set_option maxRecDepth 100000 in
theorem pcmMixed_walk (x0 : Int) (A0 : Option Addr) (c0 : Nat) (s0 : List (List Int)) (x1 : Int) (A1 : Option Addr) (c1 : Nat) (s1 : List (List Int)) (i2 j2 : Int) (w : World) (hG : GR w) (hR0 : R2 w A0 c0 s0) (hF0 : Fits s0) (hR1 : R2 w A1 c1 s1) (hF1 : Fits s1) :
    Calls Tryd.prog 7 #[.agg #[.int .i64 x0, .slice A0 s0.length c0], .agg #[.int .i64 x1, .slice A1 s1.length c1], .agg #[.int .i64 i2, .int .i64 j2]] w fun e w' => e = .returned (.bool true) ∧ Below w.heap.size w w' := by
  have hn := hR0.len
  have hn1 := hR1.len
  cases hb : (smallB s0 20000 && smallB s1 20000)
  · have HB := Lib.hid hb
    clear hb
    go_enter Tryd.func7, Tryd.ntmps7
    go_wp2_with (first | ((with_reducible refine at_dst (N := 3) rfl ?_); refine ev_new #[.int .i64 x0, .slice A0 s0.length c0] 24 rfl ?hr ?_; (case hr => first | (go_simp; done) | (go_simp; rfl)); intro p0 wp0 ep0 zp0 BX Bp0; skip) | ((with_reducible refine at_dst (N := 4) rfl ?_); refine ev_new #[.int .i64 x1, .slice A1 s1.length c1] 24 rfl ?hr ?_; (case hr => first | (go_simp; done) | (go_simp; rfl)); intro p1 wp1 ep1 zp1 bb1 Bp1; replace BX := below2 BX bb1; replace Bp0 := Bp0.below bb1) | ((with_reducible refine at_dst (N := 5) rfl ?_); refine ev_new #[.int .i64 i2, .int .i64 j2] 37 rfl ?hr ?_; (case hr => first | (go_simp; done) | (go_simp; rfl)); intro p2 wp2 ep2 zp2 bb2 Bp2; replace BX := below2 BX bb2; replace Bp0 := Bp0.below bb2; replace Bp1 := Bp1.below bb2; have kp0_0 := Bp0.cell 0 rfl; have kp0_1 := Bp0.cell 1 rfl; have kp1_0 := Bp1.cell 0 rfl; have kp1_1 := Bp1.cell 1 rfl; have kp2_0 := Bp2.cell 0 rfl; have kp2_1 := Bp2.cell 1 rfl))
    replace hR0 := hR0.below BX
    replace hR1 := hR1.below BX
    have KK := trivial
    refine (few2 wp2 x0 A0 c0 s0 x1 A1 c1 s1 hR0 hF0 hR1 hF1).mono ?_
    rintro e W1 ⟨rfl, b1⟩
    rw [HB.out]
    replace BX := below2 BX b1
    replace hR0 := hR0.below b1
    replace hR1 := hR1.below b1
    replace Bp0 := Bp0.below b1
    replace Bp1 := Bp1.below b1
    replace Bp2 := Bp2.below b1
    clear b1 KK
    clear kp0_0 kp0_1 kp1_0 kp1_1 kp2_0 kp2_1
    have kBp0_0 := Bp0.cell 0 rfl
    have kBp0_1 := Bp0.cell 1 rfl
    have kBp1_0 := Bp1.cell 0 rfl
    have kBp1_1 := Bp1.cell 1 rfl
    have kBp2_0 := Bp2.cell 0 rfl
    have kBp2_1 := Bp2.cell 1 rfl
    go_wp2_with fail
    refine (awake_any _ (hG.below BX)).mono ?_
    rintro e W2 ⟨rfl, b2⟩
    replace BX := below2 BX b2
    go_wp2_with fail
    go_ret
    exact ⟨rfl, BX⟩
  · have HB := Lib.hid hb
    clear hb
    obtain ⟨R, T, E, hM⟩ : ∃ R T E, mixS x0 s0 x1 s1 i2 j2 = (R, T, E) := ⟨_, _, _, rfl⟩
    have HM := Lib.hid hM
    by_cases hE : E = 0
    · subst hE
      obtain ⟨hv, hv1, hal, hMe⟩ := mixS_ok (show (mixS x0 s0 x1 s1 i2 j2).2.2 = 0 by rw [hM])
      have hT : validB R T = true := by
        have h1 := mix_valid (g := i2) (h := j2) (valid_facts hv) (valid_facts hv1)
        rw [hMe] at hM
        have e1 := congrArg Prod.fst hM
        have e2 := congrArg (fun x => x.2.1) hM
        simp only at e1 e2
        rw [← e1, ← e2]; exact h1
      obtain ⟨hp0, hp1⟩ := peak_le hT
      obtain ⟨pk, ek, hPK⟩ : ∃ pk ek, peakS R T = (pk, ek) := ⟨_, _, rfl⟩
      rw [hPK] at hp0 hp1
      have hp0 : ek = 0 := hp0
      have hp1 : ¬ (32768 : Int) < pk := by have : pk ≤ 32768 := hp1; omega
      subst hp0
      have HPK := Lib.hid hPK
      have HV := Lib.hid hv
      have HV1 := Lib.hid hv1
      obtain ⟨hf1, hf2⟩ := mix_first hv hv1 hal
      obtain ⟨R2, T2, E2, hM2⟩ : ∃ R2 T2 E2, mixS x0 s0 x1 s1 256 0 = (R2, T2, E2) := ⟨_, _, _, rfl⟩
      rw [hM2] at hf1 hf2
      have hf1 : E2 = 0 := hf1
      subst hf1
      have HM2 := Lib.hid hM2
      have h1 := (valid_facts hv).one
      have h11 := (valid_facts hv1).one
      obtain ⟨N0, hN0⟩ : ∃ N, len0 s0 = N := ⟨_, rfl⟩
      obtain ⟨N1, hN1⟩ : ∃ N, len0 s1 = N := ⟨_, rfl⟩
      have HN0 := Lib.hid hN0
      have HN1 := Lib.hid hN1
      rw [hN0, hN1] at hf2
      clear hT hM hM2 hPK hal hMe hN0 hN1
      by_cases hle : N1 ≤ N0
      · have hli : (N1 : Int) ≤ (N0 : Int) := by omega
        have HQ : Hid (sameB x0 s0 R2 T2 = true) := by
          have h := hf2 hle
          have e1 : R2 = x0 := congrArg Prod.fst h
          have e2 : T2 = s0 := congrArg (fun x => x.2.1) h
          rw [e1, e2]; exact sameB_self x0 s0
        clear hle hf2
        by_cases hl1 : 1 < s0.length
        · have hlen : (1 : Int) < (s0.length : Int) := by omega
          clear hv hv1 hl1
          go_enter Tryd.func7, Tryd.ntmps7
          go_wp2_with (first | ((with_reducible refine at_dst (N := 3) rfl ?_); refine ev_new #[.int .i64 x0, .slice A0 s0.length c0] 24 rfl ?hr ?_; (case hr => first | (go_simp; done) | (go_simp; rfl)); intro p0 wp0 ep0 zp0 BX Bp0; skip) | ((with_reducible refine at_dst (N := 4) rfl ?_); refine ev_new #[.int .i64 x1, .slice A1 s1.length c1] 24 rfl ?hr ?_; (case hr => first | (go_simp; done) | (go_simp; rfl)); intro p1 wp1 ep1 zp1 bb1 Bp1; replace BX := below2 BX bb1; replace Bp0 := Bp0.below bb1) | ((with_reducible refine at_dst (N := 5) rfl ?_); refine ev_new #[.int .i64 i2, .int .i64 j2] 37 rfl ?hr ?_; (case hr => first | (go_simp; done) | (go_simp; rfl)); intro p2 wp2 ep2 zp2 bb2 Bp2; replace BX := below2 BX bb2; replace Bp0 := Bp0.below bb2; replace Bp1 := Bp1.below bb2; have kp0_0 := Bp0.cell 0 rfl; have kp0_1 := Bp0.cell 1 rfl; have kp1_0 := Bp1.cell 0 rfl; have kp1_1 := Bp1.cell 1 rfl; have kp2_0 := Bp2.cell 0 rfl; have kp2_1 := Bp2.cell 1 rfl))
          replace hR0 := hR0.below BX
          replace hR1 := hR1.below BX
          have KK := trivial
          refine (few2 wp2 x0 A0 c0 s0 x1 A1 c1 s1 hR0 hF0 hR1 hF1).mono ?_
          rintro e W1 ⟨rfl, b1⟩
          rw [HB.out]
          replace BX := below2 BX b1
          replace hR0 := hR0.below b1
          replace hR1 := hR1.below b1
          replace Bp0 := Bp0.below b1
          replace Bp1 := Bp1.below b1
          replace Bp2 := Bp2.below b1
          clear b1 KK
          clear kp0_0 kp0_1 kp1_0 kp1_1 kp2_0 kp2_1
          have kBp0_0 := Bp0.cell 0 rfl
          have kBp0_1 := Bp0.cell 1 rfl
          have kBp1_0 := Bp1.cell 0 rfl
          have kBp1_1 := Bp1.cell 1 rfl
          have kBp2_0 := Bp2.cell 0 rfl
          have kBp2_1 := Bp2.cell 1 rfl
          go_wp2_with fail
          refine (mix_any x0 A0 c0 s0 x1 A1 c1 s1 i2 j2 _ (hG.below BX) hR0 hR1).mono ?_
          rw [HM.out]
          rintro e W2 ⟨⟨A2, c2, rfl, S2⟩, b2⟩
          dsimp only at S2 ⊢
          replace S2 := S2.any
          replace BX := below2 BX b2
          replace hR0 := hR0.below b2
          replace hR1 := hR1.below b2
          replace Bp0 := Bp0.below b2
          replace Bp1 := Bp1.below b2
          replace Bp2 := Bp2.below b2
          have Ba2 := below_alloc (Below.refl W2.heap.size W2) (.cells #[.int .i64 R, .slice A2 T.length c2] 24)
          have P2 : Blk (W2.alloc (.cells #[.int .i64 R, .slice A2 T.length c2] 24)) W2.heap.size #[.int .i64 R, .slice A2 T.length c2] 24 := heap_alloc_new W2 _
          replace BX := below2 BX Ba2
          replace hR0 := hR0.below Ba2
          replace hR1 := hR1.below Ba2
          replace Bp0 := Bp0.below Ba2
          replace Bp1 := Bp1.below Ba2
          replace Bp2 := Bp2.below Ba2
          replace S2 := S2.below Ba2
          clear Ba2
          clear kBp0_0 kBp0_1 kBp1_0 kBp1_1 kBp2_0 kBp2_1
          have kBp0_0 := Bp0.cell 0 rfl
          have kBp0_1 := Bp0.cell 1 rfl
          have kBp1_0 := Bp1.cell 0 rfl
          have kBp1_1 := Bp1.cell 1 rfl
          have kBp2_0 := Bp2.cell 0 rfl
          have kBp2_1 := Bp2.cell 1 rfl
          have kP2_0 := P2.cell 0 rfl
          have kP2_1 := P2.cell 1 rfl
          clear b2
          go_wp2_with fail
          refine (peak_any R A2 c2 T _ (hG.below BX) S2).mono ?_
          rw [HPK.out]
          rintro e W3 ⟨rfl, b3⟩
          dsimp only
          replace BX := below2 BX b3
          replace hR0 := hR0.below b3
          replace hR1 := hR1.below b3
          replace Bp0 := Bp0.below b3
          replace Bp1 := Bp1.below b3
          replace Bp2 := Bp2.below b3
          replace S2 := S2.below b3
          replace P2 := P2.below b3
          clear b3
          clear kBp0_0 kBp0_1 kBp1_0 kBp1_1 kBp2_0 kBp2_1 kP2_0 kP2_1
          have kBp0_0 := Bp0.cell 0 rfl
          have kBp0_1 := Bp0.cell 1 rfl
          have kBp1_0 := Bp1.cell 0 rfl
          have kBp1_1 := Bp1.cell 1 rfl
          have kBp2_0 := Bp2.cell 0 rfl
          have kBp2_1 := Bp2.cell 1 rfl
          have kP2_0 := P2.cell 0 rfl
          have kP2_1 := P2.cell 1 rfl
          go_wp2_with fail
          refine (refValid_any x0 A0 c0 s0 _ hR0).mono ?_
          rw [HV.out]
          rintro e W4 ⟨rfl, b4⟩
          replace BX := below2 BX b4
          replace hR0 := hR0.below b4
          replace hR1 := hR1.below b4
          replace Bp0 := Bp0.below b4
          replace Bp1 := Bp1.below b4
          replace Bp2 := Bp2.below b4
          replace S2 := S2.below b4
          replace P2 := P2.below b4
          clear b4
          clear kBp0_0 kBp0_1 kBp1_0 kBp1_1 kBp2_0 kBp2_1 kP2_0 kP2_1
          have kBp0_0 := Bp0.cell 0 rfl
          have kBp0_1 := Bp0.cell 1 rfl
          have kBp1_0 := Bp1.cell 0 rfl
          have kBp1_1 := Bp1.cell 1 rfl
          have kBp2_0 := Bp2.cell 0 rfl
          have kBp2_1 := Bp2.cell 1 rfl
          have kP2_0 := P2.cell 0 rfl
          have kP2_1 := P2.cell 1 rfl
          go_wp2_with fail
          refine (refValid_any x1 A1 c1 s1 _ hR1).mono ?_
          rw [HV1.out]
          rintro e W5 ⟨rfl, b5⟩
          replace BX := below2 BX b5
          replace hR0 := hR0.below b5
          replace hR1 := hR1.below b5
          replace Bp0 := Bp0.below b5
          replace Bp1 := Bp1.below b5
          replace Bp2 := Bp2.below b5
          replace S2 := S2.below b5
          replace P2 := P2.below b5
          clear b5
          clear kBp0_0 kBp0_1 kBp1_0 kBp1_1 kBp2_0 kBp2_1 kP2_0 kP2_1
          have kBp0_0 := Bp0.cell 0 rfl
          have kBp0_1 := Bp0.cell 1 rfl
          have kBp1_0 := Bp1.cell 0 rfl
          have kBp1_1 := Bp1.cell 1 rfl
          have kBp2_0 := Bp2.cell 0 rfl
          have kBp2_1 := Bp2.cell 1 rfl
          have kP2_0 := P2.cell 0 rfl
          have kP2_1 := P2.cell 1 rfl
          go_wp2_with fail
          refine (mix_any x0 A0 c0 s0 x1 A1 c1 s1 256 0 _ (hG.below BX) hR0 hR1).mono ?_
          rw [HM2.out]
          rintro e W6 ⟨⟨A6, c6, rfl, S6⟩, b6⟩
          dsimp only at S6 ⊢
          replace S6 := S6.any
          replace BX := below2 BX b6
          replace hR0 := hR0.below b6
          replace hR1 := hR1.below b6
          replace Bp0 := Bp0.below b6
          replace Bp1 := Bp1.below b6
          replace Bp2 := Bp2.below b6
          replace S2 := S2.below b6
          replace P2 := P2.below b6
          have Ba6 := below_alloc (Below.refl W6.heap.size W6) (.cells #[.int .i64 R2, .slice A6 T2.length c6] 24)
          have P6 : Blk (W6.alloc (.cells #[.int .i64 R2, .slice A6 T2.length c6] 24)) W6.heap.size #[.int .i64 R2, .slice A6 T2.length c6] 24 := heap_alloc_new W6 _
          replace BX := below2 BX Ba6
          replace hR0 := hR0.below Ba6
          replace hR1 := hR1.below Ba6
          replace Bp0 := Bp0.below Ba6
          replace Bp1 := Bp1.below Ba6
          replace Bp2 := Bp2.below Ba6
          replace S2 := S2.below Ba6
          replace P2 := P2.below Ba6
          replace S6 := S6.below Ba6
          clear Ba6
          clear kBp0_0 kBp0_1 kBp1_0 kBp1_1 kBp2_0 kBp2_1 kP2_0 kP2_1
          have kBp0_0 := Bp0.cell 0 rfl
          have kBp0_1 := Bp0.cell 1 rfl
          have kBp1_0 := Bp1.cell 0 rfl
          have kBp1_1 := Bp1.cell 1 rfl
          have kBp2_0 := Bp2.cell 0 rfl
          have kBp2_1 := Bp2.cell 1 rfl
          have kP2_0 := P2.cell 0 rfl
          have kP2_1 := P2.cell 1 rfl
          have kP6_0 := P6.cell 0 rfl
          have kP6_1 := P6.cell 1 rfl
          clear b6
          go_wp2_with fail
          generalize hWL : (W6.alloc (.cells #[.int .i64 R2, .slice A6 T2.length c6] 24)) = WL at hR0 hR1 Bp0 Bp1 Bp2 S2 P2 S6 P6 BX ⊢
          clear hWL
          clear kBp0_0 kBp0_1 kBp1_0 kBp1_1 kBp2_0 kBp2_1 kP2_0 kP2_1 kP6_0 kP6_1
          have D := (Below.refl WL.heap.size WL).drew
          refine wp_region_G 14 (fun W => W.cell? ⟨p0, 0, none⟩ = some (.int .i64 x0) ∧ W.cell? ⟨p0, 1, none⟩ = some (.slice A0 s0.length c0) ∧ W.cell? ⟨p1, 0, none⟩ = some (.int .i64 x1) ∧ W.cell? ⟨p1, 1, none⟩ = some (.slice A1 s1.length c1) ∧ W.cell? ⟨W6.heap.size, 0, none⟩ = some (.int .i64 R2) ∧ W.cell? ⟨W6.heap.size, 1, none⟩ = some (.slice A6 T2.length c6)) (by kernel_rfl) ⟨(Bp0.below D).cell 0 rfl, (Bp0.below D).cell 1 rfl, (Bp1.below D).cell 0 rfl, (Bp1.below D).cell 1 rfl, (P6.below D).cell 0 rfl, (P6.below D).cell 1 rfl⟩ (fun hHeld => ?_)
          refine wpAnyG_takeL (i := 0) (.int .i64 0) [1, 2, 14] rfl (by kernel_rfl) (fun _ _ _ h => h) hHeld (by rfl) ?_ ?_
          · (intro W hSw; (try dsimp only at hSw); go_simp)
          try simp only [Act.put, List.setIfInBounds_toArray, List.set_cons_zero, List.set_cons_succ]
          refine wpAnyG_takeL (i := 1) (.bool false) [2, 14] rfl (by kernel_rfl) (fun _ _ _ h => h) hHeld (by rfl) ?_ ?_
          · (intro W hSw; (try dsimp only at hSw); go_simp)
          try simp only [Act.put, List.setIfInBounds_toArray, List.set_cons_zero, List.set_cons_succ]
          refine wpAnyG_takeL (i := 2) (.bool false) [14] rfl (by kernel_rfl) (fun _ _ _ h => h) hHeld (by rfl) ?_ ?_
          · (intro W hSw; (try dsimp only at hSw); go_simp)
          try simp only [Act.put, List.setIfInBounds_toArray, List.set_cons_zero, List.set_cons_succ]
          refine wpAnyG_takeL (i := 3) (.agg #[.int .i64 x1, .slice A1 s1.length c1]) [4, 7, 8, 13, 14] rfl (by kernel_rfl) (fun _ _ _ h => h) hHeld (by rfl) ?_ ?_
          · (intro W hSw; (try dsimp only at hSw); go_simp)
          try simp only [Act.put, List.setIfInBounds_toArray, List.set_cons_zero, List.set_cons_succ]
          refine wpAnyG_takeL (i := 5) (.agg #[.int .i64 x0, .slice A0 s0.length c0]) [6, 7, 8, 13, 14] rfl (by kernel_rfl) (fun _ _ _ h => h) hHeld (by rfl) ?_ ?_
          · (intro W hSw; (try dsimp only at hSw); go_simp)
          try simp only [Act.put, List.setIfInBounds_toArray, List.set_cons_zero, List.set_cons_succ]
          refine wpAnyG_oneL (i := 4) (by kernel_rfl) rfl (fun K hK => ?_)
          (go_simp; go_at_call 34; refine (refLen_any x1 A1 c1 s1 _ (hR1.below D) h11).mono ?_; rw [HN1.out]; rintro e V1 ⟨rfl, b⟩; have D1 := below2 D b; clear b)
          clear hHeld
          have hHeld := (show V1.cell? ⟨p0, 0, none⟩ = some (.int .i64 x0) ∧ V1.cell? ⟨p0, 1, none⟩ = some (.slice A0 s0.length c0) ∧ V1.cell? ⟨p1, 0, none⟩ = some (.int .i64 x1) ∧ V1.cell? ⟨p1, 1, none⟩ = some (.slice A1 s1.length c1) ∧ V1.cell? ⟨W6.heap.size, 0, none⟩ = some (.int .i64 R2) ∧ V1.cell? ⟨W6.heap.size, 1, none⟩ = some (.slice A6 T2.length c6) from ⟨(Bp0.below D1).cell 0 rfl, (Bp0.below D1).cell 1 rfl, (Bp1.below D1).cell 0 rfl, (Bp1.below D1).cell 1 rfl, (P6.below D1).cell 0 rfl, (P6.below D1).cell 1 rfl⟩)
          refine hK.out _ _ (fun _ => hHeld) ?_
          clear hK K
          try simp only [Act.put, List.setIfInBounds_toArray, List.set_cons_zero, List.set_cons_succ]
          refine wpAnyG_oneL (i := 6) (by kernel_rfl) rfl (fun K hK => ?_)
          (go_simp; go_at_call 34; refine (refLen_any x0 A0 c0 s0 _ (hR0.below D1) h1).mono ?_; rw [HN0.out]; rintro e V2 ⟨rfl, b⟩; have D2 := below2 D1 b; clear b)
          clear hHeld
          have hHeld := (show V2.cell? ⟨p0, 0, none⟩ = some (.int .i64 x0) ∧ V2.cell? ⟨p0, 1, none⟩ = some (.slice A0 s0.length c0) ∧ V2.cell? ⟨p1, 0, none⟩ = some (.int .i64 x1) ∧ V2.cell? ⟨p1, 1, none⟩ = some (.slice A1 s1.length c1) ∧ V2.cell? ⟨W6.heap.size, 0, none⟩ = some (.int .i64 R2) ∧ V2.cell? ⟨W6.heap.size, 1, none⟩ = some (.slice A6 T2.length c6) from ⟨(Bp0.below D2).cell 0 rfl, (Bp0.below D2).cell 1 rfl, (Bp1.below D2).cell 0 rfl, (Bp1.below D2).cell 1 rfl, (P6.below D2).cell 0 rfl, (P6.below D2).cell 1 rfl⟩)
          refine hK.out _ _ (fun _ => hHeld) ?_
          clear hK K
          try simp only [Act.put, List.setIfInBounds_toArray, List.set_cons_zero, List.set_cons_succ]
          refine wpAnyG_takeL (i := 7) (.bool true) [8, 13, 14] rfl (by kernel_rfl) (fun _ _ _ h => h) hHeld (by rfl) ?_ ?_
          · (intro W hSw; (try dsimp only at hSw); go_simp)
          try simp only [Act.put, List.setIfInBounds_toArray, List.set_cons_zero, List.set_cons_succ]
          refine wpAnyG_takeL (i := 8) (.bool true) [13, 14] rfl (by kernel_rfl) (fun _ _ _ h => h) hHeld (by rfl) ?_ ?_
          · (intro W hSw; (try dsimp only at hSw); go_simp)
          try simp only [Act.put, List.setIfInBounds_toArray, List.set_cons_zero, List.set_cons_succ]
          refine wpAnyG_takeL (i := 9) (.agg #[.int .i64 x0, .slice A0 s0.length c0]) [11, 12, 13, 14] rfl (by kernel_rfl) (fun _ _ _ h => h) hHeld (by rfl) ?_ ?_
          · (intro W hSw; (try dsimp only at hSw); go_simp)
          try simp only [Act.put, List.setIfInBounds_toArray, List.set_cons_zero, List.set_cons_succ]
          refine wpAnyG_takeL (i := 10) (.agg #[.int .i64 R2, .slice A6 T2.length c6]) [11, 12, 13, 14] rfl (by kernel_rfl) (fun _ _ _ h => h) hHeld (by rfl) ?_ ?_
          · (intro W hSw; (try dsimp only at hSw); go_simp)
          try simp only [Act.put, List.setIfInBounds_toArray, List.set_cons_zero, List.set_cons_succ]
          refine wpAnyG_oneL (i := 11) (by kernel_rfl) rfl (fun K hK => ?_)
          (go_simp; go_at_call 19; refine (refSame_any x0 A0 c0 s0 R2 A6 c6 T2 _ (hR0.below D2) (S6.below D2)).mono ?_; rw [HQ.out]; rintro e V3 ⟨rfl, b⟩; have D3 := below2 D2 b; clear b)
          clear hHeld
          have hHeld := (show V3.cell? ⟨p0, 0, none⟩ = some (.int .i64 x0) ∧ V3.cell? ⟨p0, 1, none⟩ = some (.slice A0 s0.length c0) ∧ V3.cell? ⟨p1, 0, none⟩ = some (.int .i64 x1) ∧ V3.cell? ⟨p1, 1, none⟩ = some (.slice A1 s1.length c1) ∧ V3.cell? ⟨W6.heap.size, 0, none⟩ = some (.int .i64 R2) ∧ V3.cell? ⟨W6.heap.size, 1, none⟩ = some (.slice A6 T2.length c6) from ⟨(Bp0.below D3).cell 0 rfl, (Bp0.below D3).cell 1 rfl, (Bp1.below D3).cell 0 rfl, (Bp1.below D3).cell 1 rfl, (P6.below D3).cell 0 rfl, (P6.below D3).cell 1 rfl⟩)
          refine hK.out _ _ (fun _ => hHeld) ?_
          clear hK K
          try simp only [Act.put, List.setIfInBounds_toArray, List.set_cons_zero, List.set_cons_succ]
          refine wpAnyG_takeL (i := 12) (.bool false) [13, 14] rfl (by kernel_rfl) (fun _ _ _ h => h) hHeld (by rfl) ?_ ?_
          · (intro W hSw; (try dsimp only at hSw); go_simp)
          try simp only [Act.put, List.setIfInBounds_toArray, List.set_cons_zero, List.set_cons_succ]
          refine wpAnyG_takeL (i := 13) (.bool false) [14] rfl (by kernel_rfl) (fun _ _ _ h => h) hHeld (by rfl) ?_ ?_
          · (intro W hSw; (try dsimp only at hSw); go_simp)
          try simp only [Act.put, List.setIfInBounds_toArray, List.set_cons_zero, List.set_cons_succ]
          refine wpAnyG_oneL (i := 14) (by kernel_rfl) rfl (fun K hK => ?_)
          go_simp
          refine hK.out _ _ (fun h => Bool.noConfusion (show true = false from h)) ?_
          clear hK K
          try simp only [Act.put, List.setIfInBounds_toArray, List.set_cons_zero, List.set_cons_succ]
          refine wpAnyG_done (by kernel_rfl) ?_ _
          replace BX := below2 BX D3
          replace hR0 := hR0.below D3
          replace hR1 := hR1.below D3
          replace Bp0 := Bp0.below D3
          replace Bp1 := Bp1.below D3
          replace Bp2 := Bp2.below D3
          replace S2 := S2.below D3
          replace P2 := P2.below D3
          replace S6 := S6.below D3
          replace P6 := P6.below D3
          have kBp0_0 := Bp0.cell 0 rfl
          have kBp0_1 := Bp0.cell 1 rfl
          have kBp1_0 := Bp1.cell 0 rfl
          have kBp1_1 := Bp1.cell 1 rfl
          have kBp2_0 := Bp2.cell 0 rfl
          have kBp2_1 := Bp2.cell 1 rfl
          have kP2_0 := P2.cell 0 rfl
          have kP2_1 := P2.cell 1 rfl
          have kP6_0 := P6.cell 0 rfl
          have kP6_1 := P6.cell 1 rfl
          go_wp2_with fail
          refine (refValid_any x0 A0 c0 s0 _ hR0).mono ?_
          rw [HV.out]
          rintro e W12 ⟨rfl, b12⟩
          replace BX := below2 BX b12
          replace hR0 := hR0.below b12
          replace hR1 := hR1.below b12
          replace Bp0 := Bp0.below b12
          replace Bp1 := Bp1.below b12
          replace Bp2 := Bp2.below b12
          replace S2 := S2.below b12
          replace P2 := P2.below b12
          replace S6 := S6.below b12
          replace P6 := P6.below b12
          clear b12
          clear kBp0_0 kBp0_1 kBp1_0 kBp1_1 kBp2_0 kBp2_1 kP2_0 kP2_1 kP6_0 kP6_1
          have kBp0_0 := Bp0.cell 0 rfl
          have kBp0_1 := Bp0.cell 1 rfl
          have kBp1_0 := Bp1.cell 0 rfl
          have kBp1_1 := Bp1.cell 1 rfl
          have kBp2_0 := Bp2.cell 0 rfl
          have kBp2_1 := Bp2.cell 1 rfl
          have kP2_0 := P2.cell 0 rfl
          have kP2_1 := P2.cell 1 rfl
          have kP6_0 := P6.cell 0 rfl
          have kP6_1 := P6.cell 1 rfl
          go_wp2_with fail
          refine (awake_any _ (hG.below BX)).mono ?_
          rintro e W13 ⟨rfl, b13⟩
          replace BX := below2 BX b13
          go_wp2_with fail
          go_ret
          exact ⟨rfl, BX⟩
        · have hlen : ¬ (1 : Int) < (s0.length : Int) := by omega
          have hone : s0.length = 1 := by have := (valid_facts hv).one; omega
          have HWD := Lib.hid (mono_wide hv hone).1
          have HMO := Lib.hid (mono_wide hv hone).2
          clear hone
          clear hv hv1 hl1
          go_enter Tryd.func7, Tryd.ntmps7
          go_wp2_with (first | ((with_reducible refine at_dst (N := 3) rfl ?_); refine ev_new #[.int .i64 x0, .slice A0 s0.length c0] 24 rfl ?hr ?_; (case hr => first | (go_simp; done) | (go_simp; rfl)); intro p0 wp0 ep0 zp0 BX Bp0; skip) | ((with_reducible refine at_dst (N := 4) rfl ?_); refine ev_new #[.int .i64 x1, .slice A1 s1.length c1] 24 rfl ?hr ?_; (case hr => first | (go_simp; done) | (go_simp; rfl)); intro p1 wp1 ep1 zp1 bb1 Bp1; replace BX := below2 BX bb1; replace Bp0 := Bp0.below bb1) | ((with_reducible refine at_dst (N := 5) rfl ?_); refine ev_new #[.int .i64 i2, .int .i64 j2] 37 rfl ?hr ?_; (case hr => first | (go_simp; done) | (go_simp; rfl)); intro p2 wp2 ep2 zp2 bb2 Bp2; replace BX := below2 BX bb2; replace Bp0 := Bp0.below bb2; replace Bp1 := Bp1.below bb2; have kp0_0 := Bp0.cell 0 rfl; have kp0_1 := Bp0.cell 1 rfl; have kp1_0 := Bp1.cell 0 rfl; have kp1_1 := Bp1.cell 1 rfl; have kp2_0 := Bp2.cell 0 rfl; have kp2_1 := Bp2.cell 1 rfl))
          replace hR0 := hR0.below BX
          replace hR1 := hR1.below BX
          have KK := trivial
          refine (few2 wp2 x0 A0 c0 s0 x1 A1 c1 s1 hR0 hF0 hR1 hF1).mono ?_
          rintro e W1 ⟨rfl, b1⟩
          rw [HB.out]
          replace BX := below2 BX b1
          replace hR0 := hR0.below b1
          replace hR1 := hR1.below b1
          replace Bp0 := Bp0.below b1
          replace Bp1 := Bp1.below b1
          replace Bp2 := Bp2.below b1
          clear b1 KK
          clear kp0_0 kp0_1 kp1_0 kp1_1 kp2_0 kp2_1
          have kBp0_0 := Bp0.cell 0 rfl
          have kBp0_1 := Bp0.cell 1 rfl
          have kBp1_0 := Bp1.cell 0 rfl
          have kBp1_1 := Bp1.cell 1 rfl
          have kBp2_0 := Bp2.cell 0 rfl
          have kBp2_1 := Bp2.cell 1 rfl
          go_wp2_with fail
          refine (mix_any x0 A0 c0 s0 x1 A1 c1 s1 i2 j2 _ (hG.below BX) hR0 hR1).mono ?_
          rw [HM.out]
          rintro e W2 ⟨⟨A2, c2, rfl, S2⟩, b2⟩
          dsimp only at S2 ⊢
          replace S2 := S2.any
          replace BX := below2 BX b2
          replace hR0 := hR0.below b2
          replace hR1 := hR1.below b2
          replace Bp0 := Bp0.below b2
          replace Bp1 := Bp1.below b2
          replace Bp2 := Bp2.below b2
          have Ba2 := below_alloc (Below.refl W2.heap.size W2) (.cells #[.int .i64 R, .slice A2 T.length c2] 24)
          have P2 : Blk (W2.alloc (.cells #[.int .i64 R, .slice A2 T.length c2] 24)) W2.heap.size #[.int .i64 R, .slice A2 T.length c2] 24 := heap_alloc_new W2 _
          replace BX := below2 BX Ba2
          replace hR0 := hR0.below Ba2
          replace hR1 := hR1.below Ba2
          replace Bp0 := Bp0.below Ba2
          replace Bp1 := Bp1.below Ba2
          replace Bp2 := Bp2.below Ba2
          replace S2 := S2.below Ba2
          clear Ba2
          clear kBp0_0 kBp0_1 kBp1_0 kBp1_1 kBp2_0 kBp2_1
          have kBp0_0 := Bp0.cell 0 rfl
          have kBp0_1 := Bp0.cell 1 rfl
          have kBp1_0 := Bp1.cell 0 rfl
          have kBp1_1 := Bp1.cell 1 rfl
          have kBp2_0 := Bp2.cell 0 rfl
          have kBp2_1 := Bp2.cell 1 rfl
          have kP2_0 := P2.cell 0 rfl
          have kP2_1 := P2.cell 1 rfl
          clear b2
          go_wp2_with fail
          refine (peak_any R A2 c2 T _ (hG.below BX) S2).mono ?_
          rw [HPK.out]
          rintro e W3 ⟨rfl, b3⟩
          dsimp only
          replace BX := below2 BX b3
          replace hR0 := hR0.below b3
          replace hR1 := hR1.below b3
          replace Bp0 := Bp0.below b3
          replace Bp1 := Bp1.below b3
          replace Bp2 := Bp2.below b3
          replace S2 := S2.below b3
          replace P2 := P2.below b3
          clear b3
          clear kBp0_0 kBp0_1 kBp1_0 kBp1_1 kBp2_0 kBp2_1 kP2_0 kP2_1
          have kBp0_0 := Bp0.cell 0 rfl
          have kBp0_1 := Bp0.cell 1 rfl
          have kBp1_0 := Bp1.cell 0 rfl
          have kBp1_1 := Bp1.cell 1 rfl
          have kBp2_0 := Bp2.cell 0 rfl
          have kBp2_1 := Bp2.cell 1 rfl
          have kP2_0 := P2.cell 0 rfl
          have kP2_1 := P2.cell 1 rfl
          go_wp2_with fail
          refine (refValid_any x0 A0 c0 s0 _ hR0).mono ?_
          rw [HV.out]
          rintro e W4 ⟨rfl, b4⟩
          replace BX := below2 BX b4
          replace hR0 := hR0.below b4
          replace hR1 := hR1.below b4
          replace Bp0 := Bp0.below b4
          replace Bp1 := Bp1.below b4
          replace Bp2 := Bp2.below b4
          replace S2 := S2.below b4
          replace P2 := P2.below b4
          clear b4
          clear kBp0_0 kBp0_1 kBp1_0 kBp1_1 kBp2_0 kBp2_1 kP2_0 kP2_1
          have kBp0_0 := Bp0.cell 0 rfl
          have kBp0_1 := Bp0.cell 1 rfl
          have kBp1_0 := Bp1.cell 0 rfl
          have kBp1_1 := Bp1.cell 1 rfl
          have kBp2_0 := Bp2.cell 0 rfl
          have kBp2_1 := Bp2.cell 1 rfl
          have kP2_0 := P2.cell 0 rfl
          have kP2_1 := P2.cell 1 rfl
          go_wp2_with fail
          refine (refValid_any x1 A1 c1 s1 _ hR1).mono ?_
          rw [HV1.out]
          rintro e W5 ⟨rfl, b5⟩
          replace BX := below2 BX b5
          replace hR0 := hR0.below b5
          replace hR1 := hR1.below b5
          replace Bp0 := Bp0.below b5
          replace Bp1 := Bp1.below b5
          replace Bp2 := Bp2.below b5
          replace S2 := S2.below b5
          replace P2 := P2.below b5
          clear b5
          clear kBp0_0 kBp0_1 kBp1_0 kBp1_1 kBp2_0 kBp2_1 kP2_0 kP2_1
          have kBp0_0 := Bp0.cell 0 rfl
          have kBp0_1 := Bp0.cell 1 rfl
          have kBp1_0 := Bp1.cell 0 rfl
          have kBp1_1 := Bp1.cell 1 rfl
          have kBp2_0 := Bp2.cell 0 rfl
          have kBp2_1 := Bp2.cell 1 rfl
          have kP2_0 := P2.cell 0 rfl
          have kP2_1 := P2.cell 1 rfl
          go_wp2_with fail
          refine (mix_any x0 A0 c0 s0 x1 A1 c1 s1 256 0 _ (hG.below BX) hR0 hR1).mono ?_
          rw [HM2.out]
          rintro e W6 ⟨⟨A6, c6, rfl, S6⟩, b6⟩
          dsimp only at S6 ⊢
          replace S6 := S6.any
          replace BX := below2 BX b6
          replace hR0 := hR0.below b6
          replace hR1 := hR1.below b6
          replace Bp0 := Bp0.below b6
          replace Bp1 := Bp1.below b6
          replace Bp2 := Bp2.below b6
          replace S2 := S2.below b6
          replace P2 := P2.below b6
          have Ba6 := below_alloc (Below.refl W6.heap.size W6) (.cells #[.int .i64 R2, .slice A6 T2.length c6] 24)
          have P6 : Blk (W6.alloc (.cells #[.int .i64 R2, .slice A6 T2.length c6] 24)) W6.heap.size #[.int .i64 R2, .slice A6 T2.length c6] 24 := heap_alloc_new W6 _
          replace BX := below2 BX Ba6
          replace hR0 := hR0.below Ba6
          replace hR1 := hR1.below Ba6
          replace Bp0 := Bp0.below Ba6
          replace Bp1 := Bp1.below Ba6
          replace Bp2 := Bp2.below Ba6
          replace S2 := S2.below Ba6
          replace P2 := P2.below Ba6
          replace S6 := S6.below Ba6
          clear Ba6
          clear kBp0_0 kBp0_1 kBp1_0 kBp1_1 kBp2_0 kBp2_1 kP2_0 kP2_1
          have kBp0_0 := Bp0.cell 0 rfl
          have kBp0_1 := Bp0.cell 1 rfl
          have kBp1_0 := Bp1.cell 0 rfl
          have kBp1_1 := Bp1.cell 1 rfl
          have kBp2_0 := Bp2.cell 0 rfl
          have kBp2_1 := Bp2.cell 1 rfl
          have kP2_0 := P2.cell 0 rfl
          have kP2_1 := P2.cell 1 rfl
          have kP6_0 := P6.cell 0 rfl
          have kP6_1 := P6.cell 1 rfl
          clear b6
          go_wp2_with fail
          generalize hWL : (W6.alloc (.cells #[.int .i64 R2, .slice A6 T2.length c6] 24)) = WL at hR0 hR1 Bp0 Bp1 Bp2 S2 P2 S6 P6 BX ⊢
          clear hWL
          clear kBp0_0 kBp0_1 kBp1_0 kBp1_1 kBp2_0 kBp2_1 kP2_0 kP2_1 kP6_0 kP6_1
          have D := (Below.refl WL.heap.size WL).drew
          refine wp_region_G 14 (fun W => W.cell? ⟨p0, 0, none⟩ = some (.int .i64 x0) ∧ W.cell? ⟨p0, 1, none⟩ = some (.slice A0 s0.length c0) ∧ W.cell? ⟨p1, 0, none⟩ = some (.int .i64 x1) ∧ W.cell? ⟨p1, 1, none⟩ = some (.slice A1 s1.length c1) ∧ W.cell? ⟨W6.heap.size, 0, none⟩ = some (.int .i64 R2) ∧ W.cell? ⟨W6.heap.size, 1, none⟩ = some (.slice A6 T2.length c6)) (by kernel_rfl) ⟨(Bp0.below D).cell 0 rfl, (Bp0.below D).cell 1 rfl, (Bp1.below D).cell 0 rfl, (Bp1.below D).cell 1 rfl, (P6.below D).cell 0 rfl, (P6.below D).cell 1 rfl⟩ (fun hHeld => ?_)
          refine wpAnyG_takeL (i := 0) (.int .i64 0) [1, 2, 14] rfl (by kernel_rfl) (fun _ _ _ h => h) hHeld (by rfl) ?_ ?_
          · (intro W hSw; (try dsimp only at hSw); go_simp)
          try simp only [Act.put, List.setIfInBounds_toArray, List.set_cons_zero, List.set_cons_succ]
          refine wpAnyG_takeL (i := 1) (.bool false) [2, 14] rfl (by kernel_rfl) (fun _ _ _ h => h) hHeld (by rfl) ?_ ?_
          · (intro W hSw; (try dsimp only at hSw); go_simp)
          try simp only [Act.put, List.setIfInBounds_toArray, List.set_cons_zero, List.set_cons_succ]
          refine wpAnyG_takeL (i := 2) (.bool false) [14] rfl (by kernel_rfl) (fun _ _ _ h => h) hHeld (by rfl) ?_ ?_
          · (intro W hSw; (try dsimp only at hSw); go_simp)
          try simp only [Act.put, List.setIfInBounds_toArray, List.set_cons_zero, List.set_cons_succ]
          refine wpAnyG_takeL (i := 3) (.agg #[.int .i64 x1, .slice A1 s1.length c1]) [4, 7, 8, 13, 14] rfl (by kernel_rfl) (fun _ _ _ h => h) hHeld (by rfl) ?_ ?_
          · (intro W hSw; (try dsimp only at hSw); go_simp)
          try simp only [Act.put, List.setIfInBounds_toArray, List.set_cons_zero, List.set_cons_succ]
          refine wpAnyG_takeL (i := 5) (.agg #[.int .i64 x0, .slice A0 s0.length c0]) [6, 7, 8, 13, 14] rfl (by kernel_rfl) (fun _ _ _ h => h) hHeld (by rfl) ?_ ?_
          · (intro W hSw; (try dsimp only at hSw); go_simp)
          try simp only [Act.put, List.setIfInBounds_toArray, List.set_cons_zero, List.set_cons_succ]
          refine wpAnyG_oneL (i := 4) (by kernel_rfl) rfl (fun K hK => ?_)
          (go_simp; go_at_call 34; refine (refLen_any x1 A1 c1 s1 _ (hR1.below D) h11).mono ?_; rw [HN1.out]; rintro e V1 ⟨rfl, b⟩; have D1 := below2 D b; clear b)
          clear hHeld
          have hHeld := (show V1.cell? ⟨p0, 0, none⟩ = some (.int .i64 x0) ∧ V1.cell? ⟨p0, 1, none⟩ = some (.slice A0 s0.length c0) ∧ V1.cell? ⟨p1, 0, none⟩ = some (.int .i64 x1) ∧ V1.cell? ⟨p1, 1, none⟩ = some (.slice A1 s1.length c1) ∧ V1.cell? ⟨W6.heap.size, 0, none⟩ = some (.int .i64 R2) ∧ V1.cell? ⟨W6.heap.size, 1, none⟩ = some (.slice A6 T2.length c6) from ⟨(Bp0.below D1).cell 0 rfl, (Bp0.below D1).cell 1 rfl, (Bp1.below D1).cell 0 rfl, (Bp1.below D1).cell 1 rfl, (P6.below D1).cell 0 rfl, (P6.below D1).cell 1 rfl⟩)
          refine hK.out _ _ (fun _ => hHeld) ?_
          clear hK K
          try simp only [Act.put, List.setIfInBounds_toArray, List.set_cons_zero, List.set_cons_succ]
          refine wpAnyG_oneL (i := 6) (by kernel_rfl) rfl (fun K hK => ?_)
          (go_simp; go_at_call 34; refine (refLen_any x0 A0 c0 s0 _ (hR0.below D1) h1).mono ?_; rw [HN0.out]; rintro e V2 ⟨rfl, b⟩; have D2 := below2 D1 b; clear b)
          clear hHeld
          have hHeld := (show V2.cell? ⟨p0, 0, none⟩ = some (.int .i64 x0) ∧ V2.cell? ⟨p0, 1, none⟩ = some (.slice A0 s0.length c0) ∧ V2.cell? ⟨p1, 0, none⟩ = some (.int .i64 x1) ∧ V2.cell? ⟨p1, 1, none⟩ = some (.slice A1 s1.length c1) ∧ V2.cell? ⟨W6.heap.size, 0, none⟩ = some (.int .i64 R2) ∧ V2.cell? ⟨W6.heap.size, 1, none⟩ = some (.slice A6 T2.length c6) from ⟨(Bp0.below D2).cell 0 rfl, (Bp0.below D2).cell 1 rfl, (Bp1.below D2).cell 0 rfl, (Bp1.below D2).cell 1 rfl, (P6.below D2).cell 0 rfl, (P6.below D2).cell 1 rfl⟩)
          refine hK.out _ _ (fun _ => hHeld) ?_
          clear hK K
          try simp only [Act.put, List.setIfInBounds_toArray, List.set_cons_zero, List.set_cons_succ]
          refine wpAnyG_takeL (i := 7) (.bool true) [8, 13, 14] rfl (by kernel_rfl) (fun _ _ _ h => h) hHeld (by rfl) ?_ ?_
          · (intro W hSw; (try dsimp only at hSw); go_simp)
          try simp only [Act.put, List.setIfInBounds_toArray, List.set_cons_zero, List.set_cons_succ]
          refine wpAnyG_takeL (i := 8) (.bool true) [13, 14] rfl (by kernel_rfl) (fun _ _ _ h => h) hHeld (by rfl) ?_ ?_
          · (intro W hSw; (try dsimp only at hSw); go_simp)
          try simp only [Act.put, List.setIfInBounds_toArray, List.set_cons_zero, List.set_cons_succ]
          refine wpAnyG_takeL (i := 9) (.agg #[.int .i64 x0, .slice A0 s0.length c0]) [11, 12, 13, 14] rfl (by kernel_rfl) (fun _ _ _ h => h) hHeld (by rfl) ?_ ?_
          · (intro W hSw; (try dsimp only at hSw); go_simp)
          try simp only [Act.put, List.setIfInBounds_toArray, List.set_cons_zero, List.set_cons_succ]
          refine wpAnyG_takeL (i := 10) (.agg #[.int .i64 R2, .slice A6 T2.length c6]) [11, 12, 13, 14] rfl (by kernel_rfl) (fun _ _ _ h => h) hHeld (by rfl) ?_ ?_
          · (intro W hSw; (try dsimp only at hSw); go_simp)
          try simp only [Act.put, List.setIfInBounds_toArray, List.set_cons_zero, List.set_cons_succ]
          refine wpAnyG_oneL (i := 11) (by kernel_rfl) rfl (fun K hK => ?_)
          (go_simp; go_at_call 19; refine (refSame_any x0 A0 c0 s0 R2 A6 c6 T2 _ (hR0.below D2) (S6.below D2)).mono ?_; rw [HQ.out]; rintro e V3 ⟨rfl, b⟩; have D3 := below2 D2 b; clear b)
          clear hHeld
          have hHeld := (show V3.cell? ⟨p0, 0, none⟩ = some (.int .i64 x0) ∧ V3.cell? ⟨p0, 1, none⟩ = some (.slice A0 s0.length c0) ∧ V3.cell? ⟨p1, 0, none⟩ = some (.int .i64 x1) ∧ V3.cell? ⟨p1, 1, none⟩ = some (.slice A1 s1.length c1) ∧ V3.cell? ⟨W6.heap.size, 0, none⟩ = some (.int .i64 R2) ∧ V3.cell? ⟨W6.heap.size, 1, none⟩ = some (.slice A6 T2.length c6) from ⟨(Bp0.below D3).cell 0 rfl, (Bp0.below D3).cell 1 rfl, (Bp1.below D3).cell 0 rfl, (Bp1.below D3).cell 1 rfl, (P6.below D3).cell 0 rfl, (P6.below D3).cell 1 rfl⟩)
          refine hK.out _ _ (fun _ => hHeld) ?_
          clear hK K
          try simp only [Act.put, List.setIfInBounds_toArray, List.set_cons_zero, List.set_cons_succ]
          refine wpAnyG_takeL (i := 12) (.bool false) [13, 14] rfl (by kernel_rfl) (fun _ _ _ h => h) hHeld (by rfl) ?_ ?_
          · (intro W hSw; (try dsimp only at hSw); go_simp)
          try simp only [Act.put, List.setIfInBounds_toArray, List.set_cons_zero, List.set_cons_succ]
          refine wpAnyG_takeL (i := 13) (.bool false) [14] rfl (by kernel_rfl) (fun _ _ _ h => h) hHeld (by rfl) ?_ ?_
          · (intro W hSw; (try dsimp only at hSw); go_simp)
          try simp only [Act.put, List.setIfInBounds_toArray, List.set_cons_zero, List.set_cons_succ]
          refine wpAnyG_oneL (i := 14) (by kernel_rfl) rfl (fun K hK => ?_)
          go_simp
          refine hK.out _ _ (fun h => Bool.noConfusion (show true = false from h)) ?_
          clear hK K
          try simp only [Act.put, List.setIfInBounds_toArray, List.set_cons_zero, List.set_cons_succ]
          refine wpAnyG_done (by kernel_rfl) ?_ _
          replace BX := below2 BX D3
          replace hR0 := hR0.below D3
          replace hR1 := hR1.below D3
          replace Bp0 := Bp0.below D3
          replace Bp1 := Bp1.below D3
          replace Bp2 := Bp2.below D3
          replace S2 := S2.below D3
          replace P2 := P2.below D3
          replace S6 := S6.below D3
          replace P6 := P6.below D3
          have kBp0_0 := Bp0.cell 0 rfl
          have kBp0_1 := Bp0.cell 1 rfl
          have kBp1_0 := Bp1.cell 0 rfl
          have kBp1_1 := Bp1.cell 1 rfl
          have kBp2_0 := Bp2.cell 0 rfl
          have kBp2_1 := Bp2.cell 1 rfl
          have kP2_0 := P2.cell 0 rfl
          have kP2_1 := P2.cell 1 rfl
          have kP6_0 := P6.cell 0 rfl
          have kP6_1 := P6.cell 1 rfl
          go_wp2_with fail
          refine (refValid_any x0 A0 c0 s0 _ hR0).mono ?_
          rw [HV.out]
          rintro e W12 ⟨rfl, b12⟩
          replace BX := below2 BX b12
          replace hR0 := hR0.below b12
          replace hR1 := hR1.below b12
          replace Bp0 := Bp0.below b12
          replace Bp1 := Bp1.below b12
          replace Bp2 := Bp2.below b12
          replace S2 := S2.below b12
          replace P2 := P2.below b12
          replace S6 := S6.below b12
          replace P6 := P6.below b12
          clear b12
          clear kBp0_0 kBp0_1 kBp1_0 kBp1_1 kBp2_0 kBp2_1 kP2_0 kP2_1 kP6_0 kP6_1
          have kBp0_0 := Bp0.cell 0 rfl
          have kBp0_1 := Bp0.cell 1 rfl
          have kBp1_0 := Bp1.cell 0 rfl
          have kBp1_1 := Bp1.cell 1 rfl
          have kBp2_0 := Bp2.cell 0 rfl
          have kBp2_1 := Bp2.cell 1 rfl
          have kP2_0 := P2.cell 0 rfl
          have kP2_1 := P2.cell 1 rfl
          have kP6_0 := P6.cell 0 rfl
          have kP6_1 := P6.cell 1 rfl
          go_wp2_with fail
          refine (wide_any x0 A0 c0 s0 _ (hG.below BX) hR0).mono ?_
          rw [HWD.out]
          rintro e W13 ⟨⟨A13, c13, rfl, S13⟩, b13⟩
          dsimp only at S13 ⊢
          replace S13 := S13.any
          replace BX := below2 BX b13
          replace hR0 := hR0.below b13
          replace hR1 := hR1.below b13
          replace Bp0 := Bp0.below b13
          replace Bp1 := Bp1.below b13
          replace Bp2 := Bp2.below b13
          replace S2 := S2.below b13
          replace P2 := P2.below b13
          replace S6 := S6.below b13
          replace P6 := P6.below b13
          have Ba13 := below_alloc (Below.refl W13.heap.size W13) (.cells #[.int .i64 x0, .slice A13 [nth [] s0 0, nth [] s0 0].length c13] 24)
          have P13 : Blk (W13.alloc (.cells #[.int .i64 x0, .slice A13 [nth [] s0 0, nth [] s0 0].length c13] 24)) W13.heap.size #[.int .i64 x0, .slice A13 [nth [] s0 0, nth [] s0 0].length c13] 24 := heap_alloc_new W13 _
          replace BX := below2 BX Ba13
          replace hR0 := hR0.below Ba13
          replace hR1 := hR1.below Ba13
          replace Bp0 := Bp0.below Ba13
          replace Bp1 := Bp1.below Ba13
          replace Bp2 := Bp2.below Ba13
          replace S2 := S2.below Ba13
          replace P2 := P2.below Ba13
          replace S6 := S6.below Ba13
          replace P6 := P6.below Ba13
          replace S13 := S13.below Ba13
          clear Ba13
          clear kBp0_0 kBp0_1 kBp1_0 kBp1_1 kBp2_0 kBp2_1 kP2_0 kP2_1 kP6_0 kP6_1
          have kBp0_0 := Bp0.cell 0 rfl
          have kBp0_1 := Bp0.cell 1 rfl
          have kBp1_0 := Bp1.cell 0 rfl
          have kBp1_1 := Bp1.cell 1 rfl
          have kBp2_0 := Bp2.cell 0 rfl
          have kBp2_1 := Bp2.cell 1 rfl
          have kP2_0 := P2.cell 0 rfl
          have kP2_1 := P2.cell 1 rfl
          have kP6_0 := P6.cell 0 rfl
          have kP6_1 := P6.cell 1 rfl
          have kP13_0 := P13.cell 0 rfl
          have kP13_1 := P13.cell 1 rfl
          clear b13
          go_wp2_with fail
          refine (mono_any x0 A13 c13 [nth [] s0 0, nth [] s0 0] _ (hG.below BX) S13).mono ?_
          rw [HMO.out]
          rintro e W14 ⟨⟨A14, c14, rfl, S14⟩, b14⟩
          dsimp only at S14 ⊢
          replace S14 := S14.any
          replace BX := below2 BX b14
          replace hR0 := hR0.below b14
          replace hR1 := hR1.below b14
          replace Bp0 := Bp0.below b14
          replace Bp1 := Bp1.below b14
          replace Bp2 := Bp2.below b14
          replace S2 := S2.below b14
          replace P2 := P2.below b14
          replace S6 := S6.below b14
          replace P6 := P6.below b14
          replace S13 := S13.below b14
          replace P13 := P13.below b14
          have Ba14 := below_alloc (Below.refl W14.heap.size W14) (.cells #[.int .i64 x0, .slice A14 s0.length c14] 24)
          have P14 : Blk (W14.alloc (.cells #[.int .i64 x0, .slice A14 s0.length c14] 24)) W14.heap.size #[.int .i64 x0, .slice A14 s0.length c14] 24 := heap_alloc_new W14 _
          replace BX := below2 BX Ba14
          replace hR0 := hR0.below Ba14
          replace hR1 := hR1.below Ba14
          replace Bp0 := Bp0.below Ba14
          replace Bp1 := Bp1.below Ba14
          replace Bp2 := Bp2.below Ba14
          replace S2 := S2.below Ba14
          replace P2 := P2.below Ba14
          replace S6 := S6.below Ba14
          replace P6 := P6.below Ba14
          replace S13 := S13.below Ba14
          replace P13 := P13.below Ba14
          replace S14 := S14.below Ba14
          clear Ba14
          clear kBp0_0 kBp0_1 kBp1_0 kBp1_1 kBp2_0 kBp2_1 kP2_0 kP2_1 kP6_0 kP6_1 kP13_0 kP13_1
          have kBp0_0 := Bp0.cell 0 rfl
          have kBp0_1 := Bp0.cell 1 rfl
          have kBp1_0 := Bp1.cell 0 rfl
          have kBp1_1 := Bp1.cell 1 rfl
          have kBp2_0 := Bp2.cell 0 rfl
          have kBp2_1 := Bp2.cell 1 rfl
          have kP2_0 := P2.cell 0 rfl
          have kP2_1 := P2.cell 1 rfl
          have kP6_0 := P6.cell 0 rfl
          have kP6_1 := P6.cell 1 rfl
          have kP13_0 := P13.cell 0 rfl
          have kP13_1 := P13.cell 1 rfl
          have kP14_0 := P14.cell 0 rfl
          have kP14_1 := P14.cell 1 rfl
          clear b14
          go_wp2_with fail
          refine (same_self _ _ _ _ _ _ _ hR0 S14).mono ?_
          rintro e W15 ⟨rfl, b15⟩
          replace BX := below2 BX b15
          replace hR0 := hR0.below b15
          replace hR1 := hR1.below b15
          replace Bp0 := Bp0.below b15
          replace Bp1 := Bp1.below b15
          replace Bp2 := Bp2.below b15
          replace S2 := S2.below b15
          replace P2 := P2.below b15
          replace S6 := S6.below b15
          replace P6 := P6.below b15
          replace S13 := S13.below b15
          replace P13 := P13.below b15
          replace S14 := S14.below b15
          replace P14 := P14.below b15
          clear b15
          clear kBp0_0 kBp0_1 kBp1_0 kBp1_1 kBp2_0 kBp2_1 kP2_0 kP2_1 kP6_0 kP6_1 kP13_0 kP13_1 kP14_0 kP14_1
          have kBp0_0 := Bp0.cell 0 rfl
          have kBp0_1 := Bp0.cell 1 rfl
          have kBp1_0 := Bp1.cell 0 rfl
          have kBp1_1 := Bp1.cell 1 rfl
          have kBp2_0 := Bp2.cell 0 rfl
          have kBp2_1 := Bp2.cell 1 rfl
          have kP2_0 := P2.cell 0 rfl
          have kP2_1 := P2.cell 1 rfl
          have kP6_0 := P6.cell 0 rfl
          have kP6_1 := P6.cell 1 rfl
          have kP13_0 := P13.cell 0 rfl
          have kP13_1 := P13.cell 1 rfl
          have kP14_0 := P14.cell 0 rfl
          have kP14_1 := P14.cell 1 rfl
          go_wp2_with fail
          refine (awake_any _ (hG.below BX)).mono ?_
          rintro e W16 ⟨rfl, b16⟩
          replace BX := below2 BX b16
          go_wp2_with fail
          go_ret
          exact ⟨rfl, BX⟩
      · have hli : N0 < N1 := by omega
        clear hle hf2
        by_cases hl1 : 1 < s0.length
        · have hlen : (1 : Int) < (s0.length : Int) := by omega
          clear hv hv1 hl1
          go_enter Tryd.func7, Tryd.ntmps7
          go_wp2_with (first | ((with_reducible refine at_dst (N := 3) rfl ?_); refine ev_new #[.int .i64 x0, .slice A0 s0.length c0] 24 rfl ?hr ?_; (case hr => first | (go_simp; done) | (go_simp; rfl)); intro p0 wp0 ep0 zp0 BX Bp0; skip) | ((with_reducible refine at_dst (N := 4) rfl ?_); refine ev_new #[.int .i64 x1, .slice A1 s1.length c1] 24 rfl ?hr ?_; (case hr => first | (go_simp; done) | (go_simp; rfl)); intro p1 wp1 ep1 zp1 bb1 Bp1; replace BX := below2 BX bb1; replace Bp0 := Bp0.below bb1) | ((with_reducible refine at_dst (N := 5) rfl ?_); refine ev_new #[.int .i64 i2, .int .i64 j2] 37 rfl ?hr ?_; (case hr => first | (go_simp; done) | (go_simp; rfl)); intro p2 wp2 ep2 zp2 bb2 Bp2; replace BX := below2 BX bb2; replace Bp0 := Bp0.below bb2; replace Bp1 := Bp1.below bb2; have kp0_0 := Bp0.cell 0 rfl; have kp0_1 := Bp0.cell 1 rfl; have kp1_0 := Bp1.cell 0 rfl; have kp1_1 := Bp1.cell 1 rfl; have kp2_0 := Bp2.cell 0 rfl; have kp2_1 := Bp2.cell 1 rfl))
          replace hR0 := hR0.below BX
          replace hR1 := hR1.below BX
          have KK := trivial
          refine (few2 wp2 x0 A0 c0 s0 x1 A1 c1 s1 hR0 hF0 hR1 hF1).mono ?_
          rintro e W1 ⟨rfl, b1⟩
          rw [HB.out]
          replace BX := below2 BX b1
          replace hR0 := hR0.below b1
          replace hR1 := hR1.below b1
          replace Bp0 := Bp0.below b1
          replace Bp1 := Bp1.below b1
          replace Bp2 := Bp2.below b1
          clear b1 KK
          clear kp0_0 kp0_1 kp1_0 kp1_1 kp2_0 kp2_1
          have kBp0_0 := Bp0.cell 0 rfl
          have kBp0_1 := Bp0.cell 1 rfl
          have kBp1_0 := Bp1.cell 0 rfl
          have kBp1_1 := Bp1.cell 1 rfl
          have kBp2_0 := Bp2.cell 0 rfl
          have kBp2_1 := Bp2.cell 1 rfl
          go_wp2_with fail
          refine (mix_any x0 A0 c0 s0 x1 A1 c1 s1 i2 j2 _ (hG.below BX) hR0 hR1).mono ?_
          rw [HM.out]
          rintro e W2 ⟨⟨A2, c2, rfl, S2⟩, b2⟩
          dsimp only at S2 ⊢
          replace S2 := S2.any
          replace BX := below2 BX b2
          replace hR0 := hR0.below b2
          replace hR1 := hR1.below b2
          replace Bp0 := Bp0.below b2
          replace Bp1 := Bp1.below b2
          replace Bp2 := Bp2.below b2
          have Ba2 := below_alloc (Below.refl W2.heap.size W2) (.cells #[.int .i64 R, .slice A2 T.length c2] 24)
          have P2 : Blk (W2.alloc (.cells #[.int .i64 R, .slice A2 T.length c2] 24)) W2.heap.size #[.int .i64 R, .slice A2 T.length c2] 24 := heap_alloc_new W2 _
          replace BX := below2 BX Ba2
          replace hR0 := hR0.below Ba2
          replace hR1 := hR1.below Ba2
          replace Bp0 := Bp0.below Ba2
          replace Bp1 := Bp1.below Ba2
          replace Bp2 := Bp2.below Ba2
          replace S2 := S2.below Ba2
          clear Ba2
          clear kBp0_0 kBp0_1 kBp1_0 kBp1_1 kBp2_0 kBp2_1
          have kBp0_0 := Bp0.cell 0 rfl
          have kBp0_1 := Bp0.cell 1 rfl
          have kBp1_0 := Bp1.cell 0 rfl
          have kBp1_1 := Bp1.cell 1 rfl
          have kBp2_0 := Bp2.cell 0 rfl
          have kBp2_1 := Bp2.cell 1 rfl
          have kP2_0 := P2.cell 0 rfl
          have kP2_1 := P2.cell 1 rfl
          clear b2
          go_wp2_with fail
          refine (peak_any R A2 c2 T _ (hG.below BX) S2).mono ?_
          rw [HPK.out]
          rintro e W3 ⟨rfl, b3⟩
          dsimp only
          replace BX := below2 BX b3
          replace hR0 := hR0.below b3
          replace hR1 := hR1.below b3
          replace Bp0 := Bp0.below b3
          replace Bp1 := Bp1.below b3
          replace Bp2 := Bp2.below b3
          replace S2 := S2.below b3
          replace P2 := P2.below b3
          clear b3
          clear kBp0_0 kBp0_1 kBp1_0 kBp1_1 kBp2_0 kBp2_1 kP2_0 kP2_1
          have kBp0_0 := Bp0.cell 0 rfl
          have kBp0_1 := Bp0.cell 1 rfl
          have kBp1_0 := Bp1.cell 0 rfl
          have kBp1_1 := Bp1.cell 1 rfl
          have kBp2_0 := Bp2.cell 0 rfl
          have kBp2_1 := Bp2.cell 1 rfl
          have kP2_0 := P2.cell 0 rfl
          have kP2_1 := P2.cell 1 rfl
          go_wp2_with fail
          refine (refValid_any x0 A0 c0 s0 _ hR0).mono ?_
          rw [HV.out]
          rintro e W4 ⟨rfl, b4⟩
          replace BX := below2 BX b4
          replace hR0 := hR0.below b4
          replace hR1 := hR1.below b4
          replace Bp0 := Bp0.below b4
          replace Bp1 := Bp1.below b4
          replace Bp2 := Bp2.below b4
          replace S2 := S2.below b4
          replace P2 := P2.below b4
          clear b4
          clear kBp0_0 kBp0_1 kBp1_0 kBp1_1 kBp2_0 kBp2_1 kP2_0 kP2_1
          have kBp0_0 := Bp0.cell 0 rfl
          have kBp0_1 := Bp0.cell 1 rfl
          have kBp1_0 := Bp1.cell 0 rfl
          have kBp1_1 := Bp1.cell 1 rfl
          have kBp2_0 := Bp2.cell 0 rfl
          have kBp2_1 := Bp2.cell 1 rfl
          have kP2_0 := P2.cell 0 rfl
          have kP2_1 := P2.cell 1 rfl
          go_wp2_with fail
          refine (refValid_any x1 A1 c1 s1 _ hR1).mono ?_
          rw [HV1.out]
          rintro e W5 ⟨rfl, b5⟩
          replace BX := below2 BX b5
          replace hR0 := hR0.below b5
          replace hR1 := hR1.below b5
          replace Bp0 := Bp0.below b5
          replace Bp1 := Bp1.below b5
          replace Bp2 := Bp2.below b5
          replace S2 := S2.below b5
          replace P2 := P2.below b5
          clear b5
          clear kBp0_0 kBp0_1 kBp1_0 kBp1_1 kBp2_0 kBp2_1 kP2_0 kP2_1
          have kBp0_0 := Bp0.cell 0 rfl
          have kBp0_1 := Bp0.cell 1 rfl
          have kBp1_0 := Bp1.cell 0 rfl
          have kBp1_1 := Bp1.cell 1 rfl
          have kBp2_0 := Bp2.cell 0 rfl
          have kBp2_1 := Bp2.cell 1 rfl
          have kP2_0 := P2.cell 0 rfl
          have kP2_1 := P2.cell 1 rfl
          go_wp2_with fail
          refine (mix_any x0 A0 c0 s0 x1 A1 c1 s1 256 0 _ (hG.below BX) hR0 hR1).mono ?_
          rw [HM2.out]
          rintro e W6 ⟨⟨A6, c6, rfl, S6⟩, b6⟩
          dsimp only at S6 ⊢
          replace S6 := S6.any
          replace BX := below2 BX b6
          replace hR0 := hR0.below b6
          replace hR1 := hR1.below b6
          replace Bp0 := Bp0.below b6
          replace Bp1 := Bp1.below b6
          replace Bp2 := Bp2.below b6
          replace S2 := S2.below b6
          replace P2 := P2.below b6
          have Ba6 := below_alloc (Below.refl W6.heap.size W6) (.cells #[.int .i64 R2, .slice A6 T2.length c6] 24)
          have P6 : Blk (W6.alloc (.cells #[.int .i64 R2, .slice A6 T2.length c6] 24)) W6.heap.size #[.int .i64 R2, .slice A6 T2.length c6] 24 := heap_alloc_new W6 _
          replace BX := below2 BX Ba6
          replace hR0 := hR0.below Ba6
          replace hR1 := hR1.below Ba6
          replace Bp0 := Bp0.below Ba6
          replace Bp1 := Bp1.below Ba6
          replace Bp2 := Bp2.below Ba6
          replace S2 := S2.below Ba6
          replace P2 := P2.below Ba6
          replace S6 := S6.below Ba6
          clear Ba6
          clear kBp0_0 kBp0_1 kBp1_0 kBp1_1 kBp2_0 kBp2_1 kP2_0 kP2_1
          have kBp0_0 := Bp0.cell 0 rfl
          have kBp0_1 := Bp0.cell 1 rfl
          have kBp1_0 := Bp1.cell 0 rfl
          have kBp1_1 := Bp1.cell 1 rfl
          have kBp2_0 := Bp2.cell 0 rfl
          have kBp2_1 := Bp2.cell 1 rfl
          have kP2_0 := P2.cell 0 rfl
          have kP2_1 := P2.cell 1 rfl
          have kP6_0 := P6.cell 0 rfl
          have kP6_1 := P6.cell 1 rfl
          clear b6
          go_wp2_with fail
          generalize hWL : (W6.alloc (.cells #[.int .i64 R2, .slice A6 T2.length c6] 24)) = WL at hR0 hR1 Bp0 Bp1 Bp2 S2 P2 S6 P6 BX ⊢
          clear hWL
          clear kBp0_0 kBp0_1 kBp1_0 kBp1_1 kBp2_0 kBp2_1 kP2_0 kP2_1 kP6_0 kP6_1
          have D := (Below.refl WL.heap.size WL).drew
          refine wp_region_G 14 (fun W => W.cell? ⟨p0, 0, none⟩ = some (.int .i64 x0) ∧ W.cell? ⟨p0, 1, none⟩ = some (.slice A0 s0.length c0) ∧ W.cell? ⟨p1, 0, none⟩ = some (.int .i64 x1) ∧ W.cell? ⟨p1, 1, none⟩ = some (.slice A1 s1.length c1) ∧ W.cell? ⟨W6.heap.size, 0, none⟩ = some (.int .i64 R2) ∧ W.cell? ⟨W6.heap.size, 1, none⟩ = some (.slice A6 T2.length c6)) (by kernel_rfl) ⟨(Bp0.below D).cell 0 rfl, (Bp0.below D).cell 1 rfl, (Bp1.below D).cell 0 rfl, (Bp1.below D).cell 1 rfl, (P6.below D).cell 0 rfl, (P6.below D).cell 1 rfl⟩ (fun hHeld => ?_)
          refine wpAnyG_takeL (i := 0) (.int .i64 0) [1, 2, 14] rfl (by kernel_rfl) (fun _ _ _ h => h) hHeld (by rfl) ?_ ?_
          · (intro W hSw; (try dsimp only at hSw); go_simp)
          try simp only [Act.put, List.setIfInBounds_toArray, List.set_cons_zero, List.set_cons_succ]
          refine wpAnyG_takeL (i := 1) (.bool false) [2, 14] rfl (by kernel_rfl) (fun _ _ _ h => h) hHeld (by rfl) ?_ ?_
          · (intro W hSw; (try dsimp only at hSw); go_simp)
          try simp only [Act.put, List.setIfInBounds_toArray, List.set_cons_zero, List.set_cons_succ]
          refine wpAnyG_takeL (i := 2) (.bool false) [14] rfl (by kernel_rfl) (fun _ _ _ h => h) hHeld (by rfl) ?_ ?_
          · (intro W hSw; (try dsimp only at hSw); go_simp)
          try simp only [Act.put, List.setIfInBounds_toArray, List.set_cons_zero, List.set_cons_succ]
          refine wpAnyG_takeL (i := 3) (.agg #[.int .i64 x1, .slice A1 s1.length c1]) [4, 7, 8, 13, 14] rfl (by kernel_rfl) (fun _ _ _ h => h) hHeld (by rfl) ?_ ?_
          · (intro W hSw; (try dsimp only at hSw); go_simp)
          try simp only [Act.put, List.setIfInBounds_toArray, List.set_cons_zero, List.set_cons_succ]
          refine wpAnyG_takeL (i := 5) (.agg #[.int .i64 x0, .slice A0 s0.length c0]) [6, 7, 8, 13, 14] rfl (by kernel_rfl) (fun _ _ _ h => h) hHeld (by rfl) ?_ ?_
          · (intro W hSw; (try dsimp only at hSw); go_simp)
          try simp only [Act.put, List.setIfInBounds_toArray, List.set_cons_zero, List.set_cons_succ]
          refine wpAnyG_oneL (i := 4) (by kernel_rfl) rfl (fun K hK => ?_)
          (go_simp; go_at_call 34; refine (refLen_any x1 A1 c1 s1 _ (hR1.below D) h11).mono ?_; rw [HN1.out]; rintro e V1 ⟨rfl, b⟩; have D1 := below2 D b; clear b)
          clear hHeld
          have hHeld := (show V1.cell? ⟨p0, 0, none⟩ = some (.int .i64 x0) ∧ V1.cell? ⟨p0, 1, none⟩ = some (.slice A0 s0.length c0) ∧ V1.cell? ⟨p1, 0, none⟩ = some (.int .i64 x1) ∧ V1.cell? ⟨p1, 1, none⟩ = some (.slice A1 s1.length c1) ∧ V1.cell? ⟨W6.heap.size, 0, none⟩ = some (.int .i64 R2) ∧ V1.cell? ⟨W6.heap.size, 1, none⟩ = some (.slice A6 T2.length c6) from ⟨(Bp0.below D1).cell 0 rfl, (Bp0.below D1).cell 1 rfl, (Bp1.below D1).cell 0 rfl, (Bp1.below D1).cell 1 rfl, (P6.below D1).cell 0 rfl, (P6.below D1).cell 1 rfl⟩)
          refine hK.out _ _ (fun _ => hHeld) ?_
          clear hK K
          try simp only [Act.put, List.setIfInBounds_toArray, List.set_cons_zero, List.set_cons_succ]
          refine wpAnyG_oneL (i := 6) (by kernel_rfl) rfl (fun K hK => ?_)
          (go_simp; go_at_call 34; refine (refLen_any x0 A0 c0 s0 _ (hR0.below D1) h1).mono ?_; rw [HN0.out]; rintro e V2 ⟨rfl, b⟩; have D2 := below2 D1 b; clear b)
          clear hHeld
          have hHeld := (show V2.cell? ⟨p0, 0, none⟩ = some (.int .i64 x0) ∧ V2.cell? ⟨p0, 1, none⟩ = some (.slice A0 s0.length c0) ∧ V2.cell? ⟨p1, 0, none⟩ = some (.int .i64 x1) ∧ V2.cell? ⟨p1, 1, none⟩ = some (.slice A1 s1.length c1) ∧ V2.cell? ⟨W6.heap.size, 0, none⟩ = some (.int .i64 R2) ∧ V2.cell? ⟨W6.heap.size, 1, none⟩ = some (.slice A6 T2.length c6) from ⟨(Bp0.below D2).cell 0 rfl, (Bp0.below D2).cell 1 rfl, (Bp1.below D2).cell 0 rfl, (Bp1.below D2).cell 1 rfl, (P6.below D2).cell 0 rfl, (P6.below D2).cell 1 rfl⟩)
          refine hK.out _ _ (fun _ => hHeld) ?_
          clear hK K
          try simp only [Act.put, List.setIfInBounds_toArray, List.set_cons_zero, List.set_cons_succ]
          refine wpAnyG_takeL (i := 7) (.bool false) [8, 13, 14] rfl (by kernel_rfl) (fun _ _ _ h => h) hHeld (by rfl) ?_ ?_
          · (intro W hSw; (try dsimp only at hSw); go_simp)
          try simp only [Act.put, List.setIfInBounds_toArray, List.set_cons_zero, List.set_cons_succ]
          refine wpAnyG_takeL (i := 8) (.bool false) [13, 14] rfl (by kernel_rfl) (fun _ _ _ h => h) hHeld (by rfl) ?_ ?_
          · (intro W hSw; (try dsimp only at hSw); go_simp)
          try simp only [Act.put, List.setIfInBounds_toArray, List.set_cons_zero, List.set_cons_succ]
          refine wpAnyG_dropL (i := 9) [11, 12, 13, 14] rfl (by kernel_rfl) (fun _ _ _ h => h) hHeld (by rfl) ?_
          try simp only [Act.put, List.setIfInBounds_toArray, List.set_cons_zero, List.set_cons_succ]
          refine wpAnyG_dropL (i := 10) [11, 12, 13, 14] rfl (by kernel_rfl) (fun _ _ _ h => h) hHeld (by rfl) ?_
          try simp only [Act.put, List.setIfInBounds_toArray, List.set_cons_zero, List.set_cons_succ]
          refine wpAnyG_dropL (i := 11) [12, 13, 14] rfl (by kernel_rfl) (fun _ _ _ h => h) hHeld (by rfl) ?_
          try simp only [Act.put, List.setIfInBounds_toArray, List.set_cons_zero, List.set_cons_succ]
          refine wpAnyG_dropL (i := 12) [13, 14] rfl (by kernel_rfl) (fun _ _ _ h => h) hHeld (by rfl) ?_
          try simp only [Act.put, List.setIfInBounds_toArray, List.set_cons_zero, List.set_cons_succ]
          refine wpAnyG_takeL (i := 13) (.bool false) [14] rfl (by kernel_rfl) (fun _ _ _ h => h) hHeld (by rfl) ?_ ?_
          · (intro W hSw; (try dsimp only at hSw); go_simp)
          try simp only [Act.put, List.setIfInBounds_toArray, List.set_cons_zero, List.set_cons_succ]
          refine wpAnyG_oneL (i := 14) (by kernel_rfl) rfl (fun K hK => ?_)
          go_simp
          refine hK.out _ _ (fun h => Bool.noConfusion (show true = false from h)) ?_
          clear hK K
          try simp only [Act.put, List.setIfInBounds_toArray, List.set_cons_zero, List.set_cons_succ]
          refine wpAnyG_done (by kernel_rfl) ?_ _
          replace BX := below2 BX D2
          replace hR0 := hR0.below D2
          replace hR1 := hR1.below D2
          replace Bp0 := Bp0.below D2
          replace Bp1 := Bp1.below D2
          replace Bp2 := Bp2.below D2
          replace S2 := S2.below D2
          replace P2 := P2.below D2
          replace S6 := S6.below D2
          replace P6 := P6.below D2
          have kBp0_0 := Bp0.cell 0 rfl
          have kBp0_1 := Bp0.cell 1 rfl
          have kBp1_0 := Bp1.cell 0 rfl
          have kBp1_1 := Bp1.cell 1 rfl
          have kBp2_0 := Bp2.cell 0 rfl
          have kBp2_1 := Bp2.cell 1 rfl
          have kP2_0 := P2.cell 0 rfl
          have kP2_1 := P2.cell 1 rfl
          have kP6_0 := P6.cell 0 rfl
          have kP6_1 := P6.cell 1 rfl
          go_wp2_with fail
          refine (refValid_any x0 A0 c0 s0 _ hR0).mono ?_
          rw [HV.out]
          rintro e W12 ⟨rfl, b12⟩
          replace BX := below2 BX b12
          replace hR0 := hR0.below b12
          replace hR1 := hR1.below b12
          replace Bp0 := Bp0.below b12
          replace Bp1 := Bp1.below b12
          replace Bp2 := Bp2.below b12
          replace S2 := S2.below b12
          replace P2 := P2.below b12
          replace S6 := S6.below b12
          replace P6 := P6.below b12
          clear b12
          clear kBp0_0 kBp0_1 kBp1_0 kBp1_1 kBp2_0 kBp2_1 kP2_0 kP2_1 kP6_0 kP6_1
          have kBp0_0 := Bp0.cell 0 rfl
          have kBp0_1 := Bp0.cell 1 rfl
          have kBp1_0 := Bp1.cell 0 rfl
          have kBp1_1 := Bp1.cell 1 rfl
          have kBp2_0 := Bp2.cell 0 rfl
          have kBp2_1 := Bp2.cell 1 rfl
          have kP2_0 := P2.cell 0 rfl
          have kP2_1 := P2.cell 1 rfl
          have kP6_0 := P6.cell 0 rfl
          have kP6_1 := P6.cell 1 rfl
          go_wp2_with fail
          refine (awake_any _ (hG.below BX)).mono ?_
          rintro e W13 ⟨rfl, b13⟩
          replace BX := below2 BX b13
          go_wp2_with fail
          go_ret
          exact ⟨rfl, BX⟩
        · have hlen : ¬ (1 : Int) < (s0.length : Int) := by omega
          have hone : s0.length = 1 := by have := (valid_facts hv).one; omega
          have HWD := Lib.hid (mono_wide hv hone).1
          have HMO := Lib.hid (mono_wide hv hone).2
          clear hone
          clear hv hv1 hl1
          go_enter Tryd.func7, Tryd.ntmps7
          go_wp2_with (first | ((with_reducible refine at_dst (N := 3) rfl ?_); refine ev_new #[.int .i64 x0, .slice A0 s0.length c0] 24 rfl ?hr ?_; (case hr => first | (go_simp; done) | (go_simp; rfl)); intro p0 wp0 ep0 zp0 BX Bp0; skip) | ((with_reducible refine at_dst (N := 4) rfl ?_); refine ev_new #[.int .i64 x1, .slice A1 s1.length c1] 24 rfl ?hr ?_; (case hr => first | (go_simp; done) | (go_simp; rfl)); intro p1 wp1 ep1 zp1 bb1 Bp1; replace BX := below2 BX bb1; replace Bp0 := Bp0.below bb1) | ((with_reducible refine at_dst (N := 5) rfl ?_); refine ev_new #[.int .i64 i2, .int .i64 j2] 37 rfl ?hr ?_; (case hr => first | (go_simp; done) | (go_simp; rfl)); intro p2 wp2 ep2 zp2 bb2 Bp2; replace BX := below2 BX bb2; replace Bp0 := Bp0.below bb2; replace Bp1 := Bp1.below bb2; have kp0_0 := Bp0.cell 0 rfl; have kp0_1 := Bp0.cell 1 rfl; have kp1_0 := Bp1.cell 0 rfl; have kp1_1 := Bp1.cell 1 rfl; have kp2_0 := Bp2.cell 0 rfl; have kp2_1 := Bp2.cell 1 rfl))
          replace hR0 := hR0.below BX
          replace hR1 := hR1.below BX
          have KK := trivial
          refine (few2 wp2 x0 A0 c0 s0 x1 A1 c1 s1 hR0 hF0 hR1 hF1).mono ?_
          rintro e W1 ⟨rfl, b1⟩
          rw [HB.out]
          replace BX := below2 BX b1
          replace hR0 := hR0.below b1
          replace hR1 := hR1.below b1
          replace Bp0 := Bp0.below b1
          replace Bp1 := Bp1.below b1
          replace Bp2 := Bp2.below b1
          clear b1 KK
          clear kp0_0 kp0_1 kp1_0 kp1_1 kp2_0 kp2_1
          have kBp0_0 := Bp0.cell 0 rfl
          have kBp0_1 := Bp0.cell 1 rfl
          have kBp1_0 := Bp1.cell 0 rfl
          have kBp1_1 := Bp1.cell 1 rfl
          have kBp2_0 := Bp2.cell 0 rfl
          have kBp2_1 := Bp2.cell 1 rfl
          go_wp2_with fail
          refine (mix_any x0 A0 c0 s0 x1 A1 c1 s1 i2 j2 _ (hG.below BX) hR0 hR1).mono ?_
          rw [HM.out]
          rintro e W2 ⟨⟨A2, c2, rfl, S2⟩, b2⟩
          dsimp only at S2 ⊢
          replace S2 := S2.any
          replace BX := below2 BX b2
          replace hR0 := hR0.below b2
          replace hR1 := hR1.below b2
          replace Bp0 := Bp0.below b2
          replace Bp1 := Bp1.below b2
          replace Bp2 := Bp2.below b2
          have Ba2 := below_alloc (Below.refl W2.heap.size W2) (.cells #[.int .i64 R, .slice A2 T.length c2] 24)
          have P2 : Blk (W2.alloc (.cells #[.int .i64 R, .slice A2 T.length c2] 24)) W2.heap.size #[.int .i64 R, .slice A2 T.length c2] 24 := heap_alloc_new W2 _
          replace BX := below2 BX Ba2
          replace hR0 := hR0.below Ba2
          replace hR1 := hR1.below Ba2
          replace Bp0 := Bp0.below Ba2
          replace Bp1 := Bp1.below Ba2
          replace Bp2 := Bp2.below Ba2
          replace S2 := S2.below Ba2
          clear Ba2
          clear kBp0_0 kBp0_1 kBp1_0 kBp1_1 kBp2_0 kBp2_1
          have kBp0_0 := Bp0.cell 0 rfl
          have kBp0_1 := Bp0.cell 1 rfl
          have kBp1_0 := Bp1.cell 0 rfl
          have kBp1_1 := Bp1.cell 1 rfl
          have kBp2_0 := Bp2.cell 0 rfl
          have kBp2_1 := Bp2.cell 1 rfl
          have kP2_0 := P2.cell 0 rfl
          have kP2_1 := P2.cell 1 rfl
          clear b2
          go_wp2_with fail
          refine (peak_any R A2 c2 T _ (hG.below BX) S2).mono ?_
          rw [HPK.out]
          rintro e W3 ⟨rfl, b3⟩
          dsimp only
          replace BX := below2 BX b3
          replace hR0 := hR0.below b3
          replace hR1 := hR1.below b3
          replace Bp0 := Bp0.below b3
          replace Bp1 := Bp1.below b3
          replace Bp2 := Bp2.below b3
          replace S2 := S2.below b3
          replace P2 := P2.below b3
          clear b3
          clear kBp0_0 kBp0_1 kBp1_0 kBp1_1 kBp2_0 kBp2_1 kP2_0 kP2_1
          have kBp0_0 := Bp0.cell 0 rfl
          have kBp0_1 := Bp0.cell 1 rfl
          have kBp1_0 := Bp1.cell 0 rfl
          have kBp1_1 := Bp1.cell 1 rfl
          have kBp2_0 := Bp2.cell 0 rfl
          have kBp2_1 := Bp2.cell 1 rfl
          have kP2_0 := P2.cell 0 rfl
          have kP2_1 := P2.cell 1 rfl
          go_wp2_with fail
          refine (refValid_any x0 A0 c0 s0 _ hR0).mono ?_
          rw [HV.out]
          rintro e W4 ⟨rfl, b4⟩
          replace BX := below2 BX b4
          replace hR0 := hR0.below b4
          replace hR1 := hR1.below b4
          replace Bp0 := Bp0.below b4
          replace Bp1 := Bp1.below b4
          replace Bp2 := Bp2.below b4
          replace S2 := S2.below b4
          replace P2 := P2.below b4
          clear b4
          clear kBp0_0 kBp0_1 kBp1_0 kBp1_1 kBp2_0 kBp2_1 kP2_0 kP2_1
          have kBp0_0 := Bp0.cell 0 rfl
          have kBp0_1 := Bp0.cell 1 rfl
          have kBp1_0 := Bp1.cell 0 rfl
          have kBp1_1 := Bp1.cell 1 rfl
          have kBp2_0 := Bp2.cell 0 rfl
          have kBp2_1 := Bp2.cell 1 rfl
          have kP2_0 := P2.cell 0 rfl
          have kP2_1 := P2.cell 1 rfl
          go_wp2_with fail
          refine (refValid_any x1 A1 c1 s1 _ hR1).mono ?_
          rw [HV1.out]
          rintro e W5 ⟨rfl, b5⟩
          replace BX := below2 BX b5
          replace hR0 := hR0.below b5
          replace hR1 := hR1.below b5
          replace Bp0 := Bp0.below b5
          replace Bp1 := Bp1.below b5
          replace Bp2 := Bp2.below b5
          replace S2 := S2.below b5
          replace P2 := P2.below b5
          clear b5
          clear kBp0_0 kBp0_1 kBp1_0 kBp1_1 kBp2_0 kBp2_1 kP2_0 kP2_1
          have kBp0_0 := Bp0.cell 0 rfl
          have kBp0_1 := Bp0.cell 1 rfl
          have kBp1_0 := Bp1.cell 0 rfl
          have kBp1_1 := Bp1.cell 1 rfl
          have kBp2_0 := Bp2.cell 0 rfl
          have kBp2_1 := Bp2.cell 1 rfl
          have kP2_0 := P2.cell 0 rfl
          have kP2_1 := P2.cell 1 rfl
          go_wp2_with fail
          refine (mix_any x0 A0 c0 s0 x1 A1 c1 s1 256 0 _ (hG.below BX) hR0 hR1).mono ?_
          rw [HM2.out]
          rintro e W6 ⟨⟨A6, c6, rfl, S6⟩, b6⟩
          dsimp only at S6 ⊢
          replace S6 := S6.any
          replace BX := below2 BX b6
          replace hR0 := hR0.below b6
          replace hR1 := hR1.below b6
          replace Bp0 := Bp0.below b6
          replace Bp1 := Bp1.below b6
          replace Bp2 := Bp2.below b6
          replace S2 := S2.below b6
          replace P2 := P2.below b6
          have Ba6 := below_alloc (Below.refl W6.heap.size W6) (.cells #[.int .i64 R2, .slice A6 T2.length c6] 24)
          have P6 : Blk (W6.alloc (.cells #[.int .i64 R2, .slice A6 T2.length c6] 24)) W6.heap.size #[.int .i64 R2, .slice A6 T2.length c6] 24 := heap_alloc_new W6 _
          replace BX := below2 BX Ba6
          replace hR0 := hR0.below Ba6
          replace hR1 := hR1.below Ba6
          replace Bp0 := Bp0.below Ba6
          replace Bp1 := Bp1.below Ba6
          replace Bp2 := Bp2.below Ba6
          replace S2 := S2.below Ba6
          replace P2 := P2.below Ba6
          replace S6 := S6.below Ba6
          clear Ba6
          clear kBp0_0 kBp0_1 kBp1_0 kBp1_1 kBp2_0 kBp2_1 kP2_0 kP2_1
          have kBp0_0 := Bp0.cell 0 rfl
          have kBp0_1 := Bp0.cell 1 rfl
          have kBp1_0 := Bp1.cell 0 rfl
          have kBp1_1 := Bp1.cell 1 rfl
          have kBp2_0 := Bp2.cell 0 rfl
          have kBp2_1 := Bp2.cell 1 rfl
          have kP2_0 := P2.cell 0 rfl
          have kP2_1 := P2.cell 1 rfl
          have kP6_0 := P6.cell 0 rfl
          have kP6_1 := P6.cell 1 rfl
          clear b6
          go_wp2_with fail
          generalize hWL : (W6.alloc (.cells #[.int .i64 R2, .slice A6 T2.length c6] 24)) = WL at hR0 hR1 Bp0 Bp1 Bp2 S2 P2 S6 P6 BX ⊢
          clear hWL
          clear kBp0_0 kBp0_1 kBp1_0 kBp1_1 kBp2_0 kBp2_1 kP2_0 kP2_1 kP6_0 kP6_1
          have D := (Below.refl WL.heap.size WL).drew
          refine wp_region_G 14 (fun W => W.cell? ⟨p0, 0, none⟩ = some (.int .i64 x0) ∧ W.cell? ⟨p0, 1, none⟩ = some (.slice A0 s0.length c0) ∧ W.cell? ⟨p1, 0, none⟩ = some (.int .i64 x1) ∧ W.cell? ⟨p1, 1, none⟩ = some (.slice A1 s1.length c1) ∧ W.cell? ⟨W6.heap.size, 0, none⟩ = some (.int .i64 R2) ∧ W.cell? ⟨W6.heap.size, 1, none⟩ = some (.slice A6 T2.length c6)) (by kernel_rfl) ⟨(Bp0.below D).cell 0 rfl, (Bp0.below D).cell 1 rfl, (Bp1.below D).cell 0 rfl, (Bp1.below D).cell 1 rfl, (P6.below D).cell 0 rfl, (P6.below D).cell 1 rfl⟩ (fun hHeld => ?_)
          refine wpAnyG_takeL (i := 0) (.int .i64 0) [1, 2, 14] rfl (by kernel_rfl) (fun _ _ _ h => h) hHeld (by rfl) ?_ ?_
          · (intro W hSw; (try dsimp only at hSw); go_simp)
          try simp only [Act.put, List.setIfInBounds_toArray, List.set_cons_zero, List.set_cons_succ]
          refine wpAnyG_takeL (i := 1) (.bool false) [2, 14] rfl (by kernel_rfl) (fun _ _ _ h => h) hHeld (by rfl) ?_ ?_
          · (intro W hSw; (try dsimp only at hSw); go_simp)
          try simp only [Act.put, List.setIfInBounds_toArray, List.set_cons_zero, List.set_cons_succ]
          refine wpAnyG_takeL (i := 2) (.bool false) [14] rfl (by kernel_rfl) (fun _ _ _ h => h) hHeld (by rfl) ?_ ?_
          · (intro W hSw; (try dsimp only at hSw); go_simp)
          try simp only [Act.put, List.setIfInBounds_toArray, List.set_cons_zero, List.set_cons_succ]
          refine wpAnyG_takeL (i := 3) (.agg #[.int .i64 x1, .slice A1 s1.length c1]) [4, 7, 8, 13, 14] rfl (by kernel_rfl) (fun _ _ _ h => h) hHeld (by rfl) ?_ ?_
          · (intro W hSw; (try dsimp only at hSw); go_simp)
          try simp only [Act.put, List.setIfInBounds_toArray, List.set_cons_zero, List.set_cons_succ]
          refine wpAnyG_takeL (i := 5) (.agg #[.int .i64 x0, .slice A0 s0.length c0]) [6, 7, 8, 13, 14] rfl (by kernel_rfl) (fun _ _ _ h => h) hHeld (by rfl) ?_ ?_
          · (intro W hSw; (try dsimp only at hSw); go_simp)
          try simp only [Act.put, List.setIfInBounds_toArray, List.set_cons_zero, List.set_cons_succ]
          refine wpAnyG_oneL (i := 4) (by kernel_rfl) rfl (fun K hK => ?_)
          (go_simp; go_at_call 34; refine (refLen_any x1 A1 c1 s1 _ (hR1.below D) h11).mono ?_; rw [HN1.out]; rintro e V1 ⟨rfl, b⟩; have D1 := below2 D b; clear b)
          clear hHeld
          have hHeld := (show V1.cell? ⟨p0, 0, none⟩ = some (.int .i64 x0) ∧ V1.cell? ⟨p0, 1, none⟩ = some (.slice A0 s0.length c0) ∧ V1.cell? ⟨p1, 0, none⟩ = some (.int .i64 x1) ∧ V1.cell? ⟨p1, 1, none⟩ = some (.slice A1 s1.length c1) ∧ V1.cell? ⟨W6.heap.size, 0, none⟩ = some (.int .i64 R2) ∧ V1.cell? ⟨W6.heap.size, 1, none⟩ = some (.slice A6 T2.length c6) from ⟨(Bp0.below D1).cell 0 rfl, (Bp0.below D1).cell 1 rfl, (Bp1.below D1).cell 0 rfl, (Bp1.below D1).cell 1 rfl, (P6.below D1).cell 0 rfl, (P6.below D1).cell 1 rfl⟩)
          refine hK.out _ _ (fun _ => hHeld) ?_
          clear hK K
          try simp only [Act.put, List.setIfInBounds_toArray, List.set_cons_zero, List.set_cons_succ]
          refine wpAnyG_oneL (i := 6) (by kernel_rfl) rfl (fun K hK => ?_)
          (go_simp; go_at_call 34; refine (refLen_any x0 A0 c0 s0 _ (hR0.below D1) h1).mono ?_; rw [HN0.out]; rintro e V2 ⟨rfl, b⟩; have D2 := below2 D1 b; clear b)
          clear hHeld
          have hHeld := (show V2.cell? ⟨p0, 0, none⟩ = some (.int .i64 x0) ∧ V2.cell? ⟨p0, 1, none⟩ = some (.slice A0 s0.length c0) ∧ V2.cell? ⟨p1, 0, none⟩ = some (.int .i64 x1) ∧ V2.cell? ⟨p1, 1, none⟩ = some (.slice A1 s1.length c1) ∧ V2.cell? ⟨W6.heap.size, 0, none⟩ = some (.int .i64 R2) ∧ V2.cell? ⟨W6.heap.size, 1, none⟩ = some (.slice A6 T2.length c6) from ⟨(Bp0.below D2).cell 0 rfl, (Bp0.below D2).cell 1 rfl, (Bp1.below D2).cell 0 rfl, (Bp1.below D2).cell 1 rfl, (P6.below D2).cell 0 rfl, (P6.below D2).cell 1 rfl⟩)
          refine hK.out _ _ (fun _ => hHeld) ?_
          clear hK K
          try simp only [Act.put, List.setIfInBounds_toArray, List.set_cons_zero, List.set_cons_succ]
          refine wpAnyG_takeL (i := 7) (.bool false) [8, 13, 14] rfl (by kernel_rfl) (fun _ _ _ h => h) hHeld (by rfl) ?_ ?_
          · (intro W hSw; (try dsimp only at hSw); go_simp)
          try simp only [Act.put, List.setIfInBounds_toArray, List.set_cons_zero, List.set_cons_succ]
          refine wpAnyG_takeL (i := 8) (.bool false) [13, 14] rfl (by kernel_rfl) (fun _ _ _ h => h) hHeld (by rfl) ?_ ?_
          · (intro W hSw; (try dsimp only at hSw); go_simp)
          try simp only [Act.put, List.setIfInBounds_toArray, List.set_cons_zero, List.set_cons_succ]
          refine wpAnyG_dropL (i := 9) [11, 12, 13, 14] rfl (by kernel_rfl) (fun _ _ _ h => h) hHeld (by rfl) ?_
          try simp only [Act.put, List.setIfInBounds_toArray, List.set_cons_zero, List.set_cons_succ]
          refine wpAnyG_dropL (i := 10) [11, 12, 13, 14] rfl (by kernel_rfl) (fun _ _ _ h => h) hHeld (by rfl) ?_
          try simp only [Act.put, List.setIfInBounds_toArray, List.set_cons_zero, List.set_cons_succ]
          refine wpAnyG_dropL (i := 11) [12, 13, 14] rfl (by kernel_rfl) (fun _ _ _ h => h) hHeld (by rfl) ?_
          try simp only [Act.put, List.setIfInBounds_toArray, List.set_cons_zero, List.set_cons_succ]
          refine wpAnyG_dropL (i := 12) [13, 14] rfl (by kernel_rfl) (fun _ _ _ h => h) hHeld (by rfl) ?_
          try simp only [Act.put, List.setIfInBounds_toArray, List.set_cons_zero, List.set_cons_succ]
          refine wpAnyG_takeL (i := 13) (.bool false) [14] rfl (by kernel_rfl) (fun _ _ _ h => h) hHeld (by rfl) ?_ ?_
          · (intro W hSw; (try dsimp only at hSw); go_simp)
          try simp only [Act.put, List.setIfInBounds_toArray, List.set_cons_zero, List.set_cons_succ]
          refine wpAnyG_oneL (i := 14) (by kernel_rfl) rfl (fun K hK => ?_)
          go_simp
          refine hK.out _ _ (fun h => Bool.noConfusion (show true = false from h)) ?_
          clear hK K
          try simp only [Act.put, List.setIfInBounds_toArray, List.set_cons_zero, List.set_cons_succ]
          refine wpAnyG_done (by kernel_rfl) ?_ _
          replace BX := below2 BX D2
          replace hR0 := hR0.below D2
          replace hR1 := hR1.below D2
          replace Bp0 := Bp0.below D2
          replace Bp1 := Bp1.below D2
          replace Bp2 := Bp2.below D2
          replace S2 := S2.below D2
          replace P2 := P2.below D2
          replace S6 := S6.below D2
          replace P6 := P6.below D2
          have kBp0_0 := Bp0.cell 0 rfl
          have kBp0_1 := Bp0.cell 1 rfl
          have kBp1_0 := Bp1.cell 0 rfl
          have kBp1_1 := Bp1.cell 1 rfl
          have kBp2_0 := Bp2.cell 0 rfl
          have kBp2_1 := Bp2.cell 1 rfl
          have kP2_0 := P2.cell 0 rfl
          have kP2_1 := P2.cell 1 rfl
          have kP6_0 := P6.cell 0 rfl
          have kP6_1 := P6.cell 1 rfl
          go_wp2_with fail
          refine (refValid_any x0 A0 c0 s0 _ hR0).mono ?_
          rw [HV.out]
          rintro e W12 ⟨rfl, b12⟩
          replace BX := below2 BX b12
          replace hR0 := hR0.below b12
          replace hR1 := hR1.below b12
          replace Bp0 := Bp0.below b12
          replace Bp1 := Bp1.below b12
          replace Bp2 := Bp2.below b12
          replace S2 := S2.below b12
          replace P2 := P2.below b12
          replace S6 := S6.below b12
          replace P6 := P6.below b12
          clear b12
          clear kBp0_0 kBp0_1 kBp1_0 kBp1_1 kBp2_0 kBp2_1 kP2_0 kP2_1 kP6_0 kP6_1
          have kBp0_0 := Bp0.cell 0 rfl
          have kBp0_1 := Bp0.cell 1 rfl
          have kBp1_0 := Bp1.cell 0 rfl
          have kBp1_1 := Bp1.cell 1 rfl
          have kBp2_0 := Bp2.cell 0 rfl
          have kBp2_1 := Bp2.cell 1 rfl
          have kP2_0 := P2.cell 0 rfl
          have kP2_1 := P2.cell 1 rfl
          have kP6_0 := P6.cell 0 rfl
          have kP6_1 := P6.cell 1 rfl
          go_wp2_with fail
          refine (wide_any x0 A0 c0 s0 _ (hG.below BX) hR0).mono ?_
          rw [HWD.out]
          rintro e W13 ⟨⟨A13, c13, rfl, S13⟩, b13⟩
          dsimp only at S13 ⊢
          replace S13 := S13.any
          replace BX := below2 BX b13
          replace hR0 := hR0.below b13
          replace hR1 := hR1.below b13
          replace Bp0 := Bp0.below b13
          replace Bp1 := Bp1.below b13
          replace Bp2 := Bp2.below b13
          replace S2 := S2.below b13
          replace P2 := P2.below b13
          replace S6 := S6.below b13
          replace P6 := P6.below b13
          have Ba13 := below_alloc (Below.refl W13.heap.size W13) (.cells #[.int .i64 x0, .slice A13 [nth [] s0 0, nth [] s0 0].length c13] 24)
          have P13 : Blk (W13.alloc (.cells #[.int .i64 x0, .slice A13 [nth [] s0 0, nth [] s0 0].length c13] 24)) W13.heap.size #[.int .i64 x0, .slice A13 [nth [] s0 0, nth [] s0 0].length c13] 24 := heap_alloc_new W13 _
          replace BX := below2 BX Ba13
          replace hR0 := hR0.below Ba13
          replace hR1 := hR1.below Ba13
          replace Bp0 := Bp0.below Ba13
          replace Bp1 := Bp1.below Ba13
          replace Bp2 := Bp2.below Ba13
          replace S2 := S2.below Ba13
          replace P2 := P2.below Ba13
          replace S6 := S6.below Ba13
          replace P6 := P6.below Ba13
          replace S13 := S13.below Ba13
          clear Ba13
          clear kBp0_0 kBp0_1 kBp1_0 kBp1_1 kBp2_0 kBp2_1 kP2_0 kP2_1 kP6_0 kP6_1
          have kBp0_0 := Bp0.cell 0 rfl
          have kBp0_1 := Bp0.cell 1 rfl
          have kBp1_0 := Bp1.cell 0 rfl
          have kBp1_1 := Bp1.cell 1 rfl
          have kBp2_0 := Bp2.cell 0 rfl
          have kBp2_1 := Bp2.cell 1 rfl
          have kP2_0 := P2.cell 0 rfl
          have kP2_1 := P2.cell 1 rfl
          have kP6_0 := P6.cell 0 rfl
          have kP6_1 := P6.cell 1 rfl
          have kP13_0 := P13.cell 0 rfl
          have kP13_1 := P13.cell 1 rfl
          clear b13
          go_wp2_with fail
          refine (mono_any x0 A13 c13 [nth [] s0 0, nth [] s0 0] _ (hG.below BX) S13).mono ?_
          rw [HMO.out]
          rintro e W14 ⟨⟨A14, c14, rfl, S14⟩, b14⟩
          dsimp only at S14 ⊢
          replace S14 := S14.any
          replace BX := below2 BX b14
          replace hR0 := hR0.below b14
          replace hR1 := hR1.below b14
          replace Bp0 := Bp0.below b14
          replace Bp1 := Bp1.below b14
          replace Bp2 := Bp2.below b14
          replace S2 := S2.below b14
          replace P2 := P2.below b14
          replace S6 := S6.below b14
          replace P6 := P6.below b14
          replace S13 := S13.below b14
          replace P13 := P13.below b14
          have Ba14 := below_alloc (Below.refl W14.heap.size W14) (.cells #[.int .i64 x0, .slice A14 s0.length c14] 24)
          have P14 : Blk (W14.alloc (.cells #[.int .i64 x0, .slice A14 s0.length c14] 24)) W14.heap.size #[.int .i64 x0, .slice A14 s0.length c14] 24 := heap_alloc_new W14 _
          replace BX := below2 BX Ba14
          replace hR0 := hR0.below Ba14
          replace hR1 := hR1.below Ba14
          replace Bp0 := Bp0.below Ba14
          replace Bp1 := Bp1.below Ba14
          replace Bp2 := Bp2.below Ba14
          replace S2 := S2.below Ba14
          replace P2 := P2.below Ba14
          replace S6 := S6.below Ba14
          replace P6 := P6.below Ba14
          replace S13 := S13.below Ba14
          replace P13 := P13.below Ba14
          replace S14 := S14.below Ba14
          clear Ba14
          clear kBp0_0 kBp0_1 kBp1_0 kBp1_1 kBp2_0 kBp2_1 kP2_0 kP2_1 kP6_0 kP6_1 kP13_0 kP13_1
          have kBp0_0 := Bp0.cell 0 rfl
          have kBp0_1 := Bp0.cell 1 rfl
          have kBp1_0 := Bp1.cell 0 rfl
          have kBp1_1 := Bp1.cell 1 rfl
          have kBp2_0 := Bp2.cell 0 rfl
          have kBp2_1 := Bp2.cell 1 rfl
          have kP2_0 := P2.cell 0 rfl
          have kP2_1 := P2.cell 1 rfl
          have kP6_0 := P6.cell 0 rfl
          have kP6_1 := P6.cell 1 rfl
          have kP13_0 := P13.cell 0 rfl
          have kP13_1 := P13.cell 1 rfl
          have kP14_0 := P14.cell 0 rfl
          have kP14_1 := P14.cell 1 rfl
          clear b14
          go_wp2_with fail
          refine (same_self _ _ _ _ _ _ _ hR0 S14).mono ?_
          rintro e W15 ⟨rfl, b15⟩
          replace BX := below2 BX b15
          replace hR0 := hR0.below b15
          replace hR1 := hR1.below b15
          replace Bp0 := Bp0.below b15
          replace Bp1 := Bp1.below b15
          replace Bp2 := Bp2.below b15
          replace S2 := S2.below b15
          replace P2 := P2.below b15
          replace S6 := S6.below b15
          replace P6 := P6.below b15
          replace S13 := S13.below b15
          replace P13 := P13.below b15
          replace S14 := S14.below b15
          replace P14 := P14.below b15
          clear b15
          clear kBp0_0 kBp0_1 kBp1_0 kBp1_1 kBp2_0 kBp2_1 kP2_0 kP2_1 kP6_0 kP6_1 kP13_0 kP13_1 kP14_0 kP14_1
          have kBp0_0 := Bp0.cell 0 rfl
          have kBp0_1 := Bp0.cell 1 rfl
          have kBp1_0 := Bp1.cell 0 rfl
          have kBp1_1 := Bp1.cell 1 rfl
          have kBp2_0 := Bp2.cell 0 rfl
          have kBp2_1 := Bp2.cell 1 rfl
          have kP2_0 := P2.cell 0 rfl
          have kP2_1 := P2.cell 1 rfl
          have kP6_0 := P6.cell 0 rfl
          have kP6_1 := P6.cell 1 rfl
          have kP13_0 := P13.cell 0 rfl
          have kP13_1 := P13.cell 1 rfl
          have kP14_0 := P14.cell 0 rfl
          have kP14_1 := P14.cell 1 rfl
          go_wp2_with fail
          refine (awake_any _ (hG.below BX)).mono ?_
          rintro e W16 ⟨rfl, b16⟩
          replace BX := below2 BX b16
          go_wp2_with fail
          go_ret
          exact ⟨rfl, BX⟩
    · have hEb : (E == 0) = false := by simpa using hE
      clear hE
      cases hv : validB x0 s0
      · have HV := Lib.hid hv
        clear hv hM
        go_enter Tryd.func7, Tryd.ntmps7
        go_wp2_with (first | ((with_reducible refine at_dst (N := 3) rfl ?_); refine ev_new #[.int .i64 x0, .slice A0 s0.length c0] 24 rfl ?hr ?_; (case hr => first | (go_simp; done) | (go_simp; rfl)); intro p0 wp0 ep0 zp0 BX Bp0; skip) | ((with_reducible refine at_dst (N := 4) rfl ?_); refine ev_new #[.int .i64 x1, .slice A1 s1.length c1] 24 rfl ?hr ?_; (case hr => first | (go_simp; done) | (go_simp; rfl)); intro p1 wp1 ep1 zp1 bb1 Bp1; replace BX := below2 BX bb1; replace Bp0 := Bp0.below bb1) | ((with_reducible refine at_dst (N := 5) rfl ?_); refine ev_new #[.int .i64 i2, .int .i64 j2] 37 rfl ?hr ?_; (case hr => first | (go_simp; done) | (go_simp; rfl)); intro p2 wp2 ep2 zp2 bb2 Bp2; replace BX := below2 BX bb2; replace Bp0 := Bp0.below bb2; replace Bp1 := Bp1.below bb2; have kp0_0 := Bp0.cell 0 rfl; have kp0_1 := Bp0.cell 1 rfl; have kp1_0 := Bp1.cell 0 rfl; have kp1_1 := Bp1.cell 1 rfl; have kp2_0 := Bp2.cell 0 rfl; have kp2_1 := Bp2.cell 1 rfl))
        replace hR0 := hR0.below BX
        replace hR1 := hR1.below BX
        have KK := trivial
        refine (few2 wp2 x0 A0 c0 s0 x1 A1 c1 s1 hR0 hF0 hR1 hF1).mono ?_
        rintro e W1 ⟨rfl, b1⟩
        rw [HB.out]
        replace BX := below2 BX b1
        replace hR0 := hR0.below b1
        replace hR1 := hR1.below b1
        replace Bp0 := Bp0.below b1
        replace Bp1 := Bp1.below b1
        replace Bp2 := Bp2.below b1
        clear b1 KK
        clear kp0_0 kp0_1 kp1_0 kp1_1 kp2_0 kp2_1
        have kBp0_0 := Bp0.cell 0 rfl
        have kBp0_1 := Bp0.cell 1 rfl
        have kBp1_0 := Bp1.cell 0 rfl
        have kBp1_1 := Bp1.cell 1 rfl
        have kBp2_0 := Bp2.cell 0 rfl
        have kBp2_1 := Bp2.cell 1 rfl
        go_wp2_with fail
        refine (mix_any x0 A0 c0 s0 x1 A1 c1 s1 i2 j2 _ (hG.below BX) hR0 hR1).mono ?_
        rw [HM.out]
        rintro e W2 ⟨⟨A2, c2, rfl, S2⟩, b2⟩
        dsimp only at S2 ⊢
        replace S2 := S2.any
        replace BX := below2 BX b2
        replace hR0 := hR0.below b2
        replace hR1 := hR1.below b2
        replace Bp0 := Bp0.below b2
        replace Bp1 := Bp1.below b2
        replace Bp2 := Bp2.below b2
        have Ba2 := below_alloc (Below.refl W2.heap.size W2) (.cells #[.int .i64 R, .slice A2 T.length c2] 24)
        have P2 : Blk (W2.alloc (.cells #[.int .i64 R, .slice A2 T.length c2] 24)) W2.heap.size #[.int .i64 R, .slice A2 T.length c2] 24 := heap_alloc_new W2 _
        replace BX := below2 BX Ba2
        replace hR0 := hR0.below Ba2
        replace hR1 := hR1.below Ba2
        replace Bp0 := Bp0.below Ba2
        replace Bp1 := Bp1.below Ba2
        replace Bp2 := Bp2.below Ba2
        replace S2 := S2.below Ba2
        clear Ba2
        clear kBp0_0 kBp0_1 kBp1_0 kBp1_1 kBp2_0 kBp2_1
        have kBp0_0 := Bp0.cell 0 rfl
        have kBp0_1 := Bp0.cell 1 rfl
        have kBp1_0 := Bp1.cell 0 rfl
        have kBp1_1 := Bp1.cell 1 rfl
        have kBp2_0 := Bp2.cell 0 rfl
        have kBp2_1 := Bp2.cell 1 rfl
        have kP2_0 := P2.cell 0 rfl
        have kP2_1 := P2.cell 1 rfl
        clear b2
        go_wp2_with fail
        refine (refValid_any x0 A0 c0 s0 _ hR0).mono ?_
        rw [HV.out]
        rintro e W3 ⟨rfl, b3⟩
        replace BX := below2 BX b3
        replace hR0 := hR0.below b3
        replace hR1 := hR1.below b3
        replace Bp0 := Bp0.below b3
        replace Bp1 := Bp1.below b3
        replace Bp2 := Bp2.below b3
        replace S2 := S2.below b3
        replace P2 := P2.below b3
        clear b3
        clear kBp0_0 kBp0_1 kBp1_0 kBp1_1 kBp2_0 kBp2_1 kP2_0 kP2_1
        have kBp0_0 := Bp0.cell 0 rfl
        have kBp0_1 := Bp0.cell 1 rfl
        have kBp1_0 := Bp1.cell 0 rfl
        have kBp1_1 := Bp1.cell 1 rfl
        have kBp2_0 := Bp2.cell 0 rfl
        have kBp2_1 := Bp2.cell 1 rfl
        have kP2_0 := P2.cell 0 rfl
        have kP2_1 := P2.cell 1 rfl
        go_wp2_with fail
        refine (awake_any _ (hG.below BX)).mono ?_
        rintro e W4 ⟨rfl, b4⟩
        replace BX := below2 BX b4
        go_wp2_with fail
        go_ret
        exact ⟨rfl, BX⟩
      · have HV := Lib.hid hv
        by_cases hl1 : 1 < s0.length
        · have hlen : (1 : Int) < (s0.length : Int) := by omega
          clear hv hM hl1
          go_enter Tryd.func7, Tryd.ntmps7
          go_wp2_with (first | ((with_reducible refine at_dst (N := 3) rfl ?_); refine ev_new #[.int .i64 x0, .slice A0 s0.length c0] 24 rfl ?hr ?_; (case hr => first | (go_simp; done) | (go_simp; rfl)); intro p0 wp0 ep0 zp0 BX Bp0; skip) | ((with_reducible refine at_dst (N := 4) rfl ?_); refine ev_new #[.int .i64 x1, .slice A1 s1.length c1] 24 rfl ?hr ?_; (case hr => first | (go_simp; done) | (go_simp; rfl)); intro p1 wp1 ep1 zp1 bb1 Bp1; replace BX := below2 BX bb1; replace Bp0 := Bp0.below bb1) | ((with_reducible refine at_dst (N := 5) rfl ?_); refine ev_new #[.int .i64 i2, .int .i64 j2] 37 rfl ?hr ?_; (case hr => first | (go_simp; done) | (go_simp; rfl)); intro p2 wp2 ep2 zp2 bb2 Bp2; replace BX := below2 BX bb2; replace Bp0 := Bp0.below bb2; replace Bp1 := Bp1.below bb2; have kp0_0 := Bp0.cell 0 rfl; have kp0_1 := Bp0.cell 1 rfl; have kp1_0 := Bp1.cell 0 rfl; have kp1_1 := Bp1.cell 1 rfl; have kp2_0 := Bp2.cell 0 rfl; have kp2_1 := Bp2.cell 1 rfl))
          replace hR0 := hR0.below BX
          replace hR1 := hR1.below BX
          have KK := trivial
          refine (few2 wp2 x0 A0 c0 s0 x1 A1 c1 s1 hR0 hF0 hR1 hF1).mono ?_
          rintro e W1 ⟨rfl, b1⟩
          rw [HB.out]
          replace BX := below2 BX b1
          replace hR0 := hR0.below b1
          replace hR1 := hR1.below b1
          replace Bp0 := Bp0.below b1
          replace Bp1 := Bp1.below b1
          replace Bp2 := Bp2.below b1
          clear b1 KK
          clear kp0_0 kp0_1 kp1_0 kp1_1 kp2_0 kp2_1
          have kBp0_0 := Bp0.cell 0 rfl
          have kBp0_1 := Bp0.cell 1 rfl
          have kBp1_0 := Bp1.cell 0 rfl
          have kBp1_1 := Bp1.cell 1 rfl
          have kBp2_0 := Bp2.cell 0 rfl
          have kBp2_1 := Bp2.cell 1 rfl
          go_wp2_with fail
          refine (mix_any x0 A0 c0 s0 x1 A1 c1 s1 i2 j2 _ (hG.below BX) hR0 hR1).mono ?_
          rw [HM.out]
          rintro e W2 ⟨⟨A2, c2, rfl, S2⟩, b2⟩
          dsimp only at S2 ⊢
          replace S2 := S2.any
          replace BX := below2 BX b2
          replace hR0 := hR0.below b2
          replace hR1 := hR1.below b2
          replace Bp0 := Bp0.below b2
          replace Bp1 := Bp1.below b2
          replace Bp2 := Bp2.below b2
          have Ba2 := below_alloc (Below.refl W2.heap.size W2) (.cells #[.int .i64 R, .slice A2 T.length c2] 24)
          have P2 : Blk (W2.alloc (.cells #[.int .i64 R, .slice A2 T.length c2] 24)) W2.heap.size #[.int .i64 R, .slice A2 T.length c2] 24 := heap_alloc_new W2 _
          replace BX := below2 BX Ba2
          replace hR0 := hR0.below Ba2
          replace hR1 := hR1.below Ba2
          replace Bp0 := Bp0.below Ba2
          replace Bp1 := Bp1.below Ba2
          replace Bp2 := Bp2.below Ba2
          replace S2 := S2.below Ba2
          clear Ba2
          clear kBp0_0 kBp0_1 kBp1_0 kBp1_1 kBp2_0 kBp2_1
          have kBp0_0 := Bp0.cell 0 rfl
          have kBp0_1 := Bp0.cell 1 rfl
          have kBp1_0 := Bp1.cell 0 rfl
          have kBp1_1 := Bp1.cell 1 rfl
          have kBp2_0 := Bp2.cell 0 rfl
          have kBp2_1 := Bp2.cell 1 rfl
          have kP2_0 := P2.cell 0 rfl
          have kP2_1 := P2.cell 1 rfl
          clear b2
          go_wp2_with fail
          refine (refValid_any x0 A0 c0 s0 _ hR0).mono ?_
          rw [HV.out]
          rintro e W3 ⟨rfl, b3⟩
          replace BX := below2 BX b3
          replace hR0 := hR0.below b3
          replace hR1 := hR1.below b3
          replace Bp0 := Bp0.below b3
          replace Bp1 := Bp1.below b3
          replace Bp2 := Bp2.below b3
          replace S2 := S2.below b3
          replace P2 := P2.below b3
          clear b3
          clear kBp0_0 kBp0_1 kBp1_0 kBp1_1 kBp2_0 kBp2_1 kP2_0 kP2_1
          have kBp0_0 := Bp0.cell 0 rfl
          have kBp0_1 := Bp0.cell 1 rfl
          have kBp1_0 := Bp1.cell 0 rfl
          have kBp1_1 := Bp1.cell 1 rfl
          have kBp2_0 := Bp2.cell 0 rfl
          have kBp2_1 := Bp2.cell 1 rfl
          have kP2_0 := P2.cell 0 rfl
          have kP2_1 := P2.cell 1 rfl
          go_wp2_with fail
          refine (awake_any _ (hG.below BX)).mono ?_
          rintro e W4 ⟨rfl, b4⟩
          replace BX := below2 BX b4
          go_wp2_with fail
          go_ret
          exact ⟨rfl, BX⟩
        · have hlen : ¬ (1 : Int) < (s0.length : Int) := by omega
          have hone : s0.length = 1 := by have := (valid_facts hv).one; omega
          have HWD := Lib.hid (mono_wide hv hone).1
          have HMO := Lib.hid (mono_wide hv hone).2
          clear hone
          clear hv hM hl1
          go_enter Tryd.func7, Tryd.ntmps7
          go_wp2_with (first | ((with_reducible refine at_dst (N := 3) rfl ?_); refine ev_new #[.int .i64 x0, .slice A0 s0.length c0] 24 rfl ?hr ?_; (case hr => first | (go_simp; done) | (go_simp; rfl)); intro p0 wp0 ep0 zp0 BX Bp0; skip) | ((with_reducible refine at_dst (N := 4) rfl ?_); refine ev_new #[.int .i64 x1, .slice A1 s1.length c1] 24 rfl ?hr ?_; (case hr => first | (go_simp; done) | (go_simp; rfl)); intro p1 wp1 ep1 zp1 bb1 Bp1; replace BX := below2 BX bb1; replace Bp0 := Bp0.below bb1) | ((with_reducible refine at_dst (N := 5) rfl ?_); refine ev_new #[.int .i64 i2, .int .i64 j2] 37 rfl ?hr ?_; (case hr => first | (go_simp; done) | (go_simp; rfl)); intro p2 wp2 ep2 zp2 bb2 Bp2; replace BX := below2 BX bb2; replace Bp0 := Bp0.below bb2; replace Bp1 := Bp1.below bb2; have kp0_0 := Bp0.cell 0 rfl; have kp0_1 := Bp0.cell 1 rfl; have kp1_0 := Bp1.cell 0 rfl; have kp1_1 := Bp1.cell 1 rfl; have kp2_0 := Bp2.cell 0 rfl; have kp2_1 := Bp2.cell 1 rfl))
          replace hR0 := hR0.below BX
          replace hR1 := hR1.below BX
          have KK := trivial
          refine (few2 wp2 x0 A0 c0 s0 x1 A1 c1 s1 hR0 hF0 hR1 hF1).mono ?_
          rintro e W1 ⟨rfl, b1⟩
          rw [HB.out]
          replace BX := below2 BX b1
          replace hR0 := hR0.below b1
          replace hR1 := hR1.below b1
          replace Bp0 := Bp0.below b1
          replace Bp1 := Bp1.below b1
          replace Bp2 := Bp2.below b1
          clear b1 KK
          clear kp0_0 kp0_1 kp1_0 kp1_1 kp2_0 kp2_1
          have kBp0_0 := Bp0.cell 0 rfl
          have kBp0_1 := Bp0.cell 1 rfl
          have kBp1_0 := Bp1.cell 0 rfl
          have kBp1_1 := Bp1.cell 1 rfl
          have kBp2_0 := Bp2.cell 0 rfl
          have kBp2_1 := Bp2.cell 1 rfl
          go_wp2_with fail
          refine (mix_any x0 A0 c0 s0 x1 A1 c1 s1 i2 j2 _ (hG.below BX) hR0 hR1).mono ?_
          rw [HM.out]
          rintro e W2 ⟨⟨A2, c2, rfl, S2⟩, b2⟩
          dsimp only at S2 ⊢
          replace S2 := S2.any
          replace BX := below2 BX b2
          replace hR0 := hR0.below b2
          replace hR1 := hR1.below b2
          replace Bp0 := Bp0.below b2
          replace Bp1 := Bp1.below b2
          replace Bp2 := Bp2.below b2
          have Ba2 := below_alloc (Below.refl W2.heap.size W2) (.cells #[.int .i64 R, .slice A2 T.length c2] 24)
          have P2 : Blk (W2.alloc (.cells #[.int .i64 R, .slice A2 T.length c2] 24)) W2.heap.size #[.int .i64 R, .slice A2 T.length c2] 24 := heap_alloc_new W2 _
          replace BX := below2 BX Ba2
          replace hR0 := hR0.below Ba2
          replace hR1 := hR1.below Ba2
          replace Bp0 := Bp0.below Ba2
          replace Bp1 := Bp1.below Ba2
          replace Bp2 := Bp2.below Ba2
          replace S2 := S2.below Ba2
          clear Ba2
          clear kBp0_0 kBp0_1 kBp1_0 kBp1_1 kBp2_0 kBp2_1
          have kBp0_0 := Bp0.cell 0 rfl
          have kBp0_1 := Bp0.cell 1 rfl
          have kBp1_0 := Bp1.cell 0 rfl
          have kBp1_1 := Bp1.cell 1 rfl
          have kBp2_0 := Bp2.cell 0 rfl
          have kBp2_1 := Bp2.cell 1 rfl
          have kP2_0 := P2.cell 0 rfl
          have kP2_1 := P2.cell 1 rfl
          clear b2
          go_wp2_with fail
          refine (refValid_any x0 A0 c0 s0 _ hR0).mono ?_
          rw [HV.out]
          rintro e W3 ⟨rfl, b3⟩
          replace BX := below2 BX b3
          replace hR0 := hR0.below b3
          replace hR1 := hR1.below b3
          replace Bp0 := Bp0.below b3
          replace Bp1 := Bp1.below b3
          replace Bp2 := Bp2.below b3
          replace S2 := S2.below b3
          replace P2 := P2.below b3
          clear b3
          clear kBp0_0 kBp0_1 kBp1_0 kBp1_1 kBp2_0 kBp2_1 kP2_0 kP2_1
          have kBp0_0 := Bp0.cell 0 rfl
          have kBp0_1 := Bp0.cell 1 rfl
          have kBp1_0 := Bp1.cell 0 rfl
          have kBp1_1 := Bp1.cell 1 rfl
          have kBp2_0 := Bp2.cell 0 rfl
          have kBp2_1 := Bp2.cell 1 rfl
          have kP2_0 := P2.cell 0 rfl
          have kP2_1 := P2.cell 1 rfl
          go_wp2_with fail
          refine (wide_any x0 A0 c0 s0 _ (hG.below BX) hR0).mono ?_
          rw [HWD.out]
          rintro e W4 ⟨⟨A4, c4, rfl, S4⟩, b4⟩
          dsimp only at S4 ⊢
          replace S4 := S4.any
          replace BX := below2 BX b4
          replace hR0 := hR0.below b4
          replace hR1 := hR1.below b4
          replace Bp0 := Bp0.below b4
          replace Bp1 := Bp1.below b4
          replace Bp2 := Bp2.below b4
          replace S2 := S2.below b4
          replace P2 := P2.below b4
          have Ba4 := below_alloc (Below.refl W4.heap.size W4) (.cells #[.int .i64 x0, .slice A4 [nth [] s0 0, nth [] s0 0].length c4] 24)
          have P4 : Blk (W4.alloc (.cells #[.int .i64 x0, .slice A4 [nth [] s0 0, nth [] s0 0].length c4] 24)) W4.heap.size #[.int .i64 x0, .slice A4 [nth [] s0 0, nth [] s0 0].length c4] 24 := heap_alloc_new W4 _
          replace BX := below2 BX Ba4
          replace hR0 := hR0.below Ba4
          replace hR1 := hR1.below Ba4
          replace Bp0 := Bp0.below Ba4
          replace Bp1 := Bp1.below Ba4
          replace Bp2 := Bp2.below Ba4
          replace S2 := S2.below Ba4
          replace P2 := P2.below Ba4
          replace S4 := S4.below Ba4
          clear Ba4
          clear kBp0_0 kBp0_1 kBp1_0 kBp1_1 kBp2_0 kBp2_1 kP2_0 kP2_1
          have kBp0_0 := Bp0.cell 0 rfl
          have kBp0_1 := Bp0.cell 1 rfl
          have kBp1_0 := Bp1.cell 0 rfl
          have kBp1_1 := Bp1.cell 1 rfl
          have kBp2_0 := Bp2.cell 0 rfl
          have kBp2_1 := Bp2.cell 1 rfl
          have kP2_0 := P2.cell 0 rfl
          have kP2_1 := P2.cell 1 rfl
          have kP4_0 := P4.cell 0 rfl
          have kP4_1 := P4.cell 1 rfl
          clear b4
          go_wp2_with fail
          refine (mono_any x0 A4 c4 [nth [] s0 0, nth [] s0 0] _ (hG.below BX) S4).mono ?_
          rw [HMO.out]
          rintro e W5 ⟨⟨A5, c5, rfl, S5⟩, b5⟩
          dsimp only at S5 ⊢
          replace S5 := S5.any
          replace BX := below2 BX b5
          replace hR0 := hR0.below b5
          replace hR1 := hR1.below b5
          replace Bp0 := Bp0.below b5
          replace Bp1 := Bp1.below b5
          replace Bp2 := Bp2.below b5
          replace S2 := S2.below b5
          replace P2 := P2.below b5
          replace S4 := S4.below b5
          replace P4 := P4.below b5
          have Ba5 := below_alloc (Below.refl W5.heap.size W5) (.cells #[.int .i64 x0, .slice A5 s0.length c5] 24)
          have P5 : Blk (W5.alloc (.cells #[.int .i64 x0, .slice A5 s0.length c5] 24)) W5.heap.size #[.int .i64 x0, .slice A5 s0.length c5] 24 := heap_alloc_new W5 _
          replace BX := below2 BX Ba5
          replace hR0 := hR0.below Ba5
          replace hR1 := hR1.below Ba5
          replace Bp0 := Bp0.below Ba5
          replace Bp1 := Bp1.below Ba5
          replace Bp2 := Bp2.below Ba5
          replace S2 := S2.below Ba5
          replace P2 := P2.below Ba5
          replace S4 := S4.below Ba5
          replace P4 := P4.below Ba5
          replace S5 := S5.below Ba5
          clear Ba5
          clear kBp0_0 kBp0_1 kBp1_0 kBp1_1 kBp2_0 kBp2_1 kP2_0 kP2_1 kP4_0 kP4_1
          have kBp0_0 := Bp0.cell 0 rfl
          have kBp0_1 := Bp0.cell 1 rfl
          have kBp1_0 := Bp1.cell 0 rfl
          have kBp1_1 := Bp1.cell 1 rfl
          have kBp2_0 := Bp2.cell 0 rfl
          have kBp2_1 := Bp2.cell 1 rfl
          have kP2_0 := P2.cell 0 rfl
          have kP2_1 := P2.cell 1 rfl
          have kP4_0 := P4.cell 0 rfl
          have kP4_1 := P4.cell 1 rfl
          have kP5_0 := P5.cell 0 rfl
          have kP5_1 := P5.cell 1 rfl
          clear b5
          go_wp2_with fail
          refine (same_self _ _ _ _ _ _ _ hR0 S5).mono ?_
          rintro e W6 ⟨rfl, b6⟩
          replace BX := below2 BX b6
          replace hR0 := hR0.below b6
          replace hR1 := hR1.below b6
          replace Bp0 := Bp0.below b6
          replace Bp1 := Bp1.below b6
          replace Bp2 := Bp2.below b6
          replace S2 := S2.below b6
          replace P2 := P2.below b6
          replace S4 := S4.below b6
          replace P4 := P4.below b6
          replace S5 := S5.below b6
          replace P5 := P5.below b6
          clear b6
          clear kBp0_0 kBp0_1 kBp1_0 kBp1_1 kBp2_0 kBp2_1 kP2_0 kP2_1 kP4_0 kP4_1 kP5_0 kP5_1
          have kBp0_0 := Bp0.cell 0 rfl
          have kBp0_1 := Bp0.cell 1 rfl
          have kBp1_0 := Bp1.cell 0 rfl
          have kBp1_1 := Bp1.cell 1 rfl
          have kBp2_0 := Bp2.cell 0 rfl
          have kBp2_1 := Bp2.cell 1 rfl
          have kP2_0 := P2.cell 0 rfl
          have kP2_1 := P2.cell 1 rfl
          have kP4_0 := P4.cell 0 rfl
          have kP4_1 := P4.cell 1 rfl
          have kP5_0 := P5.cell 0 rfl
          have kP5_1 := P5.cell 1 rfl
          go_wp2_with fail
          refine (awake_any _ (hG.below BX)).mono ?_
          rintro e W7 ⟨rfl, b7⟩
          replace BX := below2 BX b7
          go_wp2_with fail
          go_ret
          exact ⟨rfl, BX⟩
end Go.Proofs.YtijcecakofmhcaaDoor
