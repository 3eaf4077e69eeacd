/- The reference's Lengths: what it returns. · The reference's Lengths in general. · The document's rows of bits: Put; the document's scale: Lengths, Ranged, taken, right. · Gamma codes: the reference's zeros and Gamma, and the writer's Gamma: what each call returns. · bits: the writer's Gamma: what it returns. · book: Lengths: what it returns. · Plain laws of layer 17 (book): what a gamma code is read as. No program is named. · The document's tape of bits: OK, Left, Fail, Get: what each call returns, and where the tape is then. · The reference's tape: Unary: what it returns. · The reference's tape: Get of a tape with an error, Gamma: what each call returns. · bits: zeros of a reader: what it returns, and where the reader is then. · The document's rows of bits: Bytes; the statements' SameBytes: what each call returns. · The laws of layer 17: Same: what it returns. · A drawn region in a function that ranges over an iterator, outside its rounds, walked by explicit steps (XHeld). -/
import Derived.Test.YtmcdgmiheklbeaaGreatDoorKe
import Derived.Test.YtmcdgmiheklbeaaGreatDoorKd
import Derived.Test.YtmcdgmiheklbeaaGreatDoorKc
import Derived.Test.YtmcdgmiheklbeaaGreatDoorKb
namespace Go.Proofs.YtmcdgmiheklbeaaGreatDoor
open Go.RowKit

set_option maxHeartbeats 8000000 in
set_option maxRecDepth 100000 in
theorem rlengths_any (A : Option Addr) (c : Nat) (cs : List Int) (most : Nat) (w : World) (hS : RI w A c cs) (hc : countsB cs = true) (h1 : 1 ≤ most) (h16 : most ≤ 16) :
    Calls Tryz.prog 101 #[.slice A cs.length c, .int .i64 (most : Int)] w fun e w' => ∃ v, e = .returned (.tuple #[v, .int .i64 (lengthsE cs most)]) ∧ OwnI 3 .i64 w.heap.size w' v (lengthsV cs most) ∧ Below w.heap.size w w' := by
  obtain ⟨h256, hbd⟩ := counts_bound hc
  have HB := Lib.hid (nth_bound hbd (by decide))
  have HS := Lib.hid hS
  have hcB := Lib.hid hc
  have d0 : decide ((256 : Int) < (cs.length : Int)) = false := decide_eq_false (by omega)
  have d1 : decide ((most : Int) < 1) = false := decide_eq_false (by omega)
  have d2 : decide ((16 : Int) < (most : Int)) = false := decide_eq_false (by omega)
  have hmk := make_row (P := Tryz.prog) 22 3 .i64 8 Tryz.underlying22 infoI (by decide) cs.length (by omega)
  have HMK := Lib.hid hmk
  have HM := Lib.hid (show 1 ≤ most ∧ most ≤ 16 from ⟨h1, h16⟩)
  clear hS hc hbd hmk
  go_enter Tryz.func101, Tryz.ntmps101
  go_wp2
  go_loopw [6, 37] (fun nv iv wr => ∃ k : Nat, iv = .int .i64 (k : Int) ∧ k ≤ cs.length ∧ nv = .int .i64 ((coinsK cs k).length : Int) ∧ w = wr) (fun _ iv _ => cs.length - (intOf iv).toNat)
  case atStart => exact ⟨0, rfl, Nat.zero_le _, rfl, rfl⟩
  case round =>
    obtain ⟨k, rfl, hk, rfl, rfl⟩ := hrel
    by_cases hlt : k < cs.length
    · obtain ⟨ad, rfl, hc⟩ := rd_int HS.out k hlt
      have hki : (k : Int) < (cs.length : Int) := by omega
      have hcl := coinsK_len cs k
      have hck := coinsK_succ_len cs k
      have hbk := HB.out k
      obtain ⟨q, hq⟩ : ∃ q, (coinsK cs k).length = q := ⟨_, rfl⟩
      rw [hq] at hcl hck ⊢
      have hwq : IntKind.i64.wrap ((q : Int) + 1) = (q : Int) + 1 := IntWalk.i64_in _ (by omega)
      have e1 : decide (nth 0 cs k < 0) = false := decide_eq_false (by omega)
      have e2 : decide (1073741824 < nth 0 cs k) = false := decide_eq_false (by omega)
      by_cases h3 : 0 < nth 0 cs k
      · have e3 : decide (0 < nth 0 cs k) = true := decide_eq_true h3
        rw [if_pos h3] at hck
        have HCK := Lib.hid hck
        clear h3 hck hq hcl hbk
        go_wp2
        go_roundw
        case rel => exact ⟨k + 1, by go_num, by omega, by rw [HCK.out]; go_num, trivial⟩
        case measure => simp [intOf]; omega
      · have e3 : decide (0 < nth 0 cs k) = false := decide_eq_false h3
        rw [if_neg h3] at hck
        have HCK := Lib.hid hck
        clear h3 hck hq hcl hbk
        go_wp2
        go_roundw
        case rel => exact ⟨k + 1, by go_num, by omega, by rw [HCK.out], trivial⟩
        case measure => simp [intOf]; omega
    · obtain rfl : k = cs.length := by omega
      obtain ⟨n, hn⟩ : ∃ n, (coinsK cs cs.length).length = n := ⟨_, rfl⟩
      have hnl := coinsK_len cs cs.length
      obtain ⟨Q, hQ⟩ : ∃ Q : Nat, 2 ^ most = Q := ⟨_, rfl⟩
      have hQ6 : Q ≤ 65536 := by rw [← hQ]; have := Nat.pow_le_pow_right (n := 2) (by decide) h16; simpa using this
      have hwq : IntKind.i64.wrap ((2 : Int) ^ most) = (Q : Int) := by rw [show (2 : Int) ^ most = (Q : Int) by rw [← hQ]; simp]; exact IntWalk.i64_in _ (by omega)
      have HQ := Lib.hid (show 2 ^ most = Q from hQ)
      have HE := Lib.hid (show lengthsE cs most = if n = 0 then 5 else if Q < n then 2 else 0 by
        unfold lengthsE
        rw [if_neg (by rw [hcB.out]; simp; omega), hn, Int.toNat_natCast, hQ])
      have HN := Lib.hid hn
      have HV0 := Lib.hid (show lengthsE cs most ≠ 0 → lengthsV cs most = [] from fun h => by unfold lengthsV; rw [if_pos h])
      rw [hn] at hnl ⊢
      clear hn hQ
      by_cases h0 : n = 0
      · have h0b : ((n : Int) == 0) = true := by simp [h0]
        have HX := Lib.hid h0
        clear h0
        go_wp2
        go_ret2
        exact ⟨_, ret_two rfl (by rw [HE.out, if_pos HX.out]; rfl), by rw [HV0.out (by rw [HE.out, if_pos HX.out]; decide)]; exact OwnI.nil _ _ _ _, Below.refl _ _⟩
      · have h0b : ((n : Int) == 0) = false := by simpa using h0
        by_cases hbig : Q < n
        · have hd3 : decide (Q < n) = true := decide_eq_true hbig
          have hd4 : decide ((Q : Int) < (n : Int)) = true := decide_eq_true (by omega)
          have HX := Lib.hid (show n ≠ 0 ∧ Q < n from ⟨h0, hbig⟩)
          clear h0 hbig
          go_wp2
          go_ret2
          exact ⟨_, ret_two rfl (by rw [HE.out, if_neg HX.out.1, if_pos HX.out.2]; rfl), by rw [HV0.out (by rw [HE.out, if_neg HX.out.1, if_pos HX.out.2]; decide)]; exact OwnI.nil _ _ _ _, Below.refl _ _⟩
        · have hd3 : decide (Q < n) = false := decide_eq_false hbig
          have hd4 : decide ((Q : Int) < (n : Int)) = false := decide_eq_false (by omega)
          have hE0 : lengthsE cs most = 0 := by rw [HE.out, if_neg h0, if_neg hbig]
          have HE0 := Lib.hid hE0
          have HIN := Lib.hid (show LenIn cs most from ⟨hcB.out, h1, h16, by rw [sortedC_length, HN.out]; omega, by rw [sortedC_length, HN.out, HQ.out]; omega⟩)
          have HNX := Lib.hid (show 1 ≤ n ∧ n ≤ 256 from ⟨by omega, by omega⟩)
          clear HE HV0 hE0 hbig h0 hQ6
          go_wp2
          go_loopw [9, 60] (fun ov iv wr => ∃ k : Nat, iv = .int .i64 (k : Int) ∧ k ≤ cs.length ∧ Hid (OwnI 3 .i64 w.heap.size wr ov (ordI cs k)) ∧ Hid (Below w.heap.size w wr)) (fun _ iv _ => cs.length - (intOf iv).toNat)
          case atStart => exact ⟨0, rfl, Nat.zero_le _, Lib.hid (OwnI.nil _ _ _ _), Lib.hid (Below.refl _ _)⟩
          case round =>
            obtain ⟨k, rfl, hk, hO, hB⟩ := hrel
            by_cases hlt : k < cs.length
            · obtain ⟨ad, rfl, hck⟩ := rd_int (HS.out.below hB.out) k hlt
              obtain ⟨Ao, co, rfl, hRo⟩ := own_ri hO.out
              have hki : (k : Int) < (cs.length : Int) := by omega
              have hcl := coinsK_len cs k
              obtain ⟨q, hq⟩ : ∃ q, (ordI cs k).length = q := ⟨_, rfl⟩
              have HQ2 := Lib.hid hq
              have HRO := Lib.hid hRo
              have hO2 := hO.out
              rw [hq] at hO2 ⊢
              have hO := Lib.hid hO2
              have hqk : q ≤ k := by rw [← hq, ordI_length]; exact hcl
              clear hcl hq hRo hO2
              go_wp2
              go_loopw [12] (fun pv wr2 => ∃ p : Nat, pv = .int .i64 (p : Int) ∧ p ≤ q ∧ Hid (∀ j, p ≤ j → j < q → nth 0 cs k < nth 0 cs (nth 0 (ordI cs k) j).toNat) ∧ wr = wr2) (fun pv _ => (intOf pv).toNat)
              case atStart => exact ⟨q, rfl, Nat.le_refl _, Lib.hid (fun j h1 h2 => by omega), rfl⟩
              case round =>
                obtain ⟨p, rfl, hp, hL, rfl⟩ := hrel
                by_cases hp0 : p = 0
                · have hp1 : decide ((0 : Int) < (p : Int)) = false := decide_eq_false (by omega)
                  have hp2 : decide (0 < p) = false := decide_eq_false (by omega)
                  have hp3 : Hid (p = 0) := hp0
                  clear hp0
                  by_cases h3 : 0 < nth 0 cs k
                  · have e3 : decide (0 < nth 0 cs k) = true := decide_eq_true h3
                    have hnew := ordI_hit (p := p) h3 (by rw [← ordI_length, HQ2.out]; exact hp) (.inl hp3.out) (by rw [← ordI_length, HQ2.out]; exact hL.out)
                    obtain ⟨T, hT⟩ : ∃ T, (ordI cs k).take p = T := ⟨_, rfl⟩
                    obtain ⟨D, hD⟩ : ∃ D, (ordI cs k).drop p = D := ⟨_, rfl⟩
                    have hTl : T.length = p := by rw [← hT, List.length_take, HQ2.out]; omega
                    have hDl : D.length = q - p := by rw [← hD, List.length_drop, HQ2.out]
                    obtain ⟨i0, hi0, hz0, hz1, hz2⟩ := info_parts infoI
                    obtain ⟨A3, hcut3, hsl3⟩ := cut_full (P := Tryz.prog) 22 3 Tryz.underlying22 hi0 Ao q co p hp (by have := HRO.out.le; rw [HQ2.out] at this; exact this)
                    obtain ⟨A8, hcut8, hsl8⟩ := cut_tail (P := Tryz.prog) 22 3 Tryz.underlying22 hi0 Ao q co p hp
                    have hs3 := hsl3 (kInt .i64) _ _ _ (by rw [hz1]; rfl) HQ2.out HRO.out
                    have hs8 := hsl8 (kInt .i64) _ _ _ (by rw [hz1]; rfl) HQ2.out HRO.out
                    rw [hT] at hs3 hnew
                    rw [hD] at hs8 hnew
                    rw [← hDl] at hcut8
                    subst hTl
                    have HNEW := Lib.hid hnew
                    have HS3 := Lib.hid hs3
                    have HS8 := Lib.hid hs8
                    have HDL := Lib.hid hDl
                    have HDR := Lib.hid ((Below.refl wr.heap.size wr).drew)
                    have HLEN := Lib.hid (show T.length ≤ 256 ∧ D.length ≤ 256 by have := coinsK_len cs k; omega)
                    clear hnew hs3 hs8 hDl hT hD hsl3 hsl8 h3 hL hlt hi0 hz0 hz1 hz2
                    go_wp2_with fail
                    refine wp_region_G 10 (fun _ => True) (by kernel_rfl) trivial (fun hHeld => ?_)
                    refine wpAnyG_takeL (i := 0) (.slice Ao q co) [3, 10] rfl (by kernel_rfl) (fun _ _ _ h => h) trivial (by rfl) ?_ ?_
                    · (intro W hSw; go_simp)
                    try simp only [Act.put, List.setIfInBounds_toArray, List.set_cons_zero, List.set_cons_succ]
                    refine wpAnyG_takeL (i := 1) (.int .i64 T.length) [3, 10] rfl (by kernel_rfl) (fun _ _ _ h => h) trivial (by rfl) ?_ ?_
                    · (intro W hSw; go_simp)
                    try simp only [Act.put, List.setIfInBounds_toArray, List.set_cons_zero, List.set_cons_succ]
                    refine wpAnyG_takeL (i := 2) (.int .i64 T.length) [3, 10] rfl (by kernel_rfl) (fun _ _ _ h => h) trivial (by rfl) ?_ ?_
                    · (intro W hSw; go_simp)
                    try simp only [Act.put, List.setIfInBounds_toArray, List.set_cons_zero, List.set_cons_succ]
                    refine wpAnyG_takeL (i := 3) (.slice A3 T.length T.length) [10] rfl (by kernel_rfl) (fun _ _ _ h => h) trivial (by rfl) ?_ ?_
                    · (intro W hSw; go_simp)
                    try simp only [Act.put, List.setIfInBounds_toArray, List.set_cons_zero, List.set_cons_succ]
                    refine wpAnyG_takeL (i := 4) (.int .i64 k) [5, 9, 10] rfl (by kernel_rfl) (fun _ _ _ h => h) trivial (by rfl) ?_ ?_
                    · (intro W hSw; go_simp)
                    try simp only [Act.put, List.setIfInBounds_toArray, List.set_cons_zero, List.set_cons_succ]
                    refine wpAnyG_takeL (i := 6) (.slice Ao q co) [8, 9, 10] rfl (by kernel_rfl) (fun _ _ _ h => h) trivial (by rfl) ?_ ?_
                    · (intro W hSw; go_simp)
                    try simp only [Act.put, List.setIfInBounds_toArray, List.set_cons_zero, List.set_cons_succ]
                    refine wpAnyG_takeL (i := 7) (.int .i64 T.length) [8, 9, 10] rfl (by kernel_rfl) (fun _ _ _ h => h) trivial (by rfl) ?_ ?_
                    · (intro W hSw; go_simp)
                    try simp only [Act.put, List.setIfInBounds_toArray, List.set_cons_zero, List.set_cons_succ]
                    refine wpAnyG_takeL (i := 8) (.slice A8 D.length (co - T.length)) [9, 10] rfl (by kernel_rfl) (fun _ _ _ h => h) trivial (by rfl) ?_ ?_
                    · (intro W hSw; go_simp)
                    try simp only [Act.put, List.setIfInBounds_toArray, List.set_cons_zero, List.set_cons_succ]
                    refine wpAnyG_oneL (i := 5) (by kernel_rfl) rfl (fun K hK => ?_)
                    go_simp
                    refine hK.out _ _ (fun _ => trivial) ?_
                    clear hK K
                    try simp only [Act.put, List.setIfInBounds_toArray, List.set_cons_zero, List.set_cons_succ]
                    have HB1 := Lib.hid (below_alloc HDR.out (.cells #[.int .i64 k] 3))
                    have HO1 := Lib.hid (own_lit wr.drew 3 .i64 [(k : Int)] (by simp))
                    refine wpAnyG_oneL (i := 9) (by kernel_rfl) rfl (fun K hK => ?_)
                    refine step_append_row (W := wr.drew.alloc (.cells #[.int .i64 k] 3)) wr.heap.size rfl (.tmp 90) (.tmp 93) 22 3 .i64 8 rfl Tryz.underlying22 infoI (by decide) _ [(k : Int)] D A8 (co - T.length) rfl rfl HO1.out (HS8.out.below HB1.out) HB1.out.size (by have := HLEN.out; simp; omega) ?_
                    intro v9 w9 hO9 hg9 _
                    have HB9 := Lib.hid (HB1.out.grown hg9 HB1.out.size HO1.out.base_le)
                    have HO9 := Lib.hid hO9
                    clear hO9 hg9
                    refine hK.out _ _ (fun _ => trivial) ?_
                    clear hK K
                    try simp only [Act.put, List.setIfInBounds_toArray, List.set_cons_zero, List.set_cons_succ]
                    obtain ⟨A9, c9, rfl, hs9⟩ := own_ri HO9.out
                    have HS9 := Lib.hid hs9
                    clear hs9
                    refine wpAnyG_oneL (i := 10) (by kernel_rfl) rfl (fun K hK => ?_)
                    refine step_append_full (W := w9) rfl (.tmp 88) (.tmp 94) 22 3 .i64 8 rfl Tryz.underlying22 infoI (by decide) A3 T A9 c9 ([(k : Int)] ++ D) rfl rfl (HS3.out.below HB9.out) HS9.out (by simp) (by have := HLEN.out; simp; omega) ?_
                    intro v10 w10 hO10 hb10
                    have HO10 := Lib.hid (hO10.mono (b' := w.heap.size) (by have := hB.out.size; have := HB9.out.size; omega))
                    have HB10 := Lib.hid (below2 (below2 hB.out HB9.out) hb10)
                    clear hO10 hb10
                    refine hK.out _ _ (fun h => trivial) ?_
                    clear hK K
                    try simp only [Act.put, List.setIfInBounds_toArray, List.set_cons_zero, List.set_cons_succ]
                    refine wpAnyG_oneL (i := 11) (by kernel_rfl) rfl (fun K hK => ?_)
                    go_simp
                    refine hK.out _ _ (fun h => trivial) ?_
                    clear hK K
                    try simp only [Act.put, List.setIfInBounds_toArray, List.set_cons_zero, List.set_cons_succ]
                    refine wpAnyG_done (by kernel_rfl) ?_ _
                    go_wp2
                    go_roundw
                    case rel => exact ⟨k + 1, by go_num, by omega, Lib.hid (by rw [HNEW.out]; exact HO10.out), HB10⟩
                    case measure => simp [intOf]; omega
                  · have e3 : decide (0 < nth 0 cs k) = false := decide_eq_false h3
                    have HNEW := Lib.hid (ordI_miss h3)
                    clear h3 hL
                    go_wp2
                    go_roundw
                    case rel => exact ⟨k + 1, by go_num, by omega, by rw [HNEW.out]; exact hO, hB⟩
                    case measure => simp [intOf]; omega
                · obtain ⟨pm, hpm⟩ : ∃ pm, p = pm + 1 := ⟨p - 1, by omega⟩
                  have hpq : pm < q := by omega
                  obtain ⟨ad9, e9, ho9⟩ := rd_int HRO.out pm (by rw [HQ2.out]; exact hpq)
                  obtain ⟨s, hs, hsk, hs0, _⟩ := ordI_nth (cs := cs) (k := k) (j := pm) (by rw [← ordI_length, HQ2.out]; exact hpq)
                  rw [hs] at ho9
                  obtain ⟨ads, es, hcs⟩ := rd_int (HS.out.below hB.out) s (by omega)
                  injection es with es
                  subst es
                  have hp1 : decide ((0 : Int) < (p : Int)) = true := decide_eq_true (by omega)
                  have hp2 : decide (0 < p) = true := decide_eq_true (by omega)
                  have hwp : IntKind.i64.wrap ((p : Int) - 1) = (pm : Int) := by rw [IntWalk.i64_in _ (by omega)]; omega
                  have hpi : (pm : Int) < (q : Int) := by omega
                  have hsi : (s : Int) < (cs.length : Int) := by omega
                  have HSS := Lib.hid (show nth 0 (ordI cs k) pm = (s : Int) ∧ p = pm + 1 from ⟨hs, hpm⟩)
                  by_cases h4 : nth 0 cs k < nth 0 cs s
                  · have e4 : decide (nth 0 cs k < nth 0 cs s) = true := decide_eq_true h4
                    have HL2 := Lib.hid (show ∀ j, pm ≤ j → j < q → nth 0 cs k < nth 0 cs (nth 0 (ordI cs k) j).toNat from fun j h1 h2 => by
                      rcases Nat.lt_or_ge pm j with h | h
                      · exact hL.out j (by omega) h2
                      · obtain rfl : j = pm := by omega
                        rw [hs, Int.toNat_natCast]; exact h4)
                    subst e9
                    clear h4 hp0 hs hpm
                    go_wp2
                    go_roundw
                    case rel => exact ⟨pm, rfl, by omega, HL2, trivial⟩
                    case measure => have := HSS.out.2; simp [intOf]; omega
                  · have e4 : decide (nth 0 cs k < nth 0 cs s) = false := decide_eq_false h4
                    have H4 := Lib.hid (show nth 0 cs s ≤ nth 0 cs k by omega)
                    clear h4 hp0 hs hpm
                    subst e9
                    by_cases h3 : 0 < nth 0 cs k
                    · have e3 : decide (0 < nth 0 cs k) = true := decide_eq_true h3
                      have hnew := ordI_hit (p := p) h3 (by rw [← ordI_length, HQ2.out]; exact hp) (.inr ⟨s, by have h5 := HSS.out; rw [h5.2, Nat.add_sub_cancel]; exact h5.1, H4.out⟩) (by rw [← ordI_length, HQ2.out]; exact hL.out)
                      obtain ⟨T, hT⟩ : ∃ T, (ordI cs k).take p = T := ⟨_, rfl⟩
                      obtain ⟨D, hD⟩ : ∃ D, (ordI cs k).drop p = D := ⟨_, rfl⟩
                      have hTl : T.length = p := by rw [← hT, List.length_take, HQ2.out]; omega
                      have hDl : D.length = q - p := by rw [← hD, List.length_drop, HQ2.out]
                      obtain ⟨i0, hi0, hz0, hz1, hz2⟩ := info_parts infoI
                      obtain ⟨A3, hcut3, hsl3⟩ := cut_full (P := Tryz.prog) 22 3 Tryz.underlying22 hi0 (some ad9) q co p hp (by have := HRO.out.le; rw [HQ2.out] at this; exact this)
                      obtain ⟨A8, hcut8, hsl8⟩ := cut_tail (P := Tryz.prog) 22 3 Tryz.underlying22 hi0 (some ad9) q co p hp
                      have hs3 := hsl3 (kInt .i64) _ _ _ (by rw [hz1]; rfl) HQ2.out HRO.out
                      have hs8 := hsl8 (kInt .i64) _ _ _ (by rw [hz1]; rfl) HQ2.out HRO.out
                      rw [hT] at hs3 hnew
                      rw [hD] at hs8 hnew
                      rw [← hDl] at hcut8
                      subst hTl
                      have HNEW := Lib.hid hnew
                      have HS3 := Lib.hid hs3
                      have HS8 := Lib.hid hs8
                      have HDL := Lib.hid hDl
                      have HDR := Lib.hid ((Below.refl wr.heap.size wr).drew)
                      have HLEN := Lib.hid (show T.length ≤ 256 ∧ D.length ≤ 256 by have := coinsK_len cs k; omega)
                      clear hnew hs3 hs8 hDl hT hD hsl3 hsl8 h3 hL hlt hi0 hz0 hz1 hz2
                      go_wp2_with fail
                      refine wp_region_G 10 (fun _ => True) (by kernel_rfl) trivial (fun hHeld => ?_)
                      refine wpAnyG_takeL (i := 0) (.slice (some ad9) q co) [3, 10] rfl (by kernel_rfl) (fun _ _ _ h => h) trivial (by rfl) ?_ ?_
                      · (intro W hSw; go_simp)
                      try simp only [Act.put, List.setIfInBounds_toArray, List.set_cons_zero, List.set_cons_succ]
                      refine wpAnyG_takeL (i := 1) (.int .i64 T.length) [3, 10] rfl (by kernel_rfl) (fun _ _ _ h => h) trivial (by rfl) ?_ ?_
                      · (intro W hSw; go_simp)
                      try simp only [Act.put, List.setIfInBounds_toArray, List.set_cons_zero, List.set_cons_succ]
                      refine wpAnyG_takeL (i := 2) (.int .i64 T.length) [3, 10] rfl (by kernel_rfl) (fun _ _ _ h => h) trivial (by rfl) ?_ ?_
                      · (intro W hSw; go_simp)
                      try simp only [Act.put, List.setIfInBounds_toArray, List.set_cons_zero, List.set_cons_succ]
                      refine wpAnyG_takeL (i := 3) (.slice A3 T.length T.length) [10] rfl (by kernel_rfl) (fun _ _ _ h => h) trivial (by rfl) ?_ ?_
                      · (intro W hSw; go_simp)
                      try simp only [Act.put, List.setIfInBounds_toArray, List.set_cons_zero, List.set_cons_succ]
                      refine wpAnyG_takeL (i := 4) (.int .i64 k) [5, 9, 10] rfl (by kernel_rfl) (fun _ _ _ h => h) trivial (by rfl) ?_ ?_
                      · (intro W hSw; go_simp)
                      try simp only [Act.put, List.setIfInBounds_toArray, List.set_cons_zero, List.set_cons_succ]
                      refine wpAnyG_takeL (i := 6) (.slice (some ad9) q co) [8, 9, 10] rfl (by kernel_rfl) (fun _ _ _ h => h) trivial (by rfl) ?_ ?_
                      · (intro W hSw; go_simp)
                      try simp only [Act.put, List.setIfInBounds_toArray, List.set_cons_zero, List.set_cons_succ]
                      refine wpAnyG_takeL (i := 7) (.int .i64 T.length) [8, 9, 10] rfl (by kernel_rfl) (fun _ _ _ h => h) trivial (by rfl) ?_ ?_
                      · (intro W hSw; go_simp)
                      try simp only [Act.put, List.setIfInBounds_toArray, List.set_cons_zero, List.set_cons_succ]
                      refine wpAnyG_takeL (i := 8) (.slice A8 D.length (co - T.length)) [9, 10] rfl (by kernel_rfl) (fun _ _ _ h => h) trivial (by rfl) ?_ ?_
                      · (intro W hSw; go_simp)
                      try simp only [Act.put, List.setIfInBounds_toArray, List.set_cons_zero, List.set_cons_succ]
                      refine wpAnyG_oneL (i := 5) (by kernel_rfl) rfl (fun K hK => ?_)
                      go_simp
                      refine hK.out _ _ (fun _ => trivial) ?_
                      clear hK K
                      try simp only [Act.put, List.setIfInBounds_toArray, List.set_cons_zero, List.set_cons_succ]
                      have HB1 := Lib.hid (below_alloc HDR.out (.cells #[.int .i64 k] 3))
                      have HO1 := Lib.hid (own_lit wr.drew 3 .i64 [(k : Int)] (by simp))
                      refine wpAnyG_oneL (i := 9) (by kernel_rfl) rfl (fun K hK => ?_)
                      refine step_append_row (W := wr.drew.alloc (.cells #[.int .i64 k] 3)) wr.heap.size rfl (.tmp 90) (.tmp 93) 22 3 .i64 8 rfl Tryz.underlying22 infoI (by decide) _ [(k : Int)] D A8 (co - T.length) rfl rfl HO1.out (HS8.out.below HB1.out) HB1.out.size (by have := HLEN.out; simp; omega) ?_
                      intro v9 w9 hO9 hg9 _
                      have HB9 := Lib.hid (HB1.out.grown hg9 HB1.out.size HO1.out.base_le)
                      have HO9 := Lib.hid hO9
                      clear hO9 hg9
                      refine hK.out _ _ (fun _ => trivial) ?_
                      clear hK K
                      try simp only [Act.put, List.setIfInBounds_toArray, List.set_cons_zero, List.set_cons_succ]
                      obtain ⟨A9, c9, rfl, hs9⟩ := own_ri HO9.out
                      have HS9 := Lib.hid hs9
                      clear hs9
                      refine wpAnyG_oneL (i := 10) (by kernel_rfl) rfl (fun K hK => ?_)
                      refine step_append_full (W := w9) rfl (.tmp 88) (.tmp 94) 22 3 .i64 8 rfl Tryz.underlying22 infoI (by decide) A3 T A9 c9 ([(k : Int)] ++ D) rfl rfl (HS3.out.below HB9.out) HS9.out (by simp) (by have := HLEN.out; simp; omega) ?_
                      intro v10 w10 hO10 hb10
                      have HO10 := Lib.hid (hO10.mono (b' := w.heap.size) (by have := hB.out.size; have := HB9.out.size; omega))
                      have HB10 := Lib.hid (below2 (below2 hB.out HB9.out) hb10)
                      clear hO10 hb10
                      refine hK.out _ _ (fun h => trivial) ?_
                      clear hK K
                      try simp only [Act.put, List.setIfInBounds_toArray, List.set_cons_zero, List.set_cons_succ]
                      refine wpAnyG_oneL (i := 11) (by kernel_rfl) rfl (fun K hK => ?_)
                      go_simp
                      refine hK.out _ _ (fun h => trivial) ?_
                      clear hK K
                      try simp only [Act.put, List.setIfInBounds_toArray, List.set_cons_zero, List.set_cons_succ]
                      refine wpAnyG_done (by kernel_rfl) ?_ _
                      go_wp2
                      go_roundw
                      case rel => exact ⟨k + 1, by go_num, by omega, Lib.hid (by rw [HNEW.out]; exact HO10.out), HB10⟩
                      case measure => simp [intOf]; omega
                    · have e3 : decide (0 < nth 0 cs k) = false := decide_eq_false h3
                      have HNEW := Lib.hid (ordI_miss h3)
                      clear h3 hL
                      go_wp2
                      go_roundw
                      case rel => exact ⟨k + 1, by go_num, by omega, by rw [HNEW.out]; exact hO, hB⟩
                      case measure => simp [intOf]; omega

            · obtain rfl : k = cs.length := by omega
              have hmk := HMK.out
              have hOo := own_made wr 3 .i64 cs.length (by omega)
              have hBo := below_alloc (Below.refl wr.heap.size wr) (.cells (madeCells #[.int .i64 0] cs.length) 3)
              have HOo := Lib.hid hOo
              have HBo := Lib.hid hBo
              obtain ⟨Ao, co, e, hRo⟩ := own_ri hO.out
              subst e
              have hbz := hB.out.size
              have hRo2 := hRo.below hBo
              have hol := (ordI_length cs cs.length).trans HN.out
              have HOL := Lib.hid hol
              rw [hol]
              clear hOo hBo hRo hol hO
              by_cases hn1 : n = 1
              · have hnb : ((n : Int) == 1) = true := by simp [hn1]
                obtain ⟨s, hs1, hs2, _, hs4⟩ := ordI_nth (cs := cs) (k := cs.length) (j := 0) (by rw [HN.out]; omega)
                obtain ⟨ad9, rfl, ho9⟩ := rd_int hRo2 0 (by rw [HOL.out]; omega)
                rw [hs1, add_zero] at ho9
                have HV1 := Lib.hid (lengthsV_one HE0.out (HN.out.trans hn1) hs4)
                have hsi : (s : Int) < (cs.length : Int) := by omega
                have hn0 : 0 < n := by omega
                obtain ⟨ka, kf⟩ := HOo.out.at_ s (by simp; exact hs2)
                clear hs1 hs4 hn1 hRo2
                go_wp2
                go_ret2
                have hs := HOo.out.set s (1 : Int)
                rw [World.setCell_alloc_at _ _ _ _ _ rfl] at hs
                refine ⟨_, ret_two rfl (by rw [HE0.out]; rfl), ?_, below2 hB.out (below_alloc (Below.refl _ _) _)⟩
                rw [HV1.out]
                exact hs.1.mono hbz
              · have hnb : ((n : Int) == 1) = false := by simp; omega
                have hRO2 := Lib.hid hRo2
                have HN2 := Lib.hid (show 2 ≤ n by have := HNX.out.1; omega)
                have hn256 := HNX.out.2
                clear hn1 hRo2
                go_wp2
                have hz2 : (wr.alloc (.cells (madeCells #[.int .i64 0] cs.length) 3)).heap.size = wr.heap.size + 1 := by simp
                have hBX := Lib.hid (below2 hB.out HBo.out)
                obtain ⟨G0, hG0⟩ : ∃ G0, wr.heap.size = G0 := ⟨_, rfl⟩
                generalize hw2 : wr.alloc (.cells (madeCells #[.int .i64 0] cs.length) 3) = w2 at *
                rw [hG0] at hz2 hbz HOo ⊢
                clear hw2 HBo hB HMK hmk
                go_loopw [14, 110] (fun cv iv wr => ∃ j : Nat, iv = .int .i64 (j : Int) ∧ j ≤ n ∧ Hid (OwnK kField 174 w2.heap.size (fun _ => True) wr cv ((tagC cs).take j)) ∧ Hid (Below w2.heap.size w2 wr)) (fun _ iv _ => n - (intOf iv).toNat)
                case atStart => exact ⟨0, rfl, Nat.zero_le _, Lib.hid (OwnK.nil _ _ _ _ _), Lib.hid (Below.refl _ _)⟩
                case round =>
                  obtain ⟨j, rfl, hj, hC, hB⟩ := hrel
                  by_cases hjn : j < n
                  · obtain ⟨ad9, rfl, ho9⟩ := rd_int (hRO2.out.below hB.out) j (by rw [HOL.out]; exact hjn)
                    obtain ⟨s, hs1, hs2, _, _⟩ := ordI_nth (cs := cs) (k := cs.length) (j := j) (by rw [HN.out]; exact hjn)
                    rw [hs1] at ho9
                    obtain ⟨ads, rfl, hcs⟩ := rd_int ((HS.out.below hBX.out).below hB.out) s hs2
                    have htk := take_succ_nth (0, 0) (tagC cs) j (by rw [tagC_length, sortedC_length, HN.out]; exact hjn)
                    rw [tagC_nth (by rw [HN.out]; exact hjn), hs1, Int.toNat_natCast] at htk
                    have HTK := Lib.hid htk
                    have hsi : (s : Int) < (cs.length : Int) := by omega
                    have hjni : (j : Int) < (n : Int) := by omega
                    have hlk : ((tagC cs).take j).length ≤ 256 := by rw [List.length_take]; omega
                    generalize nth 0 cs s = x at hcs HTK
                    clear htk hs1
                    go_wp2_with (at_builtin; (refine append_k (W := wr) (k := kField) w2.heap.size rfl (.tmp 114) (.tmp 121) 172 174 (.agg #[.int .i64 0, .int .i64 0]) 16 (fun _ => True) rfl Tryz.underlying172 infoRi rfl (by decide) (by decide) u14 ((tagC cs).take j) (x, (s : Int)) [.int .i64 x, .int .i64 s] rfl rfl rfl hC.out ⟨[_], [_], rfl, rfl, rfl⟩ hB.out.size (by omega) ?_); intro g9 cap9 w9 hO9 hg9 hb9 ha9; have HO9 := Lib.hid hO9; have HB9 := Lib.hid (hB.out.grown hg9 hB.out.size hC.out.base_le); clear hO9 hg9 ha9)
                    go_roundw
                    case rel => exact ⟨j + 1, by go_num, by omega, Lib.hid (by rw [HTK.out]; have := HO9.out; simpa using this), HB9⟩
                    case measure => simp [intOf]; omega
                  · obtain rfl : j = n := by omega
                    obtain ⟨Ac, cc, rfl, hcl⟩ := ownF_sl hC.out
                    have htl : (tagC cs).take j = tagC cs := List.take_of_length_le (by rw [tagC_length, sortedC_length, HN.out]; exact Nat.le_refl _)
                    have htn : (tagC cs).length = j := by rw [tagC_length, sortedC_length, HN.out]
                    rw [htl] at hcl ⊢
                    have HTN := Lib.hid htn
                    have HCL := Lib.hid hcl
                    rw [htn]
                    obtain ⟨K, hK⟩ : ∃ K, most - 1 = K := ⟨_, rfl⟩
                    have hwm : IntKind.i64.wrap ((most : Int) - 1) = (K : Int) := by rw [IntWalk.i64_in _ (by have := HM.out; omega)]; have := HM.out; omega
                    have HK := Lib.hid (show most - 1 = K ∧ K ≤ 15 ∧ most = K + 1 by have := HM.out; omega)
                    have hK15 := HK.out.2.1
                    clear hK hcl htl htn hC
                    obtain ⟨n, rfl⟩ : ∃ n, n = j := ⟨_, rfl⟩
                    have hz3 := hB.out.size
                    have hR0 : Hid (OwnK (kSl kField) 172 wr.heap.size (fun b => b ≠ G0) (wr.alloc (.cells #[.slice Ac n cc] 172)) (.slice (some ⟨wr.heap.size, 0, none⟩) 1 1) (rowsL cs 0)) := Lib.hid (by
                      rw [rowsL_zero]
                      exact own_lit1K wr _ _ (tagC cs) _ rfl ⟨Ac, cc, by rw [HTN.out], HCL.out.weak fun b hb h => ⟨by omega, by omega⟩⟩)
                    have hB0 := Lib.hid (below_alloc (Below.refl wr.heap.size wr) (.cells #[.slice Ac n cc] 172))
                    go_wp2
                    obtain ⟨w3, rfl⟩ : ∃ w3, w3 = wr := ⟨_, rfl⟩
                    go_loopw [17, 128] (fun rv iv wr => ∃ i : Nat, iv = .int .i64 (i : Int) ∧ i ≤ K ∧ Hid (OwnK (kSl kField) 172 w3.heap.size (fun b => b ≠ G0) wr rv (rowsL cs i)) ∧ Hid (Below w3.heap.size w3 wr)) (fun _ iv _ => K - (intOf iv).toNat)
                    case atStart => exact ⟨0, rfl, Nat.zero_le _, hR0, hB0⟩
                    case round =>
                      clear hR0 hB0
                      obtain ⟨i, rfl, hi, hR, hB3⟩ := hrel
                      obtain ⟨Ar, cr, rfl, hrs⟩ := hR.out.rd
                      by_cases hiK : i < K
                      · obtain ⟨ad7, A7, c7, rfl, ho7, hs7⟩ := rd_sl hrs i (by rw [rowsL_length]; omega)
                        rw [rowsL_nth (Nat.le_refl _)] at ho7 hs7
                        have hRO := hR.out
                        rw [rowsL_length] at hRO ⊢
                        have HRO := Lib.hid hRO
                        have hlen := rowR_len h256 (k := i)
                        have hlpk : (pairsR (rowR (tagC cs) i)).length ≤ 512 := by rw [pairsR_length]; omega
                        have HP := Lib.hid (rpackages_any A7 c7 (rowR (tagC cs) i) wr hs7.any (by omega) (rowR_bound hcB.out (by omega)))
                        have hz4 := hB3.out.size
                        have HCW := Lib.hid ((HCL.out.below hB3.out).any)
                        have HMg := Lib.hid (fun (Ab : Option Addr) (cb : Nat) (W : World) (ha : Sl kField AnyB W Ac cc (tagC cs)) (hb : Sl kField AnyB W Ab cb (pairsR (rowR (tagC cs) i))) => rmerged_any Ac Ab cc cb (tagC cs) (pairsR (rowR (tagC cs) i)) W ha hb (by have := HTN.out; omega))
                        rw [HTN.out] at HMg
                        have HSU := Lib.hid (rowsL_succ cs i)
                        have hii : (i : Int) < ((i + 1 : Nat) : Int) := by omega
                        have hii2 : (i : Int) < (i : Int) + 1 := by omega
                        clear hs7 hrs hRO hlen
                        go_wp2_with (first
                          | (go_at_call 125; refine HP.out.mono ?_; rintro e w5 ⟨v5, rfl, hO5, hb5⟩; obtain ⟨A5, c5, rfl, hs5⟩ := ownF_sl hO5; have HS5 := Lib.hid hs5.any; have HB5 := Lib.hid hb5; clear hO5 hs5 hb5)
                          | (go_at_call 124; refine (HMg.out A5 c5 _ (HCW.out.below HB5.out) HS5.out).mono ?_; rintro e w6 ⟨v6, rfl, hO6, hb6⟩; obtain ⟨A6, c6, rfl, hs6⟩ := ownF_sl hO6; have HS6 := Lib.hid hs6; have HB6 := Lib.hid (below2 HB5.out hb6); clear hO6 hs6 hb6)
                          | (at_builtin; (refine append_k (W := w6) (k := kSl kField) w3.heap.size rfl (.tmp 131) (.tmp 139) 175 172 (.slice none 0 0) 24 (fun b => b ≠ G0) rfl Tryz.underlying175 infoRr rfl (by decide) (by decide) (.slice (some ad7) (i + 1) cr) (rowsL cs i) (mergeR (tagC cs) (pairsR (rowR (tagC cs) i))) [.slice A6 (mergeR (tagC cs) (pairsR (rowR (tagC cs) i))).length c6] rfl rfl rfl (HRO.out.below HB6.out) ⟨A6, c6, rfl, HS6.out.weak fun b hb h => ⟨by have := HB5.out.size; omega, fun e => by have := (HRO.out.lt b e).2; have := HB5.out.size; omega⟩⟩ (by have := HB6.out.size; omega) (by rw [rowsL_length]; omega) ?_); intro g9 cap9 w9 hO9 hg9 hb9 ha9; have HO9 := Lib.hid hO9; have HB9 := Lib.hid ((hB3.out.trans (HB6.out.mono hz4)).grown hg9 (by have := HB6.out.size; omega) HRO.out.base_le); clear hO9 hg9 ha9))
                        go_roundw
                        case rel => exact ⟨i + 1, by go_num, by omega, Lib.hid (by rw [HSU.out]; exact HO9.out), HB9⟩
                        case measure => simp [intOf]; omega
                      · obtain rfl : i = K := by omega
                        obtain ⟨K, rfl⟩ : ∃ K, K = i := ⟨_, rfl⟩
                        have hrs2 := Lib.hid (show Sl (kSl kField) (fun b => b ≠ G0) wr Ar cr (rowsL cs K) from hrs.weak fun b _ h => h.elim id (fun h => by have := hR.out.base_le b h; omega))
                        rw [rowsL_length]
                        have HO3 := Lib.hid ((HOo.out.below hB.out).below hB3.out)
                        have HBW := Lib.hid (below2 (below2 hBX.out hB.out) hB3.out)
                        have hgz : G0 < wr.heap.size := by have := hB3.out.size; omega
                        have hSn : (sortedC cs).length = n := (sortedC_length cs).trans HN.out
                        have HSN := Lib.hid hSn
                        have hfit : 2 * n - 2 ≤ (rowI (sortedC cs) K).length := by
                          have h9 := row_fits (coins := sortedC cs) (k := K) (by rw [← HK.out.2.2]; exact HIN.out.fit)
                          rw [hSn] at h9; exact h9
                        have hps : psL cs most = lens (sortedC cs) K (2 * n - 2) := by
                          unfold psL
                          rw [if_neg (by rw [hSn]; have := HN2.out; omega), HK.out.1, hSn]
                        obtain ⟨M, hM⟩ : ∃ M, 2 * n - 2 = M := ⟨_, rfl⟩
                        rw [hM] at hfit hps
                        have hwm2 : IntKind.i64.wrap (2 * (n : Int)) = 2 * (n : Int) := IntWalk.i64_in _ (by omega)
                        have hwm3 : IntKind.i64.wrap (2 * (n : Int) - 2) = (M : Int) := by rw [IntWalk.i64_in _ (by omega)]; have := HN2.out; omega
                        have HFIT := Lib.hid hfit
                        have HPS := Lib.hid (show outT cs (lens (sortedC cs) K M) = lengthsV cs most by rw [← hps]; exact outT_all HE0.out HIN.out)
                        have hgw : w.heap.size ≤ G0 := hbz
                        clear hrs hR hB3 hM hfit hps hSn
                        go_wp2
                        obtain ⟨w4, rfl⟩ : ∃ w4, w4 = wr := ⟨_, rfl⟩
                        go_loopw [19, 20] (fun fv iv wr => ∃ (j m : Nat) (ps : List Nat) (z : Int), iv = .int .i64 z ∧ z = (j : Int) - 1 ∧ fv = .int .i64 (m : Int) ∧ j ≤ K + 1 ∧ Hid (OwnI 3 .i64 G0 wr (.slice (some ⟨G0, 0, none⟩) cs.length cs.length) (outT cs ps)) ∧ Hid (lens (sortedC cs) K M = ps ++ (if j = 0 then [] else lens (sortedC cs) (j - 1) m)) ∧ Hid (j ≠ 0 → m ≤ (rowI (sortedC cs) (j - 1)).length) ∧ Hid (Sl (kSl kField) (fun b => b ≠ G0) wr Ar cr (rowsL cs K)) ∧ Hid (Below w.heap.size w wr) ∧ G0 < wr.heap.size) (fun _ iv _ => (intOf iv + 1).toNat)
                        case atStart => exact ⟨K + 1, M, [], K, rfl, by omega, rfl, Nat.le_refl _, Lib.hid (by rw [outT_nil]; exact HO3.out), Lib.hid (by rw [if_neg (by omega)]; rfl), Lib.hid (fun _ => HFIT.out), hrs2, HBW, hgz⟩
                        case round =>
                          clear HO3 hrs2 HBW hgz
                          obtain ⟨j, m, ps, z, rfl, hz, rfl, hj, hO, hL, hm, hR, hB4, hgz⟩ := hrel
                          by_cases hj0 : j = 0
                          · have hd : decide ((0 : Int) ≤ z) = false := decide_eq_false (by omega)
                            have hL2 : lens (sortedC cs) K M = ps := by have := hL.out; rw [if_pos hj0] at this; rw [this, List.append_nil]
                            have HL2 := Lib.hid hL2
                            clear hz hj0 hL2
                            go_wp2
                            go_ret2
                            exact ⟨_, ret_two rfl (by rw [HE0.out]; rfl), by rw [← HPS.out, HL2.out]; exact hO.out.mono hgw, hB4.out⟩
                          · obtain ⟨i, rfl⟩ : ∃ i, j = i + 1 := ⟨j - 1, by omega⟩
                            obtain rfl : z = (i : Int) := by omega
                            have hm2 : m ≤ (rowI (sortedC cs) i).length := hm.out (by omega)
                            have hd : decide ((0 : Int) ≤ (i : Int)) = true := decide_eq_true (by omega)
                            obtain ⟨ad7, A7, c7, rfl, ho7, hs7⟩ := rd_sl hR.out i (by rw [rowsL_length]; omega)
                            rw [rowsL_nth (by omega)] at ho7 hs7
                            have hrl : (rowR (tagC cs) i).length = (rowI (sortedC cs) i).length := rowR_length cs i
                            have hrl5 := rowR_len h256 (k := i)
                            obtain ⟨p, hp1, hp2, hp3⟩ := level_step hm2
                            obtain ⟨L, hLe⟩ : ∃ L, (rowR (tagC cs) i).take m = L := ⟨_, rfl⟩
                            have hLl : L.length = m := by rw [← hLe, List.length_take]; omega
                            have hLs : ∀ x ∈ L, ¬ x.2 < 0 → ∃ s : Nat, x.2 = (s : Int) ∧ s < cs.length := fun x hx h => item_sym (List.mem_of_mem_take (by rw [hLe]; exact hx)) h
                            have hsL := hs7.le
                            have hSL : Sl kField (fun b => b ≠ G0) wr A7 c7 L := ⟨by omega, hs7.cap, by rw [← hLe]; exact hs7.rd.take m⟩
                            rw [hLe] at hp1 hp2 hp3
                            have HP1 := Lib.hid hp1
                            have HP2 := Lib.hid hp2
                            have HP3 := Lib.hid hp3
                            have HLL := Lib.hid hLl
                            have HLS := Lib.hid hLs
                            have HSL := Lib.hid hSL
                            have hm512 : m ≤ 512 := by omega
                            have hlps : ps.length ≤ 16 := by
                              have h9 := congrArg List.length hL.out
                              rw [lens_length, List.length_append] at h9; omega
                            have hmc : m ≤ c7 := by omega
                            have hii : (i : Int) < ((K + 1 : Nat) : Int) := by omega
                            have hii2 : (i : Int) < (K : Int) + 1 := by omega
                            have hi0 : (0 : Int) ≤ (i : Int) := by omega
                            have hmi : (m : Int) ≤ (c7 : Int) := by omega
                            obtain ⟨rl, hrle⟩ : ∃ rl, (rowR (tagC cs) i).length = rl := ⟨_, rfl⟩
                            rw [hrle] at ho7
                            have hwi : IntKind.i64.wrap ((i : Int) - 1) = (i : Int) - 1 := IntWalk.i64_in _ (by omega)
                            clear hm2 hs7 hrl hrl5 hp1 hp2 hp3 hLe hLl hLs hsL hSL hrle hz hj0 hm
                            go_wp2
                            obtain ⟨w5, rfl⟩ : ∃ w5, w5 = wr := ⟨_, rfl⟩
                            have hgz5 := hgz
                            go_loopw [21, 158] (fun kv iv wr => ∃ q : Nat, iv = .int .i64 (q : Int) ∧ q ≤ m ∧ kv = .int .i64 (packsIn (L.take q) : Int) ∧ Hid (OwnI 3 .i64 G0 wr (.slice (some ⟨G0, 0, none⟩) cs.length cs.length) (outU cs ps (L.take q))) ∧ Hid (Sl kField (fun b => b ≠ G0) wr A7 c7 L) ∧ Hid (Sl (kSl kField) (fun b => b ≠ G0) wr (some ad7) cr (rowsL cs K)) ∧ Hid (Below w.heap.size w wr) ∧ G0 < wr.heap.size) (fun _ iv _ => m - (intOf iv).toNat)
                            case atStart => exact ⟨0, rfl, Nat.zero_le _, rfl, Lib.hid (by rw [List.take_zero, outU_nil]; exact hO.out), HSL, hR, hB4, hgz⟩
                            case round =>
                              clear hO hR hB4 hgz HSL ho7
                              obtain ⟨q, rfl, hq, rfl, hO, hSL, hR, hB4, hgz⟩ := hrel
                              by_cases hqm : q < m
                              · obtain ⟨ad8, rfl, x0, x1⟩ := rd_field hSL.out q (by rw [HLL.out]; exact hqm)
                                have htk := take_succ_nth (0, 0) L q (by rw [HLL.out]; exact hqm)
                                have hsym := HLS.out _ (nth_mem (0, 0) L q (by rw [HLL.out]; exact hqm))
                                obtain ⟨⟨xw, xs⟩, hxe⟩ : ∃ x, nth (0, 0) L q = x := ⟨_, rfl⟩
                                rw [hxe] at x0 x1 htk hsym
                                have hpk := packsIn_snoc (L.take q) (xw, xs)
                                rw [← htk] at hpk
                                have hpl := packsIn_le (L.take q)
                                rw [List.length_take] at hpl
                                obtain ⟨pk, hpke⟩ : ∃ pk, packsIn (L.take q) = pk := ⟨_, rfl⟩
                                rw [hpke] at hpk hpl ⊢
                                have hwk : IntKind.i64.wrap ((pk : Int) + 1) = (pk : Int) + 1 := IntWalk.i64_in _ (by omega)
                                have hqi : (q : Int) < (m : Int) := by omega
                                have hwq : IntKind.i64.wrap ((q : Int) + 1) = (q : Int) + 1 := IntWalk.i64_in _ (by omega)
                                have HTK := Lib.hid htk
                                have HBA := Lib.hid (below_alloc (Below.refl wr.heap.size wr) (.cells #[.int .i64 xw, .int .i64 xs] 174))
                                have hO2 := hO.out.below HBA.out
                                by_cases hx : xs < 0
                                · have hxb : decide (xs < 0) = true := decide_eq_true hx
                                  have hun := outU_pack (cs := cs) (ps := ps) (l := L.take q) (x := (xw, xs)) hx
                                  rw [← htk] at hun
                                  rw [if_pos (show ((xw, xs) : Int × Int).2 < 0 from hx)] at hpk
                                  have HUN := Lib.hid hun
                                  have HPK := Lib.hid hpk
                                  have HO2 := Lib.hid hO2
                                  clear hx hun hpk htk hsym hxe hpl hpke hO2
                                  go_wp2
                                  go_roundw
                                  case rel => exact ⟨q + 1, by go_num, by omega, by rw [HPK.out]; go_num, Lib.hid (by rw [HUN.out]; exact HO2.out), Lib.hid (hSL.out.below HBA.out), Lib.hid (hR.out.below HBA.out), Lib.hid (below2 hB4.out HBA.out), by have := HBA.out.size; omega⟩
                                  case measure => simp [intOf]; omega
                                · have hxb : decide (xs < 0) = false := decide_eq_false hx
                                  obtain ⟨s, hs, hsl⟩ := hsym (by first | exact hx | (show (0 : Int) ≤ xs; omega))
                                  have hs : xs = (s : Int) := hs
                                  subst hs
                                  obtain ⟨ka, kf⟩ := hO2.at_ s (by rw [outU_length]; exact hsl)
                                  have hval := outU_nth (cs := cs) (ps := ps) (l := L.take q) hsl
                                  have hb1 := count_sum_le cs s ps
                                  have hb2 := coinsIn_le s (L.take q)
                                  rw [List.length_take] at hb2
                                  have hb3 : ps.length * (sortedC cs).length ≤ 16 * 256 := Nat.mul_le_mul hlps (by rw [HSN.out]; exact hn256)
                                  have hun := outU_coin (cs := cs) (ps := ps) (l := L.take q) (x := (xw, (s : Int))) (s := s) rfl hsl
                                  rw [← htk] at hun
                                  rw [if_neg (show ¬ ((xw, (s : Int)) : Int × Int).2 < 0 from hx)] at hpk
                                  obtain ⟨V, hV⟩ : ∃ V, nth 0 (outU cs ps (L.take q)) s = V := ⟨_, rfl⟩
                                  rw [hV] at ka hval hun
                                  have hwV : IntKind.i64.wrap (V + 1) = V + 1 := IntWalk.i64_in _ (by omega)
                                  have hsi : (s : Int) < (cs.length : Int) := by omega
                                  have HUN := Lib.hid hun
                                  have HPK := Lib.hid hpk
                                  have HO2 := Lib.hid hO2
                                  have hG1 : wr.heap.size ≠ G0 := by omega
                                  clear hx hun hpk htk hsym hxe hpl hpke hval hb1 hb2 hb3 hV hO2
                                  go_wp2
                                  go_roundw
                                  case rel =>
                                    have hs := hO.out.set s (V + 1)
                                    have hkp : Keep (fun b => b ≠ G0) wr (wr.setCell ⟨G0, s, none⟩ (.int .i64 (V + 1))) := Keep.of_grown1 hs.2
                                    have hba := below_alloc (Below.refl (wr.setCell ⟨G0, s, none⟩ (.int .i64 (V + 1))).heap.size (wr.setCell ⟨G0, s, none⟩ (.int .i64 (V + 1)))) (.cells #[.int .i64 xw, .int .i64 (s : Int)] 174)
                                    have hbf := below2 (hB4.out.grown hs.2 hB4.out.size (fun r e => by have := Option.some.inj e; omega)) hba
                                    refine ⟨q + 1, by go_num, by omega, by rw [HPK.out]; rfl, Lib.hid ?_, Lib.hid ?_, Lib.hid ?_, Lib.hid ?_, ?_⟩
                                    · rw [← HUN.out]; exact hs.1.below hba
                                    · exact (hSL.out.keep hkp).below hba
                                    · exact (hR.out.keep hkp).below hba
                                    · exact hbf
                                    · have := hkp.size; have := hba.size; omega
                                  case measure => simp [intOf]; omega
                              · obtain rfl : q = m := by omega
                                have htl : L.take q = L := List.take_of_length_le (by rw [HLL.out]; exact Nat.le_refl _)
                                have hpl := packsIn_le L
                                rw [HLL.out] at hpl
                                rw [htl] at hO ⊢
                                have hout := outU_done (cs := cs) (ps := ps) (l := L) (p := p) HP1.out
                                rw [hout] at hO
                                have HHO := Lib.hid hO.out
                                have HLN := Lib.hid (show lens (sortedC cs) K M = (ps ++ [p]) ++ (if i = 0 then [] else lens (sortedC cs) (i - 1) (2 * packsIn L)) by
                                  have h9 := hL.out
                                  rw [if_neg (by omega), Nat.add_sub_cancel, HP2.out] at h9
                                  rw [h9]; simp)
                                obtain ⟨pk, hpke⟩ : ∃ pk, packsIn L = pk := ⟨_, rfl⟩
                                rw [hpke] at hpl HLN HP3 ⊢
                                have hw2 : IntKind.i64.wrap (2 * (pk : Int)) = 2 * (pk : Int) := IntWalk.i64_in _ (by omega)
                                clear htl hout hpke hO hL HP2
                                go_wp2
                                go_roundw
                                case rel => exact ⟨i, 2 * pk, ps ++ [p], (i : Int) - 1, rfl, rfl, by simp, by omega, HHO, HLN, HP3, hR, hB4, hgz⟩
                                case measure => simp [intOf] <;> omega
end Go.Proofs.YtmcdgmiheklbeaaGreatDoor

namespace Go.Proofs.YtmcdgmiheklbeaaGreatDoor
open Go.RowKit

theorem rlengths_all (A : Option Addr) (c : Nat) (cs : List Int) (most : Int) (w : World) (hS : RI w A c cs) :
    Calls Tryz.prog 101 #[.slice A cs.length c, .int .i64 most] w fun e w' => ∃ v, e = .returned (.tuple #[v, .int .i64 (lengthsE cs most)]) ∧ OwnI 3 .i64 w.heap.size w' v (lengthsV cs most) ∧ Below w.heap.size w w' := by
  by_cases h : countsB cs = false ∨ most < 1 ∨ 16 < most
  · refine (rlengths_no A c cs most w hS h).mono ?_
    rintro e w' ⟨rfl, hb⟩
    have e1 : lengthsE cs most = 1 := by unfold lengthsE; rw [if_pos h]
    have e2 : lengthsV cs most = [] := by unfold lengthsV; rw [if_pos (by rw [e1]; decide)]
    exact ⟨_, by rw [e1], by rw [e2]; exact OwnI.nil _ _ _ _, hb⟩
  · have h1 : countsB cs = true := by
      cases hc : countsB cs
      · exact absurd (.inl hc) h
      · rfl
    have h2 : 1 ≤ most ∧ most ≤ 16 := by omega
    obtain ⟨m, rfl⟩ : ∃ m : Nat, most = (m : Int) := ⟨most.toNat, by omega⟩
    exact rlengths_any A c cs m w hS h1 (by omega) (by omega)
end Go.Proofs.YtmcdgmiheklbeaaGreatDoor

namespace Go.Proofs.YtmcdgmiheklbeaaGreatDoor
open Go.RowKit

set_option maxHeartbeats 2000000 in
set_option maxRecDepth 100000 in
theorem putrow_any (base : Nat) (u : Value) (bs : List Bool) (v n : Nat) (w : World) (hO : OwnI 5 .u8 base w u (bitsI bs)) (hb : base ≤ w.heap.size) (hl : bs.length + n ≤ 100000000) (h64 : n ≤ 64) (hv : v ≤ 4611686018427387904) :
    Calls Tryz.prog 78 #[u, .int .i64 (v : Int), .int .i64 (n : Int)] w
      fun e w' => ∃ u', e = .returned u' ∧ OwnI 5 .u8 base w' u' (bitsI (bs ++ numB v n)) ∧ Upd (fun b => u.ownBlock = some b) w w' ∧ (u'.ownBlock = u.ownBlock ∨ ∃ b, u'.ownBlock = some b ∧ w.heap.size ≤ b) := by
  have hw1 : IntKind.i64.wrap ((n : Int) - 1) = (n : Int) - 1 := IntWalk.i64_in _ (by omega)
  have HO := Lib.hid hO
  clear hO
  go_enter Tryz.func78, Tryz.ntmps78
  go_wp2
  go_loopw [0, 7] (fun rv iv wr => ∃ (j : Nat) (z : Int), iv = .int .i64 z ∧ z = (n : Int) - 1 - (j : Int) ∧ j ≤ n ∧ Hid (OwnI 5 .u8 base wr rv (bitsI (bs ++ (numB v n).take j))) ∧ Hid (Upd (fun b => u.ownBlock = some b) w wr) ∧ Hid (rv.ownBlock = u.ownBlock ∨ ∃ b, rv.ownBlock = some b ∧ w.heap.size ≤ b)) (fun _ iv _ => (intOf iv + 1).toNat)
  case atStart => exact ⟨0, (n : Int) - 1, rfl, by omega, Nat.zero_le _, Lib.hid (by simpa using HO.out), Lib.hid (Upd.refl _ _), Lib.hid (.inl rfl)⟩
  case round =>
    clear HO
    obtain ⟨j, z, rfl, hz, hj, hO, hU, hat⟩ := hrel
    by_cases hlt : j < n
    · obtain ⟨i, hi⟩ : ∃ i : Nat, n - 1 - j = i := ⟨_, rfl⟩
      obtain rfl : z = (i : Int) := by omega
      have hd : decide ((0 : Int) ≤ (i : Int)) = true := decide_eq_true (by omega)
      have hwi : IntKind.i64.wrap ((i : Int) - 1) = (i : Int) - 1 := IntWalk.i64_in _ (by omega)
      have hi64 : i ≤ 64 := by omega
      have htk := take_succ_nth false (numB v n) j (by rw [numB_length]; exact hlt)
      rw [numB_nth v n j hlt, hi] at htk
      have hand : Go.bits .and .i64 ((v : Int) / 2 ^ i) 1 = b2i (v / 2 ^ i % 2 == 1) := by
        have e1 : (v : Int) / 2 ^ i = ((v / 2 ^ i : Nat) : Int) := by simp
        have hle : v / 2 ^ i ≤ v := Nat.div_le_self _ _
        obtain ⟨y, hy⟩ : ∃ y, v / 2 ^ i = y := ⟨_, rfl⟩
        rw [hy] at hle
        rw [e1, hy, and_one _ (by omega) (by omega), b2i_nat, bit_toNat]; simp
      obtain ⟨b, hb9⟩ : ∃ b, (v / 2 ^ i % 2 == 1) = b := ⟨_, rfl⟩
      rw [hb9] at htk hand
      have HTK := Lib.hid (show bitsI (bs ++ (numB v n).take (j + 1)) = bitsI (bs ++ (numB v n).take j) ++ [b2i b] by rw [htk]; simp [bitsI])
      have hbb := b2i_bd b
      have hcv : IntKind.u8.wrap (b2i b) = b2i b := by cases b <;> rfl
      have hcv2 : b2i b % 256 = b2i b := by cases b <;> rfl
      have hlen : (bitsI (bs ++ (numB v n).take j)).length ≤ 100000000 := by simp [bitsI, numB_length]; omega
      generalize b2i b = y at hand HTK hcv hcv2 hbb
      have hsz := hU.out.size
      have HZ := Lib.hid hz
      clear htk hb9 hlt hz hi
      go_wp2_with (at_builtin; (refine append_one (w0 := wr) base rfl (.tmp 14) (.tmp 20) 35 5 .u8 1 rfl Tryz.underlying35 infoY (by decide) u0 (bitsI (bs ++ (numB v n).take j)) y rfl rfl hO.out (Below.refl _ _) (by omega) (by omega) ?_); intro v1 w4 hO4 hB4 hg4 ha4; have HO4 := Lib.hid hO4; have HG4 := Lib.hid hg4; have HA4 := Lib.hid ha4; clear hO4 hB4 hg4 ha4)
      go_roundw
      case rel =>
        have hz := HZ.out
        refine ⟨j + 1, (i : Int) - 1, rfl, by omega, by omega, Lib.hid (by rw [HTK.out]; exact HO4.out), Lib.hid ?_, Lib.hid ?_⟩
        · refine (hU.out.trans (Upd.of_grown (o := fun b => u0.ownBlock = some b) HG4.out (fun r e => e)) fun b hb e => ?_)
          rcases hat.out with h | ⟨b2, h, h3⟩
          · rw [← h]; exact e
          · rw [h] at e; have := Option.some.inj e; omega
        · rcases HA4.out with h | ⟨b2, h, h3⟩
          · rw [h]; exact hat.out
          · exact .inr ⟨b2, h, by omega⟩
      case measure => simp [intOf] <;> omega
    · obtain rfl : j = n := by omega
      have hd : decide ((0 : Int) ≤ z) = false := decide_eq_false (by omega)
      have HT := Lib.hid (show (numB v j).take j = numB v j from List.take_of_length_le (by rw [numB_length]; exact Nat.le_refl _))
      clear hz
      go_wp2
      go_ret
      exact ⟨_, rfl, by rw [← HT.out]; exact hO.out, hU.out, hat.out⟩
end Go.Proofs.YtmcdgmiheklbeaaGreatDoor

namespace Go.Proofs.YtmcdgmiheklbeaaGreatDoor
open Go.RowKit

theorem div_pos_iff (v K : Nat) : 0 < v / 2 ^ K ↔ 2 ^ K ≤ v := by
  have := Nat.two_pow_pos K
  constructor
  · intro h
    exact Decidable.byContradiction fun h2 => by rw [Nat.div_eq_of_lt (by omega)] at h; omega
  · intro h; exact Nat.div_pos h this
set_option maxHeartbeats 1000000 in
theorem rzeros_any (v : Nat) (w : World) (h1 : 1 ≤ v) (hv : v < 2097152) :
    Calls Tryz.prog 106 #[.int .i64 (v : Int)] w fun e w' => e = .returned (.int .i64 (Nat.log2 v : Nat)) ∧ w = w' := by
  have HP := Lib.hid (fun K => div_pos_iff v K)
  have HA := Lib.hid (fun k (a : 2 ^ k ≤ v) (b : v < 2 ^ (k + 1)) => log2_at a b)
  go_enter Tryz.func106, Tryz.ntmps106
  go_wp2
  go_loopw [3] (fun iv wr => ∃ k : Nat, k ≤ 20 ∧ iv = .int .i64 (k : Int) ∧ Hid (2 ^ k ≤ v) ∧ w = wr) (fun iv _ => 64 - (intOf iv).toNat)
  case atStart => exact ⟨0, by omega, rfl, Lib.hid (by simpa using h1), rfl⟩
  case round =>
    obtain ⟨k, hk, rfl, hP, rfl⟩ := hrel
    obtain ⟨K, hK⟩ : ∃ K, k + 1 = K := ⟨_, rfl⟩
    have hwk : IntKind.i64.wrap ((k : Int) + 1) = (K : Int) := by rw [← hK, Int.natCast_succ]; exact IntWalk.i64_in _ (by omega)
    obtain ⟨y, hy⟩ : ∃ y, v / 2 ^ K = y := ⟨_, rfl⟩
    have hyi : (v : Int) / 2 ^ K = (y : Int) := by rw [← hy]; simp
    have hlt := HP.out K
    rw [hy] at hlt
    have HK := Lib.hid hK
    have hk64 : K ≤ 64 := by omega
    by_cases h : 0 < y
    · have H2 := Lib.hid (hlt.1 h)
      have hb : k < 20 := Decidable.byContradiction fun hn => by
        have h3 : 2 ^ 21 ≤ 2 ^ K := Nat.pow_le_pow_right (by decide) (by omega)
        have h4 := H2.out
        have h5 : 2 ^ 21 = 2097152 := by decide
        omega
      have hyp : (0 : Int) < (y : Int) := by omega
      clear hlt hy hK h
      go_wp2
      go_roundw
      case rel => exact ⟨k + 1, by omega, by rw [HK.out], by rw [HK.out]; exact H2, trivial⟩
      case measure => have := HK.out; simp [intOf]; omega
    · have H2 := Lib.hid (show v < 2 ^ (k + 1) by rw [hK]; exact Nat.lt_of_not_le fun hn => h (hlt.2 hn))
      have hyp : ¬ (0 : Int) < (y : Int) := by omega
      have HL := Lib.hid (HA.out k hP.out H2.out)
      clear hlt hy hK h
      go_wp2
      go_ret
      exact ⟨ret_int (by rw [HL.out]), rfl⟩

theorem numB_zeros : ∀ n, numB 0 n = List.replicate n false
  | 0 => rfl
  | n + 1 => by rw [numB_succ, Nat.zero_div, numB_zeros n, List.replicate_succ']; rfl
theorem gamB_num (v : Nat) : gamB v = numB 0 (Nat.log2 v) ++ numB v (Nat.log2 v + 1) := by unfold gamB; rw [numB_zeros]
set_option maxHeartbeats 1000000 in
set_option maxRecDepth 100000 in
theorem rgamma_any (base : Nat) (u : Value) (bs : List Bool) (v : Nat) (w : World) (hO : OwnI 5 .u8 base w u (bitsI bs)) (hb : base ≤ w.heap.size) (hl : bs.length ≤ 10000000) (h1 : 1 ≤ v) (hv : v < 2097152) :
    Calls Tryz.prog 77 #[u, .int .i64 (v : Int)] w
      fun e w' => ∃ u', e = .returned u' ∧ OwnI 5 .u8 base w' u' (bitsI (bs ++ gamB v)) ∧ Upd (fun b => u.ownBlock = some b) w w' ∧ (u'.ownBlock = u.ownBlock ∨ ∃ b, u'.ownBlock = some b ∧ w.heap.size ≤ b) := by
  have hlg := log2_le (v := v) (n := 20) (by simpa using hv)
  have HZ := Lib.hid (rzeros_any v w h1 hv)
  have HG := Lib.hid (gamB_num v)
  generalize Nat.log2 v = k at *
  have HP0 := putrow_any base u bs 0 k w hO hb (by omega) (by omega) (by omega)
  rw [show ((0 : Nat) : Int) = 0 from rfl] at HP0
  have HP := Lib.hid HP0
  have HP2 := Lib.hid (fun u1 W (hO1 : OwnI 5 .u8 base W u1 (bitsI (bs ++ numB 0 k))) (hb1 : base ≤ W.heap.size) => putrow_any base u1 (bs ++ numB 0 k) v (k + 1) W hO1 hb1 (by rw [List.length_append, numB_length]; omega) (by omega) (by omega))
  obtain ⟨K, hK⟩ : ∃ K, k + 1 = K := ⟨_, rfl⟩
  rw [hK] at HG HP2
  have hwk : IntKind.i64.wrap ((k : Int) + 1) = (K : Int) := by rw [← hK, Int.natCast_succ]; exact IntWalk.i64_in _ (by omega)
  clear hO hK HP0
  go_enter Tryz.func77, Tryz.ntmps77
  go_wp2_with (first
    | (go_at_call 106; refine HZ.out.mono ?_; rintro e w2 ⟨rfl, rfl⟩)
    | (go_at_call 78; refine (HP2.out u1 _ hO1 (Nat.le_trans hb hu1.size)).mono ?_; rintro e w4 ⟨u2, rfl, hO2, hu2, ha2⟩)
    | (go_at_call 78; refine HP.out.mono ?_; rintro e w3 ⟨u1, rfl, hO1, hu1, ha1⟩))
  go_ret
  refine ⟨u2, rfl, by rw [HG.out, ← List.append_assoc]; exact hO2, hu1.trans hu2 (fun b hb9 h9 => ?_), ?_⟩
  · rcases ha1 with e | ⟨b', e, hle⟩
    · rw [← e]; exact h9
    · rw [e] at h9; cases h9; omega
  · rcases ha2 with e | ⟨b', e, hle⟩
    · rw [e]; exact ha1
    · exact .inr ⟨b', e, Nat.le_trans hu1.size hle⟩
end Go.Proofs.YtmcdgmiheklbeaaGreatDoor

namespace Go.Proofs.YtmcdgmiheklbeaaGreatDoor
open Go.RowKit

theorem lit_field2 {o : Nat → Prop} (W : World) (e : TypeId) (v n v2 n2 : Int) (ho : ¬ o W.heap.size) :
    Sl kField (fun b => ¬ o b) (W.alloc (.cells #[.int .i64 v, .int .i64 n, .int .i64 v2, .int .i64 n2] e)) (some ⟨W.heap.size, 0, none⟩) 2 [(v, n), (v2, n2)] := by
  refine ⟨Nat.le_refl _, by omega, fun j hj => ?_⟩
  have hj2 : j = 0 ∨ j = 1 := by simp at hj; omega
  rcases hj2 with rfl | rfl
  · refine ⟨_, _, rfl, ho, by simp, ⟨_, _, rfl, rfl, rfl⟩, fun i x hx => ?_⟩
    match i, hx with
    | 0, hx => simp at hx; subst hx; simp [kPair, kInt, Addr.add, nth]
    | 1, hx => simp at hx; subst hx; simp [kPair, kInt, Addr.add, nth]
  · refine ⟨_, _, rfl, ho, by simp, ⟨_, _, rfl, rfl, rfl⟩, fun i x hx => ?_⟩
    match i, hx with
    | 0, hx => simp at hx; subst hx; simp [kPair, kInt, Addr.add, nth]
    | 1, hx => simp at hx; subst hx; simp [kPair, kInt, Addr.add, nth]
theorem putB_gam (v k : Nat) : putB [((0 : Int), (k : Int)), ((v : Int), ((k + 1 : Nat) : Int))] = numB 0 k ++ numB v (k + 1) := by simp [putB]
theorem putN_gam (v k : Nat) : putN [((0 : Int), (k : Int)), ((v : Int), ((k + 1 : Nat) : Int))] = 2 * k + 1 := by simp [putN]; omega

set_option maxHeartbeats 1000000 in
set_option maxRecDepth 100000 in
theorem wgamma_any (o : Nat → Prop) (g v : Nat) (bs : List Bool) (w : World) (h : Wr o w g bs) (hl : bs.length ≤ 1048576) (h1 : 1 ≤ v) (hv : v < 2097152) :
    Calls Tryz.prog 32 #[.pointer (some ⟨g, 0, none⟩), .int .i64 (v : Int)] w
      fun e w' => e = .returned (.int .i64 (fullE bs.length (2 * Nat.log2 v + 1))) ∧ Wr (fun b => o b ∨ w.heap.size ≤ b) w' g (fullB bs (gamB v)) ∧ Upd o w w' := by
  have HP := Lib.hid (fun K => div_pos_iff v K)
  have HA := Lib.hid (fun k (a : 2 ^ k ≤ v) (b : v < 2 ^ (k + 1)) => log2_at a b)
  have HG := Lib.hid (gamB_num v)
  have hd1 : ¬ (v : Int) < 1 := by omega
  have hd2 : ¬ (2097152 : Int) ≤ (v : Int) := by omega
  have HC := Lib.hid (fun (k : Nat) (hk : k ≤ 20) => put_any (fun b => o b ∧ b < w.heap.size) g _ 2 [((0 : Int), (k : Int)), ((v : Int), ((k + 1 : Nat) : Int))] bs _ (h.cut.below (below_alloc (Below.refl w.heap.size w) (.cells #[.int .i64 0, .int .i64 (k : Int), .int .i64 (v : Int), .int .i64 ((k + 1 : Nat) : Int)] 110))) (lit_field2 w 110 0 k v ((k + 1 : Nat) : Int) (fun h => by have := h.2; omega)) (by
    intro f hf
    rcases List.mem_cons.1 hf with rfl | hf
    · exact ⟨Int.le_refl _, by show (0 : Int) < _; omega, Int.natCast_nonneg _, by show (k : Int) ≤ _; omega⟩
    · rw [List.mem_singleton] at hf
      subst hf
      exact ⟨Int.natCast_nonneg _, by show (v : Int) < _; omega, Int.natCast_nonneg _, by show ((k + 1 : Nat) : Int) ≤ _; omega⟩) (by simp) hl)
  have H := Lib.hid h
  clear h
  go_enter Tryz.func32, Tryz.ntmps32
  go_wp2
  clear hd1 hd2
  go_loopw [5] (fun iv wr => ∃ k : Nat, k ≤ 20 ∧ iv = .int .i64 (k : Int) ∧ Hid (2 ^ k ≤ v) ∧ w = wr) (fun iv _ => 64 - (intOf iv).toNat)
  case atStart => exact ⟨0, by omega, rfl, Lib.hid (by simpa using h1), rfl⟩
  case round =>
    obtain ⟨k, hk, rfl, hP, rfl⟩ := hrel
    obtain ⟨K, hK⟩ : ∃ K, k + 1 = K := ⟨_, rfl⟩
    have hwk : IntKind.i64.wrap ((k : Int) + 1) = (K : Int) := by rw [← hK, Int.natCast_succ]; exact IntWalk.i64_in _ (by omega)
    obtain ⟨y, hy⟩ : ∃ y, v / 2 ^ K = y := ⟨_, rfl⟩
    have hyi : (v : Int) / 2 ^ K = (y : Int) := by rw [← hy]; simp
    have hlt := HP.out K
    rw [hy] at hlt
    have HK := Lib.hid hK
    have hk64 : K ≤ 64 := by omega
    by_cases h : 0 < y
    · have H2 := Lib.hid (hlt.1 h)
      have hb : k < 20 := Decidable.byContradiction fun hn => by
        have h3 : 2 ^ 21 ≤ 2 ^ K := Nat.pow_le_pow_right (by decide) (by omega)
        have h4 := H2.out
        have h5 : 2 ^ 21 = 2097152 := by decide
        omega
      have hyp : (0 : Int) < (y : Int) := by omega
      clear hlt hy hK h
      go_wp2
      go_roundw
      case rel => exact ⟨k + 1, by omega, by rw [HK.out], by rw [HK.out]; exact H2, trivial⟩
      case measure => have := HK.out; simp [intOf]; omega
    · have H2 := Lib.hid (show v < 2 ^ (k + 1) by rw [hK]; exact Nat.lt_of_not_le fun hn => h (hlt.2 hn))
      have hyp : ¬ (0 : Int) < (y : Int) := by omega
      have HL := Lib.hid (HA.out k hP.out H2.out)
      have HC2 := Lib.hid (HC.out k hk)
      rw [putB_gam, putN_gam, hK] at HC2
      have HG2 := Lib.hid (show gamB v = numB 0 k ++ numB v K by rw [HG.out, HL.out, hK])
      clear hlt hy hK h
      go_wp2_with (go_at_call 58; refine HC2.out.mono ?_; rintro e w2 ⟨rfl, hw2, hu2⟩)
      go_ret
      rw [HL.out, HG2.out]
      refine ⟨rfl, hw2.weak fun b _ h => ?_, (Upd.alloc (fun b => o b) w _).trans (hu2.weak (o' := o) fun b _ h => h.1) fun _ _ h => h⟩
      rcases h with h | h
      · exact .inl h.1
      · exact .inr (by simp at h; omega)
end Go.Proofs.YtmcdgmiheklbeaaGreatDoor

namespace Go.Proofs.YtmcdgmiheklbeaaGreatDoor
open Go.RowKit

end Go.Proofs.YtmcdgmiheklbeaaGreatDoor

namespace Go.Proofs.YtmcdgmiheklbeaaGreatDoor
open Go.RowKit

/-- Zeros ahead of a one (at most 20): how many, and the error. -/
def zerF : List Bool → Nat → Nat × Int
  | [], _ => (0, 3)
  | true :: _, n => (n, 0)
  | false :: D, n => if 20 < n + 1 then (0, 4) else zerF D (n + 1)
theorem drop_cons_nth {l : List Bool} {i : Nat} (h : i < l.length) : l.drop i = nth false l i :: l.drop (i + 1) := by
  rw [nth_eq false l i h]; exact List.drop_eq_getElem_cons h
theorem zer_end {l : List Bool} {i : Nat} (h : l.length ≤ i) (n : Nat) : zerF (l.drop i) n = (0, 3) := by
  rw [List.drop_of_length_le h]; rfl
theorem zer_hit {l : List Bool} {i : Nat} (h : i < l.length) (hb : nth false l i = true) (n : Nat) : zerF (l.drop i) n = (n, 0) := by
  rw [drop_cons_nth h, hb]; rfl
theorem zer_miss {l : List Bool} {i : Nat} (h : i < l.length) (hb : nth false l i = false) (n : Nat) : zerF (l.drop i) n = if 20 < n + 1 then (0, 4) else zerF (l.drop (i + 1)) (n + 1) := by
  rw [drop_cons_nth h, hb]; rfl
/-- A gamma code: the number, the error, and how many bits it has. -/
def gamF (D : List Bool) : Nat × Int × Nat :=
  if (zerF D 0).2 ≠ 0 then (0, (zerF D 0).2, 0)
  else if D.length < 2 * (zerF D 0).1 + 1 then (0, 3, 0)
  else (2 ^ (zerF D 0).1 + valB ((D.drop ((zerF D 0).1 + 1)).take (zerF D 0).1), 0, 2 * (zerF D 0).1 + 1)
/-- A value out of its digit: the value, the error, and how many bits. -/
def valF (b d : Nat) (D : List Bool) : Int × Int × Nat :=
  if d = 0 then (0, 0, 0)
  else if D.length = 0 then (0, 3, 0)
  else if (escB b && decide (d = mostB b)) = true then
    if (gamF (D.drop 1)).2.1 ≠ 0 then (0, (gamF (D.drop 1)).2.1, 0)
    else if 1023 < mostB b + (gamF (D.drop 1)).1 - 1 then (0, 6, 0)
    else ((if nth false D 0 = true then -1 else 1) * ((mostB b + (gamF (D.drop 1)).1 - 1 : Nat) : Int), 0, 1 + (gamF (D.drop 1)).2.2)
  else ((if nth false D 0 = true then -1 else 1) * (d : Int), 0, 1)
end Go.Proofs.YtmcdgmiheklbeaaGreatDoor

namespace Go.Proofs.YtmcdgmiheklbeaaGreatDoor
open Go.RowKit

section
variable {o o' : Nat → Prop} {w w' : World} {g : Nat} {l : List Bool} {at_ : Nat} {e : Int}
end

end Go.Proofs.YtmcdgmiheklbeaaGreatDoor

namespace Go.Proofs.YtmcdgmiheklbeaaGreatDoor
open Go.RowKit

end Go.Proofs.YtmcdgmiheklbeaaGreatDoor

namespace Go.Proofs.YtmcdgmiheklbeaaGreatDoor
open Go.RowKit

theorem zerF_le : ∀ (D : List Bool) (n : Nat), n ≤ 20 → (zerF D n).1 ≤ 20
  | [], _, _ => Nat.zero_le _
  | true :: _, _, h => h
  | false :: D, n, h => by
    show (if 20 < n + 1 then ((0, 4) : Nat × Int) else zerF D (n + 1)).1 ≤ 20
    split
    · exact Nat.zero_le _
    · exact zerF_le D (n + 1) (by omega)

end Go.Proofs.YtmcdgmiheklbeaaGreatDoor

namespace Go.Proofs.YtmcdgmiheklbeaaGreatDoor
open Go.RowKit

/-- Where a reader is behind zeros and a one; it stays with an error. -/
def zerI (i : Nat) (R : Nat × Int) : Nat := if R.2 = 0 then i + R.1 + 1 else i
set_option maxHeartbeats 2000000 in
set_option maxRecDepth 100000 in
theorem rdzeros_any (o : Nat → Prop) (g i : Nat) (l : List Bool) (w : World) (h : Rr o w g l i) :
    Calls Tryz.prog 128 #[.pointer (some ⟨g, 0, none⟩), .int .i64 20] w
      fun e w' => e = .returned (.tuple #[.int .i64 ((zerF (l.drop i) 0).1 : Nat), .int .i64 (zerF (l.drop i) 0).2]) ∧ Rr o w' g l (zerI i (zerF (l.drop i) 0)) ∧ Upd (fun b => b = g) w w' := by
  obtain ⟨R, hR⟩ : ∃ R, zerF (l.drop i) 0 = R := ⟨_, rfl⟩
  rw [hR]
  have HR := Lib.hid hR
  have H := Lib.hid h
  have hlb := h.bound
  have hle := h.le
  obtain ⟨A, c, bb, h1, h2, h3, h4, h5, h6, h7, h8⟩ := h
  have k0 := h1.cell 0 rfl
  have k1 := h1.cell 1 rfl
  have k2 := h1.cell 2 rfl
  have f2 := h1.free 2
  have HB := Lib.hid (fun j (hj : j < l.length) => bit_any A c bb j w h2.any h3 (by omega))
  have HBB := Lib.hid (show ∀ j, j < l.length → bitB bb j = nth false l j from fun j hj => by rw [h5]; exact (ofB_nth _ _ _ hj).symm)
  clear hR h1 h2 h3 h4 h5 h6 h7 h8
  go_enter Tryz.func128, Tryz.ntmps128
  go_wp2
  go_loopw [6, 7] (fun nv iv wr => ∃ n j : Nat, nv = .int .i64 (n : Int) ∧ iv = .int .i64 (j : Int) ∧ n ≤ 20 ∧ j ≤ l.length ∧ Hid (j = i + n ∧ zerF (l.drop j) n = R) ∧ w = wr) (fun _ iv _ => l.length - (intOf iv).toNat)
  case atStart => exact ⟨0, i, rfl, rfl, by omega, hle, Lib.hid ⟨rfl, HR.out⟩, rfl⟩
  case round =>
    obtain ⟨n, j, rfl, rfl, hn, hj, hz, rfl⟩ := hrel
    have hwn : IntKind.i64.wrap ((n : Int) + 1) = (n : Int) + 1 := IntWalk.i64_in _ (by omega)
    have hwj : IntKind.i64.wrap ((j : Int) + 1) = (j : Int) + 1 := IntWalk.i64_in _ (by omega)
    by_cases hlt : j < l.length
    · have hji : (j : Int) < (l.length : Int) := by omega
      have HC := Lib.hid (HB.out j hlt)
      rw [HBB.out j hlt] at HC
      cases hb : nth false l j
      · rw [hb] at HC
        have HM := Lib.hid (zer_miss hlt hb n)
        by_cases h20 : n = 20
        · subst h20
          have HM2 := Lib.hid (show R = (0, 4) by rw [← hz.out.2, HM.out]; rfl)
          clear hb hz
          go_wp2_with (go_at_call 57; refine HC.out.mono ?_; rintro e w2 ⟨rfl, rfl⟩)
          go_ret2
          exact ⟨by rw [HM2.out]; rfl, by rw [HM2.out]; exact H.out, Upd.refl _ _⟩
        · have HM2 := Lib.hid (show zerF (l.drop (j + 1)) (n + 1) = R by rw [← hz.out.2, HM.out, if_neg (by omega)])
          have hne : ¬ (20 : Int) < (n : Int) + 1 := by omega
          clear hb
          go_wp2_with (go_at_call 57; refine HC.out.mono ?_; rintro e w2 ⟨rfl, rfl⟩)
          go_roundw
          case rel => exact ⟨n + 1, j + 1, by go_num, by go_num, by omega, by omega, Lib.hid ⟨by rw [hz.out.1]; omega, HM2.out⟩, trivial⟩
          case measure => simp [intOf]; omega
      · rw [hb] at HC
        have HM := Lib.hid (show R = (n, 0) by rw [← hz.out.2]; exact zer_hit hlt hb n)
        have HV := Lib.hid (H.out.move (j + 1) 0 (by omega))
        have e1 : ((j + 1 : Nat) : Int) = (j : Int) + 1 := by omega
        rw [e1] at HV
        clear e1
        clear hb
        go_wp2_with (go_at_call 57; refine HC.out.mono ?_; rintro e w2 ⟨rfl, rfl⟩)
        go_ret2
        refine ⟨by rw [HM.out]; rfl, ?_, HV.out.2⟩
        rw [HM.out, show zerI i (n, 0) = j + 1 by rw [hz.out.1]; rfl]
        exact HV.out.1
    · have hji : ¬ (j : Int) < (l.length : Int) := by omega
      have HM2 := Lib.hid (show R = (0, 3) by rw [← hz.out.2]; exact zer_end (by omega) n)
      go_wp2
      go_ret2
      exact ⟨by rw [HM2.out]; rfl, by rw [HM2.out]; exact H.out, Upd.refl _ _⟩
end Go.Proofs.YtmcdgmiheklbeaaGreatDoor

namespace Go.Proofs.YtmcdgmiheklbeaaGreatDoor
open Go.RowKit

set_option maxHeartbeats 2000000 in
set_option maxRecDepth 100000 in
theorem tbytes_any (A : Option Addr) (c : Nat) (bs : List Bool) (w : World) (hS : RY w A c (bitsI bs)) (hn : bs.length ≤ 1000000000000) :
    Calls Tryz.prog 36 #[.slice A bs.length c] w fun e w' => ∃ x, e = .returned x ∧ OwnI 5 .u8 w.heap.size w' x (packB bs) ∧ Below w.heap.size w w' := by
  obtain ⟨L, hL⟩ : ∃ L, (bs.length + 7) / 8 = L := ⟨_, rfl⟩
  have hmk := make_row (P := Tryz.prog) 31 5 .u8 1 Tryz.underlying31 infoY (by decide) L (by omega)
  have hLi : ((bs.length : Int) + 7) / 8 = (L : Int) := by omega
  have HL := Lib.hid hL
  clear hL
  go_enter Tryz.func36, Tryz.ntmps36
  go_wp2
  have hO := own_made w 5 .u8 L (by have := HL.out; omega)
  have hB := below_alloc (Below.refl w.heap.size w) (.cells (madeCells #[.int .u8 0] L) 5)
  generalize w.alloc (.cells (madeCells #[.int .u8 0] L) 5) = w1 at hO hB ⊢
  clear hmk hLi
  go_loopw [13] (fun i wr => ∃ k : Nat, k ≤ bs.length ∧ i = .int .i64 k ∧ OwnI 5 .u8 w.heap.size wr (.slice (some ⟨w.heap.size, 0, none⟩) L L) (padB (bs.take k) L) ∧ Below w.heap.size w wr) (fun i _ => bs.length - (intOf i).toNat)
  case atStart => exact ⟨0, Nat.zero_le _, rfl, by rw [List.take_zero, padB_nil]; exact hO, hB⟩
  case round =>
    clear hO hB
    obtain ⟨k, hk, rfl, hO, hB⟩ := hrel
    by_cases hlt : k < bs.length
    · have hLL := HL.out
      have htl : (bs.take k).length = k := by rw [List.length_take]; omega
      obtain ⟨ka, kf⟩ := hO.at_ (k / 8) (by rw [padB_length _ _ (by omega)]; omega)
      have hkn := padB_nth (bs.take k) L (by omega)
      have hor := or_bit (bs.take k) (nth false bs k)
      have hX := byteB_lt (bs.take k) ((bs.take k).length / 8)
      have hsn := padB_snoc (bs.take k) (nth false bs k) L (by omega)
      rw [← take_succ_nth false bs k hlt] at hsn
      rw [htl] at hkn hor hX hsn
      rw [hkn] at ka
      obtain ⟨ad, rfl, hc⟩ := rd_int (hS.below hB) k (by rw [bitsI_length]; exact hlt)
      rw [bitsI_nth _ _ hlt] at hc
      obtain ⟨X, hXe⟩ : ∃ X, byteB (bs.take k) (k / 8) = X := ⟨_, rfl⟩
      obtain ⟨q, hq⟩ : ∃ q, k / 8 = q := ⟨_, rfl⟩
      obtain ⟨t, ht⟩ : ∃ t, 7 - k % 8 = t := ⟨_, rfl⟩
      rw [hXe, ht] at hor hsn
      rw [hXe] at hX ka
      rw [hq] at ka kf hsn
      have ht7 : t ≤ 7 := by omega
      have w1 : IntKind.i64.wrap ((k : Int) / 8) = (q : Int) := by rw [IntWalk.i64_in _ (by omega)]; omega
      have w2 : ((k : Int)).tmod 8 = 7 - (t : Int) := by rw [Int.tmod_eq_emod_of_nonneg (by omega)]; omega
      have w3 : IntKind.i64.wrap (7 - (7 - (t : Int))) = (t : Int) := by rw [IntWalk.i64_in _ (by omega)]; omega
      have hPp : 0 < 2 ^ t ∧ 2 ^ t ≤ 128 := ⟨Nat.two_pow_pos _, by have := Nat.pow_le_pow_right (n := 2) (by decide) ht7; simpa using this⟩
      have hPc : ((2 : Int) ^ t) = ((2 ^ t : Nat) : Int) := by simp
      have hbd := b2i_bd (nth false bs k)
      have hy : 0 ≤ b2i (nth false bs k) * 2 ^ t ∧ b2i (nth false bs k) * 2 ^ t ≤ 128 := by rw [hPc]; cases nth false bs k <;> simp [b2i] <;> omega
      have w5 : IntKind.u8.wrap (b2i (nth false bs k) * 2 ^ t) = b2i (nth false bs k) * 2 ^ t := by rw [IntKind.wrap_u8]; omega
      have hqL : q < L := by omega
      have HO8 := Lib.hid hor
      have HSN := Lib.hid hsn
      have HO := Lib.hid hO
      clear hor hsn hO hkn htl hXe hq ht hPp hPc hy hLL
      go_wp2
      go_still_tail 12, (by kernel_rfl)
      change wpList _ _ _ _ _ (World.drew _)
      rw [HO8.out]
      clear w1 w2 w3 w5 ht7 hbd hX
      go_wp2
      go_roundw
      case rel =>
        have hs := HO.out.set q ((X : Int) + b2i (nth false bs k) * 2 ^ t)
        refine ⟨k + 1, by omega, by go_num, ?_, (below_grown hB hB.size hs.2 (fun r e => by have := Option.some.inj e; omega)).drew⟩
        rw [HSN.out]
        exact hs.1.below (Below.refl _ _).drew
      case measure => simp [intOf]; omega
    · obtain rfl : k = bs.length := by omega
      go_wp2
      go_ret
      exact ⟨_, rfl, by rw [List.take_length] at hO; have := HL.out; rw [← this, padB_all, this] at hO; exact hO, hB⟩

set_option maxHeartbeats 1000000 in
set_option maxRecDepth 100000 in
theorem samebytes_any (A B : Option Addr) (c d : Nat) (a b : List Int) (w : World) (hS : RY w A c a) (hT : RY w B d b) :
    Calls Tryz.prog 35 #[.slice A a.length c, .slice B b.length d] w fun e w' => e = .returned (.bool (sameL a b)) ∧ Below w.heap.size w w' := by
  have hn := hS.len
  have hm := hT.len
  by_cases hl : a.length = b.length
  · have hb : ((a.length : Int) != (b.length : Int)) = false := by simp [hl]
    have HL := Lib.hid hl
    clear hl
    go_enter Tryz.func35, Tryz.ntmps35
    go_wp2
    go_loopw [13] (fun i wr => ∃ k : Nat, k ≤ a.length ∧ i = .int .i64 k ∧ Hid (∀ j, j < k → nth 0 a j = nth 0 b j) ∧ Below w.heap.size w wr) (fun i _ => a.length - (intOf i).toNat)
    case atStart => exact ⟨0, Nat.zero_le _, rfl, fun j hj => absurd hj (by omega), Below.refl _ _⟩
    case round =>
      obtain ⟨k, hk, rfl, hne, hB⟩ := hrel
      by_cases hlt : k < a.length
      · have hkb : k < b.length := by rw [← HL.out]; exact hlt
        obtain ⟨ad, rfl, hc⟩ := rd_int (hS.below hB) k hlt
        obtain ⟨ad', rfl, hc'⟩ := rd_int (hT.below hB) k hkb
        have hk0 : (0 : Int) ≤ (k : Int) := by omega
        have hka : (k : Int) < (a.length : Int) := by omega
        have hkb' : (k : Int) < (b.length : Int) := by omega
        by_cases hx : nth 0 a k = nth 0 b k
        · have hxb : (nth 0 a k != nth 0 b k) = false := by simp [hx]
          have hne' : Hid (∀ j, j < k + 1 → nth 0 a j = nth 0 b j) := fun j hj => by
            rcases Nat.lt_or_ge j k with h | h
            · exact hne.out j h
            · obtain rfl : j = k := by omega
              exact hx
          clear hx
          go_wp2
          go_quiet (fail)
          go_wp2
          go_roundw
          case rel => exact ⟨k + 1, by omega, by go_num, hne', below_drewN hB _⟩
          case measure => simp [intOf]; omega
        · have hxb : (nth 0 a k != nth 0 b k) = true := by simp [hx]
          have HN := Lib.hid (show sameL a b = false from decide_eq_false fun e => hx (by rw [e]))
          clear hx
          go_wp2
          go_quiet (fail)
          go_wp2
          go_ret
          exact ⟨ret_bool HN.out.symm, below_drewN hB _⟩
      · obtain rfl : k = a.length := by omega
        have HN := Lib.hid (same_end HL.out hne.out)
        go_wp2
        go_ret
        exact ⟨ret_bool HN.out.symm, hB⟩
  · have hb : ((a.length : Int) != (b.length : Int)) = true := by simp; omega
    have HN := Lib.hid (show sameL a b = false from decide_eq_false fun e => hl (by rw [e]))
    clear hl
    go_enter Tryz.func35, Tryz.ntmps35
    go_wp2
    go_ret
    exact ⟨ret_bool HN.out.symm, Below.refl _ _⟩
end Go.Proofs.YtmcdgmiheklbeaaGreatDoor

namespace Go.Proofs.YtmcdgmiheklbeaaGreatDoor
open Go.RowKit

end Go.Proofs.YtmcdgmiheklbeaaGreatDoor

namespace Go.Proofs.YtmcdgmiheklbeaaGreatDoor
open Go Go.RowKit

theorem wpIn_region_W {P : Program} {ops : Array Oper} {n : Nat} {K : Act → World → Prop} {Q : Exit → Act → World → Prop} {id : Nat} {a : Act} {w : World} (N : Nat) (S : World → Prop) (hm : P.follows .mixedOrders = true) (hS : S w.drew)
    (h : S w.drew → wpAnyG P .any ops (Exit.then K fun _ _ _ => False) S N ops.size (Array.replicate ops.size false) a w.drew) : (Code.region id ops true).wpIn Fence.wide n P (Exit.then K Q) a w :=
  wpIn_wide.2 (wp_mono (wp_region_G N S hm hS h) fun e a w hq => by cases e <;> first | exact hq | exact hq.elim)
/-- A variable of some cells is written, as one step of a drawn region. -/
theorem step_putN {P : Program} {ops : Array Oper} {Q : Exit → Act → World → Prop} {E : Prop} {K : Act → World → Prop} {o : Oper} {a : Act} {W : World} (vs : Array Value) (hgd : o.guard = none) (ty : TypeId) (x y : Operand) (ho : o.op = .store ty x y) (g : Nat) (t : TypeId) (old : Array Value)
    (hx : a.eval x = .pointer (some ⟨g, 0, none⟩)) (hy : a.eval y = .agg vs) (hk : Blk W g old t) (hi : (P.info? ty).map (·.size) = some vs.size) (hold : old.size = vs.size) (h1 : vs.all (·.oneCell') = true)
    (h : ∀ w1, Blk w1 g vs t → W.grownBy w1 (some g) → Hid (w1.heap.size = W.heap.size) → K (a.put o.dst undef) w1) :
    if Region.wanted o (yielded ops a.tmps) = true then Oper.wp P o a W K Q else E := by
  rw [if_pos (by simp [Region.wanted, hgd])]
  exact wp_store_row ty x y ho g vs hx hy t old hk hi hold h1 (h _ (setRow_heap W g old _ t _ hk) (grown_setRow W g _) (Lib.hid (by simp)))
end Go.Proofs.YtmcdgmiheklbeaaGreatDoor
