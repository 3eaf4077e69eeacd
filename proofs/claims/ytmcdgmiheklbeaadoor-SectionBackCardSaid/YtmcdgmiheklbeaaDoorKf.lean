/- The reference's Lengths: what it returns. · The reference's Lengths in general. · The document's rows of bits: Put; the document's scale: Lengths, Ranged, taken, right. · Gamma codes: the reference's zeros and Gamma, and the writer's Gamma: what each call returns. · bits: the writer's Gamma: what it returns. · book: Lengths: what it returns. · Plain laws of layer 17 (book): what a gamma code is read as. No program is named. · The document's tape of bits: OK, Left, Fail, Get: what each call returns, and where the tape is then. · The reference's tape: Unary: what it returns. · The reference's tape: Get of a tape with an error, Gamma: what each call returns. · bits: zeros of a reader: what it returns, and where the reader is then. · The document's rows of bits: Bytes; the statements' SameBytes: what each call returns. · The laws of layer 17: Same: what it returns. · A drawn region in a function that ranges over an iterator, outside its rounds, walked by explicit steps (XHeld). -/
import Derived.Test.YtmcdgmiheklbeaaDoorKe
import Derived.Test.YtmcdgmiheklbeaaDoorKd
import Derived.Test.YtmcdgmiheklbeaaDoorKc
import Derived.Test.YtmcdgmiheklbeaaDoorKb
namespace Go.Proofs.YtmcdgmiheklbeaaDoor
open Go.RowKit

set_option maxHeartbeats 8000000 in
set_option maxRecDepth 100000 in
theorem rlengths_any (A : Option Addr) (c : Nat) (cs : List Int) (most : Nat) (w : World) (hS : RI w A c cs) (hc : countsB cs = true) (h1 : 1 ≤ most) (h16 : most ≤ 16) :
    Calls Tryd.prog 113 #[.slice A cs.length c, .int .i64 (most : Int)] w fun e w' => ∃ v, e = .returned (.tuple #[v, .int .i64 (lengthsE cs most)]) ∧ OwnI 3 .i64 w.heap.size w' v (lengthsV cs most) ∧ Below w.heap.size w w' := by
  obtain ⟨h256, hbd⟩ := counts_bound hc
  have HB := Lib.hid (nth_bound hbd (by decide))
  have HS := Lib.hid hS
  have hcB := Lib.hid hc
  have d0 : decide ((256 : Int) < (cs.length : Int)) = false := decide_eq_false (by omega)
  have d1 : decide ((most : Int) < 1) = false := decide_eq_false (by omega)
  have d2 : decide ((16 : Int) < (most : Int)) = false := decide_eq_false (by omega)
  have hmk := make_row (P := Tryd.prog) 25 3 .i64 8 Tryd.underlying25 infoI (by decide) cs.length (by omega)
  have HMK := Lib.hid hmk
  have HM := Lib.hid (show 1 ≤ most ∧ most ≤ 16 from ⟨h1, h16⟩)
  clear hS hc hbd hmk
  go_enter Tryd.func113, Tryd.ntmps113
  go_wp2
  go_loopw [6, 37] (fun nv iv wr => ∃ k : Nat, iv = .int .i64 (k : Int) ∧ k ≤ cs.length ∧ nv = .int .i64 ((coinsK cs k).length : Int) ∧ w = wr) (fun _ iv _ => cs.length - (intOf iv).toNat)
  case atStart => exact ⟨0, rfl, Nat.zero_le _, rfl, rfl⟩
  case round =>
    obtain ⟨k, rfl, hk, rfl, rfl⟩ := hrel
    by_cases hlt : k < cs.length
    · obtain ⟨ad, rfl, hc⟩ := rd_int HS.out k hlt
      have hki : (k : Int) < (cs.length : Int) := by omega
      have hcl := coinsK_len cs k
      have hck := coinsK_succ_len cs k
      have hbk := HB.out k
      obtain ⟨q, hq⟩ : ∃ q, (coinsK cs k).length = q := ⟨_, rfl⟩
      rw [hq] at hcl hck ⊢
      have hwq : IntKind.i64.wrap ((q : Int) + 1) = (q : Int) + 1 := IntWalk.i64_in _ (by omega)
      have e1 : decide (nth 0 cs k < 0) = false := decide_eq_false (by omega)
      have e2 : decide (1073741824 < nth 0 cs k) = false := decide_eq_false (by omega)
      by_cases h3 : 0 < nth 0 cs k
      · have e3 : decide (0 < nth 0 cs k) = true := decide_eq_true h3
        rw [if_pos h3] at hck
        have HCK := Lib.hid hck
        clear h3 hck hq hcl hbk
        go_wp2
        go_roundw
        case rel => exact ⟨k + 1, by go_num, by omega, by rw [HCK.out]; go_num, trivial⟩
        case measure => simp [intOf]; omega
      · have e3 : decide (0 < nth 0 cs k) = false := decide_eq_false h3
        rw [if_neg h3] at hck
        have HCK := Lib.hid hck
        clear h3 hck hq hcl hbk
        go_wp2
        go_roundw
        case rel => exact ⟨k + 1, by go_num, by omega, by rw [HCK.out], trivial⟩
        case measure => simp [intOf]; omega
    · obtain rfl : k = cs.length := by omega
      obtain ⟨n, hn⟩ : ∃ n, (coinsK cs cs.length).length = n := ⟨_, rfl⟩
      have hnl := coinsK_len cs cs.length
      obtain ⟨Q, hQ⟩ : ∃ Q : Nat, 2 ^ most = Q := ⟨_, rfl⟩
      have hQ6 : Q ≤ 65536 := by rw [← hQ]; have := Nat.pow_le_pow_right (n := 2) (by decide) h16; simpa using this
      have hwq : IntKind.i64.wrap ((2 : Int) ^ most) = (Q : Int) := by rw [show (2 : Int) ^ most = (Q : Int) by rw [← hQ]; simp]; exact IntWalk.i64_in _ (by omega)
      have HQ := Lib.hid (show 2 ^ most = Q from hQ)
      have HE := Lib.hid (show lengthsE cs most = if n = 0 then 5 else if Q < n then 2 else 0 by
        unfold lengthsE
        rw [if_neg (by rw [hcB.out]; simp; omega), hn, Int.toNat_natCast, hQ])
      have HN := Lib.hid hn
      have HV0 := Lib.hid (show lengthsE cs most ≠ 0 → lengthsV cs most = [] from fun h => by unfold lengthsV; rw [if_pos h])
      rw [hn] at hnl ⊢
      clear hn hQ
      by_cases h0 : n = 0
      · have h0b : ((n : Int) == 0) = true := by simp [h0]
        have HX := Lib.hid h0
        clear h0
        go_wp2
        go_ret2
        exact ⟨_, ret_two rfl (by rw [HE.out, if_pos HX.out]; rfl), by rw [HV0.out (by rw [HE.out, if_pos HX.out]; decide)]; exact OwnI.nil _ _ _ _, Below.refl _ _⟩
      · have h0b : ((n : Int) == 0) = false := by simpa using h0
        by_cases hbig : Q < n
        · have hd3 : decide (Q < n) = true := decide_eq_true hbig
          have hd4 : decide ((Q : Int) < (n : Int)) = true := decide_eq_true (by omega)
          have HX := Lib.hid (show n ≠ 0 ∧ Q < n from ⟨h0, hbig⟩)
          clear h0 hbig
          go_wp2
          go_ret2
          exact ⟨_, ret_two rfl (by rw [HE.out, if_neg HX.out.1, if_pos HX.out.2]; rfl), by rw [HV0.out (by rw [HE.out, if_neg HX.out.1, if_pos HX.out.2]; decide)]; exact OwnI.nil _ _ _ _, Below.refl _ _⟩
        · have hd3 : decide (Q < n) = false := decide_eq_false hbig
          have hd4 : decide ((Q : Int) < (n : Int)) = false := decide_eq_false (by omega)
          have hE0 : lengthsE cs most = 0 := by rw [HE.out, if_neg h0, if_neg hbig]
          have HE0 := Lib.hid hE0
          have HIN := Lib.hid (show LenIn cs most from ⟨hcB.out, h1, h16, by rw [sortedC_length, HN.out]; omega, by rw [sortedC_length, HN.out, HQ.out]; omega⟩)
          have HNX := Lib.hid (show 1 ≤ n ∧ n ≤ 256 from ⟨by omega, by omega⟩)
          clear HE HV0 hE0 hbig h0 hQ6
          go_wp2
          go_loopw [9, 60] (fun ov iv wr => ∃ k : Nat, iv = .int .i64 (k : Int) ∧ k ≤ cs.length ∧ Hid (OwnI 3 .i64 w.heap.size wr ov (ordI cs k)) ∧ Hid (Below w.heap.size w wr)) (fun _ iv _ => cs.length - (intOf iv).toNat)
          case atStart => exact ⟨0, rfl, Nat.zero_le _, Lib.hid (OwnI.nil _ _ _ _), Lib.hid (Below.refl _ _)⟩
          case round =>
            obtain ⟨k, rfl, hk, hO, hB⟩ := hrel
            by_cases hlt : k < cs.length
            · obtain ⟨ad, rfl, hck⟩ := rd_int (HS.out.below hB.out) k hlt
              obtain ⟨Ao, co, rfl, hRo⟩ := own_ri hO.out
              have hki : (k : Int) < (cs.length : Int) := by omega
              have hcl := coinsK_len cs k
              obtain ⟨q, hq⟩ : ∃ q, (ordI cs k).length = q := ⟨_, rfl⟩
              have HQ2 := Lib.hid hq
              have HRO := Lib.hid hRo
              have hO2 := hO.out
              rw [hq] at hO2 ⊢
              have hO := Lib.hid hO2
              have hqk : q ≤ k := by rw [← hq, ordI_length]; exact hcl
              clear hcl hq hRo hO2
              go_wp2
              go_loopw [12] (fun pv wr2 => ∃ p : Nat, pv = .int .i64 (p : Int) ∧ p ≤ q ∧ Hid (∀ j, p ≤ j → j < q → nth 0 cs k < nth 0 cs (nth 0 (ordI cs k) j).toNat) ∧ wr = wr2) (fun pv _ => (intOf pv).toNat)
              case atStart => exact ⟨q, rfl, Nat.le_refl _, Lib.hid (fun j h1 h2 => by omega), rfl⟩
              case round =>
                obtain ⟨p, rfl, hp, hL, rfl⟩ := hrel
                by_cases hp0 : p = 0
                · have hp1 : decide ((0 : Int) < (p : Int)) = false := decide_eq_false (by omega)
                  have hp2 : decide (0 < p) = false := decide_eq_false (by omega)
                  have hp3 : Hid (p = 0) := hp0
                  clear hp0
                  by_cases h3 : 0 < nth 0 cs k
                  · have e3 : decide (0 < nth 0 cs k) = true := decide_eq_true h3
                    have hnew := ordI_hit (p := p) h3 (by rw [← ordI_length, HQ2.out]; exact hp) (.inl hp3.out) (by rw [← ordI_length, HQ2.out]; exact hL.out)
                    obtain ⟨T, hT⟩ : ∃ T, (ordI cs k).take p = T := ⟨_, rfl⟩
                    obtain ⟨D, hD⟩ : ∃ D, (ordI cs k).drop p = D := ⟨_, rfl⟩
                    have hTl : T.length = p := by rw [← hT, List.length_take, HQ2.out]; omega
                    have hDl : D.length = q - p := by rw [← hD, List.length_drop, HQ2.out]
                    obtain ⟨i0, hi0, hz0, hz1, hz2⟩ := info_parts infoI
                    obtain ⟨A3, hcut3, hsl3⟩ := cut_full (P := Tryd.prog) 25 3 Tryd.underlying25 hi0 Ao q co p hp (by have := HRO.out.le; rw [HQ2.out] at this; exact this)
                    obtain ⟨A8, hcut8, hsl8⟩ := cut_tail (P := Tryd.prog) 25 3 Tryd.underlying25 hi0 Ao q co p hp
                    have hs3 := hsl3 (kInt .i64) _ _ _ (by rw [hz1]; rfl) HQ2.out HRO.out
                    have hs8 := hsl8 (kInt .i64) _ _ _ (by rw [hz1]; rfl) HQ2.out HRO.out
                    rw [hT] at hs3 hnew
                    rw [hD] at hs8 hnew
                    rw [← hDl] at hcut8
                    subst hTl
                    have HNEW := Lib.hid hnew
                    have HS3 := Lib.hid hs3
                    have HS8 := Lib.hid hs8
                    have HDL := Lib.hid hDl
                    have HDR := Lib.hid ((Below.refl wr.heap.size wr).drew)
                    have HLEN := Lib.hid (show T.length ≤ 256 ∧ D.length ≤ 256 by have := coinsK_len cs k; omega)
                    clear hnew hs3 hs8 hDl hT hD hsl3 hsl8 h3 hL hlt hi0 hz0 hz1 hz2
                    go_wp2_with fail
                    refine wp_region_G 10 (fun _ => True) (by kernel_rfl) trivial (fun hHeld => ?_)
                    refine wpAnyG_takeL (i := 0) (.slice Ao q co) [3, 10] rfl (by kernel_rfl) (fun _ _ _ h => h) trivial (by rfl) ?_ ?_
                    · (intro W hSw; go_simp)
                    try simp only [Act.put, List.setIfInBounds_toArray, List.set_cons_zero, List.set_cons_succ]
                    refine wpAnyG_takeL (i := 1) (.int .i64 T.length) [3, 10] rfl (by kernel_rfl) (fun _ _ _ h => h) trivial (by rfl) ?_ ?_
                    · (intro W hSw; go_simp)
                    try simp only [Act.put, List.setIfInBounds_toArray, List.set_cons_zero, List.set_cons_succ]
                    refine wpAnyG_takeL (i := 2) (.int .i64 T.length) [3, 10] rfl (by kernel_rfl) (fun _ _ _ h => h) trivial (by rfl) ?_ ?_
                    · (intro W hSw; go_simp)
                    try simp only [Act.put, List.setIfInBounds_toArray, List.set_cons_zero, List.set_cons_succ]
                    refine wpAnyG_takeL (i := 3) (.slice A3 T.length T.length) [10] rfl (by kernel_rfl) (fun _ _ _ h => h) trivial (by rfl) ?_ ?_
                    · (intro W hSw; go_simp)
                    try simp only [Act.put, List.setIfInBounds_toArray, List.set_cons_zero, List.set_cons_succ]
                    refine wpAnyG_takeL (i := 4) (.int .i64 k) [5, 9, 10] rfl (by kernel_rfl) (fun _ _ _ h => h) trivial (by rfl) ?_ ?_
                    · (intro W hSw; go_simp)
                    try simp only [Act.put, List.setIfInBounds_toArray, List.set_cons_zero, List.set_cons_succ]
                    refine wpAnyG_takeL (i := 6) (.slice Ao q co) [8, 9, 10] rfl (by kernel_rfl) (fun _ _ _ h => h) trivial (by rfl) ?_ ?_
                    · (intro W hSw; go_simp)
                    try simp only [Act.put, List.setIfInBounds_toArray, List.set_cons_zero, List.set_cons_succ]
                    refine wpAnyG_takeL (i := 7) (.int .i64 T.length) [8, 9, 10] rfl (by kernel_rfl) (fun _ _ _ h => h) trivial (by rfl) ?_ ?_
                    · (intro W hSw; go_simp)
                    try simp only [Act.put, List.setIfInBounds_toArray, List.set_cons_zero, List.set_cons_succ]
                    refine wpAnyG_takeL (i := 8) (.slice A8 D.length (co - T.length)) [9, 10] rfl (by kernel_rfl) (fun _ _ _ h => h) trivial (by rfl) ?_ ?_
                    · (intro W hSw; go_simp)
                    try simp only [Act.put, List.setIfInBounds_toArray, List.set_cons_zero, List.set_cons_succ]
                    refine wpAnyG_oneL (i := 5) (by kernel_rfl) rfl (fun K hK => ?_)
                    go_simp
                    refine hK.out _ _ (fun _ => trivial) ?_
                    clear hK K
                    try simp only [Act.put, List.setIfInBounds_toArray, List.set_cons_zero, List.set_cons_succ]
                    have HB1 := Lib.hid (below_alloc HDR.out (.cells #[.int .i64 k] 3))
                    have HO1 := Lib.hid (own_lit wr.drew 3 .i64 [(k : Int)] (by simp))
                    refine wpAnyG_oneL (i := 9) (by kernel_rfl) rfl (fun K hK => ?_)
                    refine step_append_row (W := wr.drew.alloc (.cells #[.int .i64 k] 3)) wr.heap.size rfl (.tmp 90) (.tmp 93) 25 3 .i64 8 rfl Tryd.underlying25 infoI (by decide) _ [(k : Int)] D A8 (co - T.length) rfl rfl HO1.out (HS8.out.below HB1.out) HB1.out.size (by have := HLEN.out; simp; omega) ?_
                    intro v9 w9 hO9 hg9 _
                    have HB9 := Lib.hid (HB1.out.grown hg9 HB1.out.size HO1.out.base_le)
                    have HO9 := Lib.hid hO9
                    clear hO9 hg9
                    refine hK.out _ _ (fun _ => trivial) ?_
                    clear hK K
                    try simp only [Act.put, List.setIfInBounds_toArray, List.set_cons_zero, List.set_cons_succ]
                    obtain ⟨A9, c9, rfl, hs9⟩ := own_ri HO9.out
                    have HS9 := Lib.hid hs9
                    clear hs9
                    refine wpAnyG_oneL (i := 10) (by kernel_rfl) rfl (fun K hK => ?_)
                    refine step_append_full (W := w9) rfl (.tmp 88) (.tmp 94) 25 3 .i64 8 rfl Tryd.underlying25 infoI (by decide) A3 T A9 c9 ([(k : Int)] ++ D) rfl rfl (HS3.out.below HB9.out) HS9.out (by simp) (by have := HLEN.out; simp; omega) ?_
                    intro v10 w10 hO10 hb10
                    have HO10 := Lib.hid (hO10.mono (b' := w.heap.size) (by have := hB.out.size; have := HB9.out.size; omega))
                    have HB10 := Lib.hid (below2 (below2 hB.out HB9.out) hb10)
                    clear hO10 hb10
                    refine hK.out _ _ (fun h => trivial) ?_
                    clear hK K
                    try simp only [Act.put, List.setIfInBounds_toArray, List.set_cons_zero, List.set_cons_succ]
                    refine wpAnyG_oneL (i := 11) (by kernel_rfl) rfl (fun K hK => ?_)
                    go_simp
                    refine hK.out _ _ (fun h => trivial) ?_
                    clear hK K
                    try simp only [Act.put, List.setIfInBounds_toArray, List.set_cons_zero, List.set_cons_succ]
                    refine wpAnyG_done (by kernel_rfl) ?_ _
                    go_wp2
                    go_roundw
                    case rel => exact ⟨k + 1, by go_num, by omega, Lib.hid (by rw [HNEW.out]; exact HO10.out), HB10⟩
                    case measure => simp [intOf]; omega
                  · have e3 : decide (0 < nth 0 cs k) = false := decide_eq_false h3
                    have HNEW := Lib.hid (ordI_miss h3)
                    clear h3 hL
                    go_wp2
                    go_roundw
                    case rel => exact ⟨k + 1, by go_num, by omega, by rw [HNEW.out]; exact hO, hB⟩
                    case measure => simp [intOf]; omega
                · obtain ⟨pm, hpm⟩ : ∃ pm, p = pm + 1 := ⟨p - 1, by omega⟩
                  have hpq : pm < q := by omega
                  obtain ⟨ad9, e9, ho9⟩ := rd_int HRO.out pm (by rw [HQ2.out]; exact hpq)
                  obtain ⟨s, hs, hsk, hs0, _⟩ := ordI_nth (cs := cs) (k := k) (j := pm) (by rw [← ordI_length, HQ2.out]; exact hpq)
                  rw [hs] at ho9
                  obtain ⟨ads, es, hcs⟩ := rd_int (HS.out.below hB.out) s (by omega)
                  injection es with es
                  subst es
                  have hp1 : decide ((0 : Int) < (p : Int)) = true := decide_eq_true (by omega)
                  have hp2 : decide (0 < p) = true := decide_eq_true (by omega)
                  have hwp : IntKind.i64.wrap ((p : Int) - 1) = (pm : Int) := by rw [IntWalk.i64_in _ (by omega)]; omega
                  have hpi : (pm : Int) < (q : Int) := by omega
                  have hsi : (s : Int) < (cs.length : Int) := by omega
                  have HSS := Lib.hid (show nth 0 (ordI cs k) pm = (s : Int) ∧ p = pm + 1 from ⟨hs, hpm⟩)
                  by_cases h4 : nth 0 cs k < nth 0 cs s
                  · have e4 : decide (nth 0 cs k < nth 0 cs s) = true := decide_eq_true h4
                    have HL2 := Lib.hid (show ∀ j, pm ≤ j → j < q → nth 0 cs k < nth 0 cs (nth 0 (ordI cs k) j).toNat from fun j h1 h2 => by
                      rcases Nat.lt_or_ge pm j with h | h
                      · exact hL.out j (by omega) h2
                      · obtain rfl : j = pm := by omega
                        rw [hs, Int.toNat_natCast]; exact h4)
                    subst e9
                    clear h4 hp0 hs hpm
                    go_wp2
                    go_roundw
                    case rel => exact ⟨pm, rfl, by omega, HL2, trivial⟩
                    case measure => have := HSS.out.2; simp [intOf]; omega
                  · have e4 : decide (nth 0 cs k < nth 0 cs s) = false := decide_eq_false h4
                    have H4 := Lib.hid (show nth 0 cs s ≤ nth 0 cs k by omega)
                    clear h4 hp0 hs hpm
                    subst e9
                    by_cases h3 : 0 < nth 0 cs k
                    · have e3 : decide (0 < nth 0 cs k) = true := decide_eq_true h3
                      have hnew := ordI_hit (p := p) h3 (by rw [← ordI_length, HQ2.out]; exact hp) (.inr ⟨s, by have h5 := HSS.out; rw [h5.2, Nat.add_sub_cancel]; exact h5.1, H4.out⟩) (by rw [← ordI_length, HQ2.out]; exact hL.out)
                      obtain ⟨T, hT⟩ : ∃ T, (ordI cs k).take p = T := ⟨_, rfl⟩
                      obtain ⟨D, hD⟩ : ∃ D, (ordI cs k).drop p = D := ⟨_, rfl⟩
                      have hTl : T.length = p := by rw [← hT, List.length_take, HQ2.out]; omega
                      have hDl : D.length = q - p := by rw [← hD, List.length_drop, HQ2.out]
                      obtain ⟨i0, hi0, hz0, hz1, hz2⟩ := info_parts infoI
                      obtain ⟨A3, hcut3, hsl3⟩ := cut_full (P := Tryd.prog) 25 3 Tryd.underlying25 hi0 (some ad9) q co p hp (by have := HRO.out.le; rw [HQ2.out] at this; exact this)
                      obtain ⟨A8, hcut8, hsl8⟩ := cut_tail (P := Tryd.prog) 25 3 Tryd.underlying25 hi0 (some ad9) q co p hp
                      have hs3 := hsl3 (kInt .i64) _ _ _ (by rw [hz1]; rfl) HQ2.out HRO.out
                      have hs8 := hsl8 (kInt .i64) _ _ _ (by rw [hz1]; rfl) HQ2.out HRO.out
                      rw [hT] at hs3 hnew
                      rw [hD] at hs8 hnew
                      rw [← hDl] at hcut8
                      subst hTl
                      have HNEW := Lib.hid hnew
                      have HS3 := Lib.hid hs3
                      have HS8 := Lib.hid hs8
                      have HDL := Lib.hid hDl
                      have HDR := Lib.hid ((Below.refl wr.heap.size wr).drew)
                      have HLEN := Lib.hid (show T.length ≤ 256 ∧ D.length ≤ 256 by have := coinsK_len cs k; omega)
                      clear hnew hs3 hs8 hDl hT hD hsl3 hsl8 h3 hL hlt hi0 hz0 hz1 hz2
                      go_wp2_with fail
                      refine wp_region_G 10 (fun _ => True) (by kernel_rfl) trivial (fun hHeld => ?_)
                      refine wpAnyG_takeL (i := 0) (.slice (some ad9) q co) [3, 10] rfl (by kernel_rfl) (fun _ _ _ h => h) trivial (by rfl) ?_ ?_
                      · (intro W hSw; go_simp)
                      try simp only [Act.put, List.setIfInBounds_toArray, List.set_cons_zero, List.set_cons_succ]
                      refine wpAnyG_takeL (i := 1) (.int .i64 T.length) [3, 10] rfl (by kernel_rfl) (fun _ _ _ h => h) trivial (by rfl) ?_ ?_
                      · (intro W hSw; go_simp)
                      try simp only [Act.put, List.setIfInBounds_toArray, List.set_cons_zero, List.set_cons_succ]
                      refine wpAnyG_takeL (i := 2) (.int .i64 T.length) [3, 10] rfl (by kernel_rfl) (fun _ _ _ h => h) trivial (by rfl) ?_ ?_
                      · (intro W hSw; go_simp)
                      try simp only [Act.put, List.setIfInBounds_toArray, List.set_cons_zero, List.set_cons_succ]
                      refine wpAnyG_takeL (i := 3) (.slice A3 T.length T.length) [10] rfl (by kernel_rfl) (fun _ _ _ h => h) trivial (by rfl) ?_ ?_
                      · (intro W hSw; go_simp)
                      try simp only [Act.put, List.setIfInBounds_toArray, List.set_cons_zero, List.set_cons_succ]
                      refine wpAnyG_takeL (i := 4) (.int .i64 k) [5, 9, 10] rfl (by kernel_rfl) (fun _ _ _ h => h) trivial (by rfl) ?_ ?_
                      · (intro W hSw; go_simp)
                      try simp only [Act.put, List.setIfInBounds_toArray, List.set_cons_zero, List.set_cons_succ]
                      refine wpAnyG_takeL (i := 6) (.slice (some ad9) q co) [8, 9, 10] rfl (by kernel_rfl) (fun _ _ _ h => h) trivial (by rfl) ?_ ?_
                      · (intro W hSw; go_simp)
                      try simp only [Act.put, List.setIfInBounds_toArray, List.set_cons_zero, List.set_cons_succ]
                      refine wpAnyG_takeL (i := 7) (.int .i64 T.length) [8, 9, 10] rfl (by kernel_rfl) (fun _ _ _ h => h) trivial (by rfl) ?_ ?_
                      · (intro W hSw; go_simp)
                      try simp only [Act.put, List.setIfInBounds_toArray, List.set_cons_zero, List.set_cons_succ]
                      refine wpAnyG_takeL (i := 8) (.slice A8 D.length (co - T.length)) [9, 10] rfl (by kernel_rfl) (fun _ _ _ h => h) trivial (by rfl) ?_ ?_
                      · (intro W hSw; go_simp)
                      try simp only [Act.put, List.setIfInBounds_toArray, List.set_cons_zero, List.set_cons_succ]
                      refine wpAnyG_oneL (i := 5) (by kernel_rfl) rfl (fun K hK => ?_)
                      go_simp
                      refine hK.out _ _ (fun _ => trivial) ?_
                      clear hK K
                      try simp only [Act.put, List.setIfInBounds_toArray, List.set_cons_zero, List.set_cons_succ]
                      have HB1 := Lib.hid (below_alloc HDR.out (.cells #[.int .i64 k] 3))
                      have HO1 := Lib.hid (own_lit wr.drew 3 .i64 [(k : Int)] (by simp))
                      refine wpAnyG_oneL (i := 9) (by kernel_rfl) rfl (fun K hK => ?_)
                      refine step_append_row (W := wr.drew.alloc (.cells #[.int .i64 k] 3)) wr.heap.size rfl (.tmp 90) (.tmp 93) 25 3 .i64 8 rfl Tryd.underlying25 infoI (by decide) _ [(k : Int)] D A8 (co - T.length) rfl rfl HO1.out (HS8.out.below HB1.out) HB1.out.size (by have := HLEN.out; simp; omega) ?_
                      intro v9 w9 hO9 hg9 _
                      have HB9 := Lib.hid (HB1.out.grown hg9 HB1.out.size HO1.out.base_le)
                      have HO9 := Lib.hid hO9
                      clear hO9 hg9
                      refine hK.out _ _ (fun _ => trivial) ?_
                      clear hK K
                      try simp only [Act.put, List.setIfInBounds_toArray, List.set_cons_zero, List.set_cons_succ]
                      obtain ⟨A9, c9, rfl, hs9⟩ := own_ri HO9.out
                      have HS9 := Lib.hid hs9
                      clear hs9
                      refine wpAnyG_oneL (i := 10) (by kernel_rfl) rfl (fun K hK => ?_)
                      refine step_append_full (W := w9) rfl (.tmp 88) (.tmp 94) 25 3 .i64 8 rfl Tryd.underlying25 infoI (by decide) A3 T A9 c9 ([(k : Int)] ++ D) rfl rfl (HS3.out.below HB9.out) HS9.out (by simp) (by have := HLEN.out; simp; omega) ?_
                      intro v10 w10 hO10 hb10
                      have HO10 := Lib.hid (hO10.mono (b' := w.heap.size) (by have := hB.out.size; have := HB9.out.size; omega))
                      have HB10 := Lib.hid (below2 (below2 hB.out HB9.out) hb10)
                      clear hO10 hb10
                      refine hK.out _ _ (fun h => trivial) ?_
                      clear hK K
                      try simp only [Act.put, List.setIfInBounds_toArray, List.set_cons_zero, List.set_cons_succ]
                      refine wpAnyG_oneL (i := 11) (by kernel_rfl) rfl (fun K hK => ?_)
                      go_simp
                      refine hK.out _ _ (fun h => trivial) ?_
                      clear hK K
                      try simp only [Act.put, List.setIfInBounds_toArray, List.set_cons_zero, List.set_cons_succ]
                      refine wpAnyG_done (by kernel_rfl) ?_ _
                      go_wp2
                      go_roundw
                      case rel => exact ⟨k + 1, by go_num, by omega, Lib.hid (by rw [HNEW.out]; exact HO10.out), HB10⟩
                      case measure => simp [intOf]; omega
                    · have e3 : decide (0 < nth 0 cs k) = false := decide_eq_false h3
                      have HNEW := Lib.hid (ordI_miss h3)
                      clear h3 hL
                      go_wp2
                      go_roundw
                      case rel => exact ⟨k + 1, by go_num, by omega, by rw [HNEW.out]; exact hO, hB⟩
                      case measure => simp [intOf]; omega

            · obtain rfl : k = cs.length := by omega
              have hmk := HMK.out
              have hOo := own_made wr 3 .i64 cs.length (by omega)
              have hBo := below_alloc (Below.refl wr.heap.size wr) (.cells (madeCells #[.int .i64 0] cs.length) 3)
              have HOo := Lib.hid hOo
              have HBo := Lib.hid hBo
              obtain ⟨Ao, co, e, hRo⟩ := own_ri hO.out
              subst e
              have hbz := hB.out.size
              have hRo2 := hRo.below hBo
              have hol := (ordI_length cs cs.length).trans HN.out
              have HOL := Lib.hid hol
              rw [hol]
              clear hOo hBo hRo hol hO
              by_cases hn1 : n = 1
              · have hnb : ((n : Int) == 1) = true := by simp [hn1]
                obtain ⟨s, hs1, hs2, _, hs4⟩ := ordI_nth (cs := cs) (k := cs.length) (j := 0) (by rw [HN.out]; omega)
                obtain ⟨ad9, rfl, ho9⟩ := rd_int hRo2 0 (by rw [HOL.out]; omega)
                rw [hs1, add_zero] at ho9
                have HV1 := Lib.hid (lengthsV_one HE0.out (HN.out.trans hn1) hs4)
                have hsi : (s : Int) < (cs.length : Int) := by omega
                have hn0 : 0 < n := by omega
                obtain ⟨ka, kf⟩ := HOo.out.at_ s (by simp; exact hs2)
                clear hs1 hs4 hn1 hRo2
                go_wp2
                go_ret2
                have hs := HOo.out.set s (1 : Int)
                rw [World.setCell_alloc_at _ _ _ _ _ rfl] at hs
                refine ⟨_, ret_two rfl (by rw [HE0.out]; rfl), ?_, below2 hB.out (below_alloc (Below.refl _ _) _)⟩
                rw [HV1.out]
                exact hs.1.mono hbz
              · have hnb : ((n : Int) == 1) = false := by simp; omega
                have hRO2 := Lib.hid hRo2
                have HN2 := Lib.hid (show 2 ≤ n by have := HNX.out.1; omega)
                have hn256 := HNX.out.2
                clear hn1 hRo2
                go_wp2
                have hz2 : (wr.alloc (.cells (madeCells #[.int .i64 0] cs.length) 3)).heap.size = wr.heap.size + 1 := by simp
                have hBX := Lib.hid (below2 hB.out HBo.out)
                obtain ⟨G0, hG0⟩ : ∃ G0, wr.heap.size = G0 := ⟨_, rfl⟩
                generalize hw2 : wr.alloc (.cells (madeCells #[.int .i64 0] cs.length) 3) = w2 at *
                rw [hG0] at hz2 hbz HOo ⊢
                clear hw2 HBo hB HMK hmk
                go_loopw [14, 110] (fun cv iv wr => ∃ j : Nat, iv = .int .i64 (j : Int) ∧ j ≤ n ∧ Hid (OwnK kField 180 w2.heap.size (fun _ => True) wr cv ((tagC cs).take j)) ∧ Hid (Below w2.heap.size w2 wr)) (fun _ iv _ => n - (intOf iv).toNat)
                case atStart => exact ⟨0, rfl, Nat.zero_le _, Lib.hid (OwnK.nil _ _ _ _ _), Lib.hid (Below.refl _ _)⟩
                case round =>
                  obtain ⟨j, rfl, hj, hC, hB⟩ := hrel
                  by_cases hjn : j < n
                  · obtain ⟨ad9, rfl, ho9⟩ := rd_int (hRO2.out.below hB.out) j (by rw [HOL.out]; exact hjn)
                    obtain ⟨s, hs1, hs2, _, _⟩ := ordI_nth (cs := cs) (k := cs.length) (j := j) (by rw [HN.out]; exact hjn)
                    rw [hs1] at ho9
                    obtain ⟨ads, rfl, hcs⟩ := rd_int ((HS.out.below hBX.out).below hB.out) s hs2
                    have htk := take_succ_nth (0, 0) (tagC cs) j (by rw [tagC_length, sortedC_length, HN.out]; exact hjn)
                    rw [tagC_nth (by rw [HN.out]; exact hjn), hs1, Int.toNat_natCast] at htk
                    have HTK := Lib.hid htk
                    have hsi : (s : Int) < (cs.length : Int) := by omega
                    have hjni : (j : Int) < (n : Int) := by omega
                    have hlk : ((tagC cs).take j).length ≤ 256 := by rw [List.length_take]; omega
                    generalize nth 0 cs s = x at hcs HTK
                    clear htk hs1
                    go_wp2_with (at_builtin; (refine append_k (W := wr) (k := kField) w2.heap.size rfl (.tmp 114) (.tmp 121) 178 180 (.agg #[.int .i64 0, .int .i64 0]) 16 (fun _ => True) rfl Tryd.underlying178 infoRi rfl (by decide) (by decide) u14 ((tagC cs).take j) (x, (s : Int)) [.int .i64 x, .int .i64 s] rfl rfl rfl hC.out ⟨[_], [_], rfl, rfl, rfl⟩ hB.out.size (by omega) ?_); intro g9 cap9 w9 hO9 hg9 hb9 ha9; have HO9 := Lib.hid hO9; have HB9 := Lib.hid (hB.out.grown hg9 hB.out.size hC.out.base_le); clear hO9 hg9 ha9)
                    go_roundw
                    case rel => exact ⟨j + 1, by go_num, by omega, Lib.hid (by rw [HTK.out]; have := HO9.out; simpa using this), HB9⟩
                    case measure => simp [intOf]; omega
                  · obtain rfl : j = n := by omega
                    obtain ⟨Ac, cc, rfl, hcl⟩ := ownF_sl hC.out
                    have htl : (tagC cs).take j = tagC cs := List.take_of_length_le (by rw [tagC_length, sortedC_length, HN.out]; exact Nat.le_refl _)
                    have htn : (tagC cs).length = j := by rw [tagC_length, sortedC_length, HN.out]
                    rw [htl] at hcl ⊢
                    have HTN := Lib.hid htn
                    have HCL := Lib.hid hcl
                    rw [htn]
                    obtain ⟨K, hK⟩ : ∃ K, most - 1 = K := ⟨_, rfl⟩
                    have hwm : IntKind.i64.wrap ((most : Int) - 1) = (K : Int) := by rw [IntWalk.i64_in _ (by have := HM.out; omega)]; have := HM.out; omega
                    have HK := Lib.hid (show most - 1 = K ∧ K ≤ 15 ∧ most = K + 1 by have := HM.out; omega)
                    have hK15 := HK.out.2.1
                    clear hK hcl htl htn hC
                    obtain ⟨n, rfl⟩ : ∃ n, n = j := ⟨_, rfl⟩
                    have hz3 := hB.out.size
                    have hR0 : Hid (OwnK (kSl kField) 178 wr.heap.size (fun b => b ≠ G0) (wr.alloc (.cells #[.slice Ac n cc] 178)) (.slice (some ⟨wr.heap.size, 0, none⟩) 1 1) (rowsL cs 0)) := Lib.hid (by
                      rw [rowsL_zero]
                      exact own_lit1K wr _ _ (tagC cs) _ rfl ⟨Ac, cc, by rw [HTN.out], HCL.out.weak fun b hb h => ⟨by omega, by omega⟩⟩)
                    have hB0 := Lib.hid (below_alloc (Below.refl wr.heap.size wr) (.cells #[.slice Ac n cc] 178))
                    go_wp2
                    obtain ⟨w3, rfl⟩ : ∃ w3, w3 = wr := ⟨_, rfl⟩
                    go_loopw [17, 128] (fun rv iv wr => ∃ i : Nat, iv = .int .i64 (i : Int) ∧ i ≤ K ∧ Hid (OwnK (kSl kField) 178 w3.heap.size (fun b => b ≠ G0) wr rv (rowsL cs i)) ∧ Hid (Below w3.heap.size w3 wr)) (fun _ iv _ => K - (intOf iv).toNat)
                    case atStart => exact ⟨0, rfl, Nat.zero_le _, hR0, hB0⟩
                    case round =>
                      clear hR0 hB0
                      obtain ⟨i, rfl, hi, hR, hB3⟩ := hrel
                      obtain ⟨Ar, cr, rfl, hrs⟩ := hR.out.rd
                      by_cases hiK : i < K
                      · obtain ⟨ad7, A7, c7, rfl, ho7, hs7⟩ := rd_sl hrs i (by rw [rowsL_length]; omega)
                        rw [rowsL_nth (Nat.le_refl _)] at ho7 hs7
                        have hRO := hR.out
                        rw [rowsL_length] at hRO ⊢
                        have HRO := Lib.hid hRO
                        have hlen := rowR_len h256 (k := i)
                        have hlpk : (pairsR (rowR (tagC cs) i)).length ≤ 512 := by rw [pairsR_length]; omega
                        have HP := Lib.hid (rpackages_any A7 c7 (rowR (tagC cs) i) wr hs7.any (by omega) (rowR_bound hcB.out (by omega)))
                        have hz4 := hB3.out.size
                        have HCW := Lib.hid ((HCL.out.below hB3.out).any)
                        have HMg := Lib.hid (fun (Ab : Option Addr) (cb : Nat) (W : World) (ha : Sl kField AnyB W Ac cc (tagC cs)) (hb : Sl kField AnyB W Ab cb (pairsR (rowR (tagC cs) i))) => rmerged_any Ac Ab cc cb (tagC cs) (pairsR (rowR (tagC cs) i)) W ha hb (by have := HTN.out; omega))
                        rw [HTN.out] at HMg
                        have HSU := Lib.hid (rowsL_succ cs i)
                        have hii : (i : Int) < ((i + 1 : Nat) : Int) := by omega
                        have hii2 : (i : Int) < (i : Int) + 1 := by omega
                        clear hs7 hrs hRO hlen
                        go_wp2_with (first
                          | (go_at_call 123; refine HP.out.mono ?_; rintro e w5 ⟨v5, rfl, hO5, hb5⟩; obtain ⟨A5, c5, rfl, hs5⟩ := ownF_sl hO5; have HS5 := Lib.hid hs5.any; have HB5 := Lib.hid hb5; clear hO5 hs5 hb5)
                          | (go_at_call 122; refine (HMg.out A5 c5 _ (HCW.out.below HB5.out) HS5.out).mono ?_; rintro e w6 ⟨v6, rfl, hO6, hb6⟩; obtain ⟨A6, c6, rfl, hs6⟩ := ownF_sl hO6; have HS6 := Lib.hid hs6; have HB6 := Lib.hid (below2 HB5.out hb6); clear hO6 hs6 hb6)
                          | (at_builtin; (refine append_k (W := w6) (k := kSl kField) w3.heap.size rfl (.tmp 131) (.tmp 139) 181 178 (.slice none 0 0) 24 (fun b => b ≠ G0) rfl Tryd.underlying181 infoRr rfl (by decide) (by decide) (.slice (some ad7) (i + 1) cr) (rowsL cs i) (mergeR (tagC cs) (pairsR (rowR (tagC cs) i))) [.slice A6 (mergeR (tagC cs) (pairsR (rowR (tagC cs) i))).length c6] rfl rfl rfl (HRO.out.below HB6.out) ⟨A6, c6, rfl, HS6.out.weak fun b hb h => ⟨by have := HB5.out.size; omega, fun e => by have := (HRO.out.lt b e).2; have := HB5.out.size; omega⟩⟩ (by have := HB6.out.size; omega) (by rw [rowsL_length]; omega) ?_); intro g9 cap9 w9 hO9 hg9 hb9 ha9; have HO9 := Lib.hid hO9; have HB9 := Lib.hid ((hB3.out.trans (HB6.out.mono hz4)).grown hg9 (by have := HB6.out.size; omega) HRO.out.base_le); clear hO9 hg9 ha9))
                        go_roundw
                        case rel => exact ⟨i + 1, by go_num, by omega, Lib.hid (by rw [HSU.out]; exact HO9.out), HB9⟩
                        case measure => simp [intOf]; omega
                      · obtain rfl : i = K := by omega
                        obtain ⟨K, rfl⟩ : ∃ K, K = i := ⟨_, rfl⟩
                        have hrs2 := Lib.hid (show Sl (kSl kField) (fun b => b ≠ G0) wr Ar cr (rowsL cs K) from hrs.weak fun b _ h => h.elim id (fun h => by have := hR.out.base_le b h; omega))
                        rw [rowsL_length]
                        have HO3 := Lib.hid ((HOo.out.below hB.out).below hB3.out)
                        have HBW := Lib.hid (below2 (below2 hBX.out hB.out) hB3.out)
                        have hgz : G0 < wr.heap.size := by have := hB3.out.size; omega
                        have hSn : (sortedC cs).length = n := (sortedC_length cs).trans HN.out
                        have HSN := Lib.hid hSn
                        have hfit : 2 * n - 2 ≤ (rowI (sortedC cs) K).length := by
                          have h9 := row_fits (coins := sortedC cs) (k := K) (by rw [← HK.out.2.2]; exact HIN.out.fit)
                          rw [hSn] at h9; exact h9
                        have hps : psL cs most = lens (sortedC cs) K (2 * n - 2) := by
                          unfold psL
                          rw [if_neg (by rw [hSn]; have := HN2.out; omega), HK.out.1, hSn]
                        obtain ⟨M, hM⟩ : ∃ M, 2 * n - 2 = M := ⟨_, rfl⟩
                        rw [hM] at hfit hps
                        have hwm2 : IntKind.i64.wrap (2 * (n : Int)) = 2 * (n : Int) := IntWalk.i64_in _ (by omega)
                        have hwm3 : IntKind.i64.wrap (2 * (n : Int) - 2) = (M : Int) := by rw [IntWalk.i64_in _ (by omega)]; have := HN2.out; omega
                        have HFIT := Lib.hid hfit
                        have HPS := Lib.hid (show outT cs (lens (sortedC cs) K M) = lengthsV cs most by rw [← hps]; exact outT_all HE0.out HIN.out)
                        have hgw : w.heap.size ≤ G0 := hbz
                        clear hrs hR hB3 hM hfit hps hSn
                        go_wp2
                        obtain ⟨w4, rfl⟩ : ∃ w4, w4 = wr := ⟨_, rfl⟩
                        go_loopw [19, 20] (fun fv iv wr => ∃ (j m : Nat) (ps : List Nat) (z : Int), iv = .int .i64 z ∧ z = (j : Int) - 1 ∧ fv = .int .i64 (m : Int) ∧ j ≤ K + 1 ∧ Hid (OwnI 3 .i64 G0 wr (.slice (some ⟨G0, 0, none⟩) cs.length cs.length) (outT cs ps)) ∧ Hid (lens (sortedC cs) K M = ps ++ (if j = 0 then [] else lens (sortedC cs) (j - 1) m)) ∧ Hid (j ≠ 0 → m ≤ (rowI (sortedC cs) (j - 1)).length) ∧ Hid (Sl (kSl kField) (fun b => b ≠ G0) wr Ar cr (rowsL cs K)) ∧ Hid (Below w.heap.size w wr) ∧ G0 < wr.heap.size) (fun _ iv _ => (intOf iv + 1).toNat)
                        case atStart => exact ⟨K + 1, M, [], K, rfl, by omega, rfl, Nat.le_refl _, Lib.hid (by rw [outT_nil]; exact HO3.out), Lib.hid (by rw [if_neg (by omega)]; rfl), Lib.hid (fun _ => HFIT.out), hrs2, HBW, hgz⟩
                        case round =>
                          clear HO3 hrs2 HBW hgz
                          obtain ⟨j, m, ps, z, rfl, hz, rfl, hj, hO, hL, hm, hR, hB4, hgz⟩ := hrel
                          by_cases hj0 : j = 0
                          · have hd : decide ((0 : Int) ≤ z) = false := decide_eq_false (by omega)
                            have hL2 : lens (sortedC cs) K M = ps := by have := hL.out; rw [if_pos hj0] at this; rw [this, List.append_nil]
                            have HL2 := Lib.hid hL2
                            clear hz hj0 hL2
                            go_wp2
                            go_ret2
                            exact ⟨_, ret_two rfl (by rw [HE0.out]; rfl), by rw [← HPS.out, HL2.out]; exact hO.out.mono hgw, hB4.out⟩
                          · obtain ⟨i, rfl⟩ : ∃ i, j = i + 1 := ⟨j - 1, by omega⟩
                            obtain rfl : z = (i : Int) := by omega
                            have hm2 : m ≤ (rowI (sortedC cs) i).length := hm.out (by omega)
                            have hd : decide ((0 : Int) ≤ (i : Int)) = true := decide_eq_true (by omega)
                            obtain ⟨ad7, A7, c7, rfl, ho7, hs7⟩ := rd_sl hR.out i (by rw [rowsL_length]; omega)
                            rw [rowsL_nth (by omega)] at ho7 hs7
                            have hrl : (rowR (tagC cs) i).length = (rowI (sortedC cs) i).length := rowR_length cs i
                            have hrl5 := rowR_len h256 (k := i)
                            obtain ⟨p, hp1, hp2, hp3⟩ := level_step hm2
                            obtain ⟨L, hLe⟩ : ∃ L, (rowR (tagC cs) i).take m = L := ⟨_, rfl⟩
                            have hLl : L.length = m := by rw [← hLe, List.length_take]; omega
                            have hLs : ∀ x ∈ L, ¬ x.2 < 0 → ∃ s : Nat, x.2 = (s : Int) ∧ s < cs.length := fun x hx h => item_sym (List.mem_of_mem_take (by rw [hLe]; exact hx)) h
                            have hsL := hs7.le
                            have hSL : Sl kField (fun b => b ≠ G0) wr A7 c7 L := ⟨by omega, hs7.cap, by rw [← hLe]; exact hs7.rd.take m⟩
                            rw [hLe] at hp1 hp2 hp3
                            have HP1 := Lib.hid hp1
                            have HP2 := Lib.hid hp2
                            have HP3 := Lib.hid hp3
                            have HLL := Lib.hid hLl
                            have HLS := Lib.hid hLs
                            have HSL := Lib.hid hSL
                            have hm512 : m ≤ 512 := by omega
                            have hlps : ps.length ≤ 16 := by
                              have h9 := congrArg List.length hL.out
                              rw [lens_length, List.length_append] at h9; omega
                            have hmc : m ≤ c7 := by omega
                            have hii : (i : Int) < ((K + 1 : Nat) : Int) := by omega
                            have hii2 : (i : Int) < (K : Int) + 1 := by omega
                            have hi0 : (0 : Int) ≤ (i : Int) := by omega
                            have hmi : (m : Int) ≤ (c7 : Int) := by omega
                            obtain ⟨rl, hrle⟩ : ∃ rl, (rowR (tagC cs) i).length = rl := ⟨_, rfl⟩
                            rw [hrle] at ho7
                            have hwi : IntKind.i64.wrap ((i : Int) - 1) = (i : Int) - 1 := IntWalk.i64_in _ (by omega)
                            clear hm2 hs7 hrl hrl5 hp1 hp2 hp3 hLe hLl hLs hsL hSL hrle hz hj0 hm
                            go_wp2
                            obtain ⟨w5, rfl⟩ : ∃ w5, w5 = wr := ⟨_, rfl⟩
                            have hgz5 := hgz
                            go_loopw [21, 158] (fun kv iv wr => ∃ q : Nat, iv = .int .i64 (q : Int) ∧ q ≤ m ∧ kv = .int .i64 (packsIn (L.take q) : Int) ∧ Hid (OwnI 3 .i64 G0 wr (.slice (some ⟨G0, 0, none⟩) cs.length cs.length) (outU cs ps (L.take q))) ∧ Hid (Sl kField (fun b => b ≠ G0) wr A7 c7 L) ∧ Hid (Sl (kSl kField) (fun b => b ≠ G0) wr (some ad7) cr (rowsL cs K)) ∧ Hid (Below w.heap.size w wr) ∧ G0 < wr.heap.size) (fun _ iv _ => m - (intOf iv).toNat)
                            case atStart => exact ⟨0, rfl, Nat.zero_le _, rfl, Lib.hid (by rw [List.take_zero, outU_nil]; exact hO.out), HSL, hR, hB4, hgz⟩
                            case round =>
                              clear hO hR hB4 hgz HSL ho7
                              obtain ⟨q, rfl, hq, rfl, hO, hSL, hR, hB4, hgz⟩ := hrel
                              by_cases hqm : q < m
                              · obtain ⟨ad8, rfl, x0, x1⟩ := rd_field hSL.out q (by rw [HLL.out]; exact hqm)
                                have htk := take_succ_nth (0, 0) L q (by rw [HLL.out]; exact hqm)
                                have hsym := HLS.out _ (nth_mem (0, 0) L q (by rw [HLL.out]; exact hqm))
                                obtain ⟨⟨xw, xs⟩, hxe⟩ : ∃ x, nth (0, 0) L q = x := ⟨_, rfl⟩
                                rw [hxe] at x0 x1 htk hsym
                                have hpk := packsIn_snoc (L.take q) (xw, xs)
                                rw [← htk] at hpk
                                have hpl := packsIn_le (L.take q)
                                rw [List.length_take] at hpl
                                obtain ⟨pk, hpke⟩ : ∃ pk, packsIn (L.take q) = pk := ⟨_, rfl⟩
                                rw [hpke] at hpk hpl ⊢
                                have hwk : IntKind.i64.wrap ((pk : Int) + 1) = (pk : Int) + 1 := IntWalk.i64_in _ (by omega)
                                have hqi : (q : Int) < (m : Int) := by omega
                                have hwq : IntKind.i64.wrap ((q : Int) + 1) = (q : Int) + 1 := IntWalk.i64_in _ (by omega)
                                have HTK := Lib.hid htk
                                have HBA := Lib.hid (below_alloc (Below.refl wr.heap.size wr) (.cells #[.int .i64 xw, .int .i64 xs] 180))
                                have hO2 := hO.out.below HBA.out
                                by_cases hx : xs < 0
                                · have hxb : decide (xs < 0) = true := decide_eq_true hx
                                  have hun := outU_pack (cs := cs) (ps := ps) (l := L.take q) (x := (xw, xs)) hx
                                  rw [← htk] at hun
                                  rw [if_pos (show ((xw, xs) : Int × Int).2 < 0 from hx)] at hpk
                                  have HUN := Lib.hid hun
                                  have HPK := Lib.hid hpk
                                  have HO2 := Lib.hid hO2
                                  clear hx hun hpk htk hsym hxe hpl hpke hO2
                                  go_wp2
                                  go_roundw
                                  case rel => exact ⟨q + 1, by go_num, by omega, by rw [HPK.out]; go_num, Lib.hid (by rw [HUN.out]; exact HO2.out), Lib.hid (hSL.out.below HBA.out), Lib.hid (hR.out.below HBA.out), Lib.hid (below2 hB4.out HBA.out), by have := HBA.out.size; omega⟩
                                  case measure => simp [intOf]; omega
                                · have hxb : decide (xs < 0) = false := decide_eq_false hx
                                  obtain ⟨s, hs, hsl⟩ := hsym (by first | exact hx | (show (0 : Int) ≤ xs; omega))
                                  have hs : xs = (s : Int) := hs
                                  subst hs
                                  obtain ⟨ka, kf⟩ := hO2.at_ s (by rw [outU_length]; exact hsl)
                                  have hval := outU_nth (cs := cs) (ps := ps) (l := L.take q) hsl
                                  have hb1 := count_sum_le cs s ps
                                  have hb2 := coinsIn_le s (L.take q)
                                  rw [List.length_take] at hb2
                                  have hb3 : ps.length * (sortedC cs).length ≤ 16 * 256 := Nat.mul_le_mul hlps (by rw [HSN.out]; exact hn256)
                                  have hun := outU_coin (cs := cs) (ps := ps) (l := L.take q) (x := (xw, (s : Int))) (s := s) rfl hsl
                                  rw [← htk] at hun
                                  rw [if_neg (show ¬ ((xw, (s : Int)) : Int × Int).2 < 0 from hx)] at hpk
                                  obtain ⟨V, hV⟩ : ∃ V, nth 0 (outU cs ps (L.take q)) s = V := ⟨_, rfl⟩
                                  rw [hV] at ka hval hun
                                  have hwV : IntKind.i64.wrap (V + 1) = V + 1 := IntWalk.i64_in _ (by omega)
                                  have hsi : (s : Int) < (cs.length : Int) := by omega
                                  have HUN := Lib.hid hun
                                  have HPK := Lib.hid hpk
                                  have HO2 := Lib.hid hO2
                                  have hG1 : wr.heap.size ≠ G0 := by omega
                                  clear hx hun hpk htk hsym hxe hpl hpke hval hb1 hb2 hb3 hV hO2
                                  go_wp2
                                  go_roundw
                                  case rel =>
                                    have hs := hO.out.set s (V + 1)
                                    have hkp : Keep (fun b => b ≠ G0) wr (wr.setCell ⟨G0, s, none⟩ (.int .i64 (V + 1))) := Keep.of_grown1 hs.2
                                    have hba := below_alloc (Below.refl (wr.setCell ⟨G0, s, none⟩ (.int .i64 (V + 1))).heap.size (wr.setCell ⟨G0, s, none⟩ (.int .i64 (V + 1)))) (.cells #[.int .i64 xw, .int .i64 (s : Int)] 180)
                                    have hbf := below2 (hB4.out.grown hs.2 hB4.out.size (fun r e => by have := Option.some.inj e; omega)) hba
                                    refine ⟨q + 1, by go_num, by omega, by rw [HPK.out]; rfl, Lib.hid ?_, Lib.hid ?_, Lib.hid ?_, Lib.hid ?_, ?_⟩
                                    · rw [← HUN.out]; exact hs.1.below hba
                                    · exact (hSL.out.keep hkp).below hba
                                    · exact (hR.out.keep hkp).below hba
                                    · exact hbf
                                    · have := hkp.size; have := hba.size; omega
                                  case measure => simp [intOf]; omega
                              · obtain rfl : q = m := by omega
                                have htl : L.take q = L := List.take_of_length_le (by rw [HLL.out]; exact Nat.le_refl _)
                                have hpl := packsIn_le L
                                rw [HLL.out] at hpl
                                rw [htl] at hO ⊢
                                have hout := outU_done (cs := cs) (ps := ps) (l := L) (p := p) HP1.out
                                rw [hout] at hO
                                have HHO := Lib.hid hO.out
                                have HLN := Lib.hid (show lens (sortedC cs) K M = (ps ++ [p]) ++ (if i = 0 then [] else lens (sortedC cs) (i - 1) (2 * packsIn L)) by
                                  have h9 := hL.out
                                  rw [if_neg (by omega), Nat.add_sub_cancel, HP2.out] at h9
                                  rw [h9]; simp)
                                obtain ⟨pk, hpke⟩ : ∃ pk, packsIn L = pk := ⟨_, rfl⟩
                                rw [hpke] at hpl HLN HP3 ⊢
                                have hw2 : IntKind.i64.wrap (2 * (pk : Int)) = 2 * (pk : Int) := IntWalk.i64_in _ (by omega)
                                clear htl hout hpke hO hL HP2
                                go_wp2
                                go_roundw
                                case rel => exact ⟨i, 2 * pk, ps ++ [p], (i : Int) - 1, rfl, rfl, by simp, by omega, HHO, HLN, HP3, hR, hB4, hgz⟩
                                case measure => simp [intOf] <;> omega
end Go.Proofs.YtmcdgmiheklbeaaDoor

namespace Go.Proofs.YtmcdgmiheklbeaaDoor
open Go.RowKit

theorem rlengths_all (A : Option Addr) (c : Nat) (cs : List Int) (most : Int) (w : World) (hS : RI w A c cs) :
    Calls Tryd.prog 113 #[.slice A cs.length c, .int .i64 most] w fun e w' => ∃ v, e = .returned (.tuple #[v, .int .i64 (lengthsE cs most)]) ∧ OwnI 3 .i64 w.heap.size w' v (lengthsV cs most) ∧ Below w.heap.size w w' := by
  by_cases h : countsB cs = false ∨ most < 1 ∨ 16 < most
  · refine (rlengths_no A c cs most w hS h).mono ?_
    rintro e w' ⟨rfl, hb⟩
    have e1 : lengthsE cs most = 1 := by unfold lengthsE; rw [if_pos h]
    have e2 : lengthsV cs most = [] := by unfold lengthsV; rw [if_pos (by rw [e1]; decide)]
    exact ⟨_, by rw [e1], by rw [e2]; exact OwnI.nil _ _ _ _, hb⟩
  · have h1 : countsB cs = true := by
      cases hc : countsB cs
      · exact absurd (.inl hc) h
      · rfl
    have h2 : 1 ≤ most ∧ most ≤ 16 := by omega
    obtain ⟨m, rfl⟩ : ∃ m : Nat, most = (m : Int) := ⟨most.toNat, by omega⟩
    exact rlengths_any A c cs m w hS h1 (by omega) (by omega)
end Go.Proofs.YtmcdgmiheklbeaaDoor

namespace Go.Proofs.YtmcdgmiheklbeaaDoor
open Go.RowKit

end Go.Proofs.YtmcdgmiheklbeaaDoor

namespace Go.Proofs.YtmcdgmiheklbeaaDoor
open Go.RowKit

theorem div_pos_iff (v K : Nat) : 0 < v / 2 ^ K ↔ 2 ^ K ≤ v := by
  have := Nat.two_pow_pos K
  constructor
  · intro h
    exact Decidable.byContradiction fun h2 => by rw [Nat.div_eq_of_lt (by omega)] at h; omega
  · intro h; exact Nat.div_pos h this
theorem numB_zeros : ∀ n, numB 0 n = List.replicate n false
  | 0 => rfl
  | n + 1 => by rw [numB_succ, Nat.zero_div, numB_zeros n, List.replicate_succ']; rfl
theorem gamB_num (v : Nat) : gamB v = numB 0 (Nat.log2 v) ++ numB v (Nat.log2 v + 1) := by unfold gamB; rw [numB_zeros]
end Go.Proofs.YtmcdgmiheklbeaaDoor

namespace Go.Proofs.YtmcdgmiheklbeaaDoor
open Go.RowKit

theorem lit_field2 {o : Nat → Prop} (W : World) (e : TypeId) (v n v2 n2 : Int) (ho : ¬ o W.heap.size) :
    Sl kField (fun b => ¬ o b) (W.alloc (.cells #[.int .i64 v, .int .i64 n, .int .i64 v2, .int .i64 n2] e)) (some ⟨W.heap.size, 0, none⟩) 2 [(v, n), (v2, n2)] := by
  refine ⟨Nat.le_refl _, by omega, fun j hj => ?_⟩
  have hj2 : j = 0 ∨ j = 1 := by simp at hj; omega
  rcases hj2 with rfl | rfl
  · refine ⟨_, _, rfl, ho, by simp, ⟨_, _, rfl, rfl, rfl⟩, fun i x hx => ?_⟩
    match i, hx with
    | 0, hx => simp at hx; subst hx; simp [kPair, kInt, Addr.add, nth]
    | 1, hx => simp at hx; subst hx; simp [kPair, kInt, Addr.add, nth]
  · refine ⟨_, _, rfl, ho, by simp, ⟨_, _, rfl, rfl, rfl⟩, fun i x hx => ?_⟩
    match i, hx with
    | 0, hx => simp at hx; subst hx; simp [kPair, kInt, Addr.add, nth]
    | 1, hx => simp at hx; subst hx; simp [kPair, kInt, Addr.add, nth]
theorem putB_gam (v k : Nat) : putB [((0 : Int), (k : Int)), ((v : Int), ((k + 1 : Nat) : Int))] = numB 0 k ++ numB v (k + 1) := by simp [putB]
theorem putN_gam (v k : Nat) : putN [((0 : Int), (k : Int)), ((v : Int), ((k + 1 : Nat) : Int))] = 2 * k + 1 := by simp [putN]; omega

set_option maxHeartbeats 1000000 in
set_option maxRecDepth 100000 in
theorem wgamma_any (o : Nat → Prop) (g v : Nat) (bs : List Bool) (w : World) (h : Wr o w g bs) (hl : bs.length ≤ 1048576) (h1 : 1 ≤ v) (hv : v < 2097152) :
    Calls Tryd.prog 47 #[.pointer (some ⟨g, 0, none⟩), .int .i64 (v : Int)] w
      fun e w' => e = .returned (.int .i64 (fullE bs.length (2 * Nat.log2 v + 1))) ∧ Wr (fun b => o b ∨ w.heap.size ≤ b) w' g (fullB bs (gamB v)) ∧ Upd o w w' := by
  have HP := Lib.hid (fun K => div_pos_iff v K)
  have HA := Lib.hid (fun k (a : 2 ^ k ≤ v) (b : v < 2 ^ (k + 1)) => log2_at a b)
  have HG := Lib.hid (gamB_num v)
  have hd1 : ¬ (v : Int) < 1 := by omega
  have hd2 : ¬ (2097152 : Int) ≤ (v : Int) := by omega
  have HC := Lib.hid (fun (k : Nat) (hk : k ≤ 20) => put_any (fun b => o b ∧ b < w.heap.size) g _ 2 [((0 : Int), (k : Int)), ((v : Int), ((k + 1 : Nat) : Int))] bs _ (h.cut.below (below_alloc (Below.refl w.heap.size w) (.cells #[.int .i64 0, .int .i64 (k : Int), .int .i64 (v : Int), .int .i64 ((k + 1 : Nat) : Int)] 135))) (lit_field2 w 135 0 k v ((k + 1 : Nat) : Int) (fun h => by have := h.2; omega)) (by
    intro f hf
    rcases List.mem_cons.1 hf with rfl | hf
    · exact ⟨Int.le_refl _, by show (0 : Int) < _; omega, Int.natCast_nonneg _, by show (k : Int) ≤ _; omega⟩
    · rw [List.mem_singleton] at hf
      subst hf
      exact ⟨Int.natCast_nonneg _, by show (v : Int) < _; omega, Int.natCast_nonneg _, by show ((k + 1 : Nat) : Int) ≤ _; omega⟩) (by simp) hl)
  have H := Lib.hid h
  clear h
  go_enter Tryd.func47, Tryd.ntmps47
  go_wp2
  clear hd1 hd2
  go_loopw [5] (fun iv wr => ∃ k : Nat, k ≤ 20 ∧ iv = .int .i64 (k : Int) ∧ Hid (2 ^ k ≤ v) ∧ w = wr) (fun iv _ => 64 - (intOf iv).toNat)
  case atStart => exact ⟨0, by omega, rfl, Lib.hid (by simpa using h1), rfl⟩
  case round =>
    obtain ⟨k, hk, rfl, hP, rfl⟩ := hrel
    obtain ⟨K, hK⟩ : ∃ K, k + 1 = K := ⟨_, rfl⟩
    have hwk : IntKind.i64.wrap ((k : Int) + 1) = (K : Int) := by rw [← hK, Int.natCast_succ]; exact IntWalk.i64_in _ (by omega)
    obtain ⟨y, hy⟩ : ∃ y, v / 2 ^ K = y := ⟨_, rfl⟩
    have hyi : (v : Int) / 2 ^ K = (y : Int) := by rw [← hy]; simp
    have hlt := HP.out K
    rw [hy] at hlt
    have HK := Lib.hid hK
    have hk64 : K ≤ 64 := by omega
    by_cases h : 0 < y
    · have H2 := Lib.hid (hlt.1 h)
      have hb : k < 20 := Decidable.byContradiction fun hn => by
        have h3 : 2 ^ 21 ≤ 2 ^ K := Nat.pow_le_pow_right (by decide) (by omega)
        have h4 := H2.out
        have h5 : 2 ^ 21 = 2097152 := by decide
        omega
      have hyp : (0 : Int) < (y : Int) := by omega
      clear hlt hy hK h
      go_wp2
      go_roundw
      case rel => exact ⟨k + 1, by omega, by rw [HK.out], by rw [HK.out]; exact H2, trivial⟩
      case measure => have := HK.out; simp [intOf]; omega
    · have H2 := Lib.hid (show v < 2 ^ (k + 1) by rw [hK]; exact Nat.lt_of_not_le fun hn => h (hlt.2 hn))
      have hyp : ¬ (0 : Int) < (y : Int) := by omega
      have HL := Lib.hid (HA.out k hP.out H2.out)
      have HC2 := Lib.hid (HC.out k hk)
      rw [putB_gam, putN_gam, hK] at HC2
      have HG2 := Lib.hid (show gamB v = numB 0 k ++ numB v K by rw [HG.out, HL.out, hK])
      clear hlt hy hK h
      go_wp2_with (go_at_call 72; refine HC2.out.mono ?_; rintro e w2 ⟨rfl, hw2, hu2⟩)
      go_ret
      rw [HL.out, HG2.out]
      refine ⟨rfl, hw2.weak fun b _ h => ?_, (Upd.alloc (fun b => o b) w _).trans (hu2.weak (o' := o) fun b _ h => h.1) fun _ _ h => h⟩
      rcases h with h | h
      · exact .inl h.1
      · exact .inr (by simp at h; omega)
end Go.Proofs.YtmcdgmiheklbeaaDoor

namespace Go.Proofs.YtmcdgmiheklbeaaDoor
open Go.RowKit

end Go.Proofs.YtmcdgmiheklbeaaDoor

namespace Go.Proofs.YtmcdgmiheklbeaaDoor
open Go.RowKit

/-- Zeros ahead of a one (at most 20): how many, and the error. -/
def zerF : List Bool → Nat → Nat × Int
  | [], _ => (0, 3)
  | true :: _, n => (n, 0)
  | false :: D, n => if 20 < n + 1 then (0, 4) else zerF D (n + 1)
theorem drop_cons_nth {l : List Bool} {i : Nat} (h : i < l.length) : l.drop i = nth false l i :: l.drop (i + 1) := by
  rw [nth_eq false l i h]; exact List.drop_eq_getElem_cons h
theorem zer_end {l : List Bool} {i : Nat} (h : l.length ≤ i) (n : Nat) : zerF (l.drop i) n = (0, 3) := by
  rw [List.drop_of_length_le h]; rfl
theorem zer_hit {l : List Bool} {i : Nat} (h : i < l.length) (hb : nth false l i = true) (n : Nat) : zerF (l.drop i) n = (n, 0) := by
  rw [drop_cons_nth h, hb]; rfl
theorem zer_miss {l : List Bool} {i : Nat} (h : i < l.length) (hb : nth false l i = false) (n : Nat) : zerF (l.drop i) n = if 20 < n + 1 then (0, 4) else zerF (l.drop (i + 1)) (n + 1) := by
  rw [drop_cons_nth h, hb]; rfl
/-- A gamma code: the number, the error, and how many bits it has. -/
def gamF (D : List Bool) : Nat × Int × Nat :=
  if (zerF D 0).2 ≠ 0 then (0, (zerF D 0).2, 0)
  else if D.length < 2 * (zerF D 0).1 + 1 then (0, 3, 0)
  else (2 ^ (zerF D 0).1 + valB ((D.drop ((zerF D 0).1 + 1)).take (zerF D 0).1), 0, 2 * (zerF D 0).1 + 1)
/-- A value out of its digit: the value, the error, and how many bits. -/
def valF (b d : Nat) (D : List Bool) : Int × Int × Nat :=
  if d = 0 then (0, 0, 0)
  else if D.length = 0 then (0, 3, 0)
  else if (escB b && decide (d = mostB b)) = true then
    if (gamF (D.drop 1)).2.1 ≠ 0 then (0, (gamF (D.drop 1)).2.1, 0)
    else if 1023 < mostB b + (gamF (D.drop 1)).1 - 1 then (0, 6, 0)
    else ((if nth false D 0 = true then -1 else 1) * ((mostB b + (gamF (D.drop 1)).1 - 1 : Nat) : Int), 0, 1 + (gamF (D.drop 1)).2.2)
  else ((if nth false D 0 = true then -1 else 1) * (d : Int), 0, 1)
theorem zerF_rep (rest : List Bool) : ∀ k n, n + k ≤ 20 → zerF (List.replicate k false ++ true :: rest) n = (n + k, 0)
  | 0, n, _ => rfl
  | k + 1, n, h => by
    show zerF (false :: (List.replicate k false ++ true :: rest)) n = _
    show (if 20 < n + 1 then ((0, 4) : Nat × Int) else zerF (List.replicate k false ++ true :: rest) (n + 1)) = _
    rw [if_neg (by omega), zerF_rep rest k (n + 1) (by omega), show n + 1 + k = n + (k + 1) by omega]
end Go.Proofs.YtmcdgmiheklbeaaDoor

namespace Go.Proofs.YtmcdgmiheklbeaaDoor
open Go.RowKit

/-- A tape over these bits, at a place, with an error; o: its blocks. -/
def Tr (o : Nat → Prop) (w : World) (g : Nat) (l : List Bool) (at_ : Nat) (e : Int) : Prop :=
  ∃ A c, Blk w g #[.slice A l.length c, .int .i64 at_, .int .i64 e] 41 ∧ Sl (kInt .u8) (fun b => o b ∧ b ≠ g) w A c (bitsI l) ∧ at_ ≤ l.length ∧ l.length ≤ 1048576 ∧ o g
section
variable {o o' : Nat → Prop} {w w' : World} {g : Nat} {l : List Bool} {at_ : Nat} {e : Int}
theorem Tr.lt (h : Tr o w g l at_ e) : g < w.heap.size := let ⟨_, _, h, _⟩ := h; h.lt
theorem Tr.og (h : Tr o w g l at_ e) : o g := let ⟨_, _, _, _, _, _, h⟩ := h; h
theorem Tr.le (h : Tr o w g l at_ e) : at_ ≤ l.length := let ⟨_, _, _, _, h, _⟩ := h; h
theorem Tr.bound (h : Tr o w g l at_ e) : l.length ≤ 1048576 := let ⟨_, _, _, _, _, h, _⟩ := h; h
theorem Tr.weak (h : Tr o w g l at_ e) (ho : ∀ b, b < w.heap.size → o b → o' b) : Tr o' w g l at_ e := by
  obtain ⟨A, c, h1, h2, h3, h4, h5⟩ := h
  exact ⟨A, c, h1, h2.weak fun b hb h => ⟨ho b hb h.1, h.2⟩, h3, h4, ho g h1.lt h5⟩
theorem Tr.keep (h : Tr o w g l at_ e) {ok : Nat → Prop} (hk : Keep ok w w') (ho : ∀ b, o b → ok b) : Tr o w' g l at_ e := by
  obtain ⟨A, c, h1, h2, h3, h4, h5⟩ := h
  exact ⟨A, c, h1.keep hk (ho g h5), (h2.keep (hk.weak fun b hb => ho b hb.1)), h3, h4, h5⟩
theorem Tr.cut (h : Tr o w g l at_ e) : Tr (fun b => o b ∧ b < w.heap.size) w g l at_ e := h.weak fun _ hb ho => ⟨ho, hb⟩
theorem Tr.upd {o2 : Nat → Prop} (h : Tr o w g l at_ e) (hu : Upd o2 w w') (ho : ∀ b, b < w.heap.size → o b → ¬ o2 b) : Tr o w' g l at_ e := by
  have h1 : Tr (fun b => o b ∧ b < w.heap.size) w' g l at_ e := h.cut.keep (hu.keep (ok := fun b => ¬ o2 b) fun _ hb => hb) (fun b e => ho b e.2 e.1)
  exact h1.weak (fun b _ e => e.1)
theorem Tr.below (h : Tr o w g l at_ e) (hb : Below w.heap.size w w') : Tr o w' g l at_ e := h.upd (o2 := fun _ => False) (Upd.of_below hb _) (fun _ _ _ h => h)
theorem Tr.moved (h : Tr o w g l at_ e) (j : Nat) (hj : j ≤ l.length) : Tr o (w.setCell ⟨g, 1, none⟩ (.int .i64 (j : Int))) g l j e ∧ Upd (fun b => b = g) w (w.setCell ⟨g, 1, none⟩ (.int .i64 (j : Int))) := by
  obtain ⟨A, c, h1, h2, h3, h4, h5⟩ := h
  refine ⟨⟨A, c, h1.set 1 (.int .i64 (j : Int)), h2.keep (ok := fun b => o b ∧ b ≠ g) (Keep.of_grown1 (grown_setCell w g 1 _) |>.weak fun b hb => hb.2), hj, h4, h5⟩, ?_⟩
  exact Upd.setCell (fun b => b = g) w g 1 _ rfl
theorem Tr.failed (h : Tr o w g l at_ e) (x : Int) : Tr o (w.setCell ⟨g, 2, none⟩ (.int .i64 x)) g l at_ x ∧ Upd (fun b => b = g) w (w.setCell ⟨g, 2, none⟩ (.int .i64 x)) := by
  obtain ⟨A, c, h1, h2, h3, h4, h5⟩ := h
  refine ⟨⟨A, c, h1.set 2 (.int .i64 x), h2.keep (ok := fun b => o b ∧ b ≠ g) (Keep.of_grown1 (grown_setCell w g 2 _) |>.weak fun b hb => hb.2), h3, h4, h5⟩, ?_⟩
  exact Upd.setCell (fun b => b = g) w g 2 _ rfl
theorem Tr.cells (h : Tr o w g l at_ e) : ∃ A c, w.cell? ⟨g, 0, none⟩ = some (.slice A l.length c) ∧ w.cell? ⟨g, 1, none⟩ = some (.int .i64 at_) ∧ w.cell? ⟨g, 2, none⟩ = some (.int .i64 e) ∧ w.frozen? ⟨g, 1, none⟩ = false ∧ w.frozen? ⟨g, 2, none⟩ = false ∧ Sl (kInt .u8) (fun b => o b ∧ b ≠ g) w A c (bitsI l) := by
  obtain ⟨A, c, h1, h2, _⟩ := h
  exact ⟨A, c, h1.cell 0 rfl, h1.cell 1 rfl, h1.cell 2 rfl, h1.free 1, h1.free 2, h2⟩
end

set_option maxHeartbeats 400000 in
set_option maxRecDepth 100000 in
theorem tok_any (o : Nat → Prop) (g i : Nat) (l : List Bool) (e0 : Int) (w : World) (h : Tr o w g l i e0) :
    Calls Tryd.prog 38 #[.pointer (some ⟨g, 0, none⟩)] w fun e w' => e = .returned (.bool (e0 == 0)) ∧ w = w' := by
  obtain ⟨A, c, k0, k1, k2, _⟩ := h.cells
  clear h
  go_enter Tryd.func38, Tryd.ntmps38
  go_wp2
  go_ret
  exact ⟨rfl, rfl⟩
set_option maxHeartbeats 400000 in
set_option maxRecDepth 100000 in
theorem tleft_any (o : Nat → Prop) (g i : Nat) (l : List Bool) (e0 : Int) (w : World) (h : Tr o w g l i e0) :
    Calls Tryd.prog 89 #[.pointer (some ⟨g, 0, none⟩)] w fun e w' => e = .returned (.int .i64 ((l.length : Int) - (i : Int))) ∧ Below w.heap.size w w' := by
  obtain ⟨A, c, k0, k1, k2, _⟩ := h.cells
  have hb := h.bound
  have hi := h.le
  have hw : IntKind.i64.wrap ((l.length : Int) - (i : Int)) = (l.length : Int) - (i : Int) := IntWalk.i64_in _ (by omega)
  clear h
  go_enter Tryd.func89, Tryd.ntmps89
  go_wp2
  go_still_tail 10, (by kernel_rfl)
  change wpList _ _ _ _ _ (World.drew _)
  go_wp2
  go_ret
  exact ⟨rfl, (Below.refl _ _).drew⟩
/-- An error behind another one. -/
def failE (e0 x : Int) : Int := if e0 = 0 then x else e0
set_option maxHeartbeats 400000 in
set_option maxRecDepth 100000 in
theorem tfail_any (o : Nat → Prop) (g i : Nat) (l : List Bool) (e0 x : Int) (w : World) (h : Tr o w g l i e0) :
    Calls Tryd.prog 65 #[.pointer (some ⟨g, 0, none⟩), .int .i64 x] w fun e w' => e = .returned (.tuple #[]) ∧ Tr o w' g l i (failE e0 x) ∧ Upd (fun b => b = g) w w' := by
  obtain ⟨A, c, k0, k1, k2, f1, f2, _⟩ := h.cells
  have HC := Lib.hid (tok_any o g i l e0 w h)
  have H := Lib.hid h
  clear h
  by_cases he : e0 = 0
  · have heb : (e0 == 0) = true := by simp [he]
    rw [heb] at HC
    have HE := Lib.hid (show failE e0 x = x by unfold failE; rw [if_pos he])
    clear he
    go_enter Tryd.func65, Tryd.ntmps65
    go_wp2_with (go_at_call 38; refine HC.out.mono ?_; rintro e w2 ⟨rfl, rfl⟩)
    go_end0
    rw [HE.out]
    exact ⟨rfl, (H.out.failed x).1, (H.out.failed x).2⟩
  · have heb : (e0 == 0) = false := by simp [he]
    rw [heb] at HC
    have HE := Lib.hid (show failE e0 x = e0 by unfold failE; rw [if_neg he])
    clear he
    go_enter Tryd.func65, Tryd.ntmps65
    go_wp2_with (go_at_call 38; refine HC.out.mono ?_; rintro e w2 ⟨rfl, rfl⟩)
    go_end0
    rw [HE.out]
    exact ⟨rfl, H.out, Upd.refl _ _⟩
theorem bitsI_at (l : List Bool) (k : Nat) (h : k < l.length) : nth 0 (bitsI l) k = b2i (nth false l k) := by
  rw [nth_eq 0 _ k (by simpa [bitsI] using h), nth_eq false _ k h]; simp [bitsI]
set_option maxHeartbeats 2000000 in
set_option maxRecDepth 100000 in
theorem tget_any (o : Nat → Prop) (g i n : Nat) (l : List Bool) (w : World) (h : Tr o w g l i 0) (hn : n ≤ 32) :
    Calls Tryd.prog 63 #[.pointer (some ⟨g, 0, none⟩), .int .i64 (n : Int)] w
      fun e w' => e = .returned (.int .i64 (getV l i n : Int)) ∧ Tr o w' g l (getI l i n) (getE l i n) ∧ Upd (fun b => b = g) w w' := by
  have HK := Lib.hid (fun (E : Int) W (h : Tr o W g l i E) => tok_any o g i l E W h)
  have HLF := Lib.hid (tleft_any o g i l 0 w h)
  have hi := h.le
  have hb := h.bound
  have H := Lib.hid h
  clear h
  by_cases hsh : l.length < i + n
  · have hd : decide ((l.length : Int) - (i : Int) < (n : Int)) = true := decide_eq_true (by omega)
    have HE := Lib.hid (show getV l i n = 0 ∧ getI l i n = i ∧ getE l i n = 3 by unfold getV getI getE; simp [hsh])
    clear hsh
    go_enter Tryd.func63, Tryd.ntmps63
    go_wp2_with (first
      | (go_at_call 38; refine (HK.out 0 _ H.out).mono ?_; rintro e w2 ⟨rfl, rfl⟩)
      | (go_at_call 38; refine (HK.out 3 _ HT4.out).mono ?_; rintro e w5 ⟨rfl, rfl⟩)
      | (go_at_call 89; refine HLF.out.mono ?_; rintro e w3 ⟨rfl, b3⟩; have HF := Lib.hid (tfail_any o g i l 0 3 w3 (H.out.below b3)))
      | (go_at_call 65; refine HF.out.mono ?_; rintro e w4 ⟨rfl, ht4, hu4⟩; have HT4 := Lib.hid ht4))
    go_ret
    exact ⟨by rw [HE.out.1]; rfl, by rw [HE.out.2.1, HE.out.2.2]; exact HT4.out, (Upd.of_below b3 (fun b => b = g)).trans hu4 fun _ _ h => h⟩
  · have hd : decide ((l.length : Int) - (i : Int) < (n : Int)) = false := decide_eq_false (by omega)
    have HE := Lib.hid (show getV l i n = valB ((l.drop i).take n) ∧ getI l i n = i + n ∧ getE l i n = 0 by unfold getV getI getE; simp [hsh])
    have HSH := Lib.hid hsh
    clear hsh
    go_enter Tryd.func63, Tryd.ntmps63
    go_wp2_with (first
      | (go_at_call 38; refine (HK.out 0 _ H.out).mono ?_; rintro e w2 ⟨rfl, rfl⟩)
      | (go_at_call 38; refine (HK.out 0 _ (H.out.below b3)).mono ?_; rintro e w5 ⟨rfl, rfl⟩)
      | (go_at_call 89; refine HLF.out.mono ?_; rintro e w3 ⟨rfl, b3⟩))
    have H3 := Lib.hid (H.out.below b3)
    have HB3 := Lib.hid b3
    clear b3 hd
    obtain ⟨wo, rfl⟩ : ∃ wo, wo = w3 := ⟨_, rfl⟩
    go_loopw [5, 20] (fun v iv wr => ∃ j : Nat, iv = .int .i64 (j : Int) ∧ j ≤ n ∧ v = .int .i64 (valB ((l.drop i).take j) : Int) ∧ Hid (Tr o wr g l (i + j) 0) ∧ Hid (Upd (fun b => b = g) wo wr)) (fun _ iv _ => n - (intOf iv).toNat)
    case atStart => exact ⟨0, rfl, Nat.zero_le _, rfl, H3, Lib.hid (Upd.refl _ _)⟩
    case round =>
      obtain ⟨j, rfl, hj, rfl, hT, hU⟩ := hrel
      by_cases hlt : j < n
      · have hji : (j : Int) < (n : Int) := by omega
        obtain ⟨A, c, k0, k1, k2, f1, f2, hrow⟩ := hT.out.cells
        have hll : i + j < l.length := by have := HSH.out; omega
        obtain ⟨ad, rfl, hc⟩ := rd_int hrow (i + j) (by simpa [bitsI] using hll)
        rw [bitsI_at l _ hll] at hc
        have hlc : (bitsI l).length = l.length := by simp [bitsI]
        have HV := Lib.hid (show valB ((l.drop i).take (j + 1)) = 2 * valB ((l.drop i).take j) + (nth false l (i + j)).toNat by
          rw [take_succ_nth false _ j (by rw [List.length_drop]; omega), valB_snoc, nth_drop])
        have hvl := valB_lt ((l.drop i).take j)
        have hv32 : (2 : Nat) ^ ((l.drop i).take j).length ≤ 2 ^ 32 := Nat.pow_le_pow_right (by decide) (by rw [List.length_take]; omega)
        have h32 : (2 : Nat) ^ 32 = 4294967296 := by decide
        obtain ⟨x, hx⟩ : ∃ x, valB ((l.drop i).take j) = x := ⟨_, rfl⟩
        rw [hx] at hvl HV ⊢
        generalize nth false l (i + j) = t at hc HV
        have hbb := b2i_bd t
        have HTN := Lib.hid (b2i_nat t)
        have hcv : IntKind.i64.wrap (b2i t) = b2i t := IntWalk.i64_in _ (by omega)
        have hw1 : IntKind.i64.wrap (2 * (x : Int)) = 2 * (x : Int) := IntWalk.i64_in _ (by omega)
        have hw2 : IntKind.i64.wrap (2 * (x : Int) + b2i t) = 2 * (x : Int) + b2i t := IntWalk.i64_in _ (by omega)
        have hiL : ((i + j : Nat) : Int) < (l.length : Int) := by omega
        have hw3 : IntKind.i64.wrap (((i + j : Nat) : Int) + 1) = ((i + (j + 1) : Nat) : Int) := by rw [IntWalk.i64_in _ (by omega)]; omega
        have HM := Lib.hid (fun N => (hT.out.below (below_drewN (Below.refl wr.heap.size wr) N)).moved (i + (j + 1)) (by omega))
        generalize b2i t = y at hc HTN hbb hcv hw2
        clear hx hvl hv32 h32 hrow hlc hll hlt
        go_wp2
        go_quiet (fail)
        go_wp2
        go_roundw
        case rel =>
          have e1 : ((i : Int) + (j : Int) + 1) = ((i + (j + 1) : Nat) : Int) := by omega
          have e2 := HTN.out
          refine ⟨j + 1, by go_num, by omega, by rw [HV.out]; congr 1; omega, Lib.hid ?_, Lib.hid ?_⟩
          · rw [e1]; exact (HM.out nq).1
          · rw [e1]; exact (hU.out.trans (Upd.drewN (fun b => b = g) _ nq) fun _ _ h => h).trans (HM.out nq).2 fun _ _ h => h
        case measure => simp [intOf]; omega
      · obtain rfl : j = n := by omega
        go_wp2
        go_ret
        exact ⟨by rw [HE.out.1]; rfl, by rw [HE.out.2.1, HE.out.2.2]; exact hT.out, (Upd.of_below HB3.out (fun b => b = g)).trans hU.out fun _ _ h => h⟩
end Go.Proofs.YtmcdgmiheklbeaaDoor

namespace Go.Proofs.YtmcdgmiheklbeaaDoor
open Go.RowKit

theorem getV_one {l : List Bool} {i : Nat} (h : i < l.length) : getV l i 1 = (nth false l i).toNat ∧ getI l i 1 = i + 1 ∧ getE l i 1 = 0 := by
  have e : (l.drop i).take 1 = [nth false l i] := by rw [drop_cons_nth h]; rfl
  unfold getV getI getE
  rw [if_neg (by omega), if_neg (by omega), if_neg (by omega), e]
  refine ⟨?_, rfl, rfl⟩
  cases nth false l i <;> rfl
theorem getV_end {l : List Bool} {i : Nat} (h : l.length ≤ i) : getV l i 1 = 0 ∧ getI l i 1 = i ∧ getE l i 1 = 3 := by
  unfold getV getI getE
  rw [if_pos (by omega), if_pos (by omega), if_pos (by omega)]
  exact ⟨rfl, rfl, rfl⟩

set_option maxHeartbeats 2000000 in
set_option maxRecDepth 100000 in
theorem tunary_any (o : Nat → Prop) (g i : Nat) (l : List Bool) (w : World) (h : Tr o w g l i 0) :
    Calls Tryd.prog 90 #[.pointer (some ⟨g, 0, none⟩), .int .i64 20] w
      fun e w' => e = .returned (.int .i64 ((zerF (l.drop i) 0).1 : Nat)) ∧ (∃ j, Tr o w' g l j (zerF (l.drop i) 0).2 ∧ ((zerF (l.drop i) 0).2 = 0 → j = i + (zerF (l.drop i) 0).1 + 1)) ∧ Upd (fun b => b = g) w w' := by
  have HK := Lib.hid (fun (E : Int) j W (h : Tr o W g l j E) => tok_any o g j l E W h)
  have HGt := Lib.hid (fun j W (h : Tr o W g l j 0) => tget_any o g j 1 l W h (by decide))
  have HFa := Lib.hid (fun (E : Int) j W (h : Tr o W g l j E) => tfail_any o g j l E 4 W h)
  have H := Lib.hid h
  obtain ⟨R, hR⟩ : ∃ R, zerF (l.drop i) 0 = R := ⟨_, rfl⟩
  have HR := Lib.hid hR
  rw [hR]
  clear h hR
  go_enter Tryd.func90, Tryd.ntmps90
  go_wp2
  go_loopw [5] (fun iv wr => ∃ (n j : Nat) (E : Int), iv = .int .i64 (n : Int) ∧ n ≤ 21 ∧ Hid (Tr o wr g l j E) ∧ Hid (Upd (fun b => b = g) w wr) ∧ ((E = 0 ∧ n ≤ 20 ∧ Hid (j = i + n ∧ zerF (l.drop j) n = R)) ∨ (E ≠ 0 ∧ Hid (R = (0, E))))) (fun iv _ => 30 - (intOf iv).toNat)
  case atStart => exact ⟨0, i, 0, rfl, by omega, H, Lib.hid (Upd.refl _ _), .inl ⟨rfl, by omega, Lib.hid ⟨rfl, HR.out⟩⟩⟩
  case round =>
    obtain ⟨n, j, E, rfl, hn, hT, hU, ⟨rfl, hn20, hz⟩ | ⟨hE, hz⟩⟩ := hrel
    · have hwn : IntKind.i64.wrap ((n : Int) + 1) = (n : Int) + 1 := IntWalk.i64_in _ (by omega)
      rcases Nat.lt_or_ge j l.length with hlt | hge
      · have HO := Lib.hid (getV_one hlt)
        have HG1 := Lib.hid (HGt.out j wr hT.out)
        rw [HO.out.1, HO.out.2.1, HO.out.2.2] at HG1
        cases hb : nth false l j
        · rw [hb] at HG1
          have HM := Lib.hid (zer_miss hlt hb n)
          by_cases h20 : n = 20
          · subst h20
            have HM2 := Lib.hid (show R = (0, 4) by rw [← hz.out.2, HM.out]; rfl)
            clear hb hlt hz
            go_wp2_with (first
              | (go_at_call 38; refine (HK.out 0 j _ hT.out).mono ?_; rintro e w2 ⟨rfl, rfl⟩)
              | (go_at_call 65; refine (HFa.out 0 (j + 1) _ ht3).mono ?_; rintro e w4 ⟨rfl, ht4, hu4⟩)
              | (go_at_call 63; refine HG1.out.mono ?_; rintro e w3 ⟨rfl, ht3, hu3⟩))
            go_roundw
            case rel => exact ⟨21, j + 1, 4, by go_num, by omega, Lib.hid ht4, Lib.hid ((hU.out.trans hu3 fun _ _ h => h).trans hu4 fun _ _ h => h), .inr ⟨by decide, HM2⟩⟩
            case measure => simp [intOf]
          · have HM2 := Lib.hid (show zerF (l.drop (j + 1)) (n + 1) = R by rw [← hz.out.2, HM.out, if_neg (by omega)])
            have hne : ((n : Int) == 20) = false := by simp; omega
            clear hb hlt
            go_wp2_with (first
              | (go_at_call 38; refine (HK.out 0 j _ hT.out).mono ?_; rintro e w2 ⟨rfl, rfl⟩)
              | (go_at_call 63; refine HG1.out.mono ?_; rintro e w3 ⟨rfl, ht3, hu3⟩))
            go_roundw
            case rel => exact ⟨n + 1, j + 1, 0, by go_num, by omega, Lib.hid ht3, Lib.hid (hU.out.trans hu3 fun _ _ h => h), .inl ⟨rfl, by omega, Lib.hid ⟨by rw [hz.out.1]; omega, HM2.out⟩⟩⟩
            case measure => simp [intOf]; omega
        · rw [hb] at HG1
          have HM := Lib.hid (show R = (n, 0) by rw [← hz.out.2]; exact zer_hit hlt hb n)
          clear hb hlt
          go_wp2_with (first
            | (go_at_call 38; refine (HK.out 0 j _ hT.out).mono ?_; rintro e w2 ⟨rfl, rfl⟩)
            | (go_at_call 63; refine HG1.out.mono ?_; rintro e w3 ⟨rfl, ht3, hu3⟩))
          go_ret
          exact ⟨ret_int (by rw [HM.out]), ⟨j + 1, by rw [HM.out]; exact ht3, fun _ => by rw [HM.out, hz.out.1]⟩, hU.out.trans hu3 fun _ _ h => h⟩
      · have HO := Lib.hid (getV_end hge)
        have HG1 := Lib.hid (HGt.out j wr hT.out)
        rw [HO.out.1, HO.out.2.1, HO.out.2.2] at HG1
        have HM2 := Lib.hid (show R = (0, 3) by rw [← hz.out.2]; exact zer_end hge n)
        clear hge
        by_cases h20 : n = 20
        · subst h20
          go_wp2_with (first
            | (go_at_call 38; refine (HK.out 0 j _ hT.out).mono ?_; rintro e w2 ⟨rfl, rfl⟩)
            | (go_at_call 65; refine (HFa.out 3 j _ ht3).mono ?_; rintro e w4 ⟨rfl, ht4, hu4⟩)
            | (go_at_call 63; refine HG1.out.mono ?_; rintro e w3 ⟨rfl, ht3, hu3⟩))
          go_roundw
          case rel => exact ⟨21, j, 3, by go_num, by omega, Lib.hid ht4, Lib.hid ((hU.out.trans hu3 fun _ _ h => h).trans hu4 fun _ _ h => h), .inr ⟨by decide, HM2⟩⟩
          case measure => simp [intOf]
        · have hne : ((n : Int) == 20) = false := by simp; omega
          go_wp2_with (first
            | (go_at_call 38; refine (HK.out 0 j _ hT.out).mono ?_; rintro e w2 ⟨rfl, rfl⟩)
            | (go_at_call 63; refine HG1.out.mono ?_; rintro e w3 ⟨rfl, ht3, hu3⟩))
          go_roundw
          case rel => exact ⟨n + 1, j, 3, by go_num, by omega, Lib.hid ht3, Lib.hid (hU.out.trans hu3 fun _ _ h => h), .inr ⟨by decide, HM2⟩⟩
          case measure => simp [intOf]; omega
    · have hEb : (E == 0) = false := by simp [hE]
      have hKE := Lib.hid (HK.out E j _ hT.out)
      go_wp2_with (go_at_call 38; refine hKE.out.mono ?_; rintro e w2 ⟨rfl, rfl⟩)
      go_ret
      exact ⟨ret_int (by rw [hz.out]; rfl), ⟨j, by rw [hz.out]; exact hT.out, fun h => absurd (by rw [hz.out] at h; exact h) hE⟩, hU.out⟩
end Go.Proofs.YtmcdgmiheklbeaaDoor

namespace Go.Proofs.YtmcdgmiheklbeaaDoor
open Go.RowKit

set_option maxHeartbeats 1000000 in
theorem tget_no (o : Nat → Prop) (g i n : Nat) (l : List Bool) (E : Int) (w : World) (h : Tr o w g l i E) (hE : E ≠ 0) :
    Calls Tryd.prog 63 #[.pointer (some ⟨g, 0, none⟩), .int .i64 (n : Int)] w fun e w' => e = .returned (.int .i64 0) ∧ w = w' := by
  have hEb : (E == 0) = false := by simp [hE]
  have HK := Lib.hid (tok_any o g i l E w h)
  rw [hEb] at HK
  clear h hE hEb
  go_enter Tryd.func63, Tryd.ntmps63
  go_wp2_with (go_at_call 38; refine HK.out.mono ?_; rintro e w2 ⟨rfl, rfl⟩)
  go_ret
  exact ⟨rfl, rfl⟩
theorem zerF_le : ∀ (D : List Bool) (n : Nat), n ≤ 20 → (zerF D n).1 ≤ 20
  | [], _, _ => Nat.zero_le _
  | true :: _, _, h => h
  | false :: D, n, h => by
    show (if 20 < n + 1 then ((0, 4) : Nat × Int) else zerF D (n + 1)).1 ≤ 20
    split
    · exact Nat.zero_le _
    · exact zerF_le D (n + 1) (by omega)

set_option maxHeartbeats 2000000 in
set_option maxRecDepth 100000 in
theorem tgamma_any (o : Nat → Prop) (g i : Nat) (l : List Bool) (w : World) (h : Tr o w g l i 0) :
    Calls Tryd.prog 64 #[.pointer (some ⟨g, 0, none⟩)] w
      fun e w' => e = .returned (.int .i64 ((gamF (l.drop i)).1 : Nat)) ∧ (∃ j, Tr o w' g l j (gamF (l.drop i)).2.1 ∧ ((gamF (l.drop i)).2.1 = 0 → j = i + (gamF (l.drop i)).2.2)) ∧ Upd (fun b => b = g) w w' := by
  have HU := Lib.hid (tunary_any o g i l w h)
  have hi := h.le
  have hk20 := zerF_le (l.drop i) 0 (by omega)
  have HF := Lib.hid (show gamF (l.drop i) = if (zerF (l.drop i) 0).2 ≠ 0 then (0, (zerF (l.drop i) 0).2, 0) else if (l.drop i).length < 2 * (zerF (l.drop i) 0).1 + 1 then (0, 3, 0) else (2 ^ (zerF (l.drop i) 0).1 + valB (((l.drop i).drop ((zerF (l.drop i) 0).1 + 1)).take (zerF (l.drop i) 0).1), 0, 2 * (zerF (l.drop i) 0).1 + 1) from rfl)
  have HK := Lib.hid (fun (E : Int) j W (h : Tr o W g l j E) => tok_any o g j l E W h)
  generalize zerF (l.drop i) 0 = z at *
  obtain ⟨k, E⟩ := z
  have hk : k ≤ 20 := hk20
  clear h hk20
  by_cases hE : E = 0
  · subst hE
    have HG1 := Lib.hid (fun W (h : Tr o W g l (i + k + 1) 0) => tget_any o g (i + k + 1) k l W h (by omega))
    by_cases hsh : l.length < i + k + 1 + k
    · have HX := Lib.hid (show gamF (l.drop i) = (0, 3, 0) by rw [HF.out, if_neg (by simp), if_pos (by rw [List.length_drop]; show l.length - i < 2 * k + 1; omega)])
      have HE := Lib.hid (show getV l (i + k + 1) k = 0 ∧ getE l (i + k + 1) k = 3 by unfold getV getE; simp [hsh])
      clear hsh
      go_enter Tryd.func64, Tryd.ntmps64
      go_wp2_with (first
        | (go_at_call 38; refine (HK.out 3 _ _ ht3).mono ?_; rintro e w4 ⟨rfl, rfl⟩)
        | (go_at_call 63; refine (HG1.out _ ht2).mono ?_; rintro e w3 ⟨rfl, ht3, hu3⟩; rw [HE.out.2] at ht3)
        | (go_at_call 90; refine HU.out.mono ?_; rintro e w2 ⟨rfl, ⟨j, ht2, hj⟩, hu2⟩; obtain rfl := hj rfl))
      go_ret
      exact ⟨ret_int (by rw [HX.out]; rfl), ⟨_, by rw [HX.out]; exact ht3, fun h => by rw [HX.out] at h; cases h⟩, hu2.trans hu3 fun _ _ h => h⟩
    · obtain ⟨V, hV⟩ : ∃ V, valB ((l.drop (i + k + 1)).take k) = V := ⟨_, rfl⟩
      have HX := Lib.hid (show gamF (l.drop i) = (2 ^ k + V, 0, 2 * k + 1) by rw [HF.out, if_neg (by simp), if_neg (by rw [List.length_drop]; show ¬ l.length - i < 2 * k + 1; omega), List.drop_drop, ← Nat.add_assoc, hV])
      have HE := Lib.hid (show getV l (i + k + 1) k = V ∧ getI l (i + k + 1) k = i + k + 1 + k ∧ getE l (i + k + 1) k = 0 by unfold getV getI getE; simp [hsh, hV])
      have hVb := valB_lt ((l.drop (i + k + 1)).take k)
      rw [hV] at hVb
      have hlen : ((l.drop (i + k + 1)).take k).length ≤ k := by rw [List.length_take]; omega
      have hp1 : 2 ^ ((l.drop (i + k + 1)).take k).length ≤ 2 ^ k := Nat.pow_le_pow_right (by decide) hlen
      have hp2 : 2 ^ k ≤ 1048576 := by have := Nat.pow_le_pow_right (n := 2) (by decide) hk; simpa using this
      obtain ⟨P, hP⟩ : ∃ P : Nat, 2 ^ k = P := ⟨_, rfl⟩
      have hPi : (2 : Int) ^ k = (P : Int) := by rw [← hP]; simp
      rw [hP] at HX hp2 hp1
      have w1 : IntKind.i64.wrap (2 ^ k) = (P : Int) := by rw [hPi]; exact IntWalk.i64_in _ (by omega)
      have w2' : IntKind.i64.wrap ((P : Int) + (V : Int)) = (P : Int) + (V : Int) := IntWalk.i64_in _ (by omega)
      have hk64 : k ≤ 64 := by omega
      clear hsh hV hVb hlen hp1 hP hPi
      go_enter Tryd.func64, Tryd.ntmps64
      go_wp2_with (first
        | (go_at_call 38; refine (HK.out 0 _ _ ht3).mono ?_; rintro e w4 ⟨rfl, rfl⟩)
        | (go_at_call 63; refine (HG1.out _ ht2).mono ?_; rintro e w3 ⟨rfl, ht3, hu3⟩; rw [HE.out.2.1, HE.out.2.2] at ht3; rw [HE.out.1])
        | (go_at_call 90; refine HU.out.mono ?_; rintro e w2 ⟨rfl, ⟨j, ht2, hj⟩, hu2⟩; obtain rfl := hj rfl))
      go_ret
      exact ⟨ret_int (by rw [HX.out]; simp), ⟨_, by rw [HX.out]; exact ht3, fun _ => by rw [HX.out]; show _ = i + (2 * k + 1); omega⟩, hu2.trans hu3 fun _ _ h => h⟩
  · have HX := Lib.hid (show gamF (l.drop i) = (0, E, 0) by rw [HF.out, if_pos hE])
    have HG0 := Lib.hid (fun j W (h : Tr o W g l j E) => tget_no o g j k l E W h hE)
    have HKE := Lib.hid (show ∀ j W, Tr o W g l j E → Calls Tryd.prog 38 #[.pointer (some ⟨g, 0, none⟩)] W fun e w' => e = .returned (.bool false) ∧ W = w' from fun j W h => by have h2 := HK.out E j W h; rwa [show (E == 0) = false by simp [hE]] at h2)
    go_enter Tryd.func64, Tryd.ntmps64
    go_wp2_with (first
      | (go_at_call 38; refine (HKE.out _ _ ht2).mono ?_; rintro e w4 ⟨rfl, rfl⟩)
      | (go_at_call 63; refine (HG0.out _ _ ht2).mono ?_; rintro e w3 ⟨rfl, rfl⟩)
      | (go_at_call 90; refine HU.out.mono ?_; rintro e w2 ⟨rfl, ⟨j, ht2, hj⟩, hu2⟩))
    go_ret
    exact ⟨ret_int (by rw [HX.out]; rfl), ⟨j, by rw [HX.out]; exact ht2, fun h => by rw [HX.out] at h; exact absurd h hE⟩, hu2⟩
end Go.Proofs.YtmcdgmiheklbeaaDoor

namespace Go.Proofs.YtmcdgmiheklbeaaDoor
open Go.RowKit

/-- Where a reader is behind zeros and a one; it stays with an error. -/
def zerI (i : Nat) (R : Nat × Int) : Nat := if R.2 = 0 then i + R.1 + 1 else i
set_option maxHeartbeats 2000000 in
set_option maxRecDepth 100000 in
theorem rdzeros_any (o : Nat → Prop) (g i : Nat) (l : List Bool) (w : World) (h : Rr o w g l i) :
    Calls Tryd.prog 107 #[.pointer (some ⟨g, 0, none⟩), .int .i64 20] w
      fun e w' => e = .returned (.tuple #[.int .i64 ((zerF (l.drop i) 0).1 : Nat), .int .i64 (zerF (l.drop i) 0).2]) ∧ Rr o w' g l (zerI i (zerF (l.drop i) 0)) ∧ Upd (fun b => b = g) w w' := by
  obtain ⟨R, hR⟩ : ∃ R, zerF (l.drop i) 0 = R := ⟨_, rfl⟩
  rw [hR]
  have HR := Lib.hid hR
  have H := Lib.hid h
  have hlb := h.bound
  have hle := h.le
  obtain ⟨A, c, bb, h1, h2, h3, h4, h5, h6, h7, h8⟩ := h
  have k0 := h1.cell 0 rfl
  have k1 := h1.cell 1 rfl
  have k2 := h1.cell 2 rfl
  have f2 := h1.free 2
  have HB := Lib.hid (fun j (hj : j < l.length) => bit_any A c bb j w h2.any h3 (by omega))
  have HBB := Lib.hid (show ∀ j, j < l.length → bitB bb j = nth false l j from fun j hj => by rw [h5]; exact (ofB_nth _ _ _ hj).symm)
  clear hR h1 h2 h3 h4 h5 h6 h7 h8
  go_enter Tryd.func107, Tryd.ntmps107
  go_wp2
  go_loopw [6, 7] (fun nv iv wr => ∃ n j : Nat, nv = .int .i64 (n : Int) ∧ iv = .int .i64 (j : Int) ∧ n ≤ 20 ∧ j ≤ l.length ∧ Hid (j = i + n ∧ zerF (l.drop j) n = R) ∧ w = wr) (fun _ iv _ => l.length - (intOf iv).toNat)
  case atStart => exact ⟨0, i, rfl, rfl, by omega, hle, Lib.hid ⟨rfl, HR.out⟩, rfl⟩
  case round =>
    obtain ⟨n, j, rfl, rfl, hn, hj, hz, rfl⟩ := hrel
    have hwn : IntKind.i64.wrap ((n : Int) + 1) = (n : Int) + 1 := IntWalk.i64_in _ (by omega)
    have hwj : IntKind.i64.wrap ((j : Int) + 1) = (j : Int) + 1 := IntWalk.i64_in _ (by omega)
    by_cases hlt : j < l.length
    · have hji : (j : Int) < (l.length : Int) := by omega
      have HC := Lib.hid (HB.out j hlt)
      rw [HBB.out j hlt] at HC
      cases hb : nth false l j
      · rw [hb] at HC
        have HM := Lib.hid (zer_miss hlt hb n)
        by_cases h20 : n = 20
        · subst h20
          have HM2 := Lib.hid (show R = (0, 4) by rw [← hz.out.2, HM.out]; rfl)
          clear hb hz
          go_wp2_with (go_at_call 69; refine HC.out.mono ?_; rintro e w2 ⟨rfl, rfl⟩)
          go_ret2
          exact ⟨by rw [HM2.out]; rfl, by rw [HM2.out]; exact H.out, Upd.refl _ _⟩
        · have HM2 := Lib.hid (show zerF (l.drop (j + 1)) (n + 1) = R by rw [← hz.out.2, HM.out, if_neg (by omega)])
          have hne : ¬ (20 : Int) < (n : Int) + 1 := by omega
          clear hb
          go_wp2_with (go_at_call 69; refine HC.out.mono ?_; rintro e w2 ⟨rfl, rfl⟩)
          go_roundw
          case rel => exact ⟨n + 1, j + 1, by go_num, by go_num, by omega, by omega, Lib.hid ⟨by rw [hz.out.1]; omega, HM2.out⟩, trivial⟩
          case measure => simp [intOf]; omega
      · rw [hb] at HC
        have HM := Lib.hid (show R = (n, 0) by rw [← hz.out.2]; exact zer_hit hlt hb n)
        have HV := Lib.hid (H.out.move (j + 1) 0 (by omega))
        have e1 : ((j + 1 : Nat) : Int) = (j : Int) + 1 := by omega
        rw [e1] at HV
        clear e1
        clear hb
        go_wp2_with (go_at_call 69; refine HC.out.mono ?_; rintro e w2 ⟨rfl, rfl⟩)
        go_ret2
        refine ⟨by rw [HM.out]; rfl, ?_, HV.out.2⟩
        rw [HM.out, show zerI i (n, 0) = j + 1 by rw [hz.out.1]; rfl]
        exact HV.out.1
    · have hji : ¬ (j : Int) < (l.length : Int) := by omega
      have HM2 := Lib.hid (show R = (0, 3) by rw [← hz.out.2]; exact zer_end (by omega) n)
      go_wp2
      go_ret2
      exact ⟨by rw [HM2.out]; rfl, by rw [HM2.out]; exact H.out, Upd.refl _ _⟩
end Go.Proofs.YtmcdgmiheklbeaaDoor

namespace Go.Proofs.YtmcdgmiheklbeaaDoor
open Go.RowKit

end Go.Proofs.YtmcdgmiheklbeaaDoor

namespace Go.Proofs.YtmcdgmiheklbeaaDoor
open Go.RowKit

end Go.Proofs.YtmcdgmiheklbeaaDoor

namespace Go.Proofs.YtmcdgmiheklbeaaDoor
open Go Go.RowKit

theorem wpIn_region_W {P : Program} {ops : Array Oper} {n : Nat} {K : Act → World → Prop} {Q : Exit → Act → World → Prop} {id : Nat} {a : Act} {w : World} (N : Nat) (S : World → Prop) (hm : P.follows .mixedOrders = true) (hS : S w.drew)
    (h : S w.drew → wpAnyG P .any ops (Exit.then K fun _ _ _ => False) S N ops.size (Array.replicate ops.size false) a w.drew) : (Code.region id ops true).wpIn Fence.wide n P (Exit.then K Q) a w :=
  wpIn_wide.2 (wp_mono (wp_region_G N S hm hS h) fun e a w hq => by cases e <;> first | exact hq | exact hq.elim)
/-- A variable of some cells is written, as one step of a drawn region. -/
theorem step_putN {P : Program} {ops : Array Oper} {Q : Exit → Act → World → Prop} {E : Prop} {K : Act → World → Prop} {o : Oper} {a : Act} {W : World} (vs : Array Value) (hgd : o.guard = none) (ty : TypeId) (x y : Operand) (ho : o.op = .store ty x y) (g : Nat) (t : TypeId) (old : Array Value)
    (hx : a.eval x = .pointer (some ⟨g, 0, none⟩)) (hy : a.eval y = .agg vs) (hk : Blk W g old t) (hi : (P.info? ty).map (·.size) = some vs.size) (hold : old.size = vs.size) (h1 : vs.all (·.oneCell') = true)
    (h : ∀ w1, Blk w1 g vs t → W.grownBy w1 (some g) → Hid (w1.heap.size = W.heap.size) → K (a.put o.dst undef) w1) :
    if Region.wanted o (yielded ops a.tmps) = true then Oper.wp P o a W K Q else E := by
  rw [if_pos (by simp [Region.wanted, hgd])]
  exact wp_store_row ty x y ho g vs hx hy t old hk hi hold h1 (h _ (setRow_heap W g old _ t _ hk) (grown_setRow W g _) (Lib.hid (by simp)))
end Go.Proofs.YtmcdgmiheklbeaaDoor
