/- The reference's Lengths: what it returns. · The reference's Lengths in general. · Plain laws: what was coded is read again. No program is named. · scale: length, Lengths, is: what each call returns. · scale: checked: what it returns. · scale: walk: what it yields, for any bands and memory. · A drawn region in a round over an iterator, walked by explicit steps (XHeld). · scale: Cost: what it returns. · Lengths of closed counts: what is taken of each row, worked out over weights alone. Plain; no program is named. · scale: the lengths of all steps, as the document works them out. Plain; no program is named. · The document's rows of bits: Put; the document's scale: Lengths, Ranged, taken, right. · The document's scale: Lengths, Ranged, taken, right: what each call returns. · The document's scale: Ranged, taken, right; the bits of scales. · scale: the bits of scales: by the bands that are used, and by the walk. Plain; no program is named. -/
import Derived.Test.YtkfgomhhenmmeaaKd
import Derived.Test.YtkfgomhhenmmeaaKc
import Derived.Test.YtkfgomhhenmmeaaKa
namespace Go.Proofs.Ytkfgomhhenmmeaa
open Go.RowKit

set_option maxHeartbeats 8000000 in
set_option maxRecDepth 100000 in
theorem rlengths_any (A : Option Addr) (c : Nat) (cs : List Int) (most : Nat) (w : World) (hS : RI w A c cs) (hc : countsB cs = true) (h1 : 1 ≤ most) (h16 : most ≤ 16) :
    Calls Try.prog 42 #[.slice A cs.length c, .int .i64 (most : Int)] w fun e w' => ∃ v, e = .returned (.tuple #[v, .int .i64 (lengthsE cs most)]) ∧ OwnI 3 .i64 w.heap.size w' v (lengthsV cs most) ∧ Below w.heap.size w w' := by
  obtain ⟨h256, hbd⟩ := counts_bound hc
  have HB := Lib.hid (nth_bound hbd (by decide))
  have HS := Lib.hid hS
  have hcB := Lib.hid hc
  have d0 : decide ((256 : Int) < (cs.length : Int)) = false := decide_eq_false (by omega)
  have d1 : decide ((most : Int) < 1) = false := decide_eq_false (by omega)
  have d2 : decide ((16 : Int) < (most : Int)) = false := decide_eq_false (by omega)
  have hmk := make_row (P := Try.prog) 22 3 .i64 8 Try.underlying22 infoI (by decide) cs.length (by omega)
  have HMK := Lib.hid hmk
  have HM := Lib.hid (show 1 ≤ most ∧ most ≤ 16 from ⟨h1, h16⟩)
  clear hS hc hbd hmk
  go_enter Try.func42, Try.ntmps42
  go_wp2
  go_loopw [6, 37] (fun nv iv wr => ∃ k : Nat, iv = .int .i64 (k : Int) ∧ k ≤ cs.length ∧ nv = .int .i64 ((coinsK cs k).length : Int) ∧ w = wr) (fun _ iv _ => cs.length - (intOf iv).toNat)
  case atStart => exact ⟨0, rfl, Nat.zero_le _, rfl, rfl⟩
  case round =>
    obtain ⟨k, rfl, hk, rfl, rfl⟩ := hrel
    by_cases hlt : k < cs.length
    · obtain ⟨ad, rfl, hc⟩ := rd_int HS.out k hlt
      have hki : (k : Int) < (cs.length : Int) := by omega
      have hcl := coinsK_len cs k
      have hck := coinsK_succ_len cs k
      have hbk := HB.out k
      obtain ⟨q, hq⟩ : ∃ q, (coinsK cs k).length = q := ⟨_, rfl⟩
      rw [hq] at hcl hck ⊢
      have hwq : IntKind.i64.wrap ((q : Int) + 1) = (q : Int) + 1 := IntWalk.i64_in _ (by omega)
      have e1 : decide (nth 0 cs k < 0) = false := decide_eq_false (by omega)
      have e2 : decide (1073741824 < nth 0 cs k) = false := decide_eq_false (by omega)
      by_cases h3 : 0 < nth 0 cs k
      · have e3 : decide (0 < nth 0 cs k) = true := decide_eq_true h3
        rw [if_pos h3] at hck
        have HCK := Lib.hid hck
        clear h3 hck hq hcl hbk
        go_wp2
        go_roundw
        case rel => exact ⟨k + 1, by go_num, by omega, by rw [HCK.out]; go_num, trivial⟩
        case measure => simp [intOf]; omega
      · have e3 : decide (0 < nth 0 cs k) = false := decide_eq_false h3
        rw [if_neg h3] at hck
        have HCK := Lib.hid hck
        clear h3 hck hq hcl hbk
        go_wp2
        go_roundw
        case rel => exact ⟨k + 1, by go_num, by omega, by rw [HCK.out], trivial⟩
        case measure => simp [intOf]; omega
    · obtain rfl : k = cs.length := by omega
      obtain ⟨n, hn⟩ : ∃ n, (coinsK cs cs.length).length = n := ⟨_, rfl⟩
      have hnl := coinsK_len cs cs.length
      obtain ⟨Q, hQ⟩ : ∃ Q : Nat, 2 ^ most = Q := ⟨_, rfl⟩
      have hQ6 : Q ≤ 65536 := by rw [← hQ]; have := Nat.pow_le_pow_right (n := 2) (by decide) h16; simpa using this
      have hwq : IntKind.i64.wrap ((2 : Int) ^ most) = (Q : Int) := by rw [show (2 : Int) ^ most = (Q : Int) by rw [← hQ]; simp]; exact IntWalk.i64_in _ (by omega)
      have HQ := Lib.hid (show 2 ^ most = Q from hQ)
      have HE := Lib.hid (show lengthsE cs most = if n = 0 then 5 else if Q < n then 2 else 0 by
        unfold lengthsE
        rw [if_neg (by rw [hcB.out]; simp; omega), hn, Int.toNat_natCast, hQ])
      have HN := Lib.hid hn
      have HV0 := Lib.hid (show lengthsE cs most ≠ 0 → lengthsV cs most = [] from fun h => by unfold lengthsV; rw [if_pos h])
      rw [hn] at hnl ⊢
      clear hn hQ
      by_cases h0 : n = 0
      · have h0b : ((n : Int) == 0) = true := by simp [h0]
        have HX := Lib.hid h0
        clear h0
        go_wp2
        go_ret2
        exact ⟨_, ret_two rfl (by rw [HE.out, if_pos HX.out]; rfl), by rw [HV0.out (by rw [HE.out, if_pos HX.out]; decide)]; exact OwnI.nil _ _ _ _, Below.refl _ _⟩
      · have h0b : ((n : Int) == 0) = false := by simpa using h0
        by_cases hbig : Q < n
        · have hd3 : decide (Q < n) = true := decide_eq_true hbig
          have hd4 : decide ((Q : Int) < (n : Int)) = true := decide_eq_true (by omega)
          have HX := Lib.hid (show n ≠ 0 ∧ Q < n from ⟨h0, hbig⟩)
          clear h0 hbig
          go_wp2
          go_ret2
          exact ⟨_, ret_two rfl (by rw [HE.out, if_neg HX.out.1, if_pos HX.out.2]; rfl), by rw [HV0.out (by rw [HE.out, if_neg HX.out.1, if_pos HX.out.2]; decide)]; exact OwnI.nil _ _ _ _, Below.refl _ _⟩
        · have hd3 : decide (Q < n) = false := decide_eq_false hbig
          have hd4 : decide ((Q : Int) < (n : Int)) = false := decide_eq_false (by omega)
          have hE0 : lengthsE cs most = 0 := by rw [HE.out, if_neg h0, if_neg hbig]
          have HE0 := Lib.hid hE0
          have HIN := Lib.hid (show LenIn cs most from ⟨hcB.out, h1, h16, by rw [sortedC_length, HN.out]; omega, by rw [sortedC_length, HN.out, HQ.out]; omega⟩)
          have HNX := Lib.hid (show 1 ≤ n ∧ n ≤ 256 from ⟨by omega, by omega⟩)
          clear HE HV0 hE0 hbig h0 hQ6
          go_wp2
          go_loopw [9, 60] (fun ov iv wr => ∃ k : Nat, iv = .int .i64 (k : Int) ∧ k ≤ cs.length ∧ Hid (OwnI 3 .i64 w.heap.size wr ov (ordI cs k)) ∧ Hid (Below w.heap.size w wr)) (fun _ iv _ => cs.length - (intOf iv).toNat)
          case atStart => exact ⟨0, rfl, Nat.zero_le _, Lib.hid (OwnI.nil _ _ _ _), Lib.hid (Below.refl _ _)⟩
          case round =>
            obtain ⟨k, rfl, hk, hO, hB⟩ := hrel
            by_cases hlt : k < cs.length
            · obtain ⟨ad, rfl, hck⟩ := rd_int (HS.out.below hB.out) k hlt
              obtain ⟨Ao, co, rfl, hRo⟩ := own_ri hO.out
              have hki : (k : Int) < (cs.length : Int) := by omega
              have hcl := coinsK_len cs k
              obtain ⟨q, hq⟩ : ∃ q, (ordI cs k).length = q := ⟨_, rfl⟩
              have HQ2 := Lib.hid hq
              have HRO := Lib.hid hRo
              have hO2 := hO.out
              rw [hq] at hO2 ⊢
              have hO := Lib.hid hO2
              have hqk : q ≤ k := by rw [← hq, ordI_length]; exact hcl
              clear hcl hq hRo hO2
              go_wp2
              go_loopw [12] (fun pv wr2 => ∃ p : Nat, pv = .int .i64 (p : Int) ∧ p ≤ q ∧ Hid (∀ j, p ≤ j → j < q → nth 0 cs k < nth 0 cs (nth 0 (ordI cs k) j).toNat) ∧ wr = wr2) (fun pv _ => (intOf pv).toNat)
              case atStart => exact ⟨q, rfl, Nat.le_refl _, Lib.hid (fun j h1 h2 => by omega), rfl⟩
              case round =>
                obtain ⟨p, rfl, hp, hL, rfl⟩ := hrel
                by_cases hp0 : p = 0
                · have hp1 : decide ((0 : Int) < (p : Int)) = false := decide_eq_false (by omega)
                  have hp2 : decide (0 < p) = false := decide_eq_false (by omega)
                  have hp3 : Hid (p = 0) := hp0
                  clear hp0
                  by_cases h3 : 0 < nth 0 cs k
                  · have e3 : decide (0 < nth 0 cs k) = true := decide_eq_true h3
                    have hnew := ordI_hit (p := p) h3 (by rw [← ordI_length, HQ2.out]; exact hp) (.inl hp3.out) (by rw [← ordI_length, HQ2.out]; exact hL.out)
                    obtain ⟨T, hT⟩ : ∃ T, (ordI cs k).take p = T := ⟨_, rfl⟩
                    obtain ⟨D, hD⟩ : ∃ D, (ordI cs k).drop p = D := ⟨_, rfl⟩
                    have hTl : T.length = p := by rw [← hT, List.length_take, HQ2.out]; omega
                    have hDl : D.length = q - p := by rw [← hD, List.length_drop, HQ2.out]
                    obtain ⟨i0, hi0, hz0, hz1, hz2⟩ := info_parts infoI
                    obtain ⟨A3, hcut3, hsl3⟩ := cut_full (P := Try.prog) 22 3 Try.underlying22 hi0 Ao q co p hp (by have := HRO.out.le; rw [HQ2.out] at this; exact this)
                    obtain ⟨A8, hcut8, hsl8⟩ := cut_tail (P := Try.prog) 22 3 Try.underlying22 hi0 Ao q co p hp
                    have hs3 := hsl3 (kInt .i64) _ _ _ (by rw [hz1]; rfl) HQ2.out HRO.out
                    have hs8 := hsl8 (kInt .i64) _ _ _ (by rw [hz1]; rfl) HQ2.out HRO.out
                    rw [hT] at hs3 hnew
                    rw [hD] at hs8 hnew
                    rw [← hDl] at hcut8
                    subst hTl
                    have HNEW := Lib.hid hnew
                    have HS3 := Lib.hid hs3
                    have HS8 := Lib.hid hs8
                    have HDL := Lib.hid hDl
                    have HDR := Lib.hid ((Below.refl wr.heap.size wr).drew)
                    have HLEN := Lib.hid (show T.length ≤ 256 ∧ D.length ≤ 256 by have := coinsK_len cs k; omega)
                    clear hnew hs3 hs8 hDl hT hD hsl3 hsl8 h3 hL hlt hi0 hz0 hz1 hz2
                    go_wp2_with fail
                    refine wp_region_G 10 (fun _ => True) (by kernel_rfl) trivial (fun hHeld => ?_)
                    refine wpAnyG_takeL (i := 0) (.slice Ao q co) [3, 10] rfl (by kernel_rfl) (fun _ _ _ h => h) trivial (by rfl) ?_ ?_
                    · (intro W hSw; go_simp)
                    try simp only [Act.put, List.setIfInBounds_toArray, List.set_cons_zero, List.set_cons_succ]
                    refine wpAnyG_takeL (i := 1) (.int .i64 T.length) [3, 10] rfl (by kernel_rfl) (fun _ _ _ h => h) trivial (by rfl) ?_ ?_
                    · (intro W hSw; go_simp)
                    try simp only [Act.put, List.setIfInBounds_toArray, List.set_cons_zero, List.set_cons_succ]
                    refine wpAnyG_takeL (i := 2) (.int .i64 T.length) [3, 10] rfl (by kernel_rfl) (fun _ _ _ h => h) trivial (by rfl) ?_ ?_
                    · (intro W hSw; go_simp)
                    try simp only [Act.put, List.setIfInBounds_toArray, List.set_cons_zero, List.set_cons_succ]
                    refine wpAnyG_takeL (i := 3) (.slice A3 T.length T.length) [10] rfl (by kernel_rfl) (fun _ _ _ h => h) trivial (by rfl) ?_ ?_
                    · (intro W hSw; go_simp)
                    try simp only [Act.put, List.setIfInBounds_toArray, List.set_cons_zero, List.set_cons_succ]
                    refine wpAnyG_takeL (i := 4) (.int .i64 k) [5, 9, 10] rfl (by kernel_rfl) (fun _ _ _ h => h) trivial (by rfl) ?_ ?_
                    · (intro W hSw; go_simp)
                    try simp only [Act.put, List.setIfInBounds_toArray, List.set_cons_zero, List.set_cons_succ]
                    refine wpAnyG_takeL (i := 6) (.slice Ao q co) [8, 9, 10] rfl (by kernel_rfl) (fun _ _ _ h => h) trivial (by rfl) ?_ ?_
                    · (intro W hSw; go_simp)
                    try simp only [Act.put, List.setIfInBounds_toArray, List.set_cons_zero, List.set_cons_succ]
                    refine wpAnyG_takeL (i := 7) (.int .i64 T.length) [8, 9, 10] rfl (by kernel_rfl) (fun _ _ _ h => h) trivial (by rfl) ?_ ?_
                    · (intro W hSw; go_simp)
                    try simp only [Act.put, List.setIfInBounds_toArray, List.set_cons_zero, List.set_cons_succ]
                    refine wpAnyG_takeL (i := 8) (.slice A8 D.length (co - T.length)) [9, 10] rfl (by kernel_rfl) (fun _ _ _ h => h) trivial (by rfl) ?_ ?_
                    · (intro W hSw; go_simp)
                    try simp only [Act.put, List.setIfInBounds_toArray, List.set_cons_zero, List.set_cons_succ]
                    refine wpAnyG_oneL (i := 5) (by kernel_rfl) rfl (fun K hK => ?_)
                    go_simp
                    refine hK.out _ _ (fun _ => trivial) ?_
                    clear hK K
                    try simp only [Act.put, List.setIfInBounds_toArray, List.set_cons_zero, List.set_cons_succ]
                    have HB1 := Lib.hid (below_alloc HDR.out (.cells #[.int .i64 k] 3))
                    have HO1 := Lib.hid (own_lit wr.drew 3 .i64 [(k : Int)] (by simp))
                    refine wpAnyG_oneL (i := 9) (by kernel_rfl) rfl (fun K hK => ?_)
                    refine step_append_row (W := wr.drew.alloc (.cells #[.int .i64 k] 3)) wr.heap.size rfl (.tmp 90) (.tmp 93) 22 3 .i64 8 rfl Try.underlying22 infoI (by decide) _ [(k : Int)] D A8 (co - T.length) rfl rfl HO1.out (HS8.out.below HB1.out) HB1.out.size (by have := HLEN.out; simp; omega) ?_
                    intro v9 w9 hO9 hg9 _
                    have HB9 := Lib.hid (HB1.out.grown hg9 HB1.out.size HO1.out.base_le)
                    have HO9 := Lib.hid hO9
                    clear hO9 hg9
                    refine hK.out _ _ (fun _ => trivial) ?_
                    clear hK K
                    try simp only [Act.put, List.setIfInBounds_toArray, List.set_cons_zero, List.set_cons_succ]
                    obtain ⟨A9, c9, rfl, hs9⟩ := own_ri HO9.out
                    have HS9 := Lib.hid hs9
                    clear hs9
                    refine wpAnyG_oneL (i := 10) (by kernel_rfl) rfl (fun K hK => ?_)
                    refine step_append_full (W := w9) rfl (.tmp 88) (.tmp 94) 22 3 .i64 8 rfl Try.underlying22 infoI (by decide) A3 T A9 c9 ([(k : Int)] ++ D) rfl rfl (HS3.out.below HB9.out) HS9.out (by simp) (by have := HLEN.out; simp; omega) ?_
                    intro v10 w10 hO10 hb10
                    have HO10 := Lib.hid (hO10.mono (b' := w.heap.size) (by have := hB.out.size; have := HB9.out.size; omega))
                    have HB10 := Lib.hid (below2 (below2 hB.out HB9.out) hb10)
                    clear hO10 hb10
                    refine hK.out _ _ (fun h => trivial) ?_
                    clear hK K
                    try simp only [Act.put, List.setIfInBounds_toArray, List.set_cons_zero, List.set_cons_succ]
                    refine wpAnyG_oneL (i := 11) (by kernel_rfl) rfl (fun K hK => ?_)
                    go_simp
                    refine hK.out _ _ (fun h => trivial) ?_
                    clear hK K
                    try simp only [Act.put, List.setIfInBounds_toArray, List.set_cons_zero, List.set_cons_succ]
                    refine wpAnyG_done (by kernel_rfl) ?_ _
                    go_wp2
                    go_roundw
                    case rel => exact ⟨k + 1, by go_num, by omega, Lib.hid (by rw [HNEW.out]; exact HO10.out), HB10⟩
                    case measure => simp [intOf]; omega
                  · have e3 : decide (0 < nth 0 cs k) = false := decide_eq_false h3
                    have HNEW := Lib.hid (ordI_miss h3)
                    clear h3 hL
                    go_wp2
                    go_roundw
                    case rel => exact ⟨k + 1, by go_num, by omega, by rw [HNEW.out]; exact hO, hB⟩
                    case measure => simp [intOf]; omega
                · obtain ⟨pm, hpm⟩ : ∃ pm, p = pm + 1 := ⟨p - 1, by omega⟩
                  have hpq : pm < q := by omega
                  obtain ⟨ad9, e9, ho9⟩ := rd_int HRO.out pm (by rw [HQ2.out]; exact hpq)
                  obtain ⟨s, hs, hsk, hs0, _⟩ := ordI_nth (cs := cs) (k := k) (j := pm) (by rw [← ordI_length, HQ2.out]; exact hpq)
                  rw [hs] at ho9
                  obtain ⟨ads, es, hcs⟩ := rd_int (HS.out.below hB.out) s (by omega)
                  injection es with es
                  subst es
                  have hp1 : decide ((0 : Int) < (p : Int)) = true := decide_eq_true (by omega)
                  have hp2 : decide (0 < p) = true := decide_eq_true (by omega)
                  have hwp : IntKind.i64.wrap ((p : Int) - 1) = (pm : Int) := by rw [IntWalk.i64_in _ (by omega)]; omega
                  have hpi : (pm : Int) < (q : Int) := by omega
                  have hsi : (s : Int) < (cs.length : Int) := by omega
                  have HSS := Lib.hid (show nth 0 (ordI cs k) pm = (s : Int) ∧ p = pm + 1 from ⟨hs, hpm⟩)
                  by_cases h4 : nth 0 cs k < nth 0 cs s
                  · have e4 : decide (nth 0 cs k < nth 0 cs s) = true := decide_eq_true h4
                    have HL2 := Lib.hid (show ∀ j, pm ≤ j → j < q → nth 0 cs k < nth 0 cs (nth 0 (ordI cs k) j).toNat from fun j h1 h2 => by
                      rcases Nat.lt_or_ge pm j with h | h
                      · exact hL.out j (by omega) h2
                      · obtain rfl : j = pm := by omega
                        rw [hs, Int.toNat_natCast]; exact h4)
                    subst e9
                    clear h4 hp0 hs hpm
                    go_wp2
                    go_roundw
                    case rel => exact ⟨pm, rfl, by omega, HL2, trivial⟩
                    case measure => have := HSS.out.2; simp [intOf]; omega
                  · have e4 : decide (nth 0 cs k < nth 0 cs s) = false := decide_eq_false h4
                    have H4 := Lib.hid (show nth 0 cs s ≤ nth 0 cs k by omega)
                    clear h4 hp0 hs hpm
                    subst e9
                    by_cases h3 : 0 < nth 0 cs k
                    · have e3 : decide (0 < nth 0 cs k) = true := decide_eq_true h3
                      have hnew := ordI_hit (p := p) h3 (by rw [← ordI_length, HQ2.out]; exact hp) (.inr ⟨s, by have h5 := HSS.out; rw [h5.2, Nat.add_sub_cancel]; exact h5.1, H4.out⟩) (by rw [← ordI_length, HQ2.out]; exact hL.out)
                      obtain ⟨T, hT⟩ : ∃ T, (ordI cs k).take p = T := ⟨_, rfl⟩
                      obtain ⟨D, hD⟩ : ∃ D, (ordI cs k).drop p = D := ⟨_, rfl⟩
                      have hTl : T.length = p := by rw [← hT, List.length_take, HQ2.out]; omega
                      have hDl : D.length = q - p := by rw [← hD, List.length_drop, HQ2.out]
                      obtain ⟨i0, hi0, hz0, hz1, hz2⟩ := info_parts infoI
                      obtain ⟨A3, hcut3, hsl3⟩ := cut_full (P := Try.prog) 22 3 Try.underlying22 hi0 (some ad9) q co p hp (by have := HRO.out.le; rw [HQ2.out] at this; exact this)
                      obtain ⟨A8, hcut8, hsl8⟩ := cut_tail (P := Try.prog) 22 3 Try.underlying22 hi0 (some ad9) q co p hp
                      have hs3 := hsl3 (kInt .i64) _ _ _ (by rw [hz1]; rfl) HQ2.out HRO.out
                      have hs8 := hsl8 (kInt .i64) _ _ _ (by rw [hz1]; rfl) HQ2.out HRO.out
                      rw [hT] at hs3 hnew
                      rw [hD] at hs8 hnew
                      rw [← hDl] at hcut8
                      subst hTl
                      have HNEW := Lib.hid hnew
                      have HS3 := Lib.hid hs3
                      have HS8 := Lib.hid hs8
                      have HDL := Lib.hid hDl
                      have HDR := Lib.hid ((Below.refl wr.heap.size wr).drew)
                      have HLEN := Lib.hid (show T.length ≤ 256 ∧ D.length ≤ 256 by have := coinsK_len cs k; omega)
                      clear hnew hs3 hs8 hDl hT hD hsl3 hsl8 h3 hL hlt hi0 hz0 hz1 hz2
                      go_wp2_with fail
                      refine wp_region_G 10 (fun _ => True) (by kernel_rfl) trivial (fun hHeld => ?_)
                      refine wpAnyG_takeL (i := 0) (.slice (some ad9) q co) [3, 10] rfl (by kernel_rfl) (fun _ _ _ h => h) trivial (by rfl) ?_ ?_
                      · (intro W hSw; go_simp)
                      try simp only [Act.put, List.setIfInBounds_toArray, List.set_cons_zero, List.set_cons_succ]
                      refine wpAnyG_takeL (i := 1) (.int .i64 T.length) [3, 10] rfl (by kernel_rfl) (fun _ _ _ h => h) trivial (by rfl) ?_ ?_
                      · (intro W hSw; go_simp)
                      try simp only [Act.put, List.setIfInBounds_toArray, List.set_cons_zero, List.set_cons_succ]
                      refine wpAnyG_takeL (i := 2) (.int .i64 T.length) [3, 10] rfl (by kernel_rfl) (fun _ _ _ h => h) trivial (by rfl) ?_ ?_
                      · (intro W hSw; go_simp)
                      try simp only [Act.put, List.setIfInBounds_toArray, List.set_cons_zero, List.set_cons_succ]
                      refine wpAnyG_takeL (i := 3) (.slice A3 T.length T.length) [10] rfl (by kernel_rfl) (fun _ _ _ h => h) trivial (by rfl) ?_ ?_
                      · (intro W hSw; go_simp)
                      try simp only [Act.put, List.setIfInBounds_toArray, List.set_cons_zero, List.set_cons_succ]
                      refine wpAnyG_takeL (i := 4) (.int .i64 k) [5, 9, 10] rfl (by kernel_rfl) (fun _ _ _ h => h) trivial (by rfl) ?_ ?_
                      · (intro W hSw; go_simp)
                      try simp only [Act.put, List.setIfInBounds_toArray, List.set_cons_zero, List.set_cons_succ]
                      refine wpAnyG_takeL (i := 6) (.slice (some ad9) q co) [8, 9, 10] rfl (by kernel_rfl) (fun _ _ _ h => h) trivial (by rfl) ?_ ?_
                      · (intro W hSw; go_simp)
                      try simp only [Act.put, List.setIfInBounds_toArray, List.set_cons_zero, List.set_cons_succ]
                      refine wpAnyG_takeL (i := 7) (.int .i64 T.length) [8, 9, 10] rfl (by kernel_rfl) (fun _ _ _ h => h) trivial (by rfl) ?_ ?_
                      · (intro W hSw; go_simp)
                      try simp only [Act.put, List.setIfInBounds_toArray, List.set_cons_zero, List.set_cons_succ]
                      refine wpAnyG_takeL (i := 8) (.slice A8 D.length (co - T.length)) [9, 10] rfl (by kernel_rfl) (fun _ _ _ h => h) trivial (by rfl) ?_ ?_
                      · (intro W hSw; go_simp)
                      try simp only [Act.put, List.setIfInBounds_toArray, List.set_cons_zero, List.set_cons_succ]
                      refine wpAnyG_oneL (i := 5) (by kernel_rfl) rfl (fun K hK => ?_)
                      go_simp
                      refine hK.out _ _ (fun _ => trivial) ?_
                      clear hK K
                      try simp only [Act.put, List.setIfInBounds_toArray, List.set_cons_zero, List.set_cons_succ]
                      have HB1 := Lib.hid (below_alloc HDR.out (.cells #[.int .i64 k] 3))
                      have HO1 := Lib.hid (own_lit wr.drew 3 .i64 [(k : Int)] (by simp))
                      refine wpAnyG_oneL (i := 9) (by kernel_rfl) rfl (fun K hK => ?_)
                      refine step_append_row (W := wr.drew.alloc (.cells #[.int .i64 k] 3)) wr.heap.size rfl (.tmp 90) (.tmp 93) 22 3 .i64 8 rfl Try.underlying22 infoI (by decide) _ [(k : Int)] D A8 (co - T.length) rfl rfl HO1.out (HS8.out.below HB1.out) HB1.out.size (by have := HLEN.out; simp; omega) ?_
                      intro v9 w9 hO9 hg9 _
                      have HB9 := Lib.hid (HB1.out.grown hg9 HB1.out.size HO1.out.base_le)
                      have HO9 := Lib.hid hO9
                      clear hO9 hg9
                      refine hK.out _ _ (fun _ => trivial) ?_
                      clear hK K
                      try simp only [Act.put, List.setIfInBounds_toArray, List.set_cons_zero, List.set_cons_succ]
                      obtain ⟨A9, c9, rfl, hs9⟩ := own_ri HO9.out
                      have HS9 := Lib.hid hs9
                      clear hs9
                      refine wpAnyG_oneL (i := 10) (by kernel_rfl) rfl (fun K hK => ?_)
                      refine step_append_full (W := w9) rfl (.tmp 88) (.tmp 94) 22 3 .i64 8 rfl Try.underlying22 infoI (by decide) A3 T A9 c9 ([(k : Int)] ++ D) rfl rfl (HS3.out.below HB9.out) HS9.out (by simp) (by have := HLEN.out; simp; omega) ?_
                      intro v10 w10 hO10 hb10
                      have HO10 := Lib.hid (hO10.mono (b' := w.heap.size) (by have := hB.out.size; have := HB9.out.size; omega))
                      have HB10 := Lib.hid (below2 (below2 hB.out HB9.out) hb10)
                      clear hO10 hb10
                      refine hK.out _ _ (fun h => trivial) ?_
                      clear hK K
                      try simp only [Act.put, List.setIfInBounds_toArray, List.set_cons_zero, List.set_cons_succ]
                      refine wpAnyG_oneL (i := 11) (by kernel_rfl) rfl (fun K hK => ?_)
                      go_simp
                      refine hK.out _ _ (fun h => trivial) ?_
                      clear hK K
                      try simp only [Act.put, List.setIfInBounds_toArray, List.set_cons_zero, List.set_cons_succ]
                      refine wpAnyG_done (by kernel_rfl) ?_ _
                      go_wp2
                      go_roundw
                      case rel => exact ⟨k + 1, by go_num, by omega, Lib.hid (by rw [HNEW.out]; exact HO10.out), HB10⟩
                      case measure => simp [intOf]; omega
                    · have e3 : decide (0 < nth 0 cs k) = false := decide_eq_false h3
                      have HNEW := Lib.hid (ordI_miss h3)
                      clear h3 hL
                      go_wp2
                      go_roundw
                      case rel => exact ⟨k + 1, by go_num, by omega, by rw [HNEW.out]; exact hO, hB⟩
                      case measure => simp [intOf]; omega

            · obtain rfl : k = cs.length := by omega
              have hmk := HMK.out
              have hOo := own_made wr 3 .i64 cs.length (by omega)
              have hBo := below_alloc (Below.refl wr.heap.size wr) (.cells (madeCells #[.int .i64 0] cs.length) 3)
              have HOo := Lib.hid hOo
              have HBo := Lib.hid hBo
              obtain ⟨Ao, co, e, hRo⟩ := own_ri hO.out
              subst e
              have hbz := hB.out.size
              have hRo2 := hRo.below hBo
              have hol := (ordI_length cs cs.length).trans HN.out
              have HOL := Lib.hid hol
              rw [hol]
              clear hOo hBo hRo hol hO
              by_cases hn1 : n = 1
              · have hnb : ((n : Int) == 1) = true := by simp [hn1]
                obtain ⟨s, hs1, hs2, _, hs4⟩ := ordI_nth (cs := cs) (k := cs.length) (j := 0) (by rw [HN.out]; omega)
                obtain ⟨ad9, rfl, ho9⟩ := rd_int hRo2 0 (by rw [HOL.out]; omega)
                rw [hs1, add_zero] at ho9
                have HV1 := Lib.hid (lengthsV_one HE0.out (HN.out.trans hn1) hs4)
                have hsi : (s : Int) < (cs.length : Int) := by omega
                have hn0 : 0 < n := by omega
                obtain ⟨ka, kf⟩ := HOo.out.at_ s (by simp; exact hs2)
                clear hs1 hs4 hn1 hRo2
                go_wp2
                go_ret2
                have hs := HOo.out.set s (1 : Int)
                rw [World.setCell_alloc_at _ _ _ _ _ rfl] at hs
                refine ⟨_, ret_two rfl (by rw [HE0.out]; rfl), ?_, below2 hB.out (below_alloc (Below.refl _ _) _)⟩
                rw [HV1.out]
                exact hs.1.mono hbz
              · have hnb : ((n : Int) == 1) = false := by simp; omega
                have hRO2 := Lib.hid hRo2
                have HN2 := Lib.hid (show 2 ≤ n by have := HNX.out.1; omega)
                have hn256 := HNX.out.2
                clear hn1 hRo2
                go_wp2
                have hz2 : (wr.alloc (.cells (madeCells #[.int .i64 0] cs.length) 3)).heap.size = wr.heap.size + 1 := by simp
                have hBX := Lib.hid (below2 hB.out HBo.out)
                obtain ⟨G0, hG0⟩ : ∃ G0, wr.heap.size = G0 := ⟨_, rfl⟩
                generalize hw2 : wr.alloc (.cells (madeCells #[.int .i64 0] cs.length) 3) = w2 at *
                rw [hG0] at hz2 hbz HOo ⊢
                clear hw2 HBo hB HMK hmk
                go_loopw [14, 110] (fun cv iv wr => ∃ j : Nat, iv = .int .i64 (j : Int) ∧ j ≤ n ∧ Hid (OwnK kField 108 w2.heap.size (fun _ => True) wr cv ((tagC cs).take j)) ∧ Hid (Below w2.heap.size w2 wr)) (fun _ iv _ => n - (intOf iv).toNat)
                case atStart => exact ⟨0, rfl, Nat.zero_le _, Lib.hid (OwnK.nil _ _ _ _ _), Lib.hid (Below.refl _ _)⟩
                case round =>
                  obtain ⟨j, rfl, hj, hC, hB⟩ := hrel
                  by_cases hjn : j < n
                  · obtain ⟨ad9, rfl, ho9⟩ := rd_int (hRO2.out.below hB.out) j (by rw [HOL.out]; exact hjn)
                    obtain ⟨s, hs1, hs2, _, _⟩ := ordI_nth (cs := cs) (k := cs.length) (j := j) (by rw [HN.out]; exact hjn)
                    rw [hs1] at ho9
                    obtain ⟨ads, rfl, hcs⟩ := rd_int ((HS.out.below hBX.out).below hB.out) s hs2
                    have htk := take_succ_nth (0, 0) (tagC cs) j (by rw [tagC_length, sortedC_length, HN.out]; exact hjn)
                    rw [tagC_nth (by rw [HN.out]; exact hjn), hs1, Int.toNat_natCast] at htk
                    have HTK := Lib.hid htk
                    have hsi : (s : Int) < (cs.length : Int) := by omega
                    have hjni : (j : Int) < (n : Int) := by omega
                    have hlk : ((tagC cs).take j).length ≤ 256 := by rw [List.length_take]; omega
                    generalize nth 0 cs s = x at hcs HTK
                    clear htk hs1
                    go_wp2_with (at_builtin; (refine append_k (W := wr) (k := kField) w2.heap.size rfl (.tmp 114) (.tmp 121) 106 108 (.agg #[.int .i64 0, .int .i64 0]) 16 (fun _ => True) rfl Try.underlying106 infoRi rfl (by decide) (by decide) u14 ((tagC cs).take j) (x, (s : Int)) [.int .i64 x, .int .i64 s] rfl rfl rfl hC.out ⟨[_], [_], rfl, rfl, rfl⟩ hB.out.size (by omega) ?_); intro g9 cap9 w9 hO9 hg9 hb9 ha9; have HO9 := Lib.hid hO9; have HB9 := Lib.hid (hB.out.grown hg9 hB.out.size hC.out.base_le); clear hO9 hg9 ha9)
                    go_roundw
                    case rel => exact ⟨j + 1, by go_num, by omega, Lib.hid (by rw [HTK.out]; have := HO9.out; simpa using this), HB9⟩
                    case measure => simp [intOf]; omega
                  · obtain rfl : j = n := by omega
                    obtain ⟨Ac, cc, rfl, hcl⟩ := ownF_sl hC.out
                    have htl : (tagC cs).take j = tagC cs := List.take_of_length_le (by rw [tagC_length, sortedC_length, HN.out]; exact Nat.le_refl _)
                    have htn : (tagC cs).length = j := by rw [tagC_length, sortedC_length, HN.out]
                    rw [htl] at hcl ⊢
                    have HTN := Lib.hid htn
                    have HCL := Lib.hid hcl
                    rw [htn]
                    obtain ⟨K, hK⟩ : ∃ K, most - 1 = K := ⟨_, rfl⟩
                    have hwm : IntKind.i64.wrap ((most : Int) - 1) = (K : Int) := by rw [IntWalk.i64_in _ (by have := HM.out; omega)]; have := HM.out; omega
                    have HK := Lib.hid (show most - 1 = K ∧ K ≤ 15 ∧ most = K + 1 by have := HM.out; omega)
                    have hK15 := HK.out.2.1
                    clear hK hcl htl htn hC
                    obtain ⟨n, rfl⟩ : ∃ n, n = j := ⟨_, rfl⟩
                    have hz3 := hB.out.size
                    have hR0 : Hid (OwnK (kSl kField) 106 wr.heap.size (fun b => b ≠ G0) (wr.alloc (.cells #[.slice Ac n cc] 106)) (.slice (some ⟨wr.heap.size, 0, none⟩) 1 1) (rowsL cs 0)) := Lib.hid (by
                      rw [rowsL_zero]
                      exact own_lit1K wr _ _ (tagC cs) _ rfl ⟨Ac, cc, by rw [HTN.out], HCL.out.weak fun b hb h => ⟨by omega, by omega⟩⟩)
                    have hB0 := Lib.hid (below_alloc (Below.refl wr.heap.size wr) (.cells #[.slice Ac n cc] 106))
                    go_wp2
                    obtain ⟨w3, rfl⟩ : ∃ w3, w3 = wr := ⟨_, rfl⟩
                    go_loopw [17, 128] (fun rv iv wr => ∃ i : Nat, iv = .int .i64 (i : Int) ∧ i ≤ K ∧ Hid (OwnK (kSl kField) 106 w3.heap.size (fun b => b ≠ G0) wr rv (rowsL cs i)) ∧ Hid (Below w3.heap.size w3 wr)) (fun _ iv _ => K - (intOf iv).toNat)
                    case atStart => exact ⟨0, rfl, Nat.zero_le _, hR0, hB0⟩
                    case round =>
                      clear hR0 hB0
                      obtain ⟨i, rfl, hi, hR, hB3⟩ := hrel
                      obtain ⟨Ar, cr, rfl, hrs⟩ := hR.out.rd
                      by_cases hiK : i < K
                      · obtain ⟨ad7, A7, c7, rfl, ho7, hs7⟩ := rd_sl hrs i (by rw [rowsL_length]; omega)
                        rw [rowsL_nth (Nat.le_refl _)] at ho7 hs7
                        have hRO := hR.out
                        rw [rowsL_length] at hRO ⊢
                        have HRO := Lib.hid hRO
                        have hlen := rowR_len h256 (k := i)
                        have hlpk : (pairsR (rowR (tagC cs) i)).length ≤ 512 := by rw [pairsR_length]; omega
                        have HP := Lib.hid (rpackages_any A7 c7 (rowR (tagC cs) i) wr hs7.any (by omega) (rowR_bound hcB.out (by omega)))
                        have hz4 := hB3.out.size
                        have HCW := Lib.hid ((HCL.out.below hB3.out).any)
                        have HMg := Lib.hid (fun (Ab : Option Addr) (cb : Nat) (W : World) (ha : Sl kField AnyB W Ac cc (tagC cs)) (hb : Sl kField AnyB W Ab cb (pairsR (rowR (tagC cs) i))) => rmerged_any Ac Ab cc cb (tagC cs) (pairsR (rowR (tagC cs) i)) W ha hb (by have := HTN.out; omega))
                        rw [HTN.out] at HMg
                        have HSU := Lib.hid (rowsL_succ cs i)
                        have hii : (i : Int) < ((i + 1 : Nat) : Int) := by omega
                        have hii2 : (i : Int) < (i : Int) + 1 := by omega
                        clear hs7 hrs hRO hlen
                        go_wp2_with (first
                          | (go_at_call 68; refine HP.out.mono ?_; rintro e w5 ⟨v5, rfl, hO5, hb5⟩; obtain ⟨A5, c5, rfl, hs5⟩ := ownF_sl hO5; have HS5 := Lib.hid hs5.any; have HB5 := Lib.hid hb5; clear hO5 hs5 hb5)
                          | (go_at_call 67; refine (HMg.out A5 c5 _ (HCW.out.below HB5.out) HS5.out).mono ?_; rintro e w6 ⟨v6, rfl, hO6, hb6⟩; obtain ⟨A6, c6, rfl, hs6⟩ := ownF_sl hO6; have HS6 := Lib.hid hs6; have HB6 := Lib.hid (below2 HB5.out hb6); clear hO6 hs6 hb6)
                          | (at_builtin; (refine append_k (W := w6) (k := kSl kField) w3.heap.size rfl (.tmp 131) (.tmp 139) 109 106 (.slice none 0 0) 24 (fun b => b ≠ G0) rfl Try.underlying109 infoRr rfl (by decide) (by decide) (.slice (some ad7) (i + 1) cr) (rowsL cs i) (mergeR (tagC cs) (pairsR (rowR (tagC cs) i))) [.slice A6 (mergeR (tagC cs) (pairsR (rowR (tagC cs) i))).length c6] rfl rfl rfl (HRO.out.below HB6.out) ⟨A6, c6, rfl, HS6.out.weak fun b hb h => ⟨by have := HB5.out.size; omega, fun e => by have := (HRO.out.lt b e).2; have := HB5.out.size; omega⟩⟩ (by have := HB6.out.size; omega) (by rw [rowsL_length]; omega) ?_); intro g9 cap9 w9 hO9 hg9 hb9 ha9; have HO9 := Lib.hid hO9; have HB9 := Lib.hid ((hB3.out.trans (HB6.out.mono hz4)).grown hg9 (by have := HB6.out.size; omega) HRO.out.base_le); clear hO9 hg9 ha9))
                        go_roundw
                        case rel => exact ⟨i + 1, by go_num, by omega, Lib.hid (by rw [HSU.out]; exact HO9.out), HB9⟩
                        case measure => simp [intOf]; omega
                      · obtain rfl : i = K := by omega
                        obtain ⟨K, rfl⟩ : ∃ K, K = i := ⟨_, rfl⟩
                        have hrs2 := Lib.hid (show Sl (kSl kField) (fun b => b ≠ G0) wr Ar cr (rowsL cs K) from hrs.weak fun b _ h => h.elim id (fun h => by have := hR.out.base_le b h; omega))
                        rw [rowsL_length]
                        have HO3 := Lib.hid ((HOo.out.below hB.out).below hB3.out)
                        have HBW := Lib.hid (below2 (below2 hBX.out hB.out) hB3.out)
                        have hgz : G0 < wr.heap.size := by have := hB3.out.size; omega
                        have hSn : (sortedC cs).length = n := (sortedC_length cs).trans HN.out
                        have HSN := Lib.hid hSn
                        have hfit : 2 * n - 2 ≤ (rowI (sortedC cs) K).length := by
                          have h9 := row_fits (coins := sortedC cs) (k := K) (by rw [← HK.out.2.2]; exact HIN.out.fit)
                          rw [hSn] at h9; exact h9
                        have hps : psL cs most = lens (sortedC cs) K (2 * n - 2) := by
                          unfold psL
                          rw [if_neg (by rw [hSn]; have := HN2.out; omega), HK.out.1, hSn]
                        obtain ⟨M, hM⟩ : ∃ M, 2 * n - 2 = M := ⟨_, rfl⟩
                        rw [hM] at hfit hps
                        have hwm2 : IntKind.i64.wrap (2 * (n : Int)) = 2 * (n : Int) := IntWalk.i64_in _ (by omega)
                        have hwm3 : IntKind.i64.wrap (2 * (n : Int) - 2) = (M : Int) := by rw [IntWalk.i64_in _ (by omega)]; have := HN2.out; omega
                        have HFIT := Lib.hid hfit
                        have HPS := Lib.hid (show outT cs (lens (sortedC cs) K M) = lengthsV cs most by rw [← hps]; exact outT_all HE0.out HIN.out)
                        have hgw : w.heap.size ≤ G0 := hbz
                        clear hrs hR hB3 hM hfit hps hSn
                        go_wp2
                        obtain ⟨w4, rfl⟩ : ∃ w4, w4 = wr := ⟨_, rfl⟩
                        go_loopw [19, 20] (fun fv iv wr => ∃ (j m : Nat) (ps : List Nat) (z : Int), iv = .int .i64 z ∧ z = (j : Int) - 1 ∧ fv = .int .i64 (m : Int) ∧ j ≤ K + 1 ∧ Hid (OwnI 3 .i64 G0 wr (.slice (some ⟨G0, 0, none⟩) cs.length cs.length) (outT cs ps)) ∧ Hid (lens (sortedC cs) K M = ps ++ (if j = 0 then [] else lens (sortedC cs) (j - 1) m)) ∧ Hid (j ≠ 0 → m ≤ (rowI (sortedC cs) (j - 1)).length) ∧ Hid (Sl (kSl kField) (fun b => b ≠ G0) wr Ar cr (rowsL cs K)) ∧ Hid (Below w.heap.size w wr) ∧ G0 < wr.heap.size) (fun _ iv _ => (intOf iv + 1).toNat)
                        case atStart => exact ⟨K + 1, M, [], K, rfl, by omega, rfl, Nat.le_refl _, Lib.hid (by rw [outT_nil]; exact HO3.out), Lib.hid (by rw [if_neg (by omega)]; rfl), Lib.hid (fun _ => HFIT.out), hrs2, HBW, hgz⟩
                        case round =>
                          clear HO3 hrs2 HBW hgz
                          obtain ⟨j, m, ps, z, rfl, hz, rfl, hj, hO, hL, hm, hR, hB4, hgz⟩ := hrel
                          by_cases hj0 : j = 0
                          · have hd : decide ((0 : Int) ≤ z) = false := decide_eq_false (by omega)
                            have hL2 : lens (sortedC cs) K M = ps := by have := hL.out; rw [if_pos hj0] at this; rw [this, List.append_nil]
                            have HL2 := Lib.hid hL2
                            clear hz hj0 hL2
                            go_wp2
                            go_ret2
                            exact ⟨_, ret_two rfl (by rw [HE0.out]; rfl), by rw [← HPS.out, HL2.out]; exact hO.out.mono hgw, hB4.out⟩
                          · obtain ⟨i, rfl⟩ : ∃ i, j = i + 1 := ⟨j - 1, by omega⟩
                            obtain rfl : z = (i : Int) := by omega
                            have hm2 : m ≤ (rowI (sortedC cs) i).length := hm.out (by omega)
                            have hd : decide ((0 : Int) ≤ (i : Int)) = true := decide_eq_true (by omega)
                            obtain ⟨ad7, A7, c7, rfl, ho7, hs7⟩ := rd_sl hR.out i (by rw [rowsL_length]; omega)
                            rw [rowsL_nth (by omega)] at ho7 hs7
                            have hrl : (rowR (tagC cs) i).length = (rowI (sortedC cs) i).length := rowR_length cs i
                            have hrl5 := rowR_len h256 (k := i)
                            obtain ⟨p, hp1, hp2, hp3⟩ := level_step hm2
                            obtain ⟨L, hLe⟩ : ∃ L, (rowR (tagC cs) i).take m = L := ⟨_, rfl⟩
                            have hLl : L.length = m := by rw [← hLe, List.length_take]; omega
                            have hLs : ∀ x ∈ L, ¬ x.2 < 0 → ∃ s : Nat, x.2 = (s : Int) ∧ s < cs.length := fun x hx h => item_sym (List.mem_of_mem_take (by rw [hLe]; exact hx)) h
                            have hsL := hs7.le
                            have hSL : Sl kField (fun b => b ≠ G0) wr A7 c7 L := ⟨by omega, hs7.cap, by rw [← hLe]; exact hs7.rd.take m⟩
                            rw [hLe] at hp1 hp2 hp3
                            have HP1 := Lib.hid hp1
                            have HP2 := Lib.hid hp2
                            have HP3 := Lib.hid hp3
                            have HLL := Lib.hid hLl
                            have HLS := Lib.hid hLs
                            have HSL := Lib.hid hSL
                            have hm512 : m ≤ 512 := by omega
                            have hlps : ps.length ≤ 16 := by
                              have h9 := congrArg List.length hL.out
                              rw [lens_length, List.length_append] at h9; omega
                            have hmc : m ≤ c7 := by omega
                            have hii : (i : Int) < ((K + 1 : Nat) : Int) := by omega
                            have hii2 : (i : Int) < (K : Int) + 1 := by omega
                            have hi0 : (0 : Int) ≤ (i : Int) := by omega
                            have hmi : (m : Int) ≤ (c7 : Int) := by omega
                            obtain ⟨rl, hrle⟩ : ∃ rl, (rowR (tagC cs) i).length = rl := ⟨_, rfl⟩
                            rw [hrle] at ho7
                            have hwi : IntKind.i64.wrap ((i : Int) - 1) = (i : Int) - 1 := IntWalk.i64_in _ (by omega)
                            clear hm2 hs7 hrl hrl5 hp1 hp2 hp3 hLe hLl hLs hsL hSL hrle hz hj0 hm
                            go_wp2
                            obtain ⟨w5, rfl⟩ : ∃ w5, w5 = wr := ⟨_, rfl⟩
                            have hgz5 := hgz
                            go_loopw [21, 158] (fun kv iv wr => ∃ q : Nat, iv = .int .i64 (q : Int) ∧ q ≤ m ∧ kv = .int .i64 (packsIn (L.take q) : Int) ∧ Hid (OwnI 3 .i64 G0 wr (.slice (some ⟨G0, 0, none⟩) cs.length cs.length) (outU cs ps (L.take q))) ∧ Hid (Sl kField (fun b => b ≠ G0) wr A7 c7 L) ∧ Hid (Sl (kSl kField) (fun b => b ≠ G0) wr (some ad7) cr (rowsL cs K)) ∧ Hid (Below w.heap.size w wr) ∧ G0 < wr.heap.size) (fun _ iv _ => m - (intOf iv).toNat)
                            case atStart => exact ⟨0, rfl, Nat.zero_le _, rfl, Lib.hid (by rw [List.take_zero, outU_nil]; exact hO.out), HSL, hR, hB4, hgz⟩
                            case round =>
                              clear hO hR hB4 hgz HSL ho7
                              obtain ⟨q, rfl, hq, rfl, hO, hSL, hR, hB4, hgz⟩ := hrel
                              by_cases hqm : q < m
                              · obtain ⟨ad8, rfl, x0, x1⟩ := rd_field hSL.out q (by rw [HLL.out]; exact hqm)
                                have htk := take_succ_nth (0, 0) L q (by rw [HLL.out]; exact hqm)
                                have hsym := HLS.out _ (nth_mem (0, 0) L q (by rw [HLL.out]; exact hqm))
                                obtain ⟨⟨xw, xs⟩, hxe⟩ : ∃ x, nth (0, 0) L q = x := ⟨_, rfl⟩
                                rw [hxe] at x0 x1 htk hsym
                                have hpk := packsIn_snoc (L.take q) (xw, xs)
                                rw [← htk] at hpk
                                have hpl := packsIn_le (L.take q)
                                rw [List.length_take] at hpl
                                obtain ⟨pk, hpke⟩ : ∃ pk, packsIn (L.take q) = pk := ⟨_, rfl⟩
                                rw [hpke] at hpk hpl ⊢
                                have hwk : IntKind.i64.wrap ((pk : Int) + 1) = (pk : Int) + 1 := IntWalk.i64_in _ (by omega)
                                have hqi : (q : Int) < (m : Int) := by omega
                                have hwq : IntKind.i64.wrap ((q : Int) + 1) = (q : Int) + 1 := IntWalk.i64_in _ (by omega)
                                have HTK := Lib.hid htk
                                have HBA := Lib.hid (below_alloc (Below.refl wr.heap.size wr) (.cells #[.int .i64 xw, .int .i64 xs] 108))
                                have hO2 := hO.out.below HBA.out
                                by_cases hx : xs < 0
                                · have hxb : decide (xs < 0) = true := decide_eq_true hx
                                  have hun := outU_pack (cs := cs) (ps := ps) (l := L.take q) (x := (xw, xs)) hx
                                  rw [← htk] at hun
                                  rw [if_pos (show ((xw, xs) : Int × Int).2 < 0 from hx)] at hpk
                                  have HUN := Lib.hid hun
                                  have HPK := Lib.hid hpk
                                  have HO2 := Lib.hid hO2
                                  clear hx hun hpk htk hsym hxe hpl hpke hO2
                                  go_wp2
                                  go_roundw
                                  case rel => exact ⟨q + 1, by go_num, by omega, by rw [HPK.out]; go_num, Lib.hid (by rw [HUN.out]; exact HO2.out), Lib.hid (hSL.out.below HBA.out), Lib.hid (hR.out.below HBA.out), Lib.hid (below2 hB4.out HBA.out), by have := HBA.out.size; omega⟩
                                  case measure => simp [intOf]; omega
                                · have hxb : decide (xs < 0) = false := decide_eq_false hx
                                  obtain ⟨s, hs, hsl⟩ := hsym (by first | exact hx | (show (0 : Int) ≤ xs; omega))
                                  have hs : xs = (s : Int) := hs
                                  subst hs
                                  obtain ⟨ka, kf⟩ := hO2.at_ s (by rw [outU_length]; exact hsl)
                                  have hval := outU_nth (cs := cs) (ps := ps) (l := L.take q) hsl
                                  have hb1 := count_sum_le cs s ps
                                  have hb2 := coinsIn_le s (L.take q)
                                  rw [List.length_take] at hb2
                                  have hb3 : ps.length * (sortedC cs).length ≤ 16 * 256 := Nat.mul_le_mul hlps (by rw [HSN.out]; exact hn256)
                                  have hun := outU_coin (cs := cs) (ps := ps) (l := L.take q) (x := (xw, (s : Int))) (s := s) rfl hsl
                                  rw [← htk] at hun
                                  rw [if_neg (show ¬ ((xw, (s : Int)) : Int × Int).2 < 0 from hx)] at hpk
                                  obtain ⟨V, hV⟩ : ∃ V, nth 0 (outU cs ps (L.take q)) s = V := ⟨_, rfl⟩
                                  rw [hV] at ka hval hun
                                  have hwV : IntKind.i64.wrap (V + 1) = V + 1 := IntWalk.i64_in _ (by omega)
                                  have hsi : (s : Int) < (cs.length : Int) := by omega
                                  have HUN := Lib.hid hun
                                  have HPK := Lib.hid hpk
                                  have HO2 := Lib.hid hO2
                                  have hG1 : wr.heap.size ≠ G0 := by omega
                                  clear hx hun hpk htk hsym hxe hpl hpke hval hb1 hb2 hb3 hV hO2
                                  go_wp2
                                  go_roundw
                                  case rel =>
                                    have hs := hO.out.set s (V + 1)
                                    have hkp : Keep (fun b => b ≠ G0) wr (wr.setCell ⟨G0, s, none⟩ (.int .i64 (V + 1))) := Keep.of_grown1 hs.2
                                    have hba := below_alloc (Below.refl (wr.setCell ⟨G0, s, none⟩ (.int .i64 (V + 1))).heap.size (wr.setCell ⟨G0, s, none⟩ (.int .i64 (V + 1)))) (.cells #[.int .i64 xw, .int .i64 (s : Int)] 108)
                                    have hbf := below2 (hB4.out.grown hs.2 hB4.out.size (fun r e => by have := Option.some.inj e; omega)) hba
                                    refine ⟨q + 1, by go_num, by omega, by rw [HPK.out]; rfl, Lib.hid ?_, Lib.hid ?_, Lib.hid ?_, Lib.hid ?_, ?_⟩
                                    · rw [← HUN.out]; exact hs.1.below hba
                                    · exact (hSL.out.keep hkp).below hba
                                    · exact (hR.out.keep hkp).below hba
                                    · exact hbf
                                    · have := hkp.size; have := hba.size; omega
                                  case measure => simp [intOf]; omega
                              · obtain rfl : q = m := by omega
                                have htl : L.take q = L := List.take_of_length_le (by rw [HLL.out]; exact Nat.le_refl _)
                                have hpl := packsIn_le L
                                rw [HLL.out] at hpl
                                rw [htl] at hO ⊢
                                have hout := outU_done (cs := cs) (ps := ps) (l := L) (p := p) HP1.out
                                rw [hout] at hO
                                have HHO := Lib.hid hO.out
                                have HLN := Lib.hid (show lens (sortedC cs) K M = (ps ++ [p]) ++ (if i = 0 then [] else lens (sortedC cs) (i - 1) (2 * packsIn L)) by
                                  have h9 := hL.out
                                  rw [if_neg (by omega), Nat.add_sub_cancel, HP2.out] at h9
                                  rw [h9]; simp)
                                obtain ⟨pk, hpke⟩ : ∃ pk, packsIn L = pk := ⟨_, rfl⟩
                                rw [hpke] at hpl HLN HP3 ⊢
                                have hw2 : IntKind.i64.wrap (2 * (pk : Int)) = 2 * (pk : Int) := IntWalk.i64_in _ (by omega)
                                clear htl hout hpke hO hL HP2
                                go_wp2
                                go_roundw
                                case rel => exact ⟨i, 2 * pk, ps ++ [p], (i : Int) - 1, rfl, rfl, by simp, by omega, HHO, HLN, HP3, hR, hB4, hgz⟩
                                case measure => simp [intOf] <;> omega
end Go.Proofs.Ytkfgomhhenmmeaa

namespace Go.Proofs.Ytkfgomhhenmmeaa
open Go.RowKit

theorem rlengths_all (A : Option Addr) (c : Nat) (cs : List Int) (most : Int) (w : World) (hS : RI w A c cs) :
    Calls Try.prog 42 #[.slice A cs.length c, .int .i64 most] w fun e w' => ∃ v, e = .returned (.tuple #[v, .int .i64 (lengthsE cs most)]) ∧ OwnI 3 .i64 w.heap.size w' v (lengthsV cs most) ∧ Below w.heap.size w w' := by
  by_cases h : countsB cs = false ∨ most < 1 ∨ 16 < most
  · refine (rlengths_no A c cs most w hS h).mono ?_
    rintro e w' ⟨rfl, hb⟩
    have e1 : lengthsE cs most = 1 := by unfold lengthsE; rw [if_pos h]
    have e2 : lengthsV cs most = [] := by unfold lengthsV; rw [if_pos (by rw [e1]; decide)]
    exact ⟨_, by rw [e1], by rw [e2]; exact OwnI.nil _ _ _ _, hb⟩
  · have h1 : countsB cs = true := by
      cases hc : countsB cs
      · exact absurd (.inl hc) h
      · rfl
    have h2 : 1 ≤ most ∧ most ≤ 16 := by omega
    obtain ⟨m, rfl⟩ : ∃ m : Nat, most = (m : Int) := ⟨most.toNat, by omega⟩
    exact rlengths_any A c cs m w hS h1 (by omega) (by omega)
end Go.Proofs.Ytkfgomhhenmmeaa

namespace Go.Proofs.Ytkfgomhhenmmeaa
open Go.RowKit

theorem begF_of {ls : List Int} {p : Nat × Nat} {j : Nat} (h : begAt (lenOf ls j) (codeN ls j) 0 p = true) : ∀ {k : Nat}, j < k → begF ls k p = true
  | 0, hj => by omega
  | k + 1, hj => by
    simp only [begF, Bool.or_eq_true]
    rcases Nat.lt_or_ge j k with h1 | h1
    · exact .inl (begF_of h h1)
    · obtain rfl : j = k := by omega
      exact .inr h
theorem readF_word {ls : List Int} (hr : Right ls) {s : Nat} (hs : s < ls.length) (h0 : 0 < lenOf ls s) (rest : List Bool) : ∀ (fuel n : Nat), n < lenOf ls s → lenOf ls s ≤ n + fuel →
    readF (symF ls ls.length) (begF ls ls.length) (numB (codeN ls s) (lenOf ls s) ++ rest) fuel n = ((s : Int), 0, lenOf ls s)
  | 0, n, h1, h2 => by omega
  | fuel + 1, n, h1, h2 => by
    have h16 := hr.ok.len16
    have hC := code_lt h16 hr.full hs
    have hl : (numB (codeN ls s) (lenOf ls s)).length = lenOf ls s := numB_length _ _
    have hv : valB ((numB (codeN ls s) (lenOf ls s) ++ rest).take (n + 1)) = codeN ls s / 2 ^ (lenOf ls s - (n + 1)) := by
      rw [List.take_append_of_le_length (by omega), numB_take _ _ _ (by omega), valB_numB]
      refine Nat.mod_eq_of_lt ?_
      rw [Nat.div_lt_iff_lt_mul (Nat.two_pow_pos _), ← Nat.pow_add]
      rw [show n + 1 + (lenOf ls s - (n + 1)) = lenOf ls s by omega]
      exact hC
    unfold readF
    rw [if_neg (by rw [List.length_append]; omega), hv]
    rcases Nat.lt_or_ge (n + 1) (lenOf ls s) with h3 | h3
    · have e1 : symF ls ls.length (n + 1, codeN ls s / 2 ^ (lenOf ls s - (n + 1))) = none := symF_none fun j hj ⟨hj0, e⟩ => by
        injection e with e1 e2
        have hne : j ≠ s := fun e => by subst e; omega
        exact code_free h16 hj hs hne hj0 (by omega) (by rw [← e1]; exact e2)
      have e2 : begF ls ls.length (n + 1, codeN ls s / 2 ^ (lenOf ls s - (n + 1))) = true := begF_of (j := s) (decide_eq_true ⟨by omega, by show n + 1 ≤ _; omega, rfl⟩) hs
      rw [e1]
      simp only [e2, if_true]
      exact readF_word hr hs h0 rest fuel (n + 1) h3 (by omega)
    · have e : n + 1 = lenOf ls s := by omega
      rw [e, Nat.sub_self, Nat.pow_zero, Nat.div_one, symF_some hr h0 hs (Nat.le_refl _)]
theorem readR_word {ls : List Int} (hr : Right ls) {s : Nat} (hs : s < ls.length) (h0 : 0 < lenOf ls s) (rest : List Bool) : readR ls (numB (codeN ls s) (lenOf ls s) ++ rest) = ((s : Int), 0, lenOf ls s) :=
  readF_word hr hs h0 rest 17 0 h0 (by have := hr.ok.len16 s; omega)
theorem encB_cons (ls : List Int) (s : Int) (ss : List Int) : encB ls (s :: ss) = numB (codeN ls s.toNat) (lenOf ls s.toNat) ++ encB ls ss := by simp [encB]
theorem decF_encB {ls : List Int} (hr : Right ls) : ∀ {ss : List Int}, (∀ s ∈ ss, hasB ls s = true) → decF ls ss.length (encB ls ss) = (ss, 0)
  | [], _ => rfl
  | s :: ss, h => by
    obtain ⟨k, rfl, hk, h0⟩ := hasB_spec (h s (by simp))
    rw [List.length_cons, encB_cons, decF, Int.toNat_natCast, readR_word hr hk h0]
    simp only [ne_eq, not_true_eq_false, if_false]
    rw [List.drop_left' (numB_length _ _), decF_encB hr fun s hs => h s (by simp [hs])]
    simp
theorem noneS_has {ls ss : List Int} (h : noneS ls ss = false) : ∀ s ∈ ss, hasB ls s = true := by
  intro s hs
  have := List.any_eq_false.1 h s hs
  simpa using this
/-- Decode of Encode is the list. -/
theorem decode_encode {ls ss : List Int} (h : (encodeR ls ss).2 = 0) (hl : ss.length ≤ 60000) : Right ls ∧ (∀ s ∈ ss, hasB ls s = true) ∧ encodeR ls ss = (encB ls ss, 0) ∧ decodeR ls (packB (encB ls ss)) (encB ls ss).length ss.length = (ss, 0) := by
  unfold encodeR at h
  split at h
  · rename_i hc; exact absurd h hc
  · rename_i hc
    have hck : checkN ls = 0 := by simpa using hc
    split at h
    · cases h
    · rename_i hn
      have hn' : noneS ls ss = false := by simpa using hn
      have hr := (checkN_right ls).1 hck
      have hlen := encB_len hr.ok.len16 ss
      have he : openE (packB (encB ls ss)).length ((encB ls ss).length : Int) = 0 := by
        unfold openE
        rw [packB_length, if_neg (by omega), if_neg (by omega)]
      refine ⟨hr, noneS_has hn', by unfold encodeR; rw [if_neg hc, if_neg hn], ?_⟩
      unfold decodeR
      rw [if_neg hc, he, if_neg (by omega), if_neg (by simp), Int.toNat_natCast, Int.toNat_natCast, ofB_packB _ _ (Nat.le_refl _), List.take_length]
      exact decF_encB hr (noneS_has hn')
/-- Write's word, and Read at its place. -/
theorem write_step {ls ss : List Int} (hr : Right ls) (h : ∀ s ∈ ss, hasB ls s = true) (hl : ss.length ≤ 60000) {k : Nat} (hk : k < ss.length) :
    writeE ls (encB ls (ss.take k)).length (nth 0 ss k) = 0 ∧ fullB (encB ls (ss.take k)) (wordB ls (nth 0 ss k)) = encB ls (ss.take (k + 1)) := by
  have hck := (checkN_right ls).2 hr
  have hh := h _ (nth_mem 0 ss k hk)
  have h16 := hr.ok.len16
  have hlen := encB_len h16 (ss.take k)
  rw [List.length_take] at hlen
  have hw := h16 (nth 0 ss k).toNat
  have hb : ¬ 1048576 < (encB ls (ss.take k)).length + lenOf ls (nth 0 ss k).toNat := by omega
  constructor
  · unfold writeE fullE
    rw [if_neg (by simp [hck]), if_neg (by simp [hh]), if_neg hb]
  · have e : wordB ls (nth 0 ss k) = numB (codeN ls (nth 0 ss k).toNat) (lenOf ls (nth 0 ss k).toNat) := by
      unfold wordB; rw [if_neg (by simp [hck, hh])]
    unfold fullB
    rw [e, if_neg (by rw [numB_length]; exact hb), encB_take hk]
theorem read_step {ls ss : List Int} (hr : Right ls) (h : ∀ s ∈ ss, hasB ls s = true) {k : Nat} (hk : k < ss.length) :
    readL ls ((encB ls ss).drop (encB ls (ss.take k)).length) = (nth 0 ss k, 0, lenOf ls (nth 0 ss k).toNat) ∧ (encB ls (ss.take k)).length + lenOf ls (nth 0 ss k).toNat = (encB ls (ss.take (k + 1))).length := by
  have hck := (checkN_right ls).2 hr
  obtain ⟨s, hs, hk2, h0⟩ := hasB_spec (h _ (nth_mem 0 ss k hk))
  constructor
  · have e : (encB ls ss).drop (encB ls (ss.take k)).length = encB ls (ss.drop k) := by
      have e2 : encB ls ss = encB ls (ss.take k) ++ encB ls (ss.drop k) := by
        unfold encB
        rw [← List.flatMap_append, List.take_append_drop]
      rw [e2, List.drop_left' rfl]
    rw [e, drop_nth 0 ss k hk, encB_cons, hs, Int.toNat_natCast]
    unfold readL
    rw [if_neg (by simp [hck]), readR_word hr hk2 h0]
  · rw [encB_take hk, List.length_append, numB_length]
end Go.Proofs.Ytkfgomhhenmmeaa

namespace Go.Proofs.Ytkfgomhhenmmeaa
open Go.RowKit

/-- The lengths of the words of all steps. -/
def tabS : List Nat := [15, 15, 15, 15, 15, 15, 14, 14, 14, 14, 14, 14, 14, 14, 14, 14, 14, 14, 14, 14, 14, 14, 14, 14, 14, 14, 14, 14, 14, 14, 14, 14, 14, 14, 13, 13, 13, 13, 13, 13, 13, 13, 13, 13, 13, 13, 13, 13, 13, 13, 13, 13, 12, 12, 12, 12, 12, 12, 12, 12, 12, 12, 12, 12, 12, 11, 11, 11, 11, 11, 11, 11, 11, 11, 10, 10, 10, 10, 10, 10, 9, 9, 9, 9, 9, 8, 8, 8, 7, 7, 7, 6, 6, 5, 3, 1, 3, 5, 6, 6, 7, 7, 7, 8, 8, 8, 9, 9, 9, 9, 9, 10, 10, 10, 10, 10, 10, 11, 11, 11, 11, 11, 11, 11, 11, 11, 12, 12, 12, 12, 12, 12, 12, 12, 12, 12, 12, 12, 12, 13, 13, 13, 13, 13, 13, 13, 13, 13, 13, 13, 13, 13, 13, 13, 13, 13, 13, 13, 13, 14, 14, 14, 14, 14, 14, 14, 14, 14, 14, 14, 14, 14, 14, 14, 14, 14, 14, 14, 14, 14, 14, 14, 14, 14, 14, 15, 15, 15, 15, 15, 15]
def tabI : List Int := tabS.map Int.ofNat
set_option maxRecDepth 100000 in
theorem tabS_length : tabS.length = 191 := by decide
set_option maxRecDepth 100000 in
theorem tabI_length : tabI.length = 191 := by decide
set_option maxRecDepth 100000 in
theorem tabS_all : tabS.all (fun x => decide (1 ≤ x) && decide (x ≤ 15)) = true := by decide
theorem tabI_nth (k : Nat) (h : k < 191) : nth 0 tabI k = ((nth 0 tabS k : Nat) : Int) := by
  rw [nth_eq 0 _ k (by rw [tabI_length]; exact h), nth_eq 0 _ k (by rw [tabS_length]; exact h)]
  simp [tabI]
theorem tabS_bound (k : Nat) (h : k < 191) : 1 ≤ nth 0 tabS k ∧ nth 0 tabS k ≤ 15 := by
  have := List.all_eq_true.1 tabS_all _ (nth_mem 0 tabS k (by rw [tabS_length]; exact h))
  simpa using this
/-- The table as it is laid. -/
def tabB : ByteArray := { data := #[111, 111, 111, 111, 111, 111, 110, 110, 110, 110, 110, 110, 110, 110, 110, 110, 110, 110, 110, 110, 110, 110, 110, 110, 110, 110, 110, 110, 110, 110, 110, 110, 110, 110, 109, 109, 109, 109, 109, 109, 109, 109, 109, 109, 109, 109, 109, 109, 109, 109, 109, 109, 108, 108, 108, 108, 108, 108, 108, 108, 108, 108, 108, 108, 108, 107, 107, 107, 107, 107, 107, 107, 107, 107, 106, 106, 106, 106, 106, 106, 105, 105, 105, 105, 105, 104, 104, 104, 103, 103, 103, 102, 102, 101, 99, 97, 99, 101, 102, 102, 103, 103, 103, 104, 104, 104, 105, 105, 105, 105, 105, 106, 106, 106, 106, 106, 106, 107, 107, 107, 107, 107, 107, 107, 107, 107, 108, 108, 108, 108, 108, 108, 108, 108, 108, 108, 108, 108, 108, 109, 109, 109, 109, 109, 109, 109, 109, 109, 109, 109, 109, 109, 109, 109, 109, 109, 109, 109, 109, 110, 110, 110, 110, 110, 110, 110, 110, 110, 110, 110, 110, 110, 110, 110, 110, 110, 110, 110, 110, 110, 110, 110, 110, 110, 110, 111, 111, 111, 111, 111, 111] }
set_option maxRecDepth 100000 in
theorem tabB_all : ∀ k : Fin 191, (tabB.data[k.val]?.getD 0).toNat = 96 + nth 0 tabS k.val := by decide +kernel
theorem tabB_at (k : Nat) (h : k < tabB.size) : (tabB[k].toNat : Int) = 96 + ((nth 0 tabS k : Nat) : Int) := by
  have h2 : k < 191 := h
  have h3 := tabB_all ⟨k, h2⟩
  have h4 : tabB.data[k]?.getD 0 = tabB[k] := by
    have h5 : k < tabB.data.size := h
    rw [Array.getElem?_eq_getElem h5]; rfl
  simp only at h3
  rw [h4] at h3
  omega
/-- The length of a step's word. -/
def stepL (d : Int) : Nat := nth 0 tabS (d + 95).toNat

set_option maxHeartbeats 1000000 in
set_option maxRecDepth 100000 in
theorem length_any (d : Int) (w : World) (h : -95 ≤ d ∧ d ≤ 95) :
    Calls Try.prog 40 #[.int .i64 d] w fun e w' => e = .returned (.int .i64 (stepL d : Int)) ∧ w = w' := by
  obtain ⟨k, hk⟩ : ∃ k : Nat, d + 95 = (k : Int) := ⟨(d + 95).toNat, by omega⟩
  have hw : IntKind.i64.wrap (d + 95) = (k : Int) := by rw [IntWalk.i64_in _ (by omega)]; exact hk
  have hk1 : k < 191 := by omega
  go_enter Try.func40, Try.ntmps40
  go_wp2
  go_ret
  refine ⟨ret_int ?_, rfl⟩
  have h2 := tabB_at k (show k < 191 from hk1)
  have h3 := tabS_bound k hk1
  have h4 : stepL d = nth 0 tabS k := by unfold stepL; rw [hk, Int.toNat_natCast]
  rw [h4]
  show ((tabB[k]'(show k < 191 from hk1)).toNat - 97 : Int) % 256 + 1 = _
  rw [h2]
  omega

set_option maxHeartbeats 1000000 in
set_option maxRecDepth 100000 in
theorem slengths_any (w : World) :
    Calls Try.prog 16 #[] w fun e w' => ∃ v, e = .returned v ∧ OwnI 3 .i64 w.heap.size w' v tabI ∧ Below w.heap.size w w' := by
  go_enter Try.func16, Try.ntmps16
  go_wp2
  go_loopw [1, 3] (fun v i wr => ∃ k : Nat, k ≤ 191 ∧ i = .int .i64 (k : Int) ∧ Hid (OwnI 3 .i64 w.heap.size wr v (tabI.take k)) ∧ Below w.heap.size w wr) (fun _ i _ => 191 - (intOf i).toNat)
  case atStart => exact ⟨0, Nat.zero_le _, rfl, Lib.hid (OwnI.nil _ _ _ _), Below.refl _ _⟩
  case round =>
    obtain ⟨k, hk, rfl, hO, hB⟩ := hrel
    by_cases hlt : k < 191
    · have hki : (k : Int) < 191 := by omega
      have hw : IntKind.i64.wrap ((k : Int) - 95) = (k : Int) - 95 := IntWalk.i64_in _ (by omega)
      have hs : stepL ((k : Int) - 95) = nth 0 tabS k := by unfold stepL; rw [show (k : Int) - 95 + 95 = (k : Int) by omega, Int.toNat_natCast]
      have HT := Lib.hid (take_succ_nth 0 tabI k (by rw [tabI_length]; exact hlt))
      rw [tabI_nth k hlt] at HT
      have hl : (tabI.take k).length ≤ 191 := by rw [List.length_take]; omega
      have HC := Lib.hid (fun W => length_any ((k : Int) - 95) W (by omega))
      rw [hs] at HC
      generalize nth 0 tabS k = y at HC HT
      clear hs
      go_wp2_with (first
        | (go_at_call 40; refine (HC.out _).mono ?_; rintro e w2 ⟨rfl, rfl⟩)
        | (at_builtin; (refine append_one (w0 := w) w.heap.size rfl (.tmp 6) (.tmp 10) 22 3 .i64 8 rfl Try.underlying22 infoI (by decide) _ (tabI.take k) (y : Int) rfl rfl hO.out hB hB.size (by omega) ?_); intro v1 w4 hO4 hB4 _ _; have HO4 := Lib.hid hO4; clear hO4))
      go_roundw
      case rel => exact ⟨k + 1, by omega, by go_num, by rw [HT.out]; exact HO4, hB4⟩
      case measure => simp [intOf]; omega
    · obtain rfl : k = 191 := by omega
      have HT := Lib.hid (show tabI.take 191 = tabI from List.take_of_length_le (by rw [tabI_length]; exact Nat.le_refl _))
      go_wp2
      go_ret
      exact ⟨_, rfl, by rw [← HT.out]; exact hO.out, hB⟩
def isB (s : Int) : Bool := decide (0 ≤ s) && decide (s ≤ 95)
set_option maxHeartbeats 400000 in
theorem is_any (s : Int) (w : World) : Calls Try.prog 48 #[.int .i64 s] w fun e w' => e = .returned (.bool (isB s)) ∧ w = w' := by
  by_cases h : 0 ≤ s
  · have h1 : decide (0 ≤ s) = true := decide_eq_true h
    have HB := Lib.hid (show isB s = decide (s ≤ 95) by unfold isB; rw [h1]; rfl)
    clear h
    go_enter Try.func48, Try.ntmps48
    go_wp2
    go_ret
    exact ⟨ret_bool HB.out.symm, rfl⟩
  · have h1 : decide (0 ≤ s) = false := decide_eq_false h
    have HB := Lib.hid (show isB s = false by unfold isB; rw [h1]; rfl)
    clear h
    go_enter Try.func48, Try.ntmps48
    go_wp2
    go_ret
    exact ⟨ret_bool HB.out.symm, rfl⟩
end Go.Proofs.Ytkfgomhhenmmeaa

namespace Go.Proofs.Ytkfgomhhenmmeaa
open Go.RowKit

abbrev RB (w : World) (A : Option Addr) (c : Nat) (us : List Bool) : Prop := Sl kBool AnyB w A c us
/-- The scales of the bands that are not used are 0, of the first ones. -/
def freeB (ss : List Int) (us : List Bool) (k : Nat) : Bool := (List.range k).all fun i => nth 0 ss i == 0 || nth false us i
theorem freeB_succ (ss : List Int) (us : List Bool) (k : Nat) : freeB ss us (k + 1) = (freeB ss us k && (nth 0 ss k == 0 || nth false us k)) := by
  unfold freeB
  rw [List.range_succ, List.all_append]; simp
def checkedE (ss : List Int) (us : List Bool) : Int :=
  if ss.length ≠ us.length ∨ 128 < us.length then 1 else if ss.all isB = false then 6 else if freeB ss us ss.length = false then 4 else 0
theorem all_take_succ (ss : List Int) (k : Nat) (h : k < ss.length) : (ss.take (k + 1)).all isB = ((ss.take k).all isB && isB (nth 0 ss k)) := by
  rw [take_succ_nth 0 ss k h, List.all_append]; simp
theorem all_no {ss : List Int} {k : Nat} (h : k < ss.length) (hk : isB (nth 0 ss k) = false) : ss.all isB = false := by
  cases he : ss.all isB
  · rfl
  · have := List.all_eq_true.1 he _ (nth_mem 0 ss k h)
    rw [hk] at this; cases this

set_option maxHeartbeats 2000000 in
set_option maxRecDepth 100000 in
theorem checked_any (A B : Option Addr) (c d : Nat) (ss : List Int) (us : List Bool) (w : World) (hS : RI w A c ss) (hU : RB w B d us) :
    Calls Try.prog 38 #[.slice A ss.length c, .slice B us.length d] w fun e w' => e = .returned (.int .i64 (checkedE ss us)) ∧ Below w.heap.size w w' := by
  have hn := hS.len
  have hm := hU.len
  by_cases hl : ss.length = us.length
  · by_cases h128 : (128 : Int) < (us.length : Int)
    · have hlb : ((ss.length : Int) != (us.length : Int)) = false := by simp [hl]
      have d1 : decide ((128 : Int) < (us.length : Int)) = true := decide_eq_true h128
      have HE := Lib.hid (show checkedE ss us = 1 by unfold checkedE; rw [if_pos (.inr (by omega))])
      clear hl h128
      go_enter Try.func38, Try.ntmps38
      go_wp2
      go_ret
      exact ⟨by rw [HE.out]; rfl, Below.refl _ _⟩
    · have hlb : ((ss.length : Int) != (us.length : Int)) = false := by simp [hl]
      have d1 : decide ((128 : Int) < (us.length : Int)) = false := decide_eq_false h128
      have HE := Lib.hid (show checkedE ss us = if ss.all isB = false then 6 else if freeB ss us ss.length = false then 4 else 0 by unfold checkedE; rw [if_neg (by omega)])
      have HL := Lib.hid hl
      have hs128 : ss.length ≤ 128 := by omega
      clear hl h128 hm
      go_enter Try.func38, Try.ntmps38
      go_wp2
      go_loopw [5, 20] (fun ev iv wr => ∃ (k : Nat) (E : Int), iv = .int .i64 (k : Int) ∧ k ≤ ss.length ∧ ev = .int .i64 E ∧ Hid (E = if freeB ss us k = false then 4 else 0) ∧ Hid ((ss.take k).all isB = true) ∧ Hid (Below w.heap.size w wr)) (fun _ iv _ => ss.length - (intOf iv).toNat)
      case atStart => exact ⟨0, 0, rfl, Nat.zero_le _, rfl, Lib.hid rfl, Lib.hid rfl, Lib.hid (Below.refl _ _)⟩
      case round =>
        obtain ⟨k, E, rfl, hk, rfl, hEE, hA, hB⟩ := hrel
        by_cases hlt : k < ss.length
        · obtain ⟨ad, rfl, hc⟩ := rd_int (hS.below hB.out) k hlt
          obtain ⟨ad2, rfl, hc2⟩ := rd_bool (hU.below hB.out) k (by rw [← HL.out]; exact hlt)
          have hki : (k : Int) < (ss.length : Int) := by omega
          have hku : (k : Int) < (us.length : Int) := by have := HL.out; omega
          have HN := Lib.hid (all_take_succ ss k hlt)
          have HF := Lib.hid (freeB_succ ss us k)
          have HNO := Lib.hid (all_no hlt)
          generalize nth 0 ss k = x at hc HN HF HNO
          generalize nth false us k = u at hc2 HF
          have hwk : IntKind.i64.wrap ((k : Int) + 1) = (k : Int) + 1 := IntWalk.i64_in _ (by omega)
          have HX := Lib.hid (fun W => is_any x W)
          obtain ⟨b, hb⟩ : ∃ b, isB x = b := ⟨_, rfl⟩
          rw [hb] at HX HN HNO
          clear hb hlt
          cases b
          · have HR := Lib.hid (show checkedE ss us = 6 by rw [HE.out, if_pos (HNO.out rfl)])
            go_wp2_with (go_at_call 48; refine (HX.out _).mono ?_; rintro e w2 ⟨rfl, rfl⟩)
            go_ret
            exact ⟨by rw [HR.out]; rfl, hB.out⟩
          · have hA2 : (ss.take (k + 1)).all isB = true := by rw [HN.out, hA.out]; rfl
            have HA2 := Lib.hid hA2
            clear hA2
            by_cases hx : x = 0
            · have hxb : (x != 0) = false := by simp [hx]
              have HF2 := Lib.hid (show freeB ss us (k + 1) = freeB ss us k by rw [HF.out, hx]; simp)
              clear hx
              go_wp2_with (go_at_call 48; refine (HX.out _).mono ?_; rintro e w2 ⟨rfl, rfl⟩)
              go_roundw
              case rel => exact ⟨k + 1, E, by go_num, by omega, rfl, Lib.hid (by rw [HF2.out]; exact hEE.out), HA2, hB⟩
              case measure => simp [intOf]; omega
            · have hxb : (x != 0) = true := by simp [hx]
              cases u
              · have HF2 := Lib.hid (show freeB ss us (k + 1) = false by rw [HF.out]; simp [hx])
                clear hx
                go_wp2_with (go_at_call 48; refine (HX.out _).mono ?_; rintro e w2 ⟨rfl, rfl⟩)
                go_roundw
                case rel => exact ⟨k + 1, 4, by go_num, by omega, rfl, Lib.hid (by rw [HF2.out]; rfl), HA2, hB⟩
                case measure => simp [intOf]; omega
              · have HF2 := Lib.hid (show freeB ss us (k + 1) = freeB ss us k by rw [HF.out]; simp)
                clear hx
                go_wp2_with (go_at_call 48; refine (HX.out _).mono ?_; rintro e w2 ⟨rfl, rfl⟩)
                go_roundw
                case rel => exact ⟨k + 1, E, by go_num, by omega, rfl, Lib.hid (by rw [HF2.out]; exact hEE.out), HA2, hB⟩
                case measure => simp [intOf]; omega
        · obtain rfl : k = ss.length := by omega
          have HR := Lib.hid (show checkedE ss us = if freeB ss us ss.length = false then 4 else 0 by
            rw [HE.out]
            have := hA.out
            rw [List.take_length] at this
            rw [if_neg (by rw [this]; decide)])
          go_wp2
          go_ret
          exact ⟨by rw [HR.out, ← hEE.out]; rfl, hB.out⟩
  · have hlb : ((ss.length : Int) != (us.length : Int)) = true := by simp; omega
    have HE := Lib.hid (show checkedE ss us = 1 by unfold checkedE; rw [if_pos (.inl hl)])
    clear hl
    go_enter Try.func38, Try.ntmps38
    go_wp2
    go_ret
    exact ⟨by rw [HE.out]; rfl, Below.refl _ _⟩
end Go.Proofs.Ytkfgomhhenmmeaa

namespace Go.Proofs.Ytkfgomhhenmmeaa
open Go.RowKit Go.Shelf
attribute [local go_sem] Oper.semAt_some

/-- The last band that is used ahead of one, or -1. -/
def befK (us : List Bool) : Nat → Int
  | 0 => -1
  | k + 1 => if nth false us k = true then (k : Int) else befK us k
/-- The bands that are used among the first ones, each with the one before it. -/
def walkK (us : List Bool) : Nat → List (Nat × Int)
  | 0 => []
  | k + 1 => if nth false us k = true then walkK us k ++ [(k, befK us k)] else walkK us k
theorem walkK_hit {us : List Bool} {k : Nat} (h : nth false us k = true) : walkK us (k + 1) = walkK us k ++ [(k, befK us k)] ∧ befK us (k + 1) = (k : Int) := by
  constructor
  · show (if _ then _ else _) = _; rw [if_pos h]
  · show (if _ then _ else _) = _; rw [if_pos h]
theorem walkK_miss {us : List Bool} {k : Nat} (h : nth false us k = false) : walkK us (k + 1) = walkK us k ∧ befK us (k + 1) = befK us k := by
  constructor
  · show (if _ then _ else _) = _; rw [if_neg (by rw [h]; decide)]
  · show (if _ then _ else _) = _; rw [if_neg (by rw [h]; decide)]
/-- What comes next. -/
def NextW (us : List Bool) (pre : List (Nat × Int)) (x : Nat × Int) : Prop := ∃ k, k < us.length ∧ nth false us k = true ∧ pre = walkK us k ∧ x = (k, befK us k)
theorem befK_lt (us : List Bool) : ∀ k, befK us k = -1 ∨ ∃ j : Nat, befK us k = (j : Int) ∧ j < k ∧ nth false us j = true
  | 0 => .inl rfl
  | k + 1 => by
    cases h : nth false us k
    · rw [(walkK_miss h).2]
      rcases befK_lt us k with h1 | ⟨j, h1, h2, h3⟩
      · exact .inl h1
      · exact .inr ⟨j, h1, by omega, h3⟩
    · rw [(walkK_hit h).2]
      exact .inr ⟨k, rfl, by omega, h⟩

set_option maxHeartbeats 1000000 in
theorem walk_any (A : Option Addr) (c : Nat) (us : List Bool) (w : World) :
    Calls Try.prog 39 #[.slice A us.length c] w fun e w' => ∃ g, e = .returned (.func (.func 63) #[] #[.pointer (some ⟨g, 0, none⟩)]) ∧ Hid (g = w.heap.size) ∧ Hid (w'.heap.size = g + 1) ∧ Blk w' g #[.slice A us.length c] 23 ∧ Below w.heap.size w w' := by
  go_enter Try.func39, Try.ntmps39
  go_wp2
  go_ret
  exact ⟨_, rfl, Lib.hid rfl, Lib.hid (World.size_alloc _ _), heap_alloc_new w _, (Below.refl _ _).alloc (Nat.le_refl _) _⟩

set_option maxHeartbeats 2000000 in
set_option maxRecDepth 100000 in
theorem walk1_yields (g : Nat) (A : Option Addr) (c : Nat) (us : List Bool) (w : World) (ok : Nat → Prop) (hR : Sl kBool ok w A c us) (hB : Blk w g #[.slice A us.length c] 23) (_ : ok g) (n : Nat) (hn : 1 ≤ n) :
    YieldsN Fence.wide n Try.prog 63 #[.pointer (some ⟨g, 0, none⟩)] (fun x : Nat × Int => #[.int .i64 (x.1 : Int), .int .i64 x.2]) ok (fun _ => False) (fun xs => xs = walkK us us.length) (fun _ => True) (NextW us) w := by
  intro l J Jx W hW hJ hJx hY h0
  have hBW := hB.below hW
  have hRW := hR.below hW
  have hlen := hR.len
  clear hR hB hW
  refine callsIn_of_wp Try.func63 rfl trivial ?_ rfl
  simp only [Try.ntmps63, List.size_toArray, List.length_cons, List.length_nil, Nat.reduceAdd, Nat.reduceSub, Array.replicate_succ, Array.replicate_zero, List.push_toArray, List.append_toArray, List.nil_append, List.cons_append]
  have kb := hBW.cell 0 rfl
  gi_wp2
  have H0 : Hid (J (walkK us 0) W) := Lib.hid h0
  have HY := Lib.hid hY
  clear h0 hY kb
  gi_loopw [3, 8] (fun v iv wr => ∃ k : Nat, k ≤ us.length ∧ iv = .int .i64 (k : Int) ∧ v = .int .i64 (befK us k) ∧ Hid (J (walkK us k) wr) ∧ Keep ok W wr) (fun _ iv _ => us.length - (intOf iv).toNat)
  case atStart => exact ⟨0, by omega, rfl, rfl, H0, Keep.refl _ _⟩
  case round =>
    clear H0
    obtain ⟨k, hk, rfl, rfl, HJ, hkp⟩ := hrel
    by_cases hlt : k < us.length
    · obtain ⟨ad, hA, hc⟩ := rd_bool (hRW.keep hkp) k hlt
      subst hA
      have hki : (k : Int) < (us.length : Int) := by omega
      have hwk : IntKind.i64.wrap ((k : Int) + 1) = (k : Int) + 1 := IntWalk.i64_in _ (by omega)
      cases hu : nth false us k
      · rw [hu] at hc
        have HM := Lib.hid (walkK_miss hu)
        clear hu
        gi_wp2
        go_roundw
        case rel => exact ⟨k + 1, by omega, by go_num, by rw [HM.out.2], by rw [HM.out.1]; exact HJ, hkp⟩
        case measure => simp [intOf]; omega
      · rw [hu] at hc
        have HM := Lib.hid (walkK_hit hu)
        obtain ⟨fn, tmps, assign, body, hy, hRd⟩ := HY.out (walkK us k) (k, befK us k) _ HJ.out ⟨k, hlt, hu, rfl, rfl⟩
        replace hy : (Instr.yield l #[.int .i64 (k : Int), .int .i64 (befK us k)]).run Try.prog wr = .ok (.round l fn tmps assign body) wr := hy
        clear hu
        gi_wp2
        refine hRd.mono ?_
        rintro e W3 (⟨rfl, hJ3, hk3⟩ | ⟨rfl, hJx3⟩)
        · gi_wp2
          go_roundw
          case rel => exact ⟨k + 1, by omega, by go_num, by rw [HM.out.2], by rw [HM.out.1]; exact Lib.hid hJ3, hkp.trans hk3⟩
          case measure => simp [intOf]; omega
        · gi_wp2
          refine bodyPost_ret (results_none rfl _ _ _) rfl ?_
          exact ⟨⟨_, rfl⟩, .inr ⟨_, trivial, hJx3⟩⟩
    · obtain rfl : k = us.length := by omega
      gi_wp2
      go_end0
      exact ⟨⟨_, rfl⟩, .inl ⟨_, rfl, HJ.out⟩⟩
end Go.Proofs.Ytkfgomhhenmmeaa

namespace Go.Proofs.Ytkfgomhhenmmeaa
open Go

section
variable {P : Program} {ops : Array Oper} {md : Region.Mode} {l m : Nat} {Q : Exit → Act → World → Prop}
theorem wpAny_inRound (hd : plainB ops.toList = true) (hL : LetsOut Q → False) : ∀ (fuel : Nat) (listed : Array Bool) (a : Act) (w : World), wpAny P md ops Q fuel listed a w → wpAnyIn (Fence.wide.inRound l) m P md ops Q fuel listed a w
  | 0, _, _, _, h => h
  | fuel + 1, listed, a, w, h => ⟨h.1, fun i hi => by
    have hh := h.2 i hi
    unfold wpOp at hh
    unfold wpOpIn
    split
    · rename_i ho; simp only [ho] at hh; exact wpAny_inRound hd hL fuel _ _ _ hh
    · rename_i o ho
      simp only [ho] at hh
      have hm : o ∈ ops.toList := by simpa using Array.mem_of_getElem? ho
      split
      · rename_i hw
        simp only [hw, if_true] at hh
        rcases hh with hh | hh
        · exact wp_inRound (plainB_spec hd o hm) (Oper.wp_mono (fun a' w' h' => wpAny_inRound hd hL fuel _ _ _ h') hh)
        · exact (hL hh.2).elim
      · rename_i hw
        simp only [hw] at hh
        exact ⟨fun f _ => trivial, wpAny_inRound hd hL fuel _ _ _ hh⟩⟩
theorem wpIn_region_G {id : Nat} {a : Act} {w : World} (N : Nat) (S : World → Prop) (hm : P.follows .mixedOrders = true) (hd : plainB ops.toList = true) (hL : LetsOut Q → False) (hS : S w.drew)
    (h : S w.drew → wpAnyG P .any ops Q S N ops.size (Array.replicate ops.size false) a w.drew) : (Code.region id ops true).wpIn (Fence.wide.inRound l) m P Q a w :=
  wpIn_region_any hm (wpAny_inRound hd hL _ _ _ _ (wpAny_of_G _ _ _ _ (h hS)))
end
end Go.Proofs.Ytkfgomhhenmmeaa

namespace Go.Proofs.Ytkfgomhhenmmeaa
open Go.RowKit Go.Shelf
attribute [local go_sem] Oper.semAt_some

/-- What bands cost. -/
def stepC (ss : List Int) (x : Nat × Int) : Nat := if x.2 < 0 then 7 else stepL (nth 0 ss x.1 - nth 0 ss x.2.toNat)
def costP (ss : List Int) (pre : List (Nat × Int)) : Nat := (pre.map (stepC ss)).sum
theorem costP_snoc (ss : List Int) (pre : List (Nat × Int)) (x : Nat × Int) : costP ss (pre ++ [x]) = costP ss pre + stepC ss x := by simp [costP]
def costS (ss : List Int) (us : List Bool) : Int × Int := if checkedE ss us ≠ 0 then (0, checkedE ss us) else (costP ss (walkK us us.length), 0)
theorem checked_ok {ss : List Int} {us : List Bool} (h : checkedE ss us = 0) : ss.length = us.length ∧ us.length ≤ 128 ∧ (∀ s ∈ ss, 0 ≤ s ∧ s ≤ 95) ∧ freeB ss us ss.length = true := by
  unfold checkedE at h
  split at h
  · cases h
  · rename_i h1
    split at h
    · cases h
    · rename_i h2
      split at h
      · cases h
      · rename_i h3
        refine ⟨by omega, by omega, fun s hs => ?_, by simpa using h3⟩
        have h4 : ss.all isB = true := by simpa using h2
        have := List.all_eq_true.1 h4 s hs
        simpa [isB] using this
theorem nth_range {ss : List Int} (h : ∀ s ∈ ss, 0 ≤ s ∧ s ≤ 95) (k : Nat) : 0 ≤ nth 0 ss k ∧ nth 0 ss k ≤ 95 := nth_bound h (by decide) k
theorem stepL_le (d : Int) : stepL d ≤ 15 := by
  unfold stepL
  rcases Nat.lt_or_ge (d + 95).toNat 191 with h | h
  · exact (tabS_bound _ h).2
  · have := nth_none 0 tabS (d + 95).toNat (by rw [tabS_length]; exact h)
    rw [this]; omega
theorem stepC_le (ss : List Int) (x : Nat × Int) : stepC ss x ≤ 15 := by
  unfold stepC; split
  · omega
  · exact stepL_le _
theorem costP_le (ss : List Int) : ∀ pre, costP ss pre ≤ 15 * pre.length
  | [] => by simp [costP]
  | x :: pre => by
    have := costP_le ss pre
    have h2 := stepC_le ss x
    have e : costP ss (x :: pre) = stepC ss x + costP ss pre := by simp [costP]
    rw [e, List.length_cons]; omega
theorem walkK_len (us : List Bool) : ∀ k, (walkK us k).length ≤ k
  | 0 => Nat.le_refl _
  | k + 1 => by
    have := walkK_len us k
    unfold walkK; split
    · simp; omega
    · omega

structure CoI (w : World) (ss : List Int) (A : Option Addr) (c n g1 g7 : Nat) (pre : List (Nat × Int)) (W : World) : Prop where
  box : Blk W g1 #[.slice A n c] 22
  cnt : Blk W g7 #[.int .i64 (costP ss pre : Int)] 3
  low : Below w.heap.size w W

theorem keepsU {B : Nat} {W W' : World} {o : Nat → Prop} (hu : Upd o W W') (hg : ∀ b, b < W.heap.size → o b → b < B) : KeepsFrom B W W' :=
  ⟨hu.size, fun k x hB hx _ => (hu.blk k (Array.getElem?_eq_some_iff.1 hx).1 (fun e => by have := hg k (Array.getElem?_eq_some_iff.1 hx).1 e; omega)).trans hx⟩
theorem CoI.below {w W W' : World} {ss : List Int} {A : Option Addr} {c n g1 g7 : Nat} {pre : List (Nat × Int)} (h : CoI w ss A c n g1 g7 pre W) (hb : Below W.heap.size W W') : CoI w ss A c n g1 g7 pre W' :=
  ⟨h.box.below hb, h.cnt.below hb, below2 h.low hb⟩
theorem CoI.round {w W W' : World} {ss : List Int} {A : Option Addr} {c n g1 g7 : Nat} {pre : List (Nat × Int)} {x : Nat × Int} {V : Int} (h : CoI w ss A c n g1 g7 pre W) (h17 : g1 < g7) (hw : w.heap.size ≤ g7)
    (e : W' = W.setCell ⟨g7, 0, none⟩ (.int .i64 V)) (hV : V = (costP ss pre : Int) + (stepC ss x : Int)) : CoI w ss A c n g1 g7 (pre ++ [x]) W' ∧ Upd (fun b => b = g7) W W' := by
  subst e
  have hu : Upd (fun b => b = g7) W (W.setCell ⟨g7, 0, none⟩ (.int .i64 V)) := Upd.setCell (fun b => b = g7) _ g7 0 _ rfl
  refine ⟨⟨h.box.keep (hu.keep (ok := fun b => b ≠ g7) fun b h => h) (by omega), ?_, h.low.grown (grown_setCell W g7 0 _) h.low.size (fun r e => by cases e; exact hw)⟩, hu⟩
  have := h.cnt.set 0 (.int .i64 V)
  rw [hV] at this
  rw [costP_snoc]
  rw [hV]
  have e2 : (((costP ss pre + stepC ss x : Nat)) : Int) = (costP ss pre : Int) + (stepC ss x : Int) := by omega
  rw [e2]
  exact this

set_option maxHeartbeats 4000000 in
set_option maxRecDepth 100000 in
theorem scost_any (A B : Option Addr) (c d : Nat) (ss : List Int) (us : List Bool) (w : World) (hS : RI w A c ss) (hU : RB w B d us) :
    Calls Try.prog 13 #[.slice A ss.length c, .slice B us.length d] w fun e w' => e = .returned (.tuple #[.int .i64 (costS ss us).1, .int .i64 (costS ss us).2]) ∧ Below w.heap.size w w' := by
  have hba := below_alloc (Below.refl w.heap.size w) (.cells #[.slice A ss.length c] 22)
  have HBA := Lib.hid hba
  have HC := Lib.hid (checked_any A B c d ss us _ (hS.below hba) (hU.below hba))
  have HS := Lib.hid hS
  have HU := Lib.hid hU
  by_cases hE : checkedE ss us = 0
  · have HOK := Lib.hid (checked_ok hE)
    have HX := Lib.hid (show costS ss us = (((costP ss (walkK us us.length) : Nat) : Int), 0) by unfold costS; rw [if_neg (by simp [hE])])
    rw [hE] at HC
    clear hS hU hE hba
    refine (callsIn_wide (n := 9)).1 ?_
    refine callsIn_of_wp_marks Try.func13 rfl trivial ?_ rfl
    simp only [Try.ntmps13, List.size_toArray, List.length_cons, List.length_nil, Nat.reduceAdd, Nat.reduceSub, Array.replicate_succ, Array.replicate_zero, List.push_toArray, List.append_toArray, List.nil_append, List.cons_append]
    gi_wp2_with (first
      | (refine ⟨trivial, ?_⟩; gi_at_call 38; refine (callsIn_wide.2 HC.out).mono ?_; rintro e W2 ⟨rfl, b2⟩)
      | (refine ⟨trivial, ?_⟩; gi_at_call 39; refine (callsIn_wide.2 (walk_any _ _ _ _)).mono ?_; rintro e W3 ⟨gb, rfl, e1, e2, bB, b3⟩))
    obtain ⟨g1, hg1⟩ : ∃ g1, w.heap.size = g1 := ⟨_, rfl⟩
    obtain ⟨g7, hg7⟩ : ∃ g7, W2.heap.size = g7 := ⟨_, rfl⟩
    have hz1 : (w.alloc (.cells #[.slice A ss.length c] 22)).heap.size = g1 + 1 := by simp [hg1]
    have hz2 := b2.size
    have hz3 := b3.size
    have he1 := e1.out
    have he2 := e2.out
    simp only [World.size_alloc, hg7] at hz3 he1
    have H1 : Blk W2 g1 #[.slice A ss.length c] 22 := by
      have h : Blk (w.alloc (.cells #[.slice A ss.length c] 22)) w.heap.size #[.slice A ss.length c] 22 := heap_alloc_new w _
      rw [hg1] at h
      exact h.below b2
    have H2 : Blk (W2.alloc (.cells #[.int .i64 0] 3)) g7 #[.int .i64 0] 3 := by rw [← hg7]; exact heap_alloc_new W2 _
    have hI0 : CoI w ss A c ss.length g1 g7 [] W3 := ⟨(H1.below (below_alloc (Below.refl _ _) _)).below b3, H2.below b3, below2 (below2 (below2 HBA.out b2) (below_alloc (Below.refl _ _) _)) b3⟩
    have hU3 := (HU.out.weak (ok' := fun b => b < g1 ∨ b = gb) (fun b hb _ => .inl (by omega))).below hI0.low
    have HG := Lib.hid (show w.heap.size = g1 ∧ g1 < g7 ∧ gb = g7 + 1 ∧ W3.heap.size = gb + 1 from ⟨hg1, by omega, he1, he2⟩)
    have HLEN := Lib.hid (show ss.length = us.length ∧ us.length ≤ 128 from ⟨HOK.out.1, HOK.out.2.1⟩)
    simp only [hg1, hg7]
    have l7 : g7 < W3.heap.size := by omega
    have l1 : g1 < g7 := by omega
    have l3 : gb < W3.heap.size := by omega
    clear e1 e2 b3 b2 H1 H2 hz1 hz2 hz3 he1 he2 HC
    refine range_next rfl (by decide) (gf := 63) (lb := #[.pointer (some ⟨gb, 0, none⟩)]) rfl trivial (enters_of Try.func63 (by kernel_rfl) rfl)
      (walk1_yields gb B d us W3 (fun b => b < g1 ∨ b = gb) hU3 bB (.inr rfl) 8 (by decide)) (fun r h => h.elim) (fun r h => by omega) (Below.refl _ _) (fun _ => rfl)
      (fun pre W => CoI w ss A c ss.length g1 g7 pre W) (fun _ _ _ => False) ?hI (fun _ _ _ _ _ h _ _ => h) hI0
      (fun x a' W => a' = { tmps := (.slice A ss.length c :: .slice B us.length d :: .pointer (some ⟨g1, 0, none⟩) :: undef :: .int .i64 0 :: .int .i64 0 :: .int .i64 0 :: .pointer (some ⟨g7, 0, none⟩) :: .int .i64 (x.1 : Int) :: .int .i64 x.2 :: .slice A ss.length c :: .slice B us.length d :: .int .i64 0 :: .int .i64 0 :: .bool false :: undef :: .slice B us.length d :: .func (.func 63) #[] #[.pointer (some ⟨gb, 0, none⟩)] :: .int .i64 (x.1 : Int) :: .int .i64 x.2 :: undef :: undef :: undef :: undef :: undef :: undef :: undef :: undef :: undef :: undef :: undef :: undef :: undef :: undef :: undef :: undef :: undef :: []).toArray, defers := [] })
      (fun _ _ _ _ _ _ h _ _ => h) ?assign ?body ?done (fun _ _ _ _ _ _ h _ => h.elim)
    case hI =>
      rintro s X Y row hs hg hr
      have hO : Other X row := fun r e => by
        rcases hr r e with h | ⟨_, x, hx, hc⟩
        · exact h.elim
        · exact ⟨x, hx, hc⟩
      refine ⟨hs.box.firm hg hO, hs.cnt.firm hg hO, below_grown hs.low hs.low.size hg (fun k e => ?_)⟩
      rcases hr k e with h | ⟨h, _⟩
      · exact h.elim
      · omega
    case assign =>
      clear hg1 hg7
      intro l pre x W K hi _ hK
      gi_wp2
      exact hK _ _ (KeepsOthers.refl _ |>.from _) (Keep.refl _ _) hi rfl
    case body =>
      clear hg1 hg7
      rintro l pre x a' W hs rfl ⟨k, hk, huk, hpre, hx⟩
      subst hx
      have k1 := hs.box.cell 0 rfl
      have k7 := hs.cnt.cell 0 rfl
      have f7 := hs.cnt.free 0
      have hcl := costP_le ss pre
      have hpl : pre.length ≤ 128 := by rw [hpre]; have := walkK_len us k; have := HLEN.out; omega
      have HWI := Lib.hid hs
      have hlow := hs.low
      by_cases hb : befK us k < 0
      · have hd : decide (befK us k < 0) = true := decide_eq_true hb
        have hst : stepC ss (k, befK us k) = 7 := by unfold stepC; rw [if_pos hb]
        have HST := Lib.hid hst
        obtain ⟨C, hC⟩ : ∃ C, costP ss pre = C := ⟨_, rfl⟩
        rw [hC] at k7 hcl
        have HC := Lib.hid hC
        have hw7 : IntKind.i64.wrap ((C : Int) + 7) = (C : Int) + 7 := IntWalk.i64_in _ (by omega)
        clear hb hst hC hs hpre huk
        gi_wp2
        obtain ⟨h1, h2⟩ := CoI.round (x := (k, befK us k)) HWI.out (by have := HG.out; omega) (by have := HG.out; omega) rfl (V := (C : Int) + 7) (by rw [HC.out, HST.out]; rfl)
        exact ⟨keepsU h2 (fun b _ e => by omega), h2.keep (fun i hi e => by have := HG.out; omega), h1⟩
      · obtain ⟨j, hbj, hjk, huj⟩ := (befK_lt us k).resolve_left (fun h => hb (by omega))
        have hL := HLEN.out.1
        obtain ⟨ad, rfl, hcx⟩ := rd_int (HS.out.below hlow) k (by omega)
        obtain ⟨ad', e', hcy⟩ := rd_int (HS.out.below hlow) j (by omega)
        injection e' with e'; subst e'
        have hrx := nth_range HOK.out.2.2.1 k
        have hry := nth_range HOK.out.2.2.1 j
        have hst : stepC ss (k, (j : Int)) = stepL (nth 0 ss k - nth 0 ss j) := by unfold stepC; rw [if_neg (by show ¬ (j : Int) < 0; omega)]; rfl
        have hd : decide ((j : Int) < 0) = false := decide_eq_false (by omega)
        rw [hbj]
        generalize nth 0 ss k = x at hcx hrx hst
        generalize nth 0 ss j = y at hcy hry hst
        have HST := Lib.hid hst
        obtain ⟨C, hC⟩ : ∃ C, costP ss pre = C := ⟨_, rfl⟩
        rw [hC] at k7 hcl
        have HC := Lib.hid hC
        have hsl := stepL_le (x - y)
        have HLN := Lib.hid (fun W => length_any (x - y) W (by omega))
        obtain ⟨L, hLe⟩ : ∃ L, stepL (x - y) = L := ⟨_, rfl⟩
        rw [hLe] at HLN hsl
        have HLE := Lib.hid hLe
        have hwxy : IntKind.i64.wrap (x - y) = x - y := IntWalk.i64_in _ (by omega)
        have hwC : IntKind.i64.wrap ((C : Int) + (L : Int)) = (C : Int) + (L : Int) := IntWalk.i64_in _ (by omega)
        have hkl : (k : Int) < (ss.length : Int) := by omega
        have hjl : (j : Int) < (ss.length : Int) := by omega
        have HJJ := Lib.hid hbj
        clear hb hst hC hs hpre huk huj hLe hbj hL hjk
        gi_wp2
        refine wpIn_region_G 12 (fun W' => W'.cell? ⟨g1, 0, none⟩ = some (.slice (some ad) ss.length c) ∧ W'.cell? ⟨g7, 0, none⟩ = some (.int .i64 (C : Int)) ∧ W'.cell? (ad.add k) = some (.int .i64 x) ∧ W'.cell? (ad.add j) = some (.int .i64 y)) (by kernel_rfl) (by kernel_rfl) (fun ⟨_, _, h⟩ => h) ⟨k1, k7, hcx, hcy⟩ (fun hHeld => ?_)
        refine wpAnyG_takeL (i := 0) (.int .i64 C) [11, 12] rfl (by kernel_rfl) (fun _ _ _ h => h) hHeld (by rfl) ?_ ?_
        · (intro W' hSw; (try dsimp only at hSw); go_simp)
        try simp only [Act.put, List.setIfInBounds_toArray, List.set_cons_zero, List.set_cons_succ]
        refine wpAnyG_takeL (i := 1) (.slice (some ad) ss.length c) [3, 4, 9, 10, 11, 12] rfl (by kernel_rfl) (fun _ _ _ h => h) hHeld (by rfl) ?_ ?_
        · (intro W' hSw; (try dsimp only at hSw); go_simp)
        try simp only [Act.put, List.setIfInBounds_toArray, List.set_cons_zero, List.set_cons_succ]
        refine wpAnyG_takeL (i := 2) (.int .i64 k) [3, 4, 9, 10, 11, 12] rfl (by kernel_rfl) (fun _ _ _ h => h) hHeld (by rfl) ?_ ?_
        · (intro W' hSw; (try dsimp only at hSw); go_simp)
        try simp only [Act.put, List.setIfInBounds_toArray, List.set_cons_zero, List.set_cons_succ]
        refine wpAnyG_takeL (i := 3) (.pointer (some (ad.add k))) [4, 9, 10, 11, 12] rfl (by kernel_rfl) (fun _ _ _ h => h) hHeld (by rfl) ?_ ?_
        · (intro W' hSw; (try dsimp only at hSw); go_simp)
        try simp only [Act.put, List.setIfInBounds_toArray, List.set_cons_zero, List.set_cons_succ]
        refine wpAnyG_takeL (i := 4) (.int .i64 x) [9, 10, 11, 12] rfl (by kernel_rfl) (fun _ _ _ h => h) hHeld (by rfl) ?_ ?_
        · (intro W' hSw; (try dsimp only at hSw); go_simp)
        try simp only [Act.put, List.setIfInBounds_toArray, List.set_cons_zero, List.set_cons_succ]
        refine wpAnyG_takeL (i := 5) (.slice (some ad) ss.length c) [7, 8, 9, 10, 11, 12] rfl (by kernel_rfl) (fun _ _ _ h => h) hHeld (by rfl) ?_ ?_
        · (intro W' hSw; (try dsimp only at hSw); go_simp)
        try simp only [Act.put, List.setIfInBounds_toArray, List.set_cons_zero, List.set_cons_succ]
        refine wpAnyG_takeL (i := 6) (.int .i64 j) [7, 8, 9, 10, 11, 12] rfl (by kernel_rfl) (fun _ _ _ h => h) hHeld (by rfl) ?_ ?_
        · (intro W' hSw; (try dsimp only at hSw); go_simp)
        try simp only [Act.put, List.setIfInBounds_toArray, List.set_cons_zero, List.set_cons_succ]
        refine wpAnyG_takeL (i := 7) (.pointer (some (ad.add j))) [8, 9, 10, 11, 12] rfl (by kernel_rfl) (fun _ _ _ h => h) hHeld (by rfl) ?_ ?_
        · (intro W' hSw; (try dsimp only at hSw); go_simp)
        try simp only [Act.put, List.setIfInBounds_toArray, List.set_cons_zero, List.set_cons_succ]
        refine wpAnyG_takeL (i := 8) (.int .i64 y) [9, 10, 11, 12] rfl (by kernel_rfl) (fun _ _ _ h => h) hHeld (by rfl) ?_ ?_
        · (intro W' hSw; (try dsimp only at hSw); go_simp)
        try simp only [Act.put, List.setIfInBounds_toArray, List.set_cons_zero, List.set_cons_succ]
        refine wpAnyG_takeL (i := 9) (.int .i64 (x - y)) [10, 11, 12] rfl (by kernel_rfl) (fun _ _ _ h => h) hHeld (by rfl) ?_ ?_
        · (intro W' hSw; (try dsimp only at hSw); go_simp)
        try simp only [Act.put, List.setIfInBounds_toArray, List.set_cons_zero, List.set_cons_succ]
        clear hHeld
        refine wpAnyG_oneL (i := 10) (by kernel_rfl) rfl (fun K hK => ?_)
        (go_simp; go_at_call 40; refine (HLN.out _).mono ?_; rintro e w9 ⟨rfl, rfl⟩)
        refine hK.out _ _ (fun _ => ⟨k1, k7, hcx, hcy⟩) ?_
        clear hK K
        try simp only [Act.put, List.setIfInBounds_toArray, List.set_cons_zero, List.set_cons_succ]
        refine wpAnyG_oneL (i := 11) (by kernel_rfl) rfl (fun K hK => ?_)
        go_simp
        refine hK.out _ _ (fun _ => ⟨k1, k7, hcx, hcy⟩) ?_
        clear hK K
        try simp only [Act.put, List.setIfInBounds_toArray, List.set_cons_zero, List.set_cons_succ]
        refine wpAnyG_oneL (i := 12) (by kernel_rfl) rfl (fun K hK => ?_)
        go_simp
        refine hK.out _ _ (fun h => Bool.noConfusion (show true = false from h)) ?_
        clear hK K
        refine wpAnyG_done (by kernel_rfl) ?_ _
        obtain ⟨h1, h2⟩ := CoI.round (x := (k, (j : Int))) HWI.out (by have := HG.out; omega) (by have := HG.out; omega) rfl (V := (C : Int) + (L : Int)) (by rw [HC.out, HST.out, HLE.out])
        have h3 := h2.trans (Upd.drew (fun b => b = g7) _) fun _ _ h => h
        exact ⟨keepsU h3 (fun b _ e => by omega), h3.keep (fun i hi e => by have := HG.out; omega), h1.below (Below.refl _ _).drew⟩
    case done =>
      clear hg1 hg7
      rintro D xs W hD rfl hs hK
      have k7 := hs.cnt.cell 0 rfl
      gi_wp2
      refine ⟨by simp, .inl ⟨_, _, rfl, run_takeDeferred hK, ?_⟩⟩
      refine ⟨_, results_tmp2 rfl _ _ _, by rw [HX.out]; rfl, ?_⟩
      exact below_grown hs.low hs.low.size (grownBy_putObj' W D _) (fun k e => by cases e; have := HG.out; omega)
  · have hEb : (checkedE ss us != 0) = true := by simp [hE]
    have HX := Lib.hid (show costS ss us = (0, checkedE ss us) by unfold costS; rw [if_pos hE])
    clear hS hU hE hba
    go_enter Try.func13, Try.ntmps13
    go_wp2_with (go_at_call 38; refine HC.out.mono ?_; rintro e W2 ⟨rfl, b2⟩)
    go_ret2
    exact ⟨by rw [HX.out]; rfl, below2 HBA.out b2⟩
end Go.Proofs.Ytkfgomhhenmmeaa

namespace Go.Proofs.Ytkfgomhhenmmeaa
open Go.RowKit

def mergeW : Nat → List Int → List Int → List Int
  | 0, _, _ => []
  | _ + 1, [], b => b
  | _ + 1, x :: a, [] => x :: a
  | f + 1, x :: a, y :: b => if y < x then y :: mergeW f (x :: a) b else x :: mergeW f a (y :: b)
def pairsW : List Int → List Int
  | x :: y :: r => (x + y) :: pairsW r
  | _ => []
def rowW (coins : List Int) : Nat → List Int
  | 0 => coins
  | k + 1 => mergeW (3 * coins.length + 1) coins (pairsW (rowW coins k))
def fromW : Nat → List Int → List Int → Nat → Nat
  | 0, _, _, _ => 0
  | _ + 1, _, _, 0 => 0
  | _ + 1, [], _, _ + 1 => 0
  | f + 1, _ :: a, [], m + 1 => fromW f a [] m + 1
  | f + 1, x :: a, y :: b, m + 1 => if y < x then fromW f (x :: a) b m else fromW f a (y :: b) m + 1
def lensW (coins : List Int) : Nat → Nat → List Nat
  | 0, m => [m]
  | k + 1, m =>
    let p := fromW (3 * coins.length + 1) coins (pairsW (rowW coins k)) m
    p :: lensW coins k (2 * (m - p))
def wtI (l : List It) : List Int := l.map (·.1)
theorem merge_W : ∀ (a b : List It) (f : Nat), a.length + b.length < f → wtI (mergeI a b) = mergeW f (wtI a) (wtI b)
  | _, _, 0, h => by omega
  | [], b, f + 1, _ => by simp [mergeI, wtI, mergeW]
  | x :: a, [], f + 1, _ => by simp [mergeI, wtI, mergeW]
  | x :: a, y :: b, f + 1, h => by
    rw [mergeI]
    show _ = if y.1 < x.1 then y.1 :: mergeW f (x.1 :: wtI a) (wtI b) else x.1 :: mergeW f (wtI a) (y.1 :: wtI b)
    split
    · have := merge_W (x :: a) b f (by simp at h ⊢; omega)
      show y.1 :: wtI (mergeI (x :: a) b) = _
      rw [this]; rfl
    · have := merge_W a (y :: b) f (by simp at h ⊢; omega)
      show x.1 :: wtI (mergeI a (y :: b)) = _
      rw [this]; rfl
termination_by a b _ _ => a.length + b.length
theorem pairs_W : ∀ l : List It, wtI (pairsI l) = pairsW (wtI l)
  | [] => rfl
  | [x] => rfl
  | x :: y :: r => by
    show (x.1 + y.1) :: wtI (pairsI r) = (x.1 + y.1) :: pairsW (wtI r)
    rw [pairs_W r]
theorem wtI_length (l : List It) : (wtI l).length = l.length := by simp [wtI]
theorem row_W (coins : List It) : ∀ k, wtI (rowI coins k) = rowW (wtI coins) k
  | 0 => rfl
  | k + 1 => by
    rw [rowI, merge_W coins (pairsI (rowI coins k)) (3 * coins.length + 1) (by rw [pairsI_length]; have := rowI_length_le coins k; omega), pairs_W, row_W coins k]
    show _ = mergeW (3 * (wtI coins).length + 1) _ _
    rw [wtI_length]
theorem from_W : ∀ (a b : List It) (m f : Nat), a.length + b.length < f → fromA a b m = fromW f (wtI a) (wtI b) m
  | _, _, _, 0, h => by omega
  | a, b, 0, f + 1, _ => by rw [fromA_zero]; cases a <;> cases b <;> rfl
  | [], b, m + 1, f + 1, _ => by rw [fromA_nil]; cases b <;> rfl
  | x :: a, [], m + 1, f + 1, h => by
    rw [fromA, from_W a [] m f (by simp at h ⊢; omega)]; rfl
  | x :: a, y :: b, m + 1, f + 1, h => by
    rw [fromA]
    show _ = if y.1 < x.1 then fromW f (x.1 :: wtI a) (wtI b) m else fromW f (wtI a) (y.1 :: wtI b) m + 1
    split
    · rw [from_W (x :: a) b m f (by simp at h ⊢; omega)]; rfl
    · rw [from_W a (y :: b) m f (by simp at h ⊢; omega)]; rfl
termination_by a b _ _ _ => a.length + b.length
theorem lens_W (coins : List It) : ∀ k m, lens coins k m = lensW (wtI coins) k m
  | 0, _ => rfl
  | k + 1, m => by
    have h := from_W coins (pairsI (rowI coins k)) m (3 * coins.length + 1) (by rw [pairsI_length]; have := rowI_length_le coins k; omega)
    rw [pairs_W, row_W] at h
    show fromA _ _ _ :: lens coins k (2 * (m - fromA _ _ _)) = _
    rw [h, lens_W coins k]
    show _ = fromW (3 * (wtI coins).length + 1) _ _ _ :: lensW _ _ (2 * (m - fromW (3 * (wtI coins).length + 1) _ _ _))
    rw [wtI_length]
/-- The numbers by which a closed answer is checked. -/
def checkW (cs : List Int) (most : Nat) (tab : List Nat) : Bool :=
  let S := sortedC cs
  let ps := lensW (wtI S) (most - 1) (2 * S.length - 2)
  countsB cs && decide (1 ≤ most) && decide (most ≤ 16) && decide (2 ≤ S.length) && decide (S.length ≤ 2 ^ most) && decide (S.length = cs.length) && decide (tab.length = cs.length) && (List.range S.length).all fun r => dep ps r == nth 0 tab (sym (nth (0, []) S r))
theorem lengths_closed {cs : List Int} {most : Nat} {tab : List Nat} (h : checkW cs most tab = true) : lengthsE cs most = 0 ∧ lengthsV cs most = tab.map Int.ofNat := by
  unfold checkW at h
  simp only [Bool.and_eq_true, decide_eq_true_eq] at h
  obtain ⟨⟨⟨⟨⟨⟨⟨h1, h2⟩, h3⟩, h4⟩, h5⟩, h6⟩, h7⟩, h8⟩ := h
  have hE : lengthsE cs most = 0 := by
    unfold lengthsE
    rw [if_neg (by rw [h1]; simp; omega), if_neg (by rw [← sortedC_length]; omega), if_neg (by rw [Int.toNat_natCast, ← sortedC_length]; omega)]
  have hin : LenIn cs most := ⟨h1, h2, h3, by omega, h5⟩
  refine ⟨hE, ?_⟩
  have hps : psL cs most = lensW (wtI (sortedC cs)) (most - 1) (2 * (sortedC cs).length - 2) := by
    unfold psL; rw [if_neg (by omega), lens_W]
  -- every symbol has a rank
  have hall : ∀ s, s < cs.length → 0 < nth 0 cs s := by
    intro s hs
    refine Decidable.byContradiction fun hn => ?_
    have hlt : ∀ k, s < k → (coinsK cs k).length < k := by
      intro k
      induction k with
      | zero => intro h; omega
      | succ k ih =>
        intro h
        have hle := coinsK_len cs k
        unfold coinsK
        by_cases e : s = k
        · subst e; rw [if_neg hn]; omega
        · have := ih (by omega)
          split
          · simp; omega
          · omega
    have := hlt cs.length hs
    rw [← sortedC_length] at this
    omega
  apply List.ext_getElem
  · rw [lengthsV_length hE, List.length_map, h7]
  · intro s hs1 hs2
    rw [lengthsV_length hE] at hs1
    have e1 := lengthsV_at hE hs1
    rw [nth_eq 0 _ s (by rw [lengthsV_length hE]; exact hs1)] at e1
    rw [e1]
    obtain ⟨r, hr, _, e2⟩ := rank_of (hall s hs1)
    have e3 := lenN_rank hin hr
    rw [e2] at e3
    have e4 := List.all_eq_true.1 h8 r (List.mem_range.2 hr)
    rw [e2, beq_iff_eq] at e4
    rw [e3, hps, e4, nth_eq 0 _ s (by omega)]
    simp
end Go.Proofs.Ytkfgomhhenmmeaa

namespace Go.Proofs.Ytkfgomhhenmmeaa
open Go.RowKit

/-- The counts of all steps. -/
def cntAt (s : Nat) : Nat := 65536 / ((1 + (s - 95 + (95 - s))) * (1 + (s - 95 + (95 - s))))
def cntS : List Int := (List.range 191).map fun s => ((cntAt s : Nat) : Int)
theorem cntS_length : cntS.length = 191 := by simp [cntS]
set_option maxRecDepth 1000000 in
theorem cntS_check : checkW cntS 16 tabS = true := by decide +kernel
theorem cntS_lengths : lengthsE cntS 16 = 0 ∧ lengthsV cntS 16 = tabI := lengths_closed (most := 16) cntS_check
end Go.Proofs.Ytkfgomhhenmmeaa

namespace Go.Proofs.Ytkfgomhhenmmeaa
open Go.RowKit

set_option maxHeartbeats 2000000 in
set_option maxRecDepth 100000 in
theorem putrow_any (base : Nat) (u : Value) (bs : List Bool) (v n : Nat) (w : World) (hO : OwnI 5 .u8 base w u (bitsI bs)) (hb : base ≤ w.heap.size) (hl : bs.length + n ≤ 100000000) (h64 : n ≤ 64) (hv : v ≤ 4611686018427387904) :
    Calls Try.prog 66 #[u, .int .i64 (v : Int), .int .i64 (n : Int)] w
      fun e w' => ∃ u', e = .returned u' ∧ OwnI 5 .u8 base w' u' (bitsI (bs ++ numB v n)) ∧ Upd (fun b => u.ownBlock = some b) w w' ∧ (u'.ownBlock = u.ownBlock ∨ ∃ b, u'.ownBlock = some b ∧ w.heap.size ≤ b) := by
  have hw1 : IntKind.i64.wrap ((n : Int) - 1) = (n : Int) - 1 := IntWalk.i64_in _ (by omega)
  have HO := Lib.hid hO
  clear hO
  go_enter Try.func66, Try.ntmps66
  go_wp2
  go_loopw [0, 7] (fun rv iv wr => ∃ (j : Nat) (z : Int), iv = .int .i64 z ∧ z = (n : Int) - 1 - (j : Int) ∧ j ≤ n ∧ Hid (OwnI 5 .u8 base wr rv (bitsI (bs ++ (numB v n).take j))) ∧ Hid (Upd (fun b => u.ownBlock = some b) w wr) ∧ Hid (rv.ownBlock = u.ownBlock ∨ ∃ b, rv.ownBlock = some b ∧ w.heap.size ≤ b)) (fun _ iv _ => (intOf iv + 1).toNat)
  case atStart => exact ⟨0, (n : Int) - 1, rfl, by omega, Nat.zero_le _, Lib.hid (by simpa using HO.out), Lib.hid (Upd.refl _ _), Lib.hid (.inl rfl)⟩
  case round =>
    clear HO
    obtain ⟨j, z, rfl, hz, hj, hO, hU, hat⟩ := hrel
    by_cases hlt : j < n
    · obtain ⟨i, hi⟩ : ∃ i : Nat, n - 1 - j = i := ⟨_, rfl⟩
      obtain rfl : z = (i : Int) := by omega
      have hd : decide ((0 : Int) ≤ (i : Int)) = true := decide_eq_true (by omega)
      have hwi : IntKind.i64.wrap ((i : Int) - 1) = (i : Int) - 1 := IntWalk.i64_in _ (by omega)
      have hi64 : i ≤ 64 := by omega
      have htk := take_succ_nth false (numB v n) j (by rw [numB_length]; exact hlt)
      rw [numB_nth v n j hlt, hi] at htk
      have hand : Go.bits .and .i64 ((v : Int) / 2 ^ i) 1 = b2i (v / 2 ^ i % 2 == 1) := by
        have e1 : (v : Int) / 2 ^ i = ((v / 2 ^ i : Nat) : Int) := by simp
        have hle : v / 2 ^ i ≤ v := Nat.div_le_self _ _
        obtain ⟨y, hy⟩ : ∃ y, v / 2 ^ i = y := ⟨_, rfl⟩
        rw [hy] at hle
        rw [e1, hy, and_one _ (by omega) (by omega), b2i_nat, bit_toNat]; simp
      obtain ⟨b, hb9⟩ : ∃ b, (v / 2 ^ i % 2 == 1) = b := ⟨_, rfl⟩
      rw [hb9] at htk hand
      have HTK := Lib.hid (show bitsI (bs ++ (numB v n).take (j + 1)) = bitsI (bs ++ (numB v n).take j) ++ [b2i b] by rw [htk]; simp [bitsI])
      have hbb := b2i_bd b
      have hcv : IntKind.u8.wrap (b2i b) = b2i b := by cases b <;> rfl
      have hcv2 : b2i b % 256 = b2i b := by cases b <;> rfl
      have hlen : (bitsI (bs ++ (numB v n).take j)).length ≤ 100000000 := by simp [bitsI, numB_length]; omega
      generalize b2i b = y at hand HTK hcv hcv2 hbb
      have hsz := hU.out.size
      have HZ := Lib.hid hz
      clear htk hb9 hlt hz hi
      go_wp2_with (at_builtin; (refine append_one (w0 := wr) base rfl (.tmp 14) (.tmp 20) 43 5 .u8 1 rfl Try.underlying43 infoY (by decide) u0 (bitsI (bs ++ (numB v n).take j)) y rfl rfl hO.out (Below.refl _ _) (by omega) (by omega) ?_); intro v1 w4 hO4 hB4 hg4 ha4; have HO4 := Lib.hid hO4; have HG4 := Lib.hid hg4; have HA4 := Lib.hid ha4; clear hO4 hB4 hg4 ha4)
      go_roundw
      case rel =>
        have hz := HZ.out
        refine ⟨j + 1, (i : Int) - 1, rfl, by omega, by omega, Lib.hid (by rw [HTK.out]; exact HO4.out), Lib.hid ?_, Lib.hid ?_⟩
        · refine (hU.out.trans (Upd.of_grown (o := fun b => u0.ownBlock = some b) HG4.out (fun r e => e)) fun b hb e => ?_)
          rcases hat.out with h | ⟨b2, h, h3⟩
          · rw [← h]; exact e
          · rw [h] at e; have := Option.some.inj e; omega
        · rcases HA4.out with h | ⟨b2, h, h3⟩
          · rw [h]; exact hat.out
          · exact .inr ⟨b2, h, by omega⟩
      case measure => simp [intOf] <;> omega
    · obtain rfl : j = n := by omega
      have hd : decide ((0 : Int) ≤ z) = false := decide_eq_false (by omega)
      have HT := Lib.hid (show (numB v j).take j = numB v j from List.take_of_length_le (by rw [numB_length]; exact Nat.le_refl _))
      clear hz
      go_wp2
      go_ret
      exact ⟨_, rfl, by rw [← HT.out]; exact hO.out, hU.out, hat.out⟩
end Go.Proofs.Ytkfgomhhenmmeaa

namespace Go.Proofs.Ytkfgomhhenmmeaa
open Go.RowKit

set_option maxHeartbeats 2000000 in
set_option maxRecDepth 100000 in
theorem rslengths_any (w : World) :
    Calls Try.prog 17 #[] w fun e w' => ∃ v, e = .returned v ∧ OwnI 3 .i64 w.heap.size w' v tabI ∧ Below w.heap.size w w' := by
  go_enter Try.func17, Try.ntmps17
  go_wp2
  go_loopw [1, 7] (fun v i wr => ∃ k : Nat, k ≤ 191 ∧ i = .int .i64 (k : Int) ∧ Hid (OwnI 3 .i64 w.heap.size wr v (cntS.take k)) ∧ Hid (Below w.heap.size w wr)) (fun _ i _ => 191 - (intOf i).toNat)
  case atStart => exact ⟨0, Nat.zero_le _, rfl, Lib.hid (OwnI.nil _ _ _ _), Lib.hid (Below.refl _ _)⟩
  case round =>
    obtain ⟨k, hk, rfl, hO, hB⟩ := hrel
    by_cases hlt : k < 191
    · have hki : (k : Int) < 191 := by omega
      have HT := Lib.hid (take_succ_nth 0 cntS k (by rw [cntS_length]; exact hlt))
      have hnth : nth 0 cntS k = ((cntAt k : Nat) : Int) := by rw [nth_eq 0 _ k (by rw [cntS_length]; exact hlt)]; simp [cntS]
      rw [hnth] at HT
      have hl : (cntS.take k).length ≤ 191 := by rw [List.length_take]; omega
      obtain ⟨d, hd⟩ : ∃ d : Int, (k : Int) - 95 = d := ⟨_, rfl⟩
      obtain ⟨m, hm⟩ : ∃ m : Nat, 1 + (k - 95 + (95 - k)) = m := ⟨_, rfl⟩
      have hw1 : IntKind.i64.wrap ((k : Int) - 95) = d := by rw [hd]; exact IntWalk.i64_in _ (by omega)
      have hw2 : IntKind.i64.wrap (-d) = -d := IntWalk.i64_in _ (by omega)
      have hm1 : 1 ≤ m ∧ m ≤ 96 := by omega
      have hmm : m * m ≤ 96 * 96 := Nat.mul_le_mul hm1.2 hm1.2
      have hmm1 : 1 * 1 ≤ m * m := Nat.mul_le_mul hm1.1 hm1.1
      obtain ⟨q, hq⟩ : ∃ q : Nat, m * m = q := ⟨_, rfl⟩
      have hqi : (m : Int) * (m : Int) = (q : Int) := by rw [← hq]; simp
      have hw4 : IntKind.i64.wrap ((m : Int) * (m : Int)) = (q : Int) := by rw [hqi]; exact IntWalk.i64_in _ (by omega)
      have hc : cntAt k = 65536 / q := by unfold cntAt; rw [hm, hq]
      rw [hc] at HT
      have hq0 : ((q : Int) == 0) = false := by simp; omega
      have hdv : Int.tdiv 65536 (q : Int) = ((65536 / q : Nat) : Int) := by
        rw [Int.tdiv_eq_ediv_of_nonneg (by omega)]; simp
      obtain ⟨y, hy⟩ : ∃ y, 65536 / q = y := ⟨_, rfl⟩
      rw [hy] at HT hdv
      have hyl : y ≤ 65536 := by rw [← hy]; exact Nat.div_le_self _ _
      have hwy : IntKind.i64.wrap (y : Int) = (y : Int) := IntWalk.i64_in _ (by omega)
      have hqn : q ≠ 0 := by omega
      have hdd : (d < -d ∧ IntKind.i64.wrap (1 + -d) = (m : Int)) ∨ (¬ d < -d ∧ IntKind.i64.wrap (1 + d) = (m : Int)) := by
        by_cases hs : d < -d
        · exact .inl ⟨hs, by rw [IntWalk.i64_in _ (by omega)]; omega⟩
        · exact .inr ⟨hs, by rw [IntWalk.i64_in _ (by omega)]; omega⟩
      clear hd hm hq hc hy hnth hmm hmm1 hqi hyl hm1
      rcases hdd with ⟨hs, hw3⟩ | ⟨hs, hw3⟩
      all_goals
        go_wp2_with (at_builtin; (refine append_one (w0 := w) w.heap.size rfl (.tmp 17) (.tmp 22) 22 3 .i64 8 rfl Try.underlying22 infoI (by decide) u1 (cntS.take k) (y : Int) rfl rfl hO.out hB.out hB.out.size (by omega) ?_); intro v1 w4 hO4 hB4 _ _; have HO4 := Lib.hid hO4; have HB4 := Lib.hid hB4; clear hO4 hB4)
        go_roundw
        case rel => exact ⟨k + 1, by omega, by go_num, by rw [HT.out]; exact HO4, HB4⟩
        case measure => simp [intOf]; omega
    · obtain rfl : k = 191 := by omega
      have HT := Lib.hid (show cntS.take 191 = cntS from List.take_of_length_le (by rw [cntS_length]; exact Nat.le_refl _))
      obtain ⟨A5, c5, rfl, H5⟩ := own_ri hO.out
      rw [HT.out] at H5 ⊢
      have HL := Lib.hid (rlengths_all A5 c5 cntS 16 wr H5)
      rw [cntS_lengths.1, cntS_lengths.2, cntS_length] at HL
      rw [cntS_length]
      clear H5
      go_wp2_with (go_at_call 42; refine HL.out.mono ?_; rintro e w2 ⟨v2, rfl, hO2, hb2⟩)
      go_ret
      exact ⟨_, rfl, hO2.mono hB.out.size, below2 hB.out hb2⟩
end Go.Proofs.Ytkfgomhhenmmeaa

namespace Go.Proofs.Ytkfgomhhenmmeaa
open Go.RowKit

set_option maxHeartbeats 1000000 in
set_option maxRecDepth 100000 in
theorem ranged_any (A : Option Addr) (c : Nat) (ss : List Int) (w : World) (hS : RI w A c ss) :
    Calls Try.prog 54 #[.slice A ss.length c] w fun e w' => e = .returned (.bool (ss.all isB)) ∧ w = w' := by
  have hn := hS.len
  go_enter Try.func54, Try.ntmps54
  go_wp2
  go_loopw [7] (fun iv wr => ∃ k : Nat, iv = .int .i64 (k : Int) ∧ k ≤ ss.length ∧ Hid ((ss.take k).all isB = true) ∧ w = wr) (fun iv _ => ss.length - (intOf iv).toNat)
  case atStart => exact ⟨0, rfl, Nat.zero_le _, Lib.hid rfl, rfl⟩
  case round =>
    obtain ⟨k, rfl, hk, hA, rfl⟩ := hrel
    by_cases hlt : k < ss.length
    · obtain ⟨ad, rfl, hc⟩ := rd_int hS k hlt
      have hki : (k : Int) < (ss.length : Int) := by omega
      have HN := Lib.hid (all_take_succ ss k hlt)
      have HNO := Lib.hid (all_no hlt)
      generalize nth 0 ss k = x at hc HN HNO
      by_cases h1 : x < 0
      · have e1 : decide (x < 0) = true := decide_eq_true h1
        have HR := Lib.hid (HNO.out (by unfold isB; rw [decide_eq_false (by omega)]; rfl))
        clear h1
        go_wp2
        go_ret
        exact ⟨by rw [HR.out]; rfl, rfl⟩
      · have e1 : decide (x < 0) = false := decide_eq_false h1
        by_cases h2 : 95 < x
        · have e2 : decide (95 < x) = true := decide_eq_true h2
          have HR := Lib.hid (HNO.out (by unfold isB; rw [decide_eq_false (by omega : ¬ x ≤ 95)]; simp))
          clear h1 h2
          go_wp2
          go_ret
          exact ⟨by rw [HR.out]; rfl, rfl⟩
        · have e2 : decide (95 < x) = false := decide_eq_false h2
          have HA2 := Lib.hid (show (ss.take (k + 1)).all isB = true by rw [HN.out, hA.out]; unfold isB; rw [decide_eq_true (by omega), decide_eq_true (by omega)]; rfl)
          clear h1 h2
          go_wp2
          go_roundw
          case rel => exact ⟨k + 1, by go_num, by omega, HA2, trivial⟩
          case measure => simp [intOf]; omega
    · obtain rfl : k = ss.length := by omega
      have HR := Lib.hid (show ss.all isB = true by have := hA.out; rwa [List.take_length] at this)
      go_wp2
      go_ret
      exact ⟨by rw [HR.out]; rfl, rfl⟩
theorem freeB_no {ss : List Int} {us : List Bool} {k : Nat} (h : freeB ss us (k + 1) = false) : ∀ n, k + 1 ≤ n → freeB ss us n = false
  | 0, h2 => by omega
  | n + 1, h2 => by
    rw [freeB_succ]
    rcases Nat.lt_or_ge k n with h3 | h3
    · rw [freeB_no h n (by omega)]; rfl
    · have : n = k := by omega
      subst this
      rw [freeB_succ] at h; exact h

set_option maxHeartbeats 1000000 in
set_option maxRecDepth 100000 in
theorem right_any (A B : Option Addr) (c d : Nat) (ss : List Int) (us : List Bool) (w : World) (hS : RI w A c ss) (hU : RB w B d us) (hl : ss.length = us.length) :
    Calls Try.prog 64 #[.slice A ss.length c, .slice B us.length d] w fun e w' => e = .returned (.bool (freeB ss us ss.length)) ∧ w = w' := by
  have hn := hS.len
  have HL := Lib.hid hl
  clear hl
  go_enter Try.func64, Try.ntmps64
  go_wp2
  go_loopw [9] (fun iv wr => ∃ k : Nat, iv = .int .i64 (k : Int) ∧ k ≤ ss.length ∧ Hid (freeB ss us k = true) ∧ w = wr) (fun iv _ => ss.length - (intOf iv).toNat)
  case atStart => exact ⟨0, rfl, Nat.zero_le _, Lib.hid rfl, rfl⟩
  case round =>
    obtain ⟨k, rfl, hk, hA, rfl⟩ := hrel
    by_cases hlt : k < ss.length
    · obtain ⟨ad, rfl, hc⟩ := rd_int hS k hlt
      obtain ⟨ad2, rfl, hc2⟩ := rd_bool hU k (by rw [← HL.out]; exact hlt)
      have hki : (k : Int) < (ss.length : Int) := by omega
      have hku : (k : Int) < (us.length : Int) := by have := HL.out; omega
      have HF := Lib.hid (freeB_succ ss us k)
      have HNO := Lib.hid (fun h => freeB_no (ss := ss) (us := us) (k := k) h ss.length hlt)
      generalize nth 0 ss k = x at hc HF
      generalize nth false us k = u at hc2 HF
      cases u
      · by_cases hx : x = 0
        · have hxb : (x != 0) = false := by simp [hx]
          have HA2 := Lib.hid (show freeB ss us (k + 1) = true by rw [HF.out, hA.out, hx]; rfl)
          clear hx
          go_wp2
          go_roundw
          case rel => exact ⟨k + 1, by go_num, by omega, HA2, trivial⟩
          case measure => simp [intOf]; omega
        · have hxb : (x != 0) = true := by simp [hx]
          have HR := Lib.hid (HNO.out (by rw [HF.out]; simp [hx]))
          clear hx
          go_wp2
          go_ret
          exact ⟨by rw [HR.out]; rfl, rfl⟩
      · have HA2 := Lib.hid (show freeB ss us (k + 1) = true by rw [HF.out, hA.out]; simp)
        go_wp2
        go_roundw
        case rel => exact ⟨k + 1, by go_num, by omega, HA2, trivial⟩
        case measure => simp [intOf]; omega
    · obtain rfl : k = ss.length := by omega
      go_wp2
      go_ret
      exact ⟨by rw [hA.out]; rfl, rfl⟩
/-- The scales of the bands that are used, of the first ones. -/
def takK (ss : List Int) (us : List Bool) : Nat → List Int
  | 0 => []
  | k + 1 => if nth false us k = true then takK ss us k ++ [nth 0 ss k] else takK ss us k
theorem takK_hit {ss : List Int} {us : List Bool} {k : Nat} (h : nth false us k = true) : takK ss us (k + 1) = takK ss us k ++ [nth 0 ss k] := by
  show (if _ then _ else _) = _; rw [if_pos h]
theorem takK_miss {ss : List Int} {us : List Bool} {k : Nat} (h : nth false us k = false) : takK ss us (k + 1) = takK ss us k := by
  show (if _ then _ else _) = _; rw [if_neg (by rw [h]; decide)]
theorem takK_len (ss : List Int) (us : List Bool) : ∀ k, (takK ss us k).length ≤ k
  | 0 => Nat.le_refl _
  | k + 1 => by
    have := takK_len ss us k
    unfold takK; split
    · simp; omega
    · omega

set_option maxHeartbeats 1000000 in
set_option maxRecDepth 100000 in
theorem taken_any (A B : Option Addr) (c d : Nat) (ss : List Int) (us : List Bool) (w : World) (hS : RI w A c ss) (hU : RB w B d us) (hl : ss.length = us.length) (h1 : ss.length ≤ 100000) :
    Calls Try.prog 55 #[.slice A ss.length c, .slice B us.length d] w fun e w' => ∃ v, e = .returned v ∧ OwnI 3 .i64 w.heap.size w' v (takK ss us ss.length) ∧ Below w.heap.size w w' := by
  have HL := Lib.hid hl
  clear hl
  go_enter Try.func55, Try.ntmps55
  go_wp2
  go_loopw [5, 10] (fun v iv wr => ∃ k : Nat, iv = .int .i64 (k : Int) ∧ k ≤ ss.length ∧ Hid (OwnI 3 .i64 w.heap.size wr v (takK ss us k)) ∧ Hid (Below w.heap.size w wr)) (fun _ iv _ => ss.length - (intOf iv).toNat)
  case atStart => exact ⟨0, rfl, Nat.zero_le _, Lib.hid (OwnI.nil _ _ _ _), Lib.hid (Below.refl _ _)⟩
  case round =>
    obtain ⟨k, rfl, hk, hO, hB⟩ := hrel
    by_cases hlt : k < ss.length
    · obtain ⟨ad, rfl, hc⟩ := rd_int (hS.below hB.out) k hlt
      obtain ⟨ad2, rfl, hc2⟩ := rd_bool (hU.below hB.out) k (by rw [← HL.out]; exact hlt)
      have hki : (k : Int) < (ss.length : Int) := by omega
      have hku : (k : Int) < (us.length : Int) := by have := HL.out; omega
      have hlk := takK_len ss us k
      cases hu : nth false us k
      · rw [hu] at hc2
        have HT := Lib.hid (takK_miss (ss := ss) hu)
        clear hu
        go_wp2
        go_roundw
        case rel => exact ⟨k + 1, by go_num, by omega, by rw [HT.out]; exact hO, hB⟩
        case measure => simp [intOf]; omega
      · rw [hu] at hc2
        have HT := Lib.hid (takK_hit (ss := ss) hu)
        generalize nth 0 ss k = x at hc HT
        clear hu
        go_wp2_with (at_builtin; (refine append_one (w0 := w) w.heap.size rfl (.tmp 19) (.tmp 21) 22 3 .i64 8 rfl Try.underlying22 infoI (by decide) u5 (takK ss us k) x rfl rfl hO.out hB.out hB.out.size (by omega) ?_); intro v1 w4 hO4 hB4 _ _; have HO4 := Lib.hid hO4; have HB4 := Lib.hid hB4; clear hO4 hB4)
        go_roundw
        case rel => exact ⟨k + 1, by go_num, by omega, by rw [HT.out]; exact HO4, HB4⟩
        case measure => simp [intOf]; omega
    · obtain rfl : k = ss.length := by omega
      go_wp2
      go_ret
      exact ⟨_, rfl, hO.out, hB.out⟩
end Go.Proofs.Ytkfgomhhenmmeaa

namespace Go.Proofs.Ytkfgomhhenmmeaa
open Go.RowKit

set_option maxRecDepth 1000000 in
theorem tab_filled : filledN tabI = 65536 := by decide +kernel
set_option maxRecDepth 1000000 in
theorem tab_check : checkN tabI = 0 := by decide +kernel
theorem tab_right : Right tabI := (checkN_right tabI).1 tab_check
theorem tab_lenOf (k : Nat) (h : k < 191) : lenOf tabI k = nth 0 tabS k := by unfold lenOf; rw [tabI_nth k h, Int.toNat_natCast]
theorem tab_lenOf_stepL (d : Int) (h : -95 ≤ d ∧ d ≤ 95) : lenOf tabI (d + 95).toNat = stepL d := by rw [tab_lenOf _ (by omega)]; rfl
theorem tab_len16 (k : Nat) : lenOf tabI k ≤ 16 := by
  rcases Nat.lt_or_ge k 191 with h | h
  · rw [tab_lenOf k h]; have := (tabS_bound k h).2; omega
  · unfold lenOf; rw [nth_none 0 _ k (by rw [tabI_length]; exact h)]; simp
theorem tab_code_lt (k : Nat) (h : k < 191) : codeN tabI k < 2 ^ lenOf tabI k :=
  code_lt tab_len16 (by rw [tab_filled]; exact Nat.le_refl _) (by rw [tabI_length]; exact h)
theorem tab_code_le (k : Nat) (h : k < 191) : codeN tabI k ≤ 65536 := by
  have h1 := tab_code_lt k h
  have h2 : (2 : Nat) ^ lenOf tabI k ≤ 2 ^ 16 := Nat.pow_le_pow_right (by decide) (tab_len16 k)
  have h3 : (2 : Nat) ^ 16 = 65536 := by decide
  omega
theorem tab_codes : codesR tabI = codesL tabI := by unfold codesR; rw [if_pos tab_check]
theorem tab_codes_nth (k : Nat) (h : k < 191) : nth 0 (codesL tabI) k = (codeN tabI k : Int) := codesL_nth _ _ (by rw [tabI_length]; exact h)

/-- A step in bits. -/
def stepB (d : Int) : List Bool := numB (codeN tabI (d + 95).toNat) (stepL d)
theorem stepB_length (d : Int) : (stepB d).length = stepL d := by unfold stepB; rw [numB_length]
/-- The bits of a scale, of those that are taken. -/
def fieldT (T : List Int) (j : Nat) : List Bool := if j = 0 then numB (nth 0 T 0).toNat 7 else stepB (nth 0 T j - nth 0 T (j - 1))
def bitsT (T : List Int) (j : Nat) : List Bool := (List.range j).flatMap (fieldT T)
theorem bitsT_succ (T : List Int) (j : Nat) : bitsT T (j + 1) = bitsT T j ++ fieldT T j := by
  unfold bitsT; rw [List.range_succ, List.flatMap_append]; simp
theorem fieldT_len (T : List Int) (j : Nat) : (fieldT T j).length ≤ 15 := by
  unfold fieldT; split
  · rw [numB_length]; omega
  · rw [stepB_length]; exact stepL_le _
theorem bitsT_len (T : List Int) : ∀ j, (bitsT T j).length ≤ 15 * j
  | 0 => Nat.le_refl _
  | j + 1 => by
    have h1 := bitsT_len T j
    have h2 := fieldT_len T j
    rw [bitsT_succ, List.length_append]; omega
theorem nth_append_last (T : List Int) (x : Int) : nth 0 (T ++ [x]) T.length = x := by
  simp [nth, List.getD_eq_getElem?_getD]
theorem fieldT_append (T : List Int) (x : Int) (j : Nat) (h : j < T.length) : fieldT (T ++ [x]) j = fieldT T j := by
  unfold fieldT
  split
  · rename_i h0; rw [nth_append_left 0 T [x] 0 (by omega)]
  · rw [nth_append_left 0 T [x] j h, nth_append_left 0 T [x] (j - 1) (by omega)]
theorem bitsT_append (T : List Int) (x : Int) : ∀ j, j ≤ T.length → bitsT (T ++ [x]) j = bitsT T j
  | 0, _ => rfl
  | j + 1, h => by rw [bitsT_succ, bitsT_succ, bitsT_append T x j (by omega), fieldT_append T x j (by omega)]

/-- The bits of a scale, of those that the walk yields. -/
def fieldP (ss : List Int) (x : Nat × Int) : List Bool := if x.2 < 0 then numB (nth 0 ss x.1).toNat 7 else stepB (nth 0 ss x.1 - nth 0 ss x.2.toNat)
def bitsP (ss : List Int) (pre : List (Nat × Int)) : List Bool := pre.flatMap (fieldP ss)
theorem bitsP_snoc (ss : List Int) (pre : List (Nat × Int)) (x : Nat × Int) : bitsP ss (pre ++ [x]) = bitsP ss pre ++ fieldP ss x := by simp [bitsP]
theorem fieldP_len (ss : List Int) (x : Nat × Int) : (fieldP ss x).length = stepC ss x := by
  unfold fieldP stepC; split
  · rw [numB_length]
  · rw [stepB_length]
theorem bitsP_len (ss : List Int) : ∀ pre, (bitsP ss pre).length = costP ss pre
  | [] => rfl
  | x :: pre => by
    have e : costP ss (x :: pre) = stepC ss x + costP ss pre := by simp [costP]
    have e2 : bitsP ss (x :: pre) = fieldP ss x ++ bitsP ss pre := by simp [bitsP]
    rw [e, e2, List.length_append, fieldP_len, bitsP_len ss pre]
/-- What is taken and what is yielded hang together. -/
theorem bitsP_bitsT (ss : List Int) (us : List Bool) : ∀ k, bitsP ss (walkK us k) = bitsT (takK ss us k) (takK ss us k).length ∧
    (befK us k < 0 ∧ takK ss us k = [] ∨ ∃ j : Nat, befK us k = (j : Int) ∧ takK ss us k ≠ [] ∧ nth 0 (takK ss us k) ((takK ss us k).length - 1) = nth 0 ss j)
  | 0 => ⟨rfl, .inl ⟨by show (-1 : Int) < 0; decide, rfl⟩⟩
  | k + 1 => by
    obtain ⟨h1, h2⟩ := bitsP_bitsT ss us k
    cases hu : nth false us k
    · rw [(walkK_miss hu).1, (walkK_miss hu).2, takK_miss hu]; exact ⟨h1, h2⟩
    · rw [(walkK_hit hu).1, (walkK_hit hu).2, takK_hit hu]
      refine ⟨?_, .inr ⟨k, rfl, by simp, ?_⟩⟩
      · rw [bitsP_snoc, List.length_append]
        show _ = bitsT _ ((takK ss us k).length + 1)
        rw [bitsT_succ, bitsT_append _ _ _ (Nat.le_refl _), ← h1]
        congr 1
        unfold fieldP fieldT
        rcases h2 with ⟨hb, hT⟩ | ⟨j, hb, hT, hn⟩
        · rw [hT, if_pos hb]
          rfl
        · have hl : (takK ss us k).length ≠ 0 := fun h => hT (List.length_eq_zero_iff.1 h)
          rw [hb, if_neg (by show ¬ (j : Int) < 0; omega), if_neg hl, nth_append_last, nth_append_left 0 _ _ _ (by omega), hn]
          rfl
      · rw [List.length_append]
        show nth 0 _ ((takK ss us k).length + 1 - 1) = _
        rw [Nat.add_sub_cancel, nth_append_last]
theorem takK_range {ss : List Int} {us : List Bool} (h : ∀ k, 0 ≤ nth 0 ss k ∧ nth 0 ss k ≤ 95) : ∀ k, ∀ x ∈ takK ss us k, 0 ≤ x ∧ x ≤ 95
  | 0, x, hx => by cases hx
  | k + 1, x, hx => by
    cases hu : nth false us k
    · rw [takK_miss hu] at hx; exact takK_range h k x hx
    · rw [takK_hit hu] at hx
      rcases List.mem_append.1 hx with h1 | h1
      · exact takK_range h k x h1
      · rw [List.mem_singleton.1 h1]; exact h k
/-- The bits of scales, or none. -/
def rowB (ss : List Int) (us : List Bool) : List Bool := if checkedE ss us = 0 then bitsT (takK ss us ss.length) (takK ss us ss.length).length else []
theorem rowB_walk {ss : List Int} {us : List Bool} (h : checkedE ss us = 0) : rowB ss us = bitsP ss (walkK us us.length) := by
  unfold rowB
  rw [if_pos h, (checked_ok h).1, (bitsP_bitsT ss us us.length).1]
theorem rowB_cost (ss : List Int) (us : List Bool) : costS ss us = (((rowB ss us).length : Int), checkedE ss us) := by
  unfold costS
  by_cases h : checkedE ss us = 0
  · rw [if_neg (by simp [h]), rowB_walk h, bitsP_len, h]
  · rw [if_pos h]
    unfold rowB
    rw [if_neg h]; rfl
end Go.Proofs.Ytkfgomhhenmmeaa
