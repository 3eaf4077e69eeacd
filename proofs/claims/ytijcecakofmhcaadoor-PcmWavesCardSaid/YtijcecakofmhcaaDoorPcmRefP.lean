/- The document's answer, layer 2: Read. -/
import Derived.Test.YtijcecakofmhcaaDoorPcmPlainD
import Derived.Test.YtijcecakofmhcaaDoorPcmRefE
import Derived.Test.YtijcecakofmhcaaDoorPcmRefC
namespace Go.Proofs.YtijcecakofmhcaaDoor
open Go.RowKit

theorem wrap_sub_nat (a b : Nat) (h : b ≤ a) (ha : a ≤ 9223372036854775807) : IntKind.i64.wrap ((a : Int) - (b : Int)) = ((a - b : Nat) : Int) := by
  rw [show ((a - b : Nat) : Int) = (a : Int) - (b : Int) by omega]; exact IntWalk.i64_in _ (by omega)
theorem i16_hi {v : Int} (h : 32767 < v) (h2 : v < 65536) : IntKind.i16.wrap v = v - 65536 := by simp only [IntKind.wrap, IntKind.bits, IntKind.signed]; simp; split <;> omega
theorem i16_lo {v : Int} (h : ¬ 32767 < v) (h2 : 0 ≤ v) : IntKind.i16.wrap v = v := by simp only [IntKind.wrap, IntKind.bits, IntKind.signed]; simp; split <;> omega
theorem dataL_snoc (b : List Int) (k : Nat) : dataL b (k + 1) = dataL b k ++ [IntKind.i16.wrap (numB (pairL b k))] := by simp [dataL, List.range_succ]

set_option maxHeartbeats 8000000 in
set_option maxRecDepth 100000 in
theorem refRead_any (A : Option Addr) (c : Nat) (b : List Int) (w : World) (hR : RY w A c b) (hb : Bytes b) (hl : b.length ≤ 60000) :
    Calls Tryd.prog 17 #[.slice A b.length c] w fun e w' => RetA (readS b) e w' ∧ Below w.heap.size w w' := by
  have hle := hR.le
  have hcap := hR.cap
  by_cases h12 : b.length < 12
  · have HP := Lib.hid (show readS b = (0, [], 3) by rw [readS, if_pos h12])
    have hi : (b.length : Int) < 12 := by omega
    go_enter Tryd.func17, Tryd.ntmps17
    go_wp2_with (first | ((with_reducible refine at_dst (N := 2) rfl ?_); refine ev_new #[.int .i64 0, .slice none 0 0] 24 rfl ?hr ?_; (case hr => first | (go_simp; done) | (go_simp; rfl)); intro g2 w2 eg2 zg2 b2 Bg2; skip) | ((with_reducible refine at_store (p := 2) rfl ?_); (refine ev_put #[.int .i64 0, .slice none 0 0] rfl 24 (.tmp 2) (.tmp 18) rfl g2 24 _ rfl rfl Bg2 sizeS rfl rfl ?_); intro wf Bq hqf hzf; have z0 := Bq.cell 0 rfl; have z1 := Bq.cell 1 rfl))
    refine bodyPost_ret (v := .tuple #[.agg #[.int .i64 0, .slice none 0 0], .int .i64 3]) (by simp [results, Tryd.results17, go_sem, z0, z1]) rfl ⟨by rw [HP.out]; exact RetA.none _ _, below_grown b2 (b2).size hqf (fun k e => by have := Option.some.inj e; have := eg2.out; omega)⟩
  obtain ⟨i0, hi0, hz0, hz1, hz2⟩ := info_parts infoY
  have hi : ¬ (b.length : Int) < 12 := by omega
  obtain ⟨A1, hcut1, hsl1⟩ := cut_to (P := Tryd.prog) 25 5 Tryd.underlying25 hi0 A b.length c 4 (by omega) hle
  obtain ⟨A2, hcut2, hsl2⟩ := cut_mid (P := Tryd.prog) 25 5 Tryd.underlying25 hi0 A b.length c 4 8 (by omega) (by omega) hle
  obtain ⟨A3, hcut3, hsl3⟩ := cut_mid (P := Tryd.prog) 25 5 Tryd.underlying25 hi0 A b.length c 8 12 (by omega) (by omega) hle
  replace hcut1 : ∀ W : World, (Instr.slice 25 (.slice A b.length c) none (some (.int .i64 4)) none).run Tryd.prog W = .ok (.slice A1 4 c) W := hcut1
  replace hcut2 : ∀ W : World, (Instr.slice 25 (.slice A b.length c) (some (.int .i64 4)) (some (.int .i64 8)) none).run Tryd.prog W = .ok (.slice A2 4 (c - 4)) W := hcut2
  replace hcut3 : ∀ W : World, (Instr.slice 25 (.slice A b.length c) (some (.int .i64 8)) (some (.int .i64 12)) none).run Tryd.prog W = .ok (.slice A3 4 (c - 8)) W := hcut3
  have hs1 := hsl1 (kInt .u8) AnyB w b hz1.symm rfl hR
  have hs2 := hsl2 (kInt .u8) AnyB w b hz1.symm rfl hR
  have hs3 := hsl3 (kInt .u8) AnyB w b hz1.symm rfl hR
  have hl1 : (b.take 4).length = 4 := by rw [List.length_take]; omega
  have hl2 : ((b.take 8).drop 4).length = 4 := by rw [List.length_drop, List.length_take]; omega
  have hl3 : ((b.take 12).drop 8).length = 4 := by rw [List.length_drop, List.length_take]; omega
  have hb1 := hb.take 4
  have hb2 := (hb.take 8).drop 4
  have hb3 := (hb.take 12).drop 8
  obtain ⟨st1, hst1⟩ : ∃ st1, strOfNums (b.take 4) = st1 := ⟨_, rfl⟩
  obtain ⟨st3, hst3⟩ : ∃ st3, strOfNums ((b.take 12).drop 8) = st3 := ⟨_, rfl⟩
  obtain ⟨M, hM⟩ : ∃ M, numB ((b.take 8).drop 4) = M := ⟨_, rfl⟩
  have HV1 : Hid (∀ W : World, Below w.heap.size w W → (convert 25 9 (.slice A1 4 c)).run Tryd.prog W = .ok (.string st1) W) := Lib.hid fun W hW => by
    have := conv_str (P := Tryd.prog) Tryd.underlying25 Tryd.underlying5 Tryd.underlying9 (c := c) (hs1.below hW)
    rw [hl1, hst1] at this
    exact this
  have HV3 : Hid (∀ W : World, Below w.heap.size w W → (convert 25 9 (.slice A3 4 (c - 8))).run Tryd.prog W = .ok (.string st3) W) := Lib.hid fun W hW => by
    have := conv_str (P := Tryd.prog) Tryd.underlying25 Tryd.underlying5 Tryd.underlying9 (c := c - 8) (hs3.below hW)
    rw [hl3, hst3] at this
    exact this
  have HN : Hid (∀ W : World, Below w.heap.size w W → Calls Tryd.prog 61 #[.slice A2 4 (c - 4)] W fun e w' => e = .returned (.int .i64 M) ∧ w' = W) := Lib.hid fun W hW => by
    have := refValue_any A2 (c - 4) ((b.take 8).drop 4) W (hs2.below hW) hb2 (by omega)
    rw [hl2, hM] at this
    exact this
  have hw8 : IntKind.i64.wrap ((b.length : Int) - 8) = (b.length : Int) - 8 := IntWalk.i64_in _ (by omega)
  clear hsl1 hsl2 hsl3 hs1 hs2 hs3 hl1 hl2 hl3 hb2
  by_cases h1 : b.take 4 = nRiff
  case neg =>
    have HP := Lib.hid (show readS b = (0, [], 4) by rw [readS, if_neg h12, if_pos (show headB b = false by simp [headB, h1])])
    have he1 := ba_ne st1 [82, 73, 70, 70] (fun e => h1 ((strOfNums_inj hb1 (by intro x hx; simp [nRiff] at hx; omega)).1 (hst1.trans (e.trans (show _ = strOfNums nRiff from rfl)))))
    clear h1 hst1 hb1 hst3 hb3 hM
    go_enter Tryd.func17, Tryd.ntmps17
    go_wp2_with (first | ((with_reducible refine at_dst (N := 2) rfl ?_); refine ev_new #[.int .i64 0, .slice none 0 0] 24 rfl ?hr ?_; (case hr => first | (go_simp; done) | (go_simp; rfl)); intro g2 w2 eg2 zg2 b2 Bg2; have hcv1 := HV1.out w2 b2; have hcv3 := HV3.out w2 b2) | (go_at_call 61; refine (HN.out w2 b2).mono ?_; rintro e w4 ⟨rfl, rfl⟩) | ((with_reducible refine at_store (p := 2) rfl ?_); (refine ev_put #[.int .i64 0, .slice none 0 0] rfl 24 (.tmp 2) (.tmp 38) rfl g2 24 _ rfl rfl Bg2 sizeS rfl rfl ?_); intro wf Bq hqf hzf; have z0 := Bq.cell 0 rfl; have z1 := Bq.cell 1 rfl))
    refine bodyPost_ret (v := .tuple #[.agg #[.int .i64 0, .slice none 0 0], .int .i64 4]) (by simp [results, Tryd.results17, go_sem, z0, z1]) rfl ⟨by rw [HP.out]; exact RetA.none _ _, below_grown b2 (b2).size hqf (fun k e => by have := Option.some.inj e; have := eg2.out; omega)⟩
  case pos =>
    have he1 : (st1.toList == [82, 73, 70, 70]) = true := by rw [← hst1, h1]; exact ba_nums _ _ rfl
    by_cases h2 : M = (b.length : Int) - 8
    case neg =>
      have HP := Lib.hid (show readS b = (0, [], 4) by rw [readS, if_neg h12, if_pos (show headB b = false by simp [headB, h1, hM, h2])])
      have hMb : (M != (b.length : Int) - 8) = true := by simpa using h2
      clear h1 hst1 hb1 hst3 hb3 hM h2
      go_enter Tryd.func17, Tryd.ntmps17
      go_wp2_with (first | ((with_reducible refine at_dst (N := 2) rfl ?_); refine ev_new #[.int .i64 0, .slice none 0 0] 24 rfl ?hr ?_; (case hr => first | (go_simp; done) | (go_simp; rfl)); intro g2 w2 eg2 zg2 b2 Bg2; have hcv1 := HV1.out w2 b2; have hcv3 := HV3.out w2 b2) | (go_at_call 61; refine (HN.out w2 b2).mono ?_; rintro e w4 ⟨rfl, rfl⟩) | ((with_reducible refine at_store (p := 2) rfl ?_); (refine ev_put #[.int .i64 0, .slice none 0 0] rfl 24 (.tmp 2) (.tmp 38) rfl g2 24 _ rfl rfl Bg2 sizeS rfl rfl ?_); intro wf Bq hqf hzf; have z0 := Bq.cell 0 rfl; have z1 := Bq.cell 1 rfl))
      refine bodyPost_ret (v := .tuple #[.agg #[.int .i64 0, .slice none 0 0], .int .i64 4]) (by simp [results, Tryd.results17, go_sem, z0, z1]) rfl ⟨by rw [HP.out]; exact RetA.none _ _, below_grown b2 (b2).size hqf (fun k e => by have := Option.some.inj e; have := eg2.out; omega)⟩
    case pos =>
      have hMb : (M != (b.length : Int) - 8) = false := by simp [h2]
      by_cases h3 : (b.take 12).drop 8 = nWave
      case neg =>
        have HP := Lib.hid (show readS b = (0, [], 4) by rw [readS, if_neg h12, if_pos (show headB b = false by simp [headB, h1, hM, h2, h3])])
        have he3 := ba_ne st3 [87, 65, 86, 69] (fun e => h3 ((strOfNums_inj hb3 (by intro x hx; simp [nWave] at hx; omega)).1 (hst3.trans (e.trans (show _ = strOfNums nWave from rfl)))))
        clear h1 hst1 hb1 hst3 hb3 hM h2 h3
        go_enter Tryd.func17, Tryd.ntmps17
        go_wp2_with (first | ((with_reducible refine at_dst (N := 2) rfl ?_); refine ev_new #[.int .i64 0, .slice none 0 0] 24 rfl ?hr ?_; (case hr => first | (go_simp; done) | (go_simp; rfl)); intro g2 w2 eg2 zg2 b2 Bg2; have hcv1 := HV1.out w2 b2; have hcv3 := HV3.out w2 b2) | (go_at_call 61; refine (HN.out w2 b2).mono ?_; rintro e w4 ⟨rfl, rfl⟩) | ((with_reducible refine at_store (p := 2) rfl ?_); (refine ev_put #[.int .i64 0, .slice none 0 0] rfl 24 (.tmp 2) (.tmp 38) rfl g2 24 _ rfl rfl Bg2 sizeS rfl rfl ?_); intro wf Bq hqf hzf; have z0 := Bq.cell 0 rfl; have z1 := Bq.cell 1 rfl))
        refine bodyPost_ret (v := .tuple #[.agg #[.int .i64 0, .slice none 0 0], .int .i64 4]) (by simp [results, Tryd.results17, go_sem, z0, z1]) rfl ⟨by rw [HP.out]; exact RetA.none _ _, below_grown b2 (b2).size hqf (fun k e => by have := Option.some.inj e; have := eg2.out; omega)⟩
      case pos =>
        have he3 : (st3.toList == [87, 65, 86, 69]) = true := by rw [← hst3, h3]; exact ba_nums _ _ rfl
        obtain ⟨RR, hRR⟩ : ∃ RR, rdR fst0 (b.drop 12) = RR := ⟨_, rfl⟩
        have HRS : Hid (readS b = if RR.1 ≠ 0 then (0, [], RR.1) else if RR.2.done = false then (0, [], 4) else splitS RR.2.l RR.2.ch RR.2.rate) := Lib.hid (by rw [readS, if_neg h12, if_neg (show ¬ headB b = false by simp [headB, h1, hM, h2, h3]), ← hRR]; rfl)
        have HRR := Lib.hid hRR
        clear h1 hst1 hb1 hst3 hb3 hM h2 h3 hRR
        go_enter Tryd.func17, Tryd.ntmps17
        go_wp2_with (first | ((with_reducible refine at_dst (N := 2) rfl ?_); refine ev_new #[.int .i64 0, .slice none 0 0] 24 rfl ?hr ?_; (case hr => first | (go_simp; done) | (go_simp; rfl)); intro g2 w2 eg2 zg2 b2 Bg2; have hcv1 := HV1.out w2 b2; have hcv3 := HV3.out w2 b2) | (go_at_call 61; refine (HN.out w2 b2).mono ?_; rintro e w4 ⟨rfl, rfl⟩))
        clear hcv1 hcv3 hcut1 hcut2 hcut3 he1 he3 hMb hw8 HV1 HV3 HN
        go_loopw [4, 5, 6, 7, 8] (fun s4 s5 s6 s7 s8 wr => ∃ (st : FileS) (p : Nat), p ≤ b.length ∧ s4 = .int .i64 st.ch ∧ s5 = .int .i64 st.rate ∧ s6 = .bool st.done ∧ s8 = .int .i64 p ∧ OwnI 3 .i64 w4.heap.size wr s7 st.l ∧ KnOk st ∧ Hid (rdR st (b.drop p) = RR) ∧ Below w4.heap.size w4 wr) (fun _ _ _ _ i _ => b.length - (intOf i).toNat)
        case atStart => exact ⟨fst0, 12, by omega, rfl, rfl, rfl, rfl, OwnI.nil _ _ _ _, KnOk.start, HRR, Below.refl _ _⟩
        case round =>
          obtain ⟨⟨ch, rate, known, done, lst⟩, p, hp, rfl, rfl, rfl, rfl, hO, hK, hRR, hB⟩ := hrel
          dsimp only at hO ⊢
          have C2 := Bg2.below hB
          have HX : Below w.heap.size w wr := below2 b2 hB
          by_cases hlt : p < b.length
          case neg =>
            obtain rfl : p = b.length := by omega
            rw [List.drop_length, rdR_nil] at hRR
            cases done
            · have HP := Lib.hid (show readS b = (0, [], 4) by rw [HRS.out, ← hRR.out]; rfl)
              go_wp2_with ((with_reducible refine at_store (p := 2) rfl ?_); (refine ev_put #[.int .i64 0, .slice none 0 0] rfl 24 (.tmp 2) (.tmp 143) rfl g2 24 _ rfl rfl C2 sizeS rfl rfl ?_); intro wf Bq hqf hzf; have z0 := Bq.cell 0 rfl; have z1 := Bq.cell 1 rfl)
              refine bodyPost_ret (v := .tuple #[.agg #[.int .i64 0, .slice none 0 0], .int .i64 4]) (by simp [results, Tryd.results17, go_sem, z0, z1]) rfl ⟨by rw [HP.out]; exact RetA.none _ _, below_grown HX (HX).size hqf (fun k e => by have := Option.some.inj e; have := eg2.out; omega)⟩
            · have HP := Lib.hid (show readS b = splitS lst ch rate by rw [HRS.out, ← hRR.out]; rfl)
              obtain ⟨Ao, co, rfl, So⟩ := hO.rd
              replace So := So.any
              go_wp2_with fail
              refine (refSplit_any Ao co lst ch rate _ So).mono ?_
              obtain ⟨R1, T1, E1, hSP⟩ : ∃ R1 T1 E1, splitS lst ch rate = (R1, T1, E1) := ⟨_, _, _, rfl⟩
              have HSP := Lib.hid hSP
              rw [hSP]
              clear hSP
              rintro e w5 ⟨⟨A5, c5, rfl, S5⟩, b5⟩
              dsimp only at S5 ⊢
              have C5 := C2.below b5
              go_wp2_with ((with_reducible refine at_store (p := 2) rfl ?_); (refine ev_put #[.int .i64 R1, .slice A5 T1.length c5] rfl 24 (.tmp 2) (.tmp 148) rfl g2 24 _ rfl rfl C5 sizeS rfl rfl ?_); intro wf Bq hqf hzf; have z0 := Bq.cell 0 rfl; have z1 := Bq.cell 1 rfl)
              have hg2 := C2.lt
              refine bodyPost_ret (v := .tuple #[.agg #[.int .i64 R1, .slice A5 T1.length c5], .int .i64 E1]) (by simp [results, Tryd.results17, go_sem, z0, z1]) rfl ⟨?_, below_grown (below2 HX b5) (below2 HX b5).size hqf (fun k e => by have := Option.some.inj e; have := eg2.out; omega)⟩
              rw [HP.out, HSP.out]
              exact ⟨A5, c5, rfl, (S5.keep ((Keep.of_grown1 hqf).weak (fun i hi => by have : wr.heap.size ≤ i := hi; omega))).any⟩
          case pos =>
            obtain ⟨rest, hrest⟩ : ∃ rest, b.drop p = rest := ⟨_, rfl⟩
            rw [hrest] at hRR
            have hrl : rest.length = b.length - p := by rw [← hrest, List.length_drop]
            have hne : rest ≠ [] := fun e => by rw [e] at hrl; simp at hrl; omega
            have hi : (p : Int) < (b.length : Int) := by omega
            have hw1 := wrap_sub_nat b.length p hp (by omega)
            by_cases h8 : b.length - p < 8
            case pos =>
              have hi8 : ((b.length - p : Nat) : Int) < 8 := by omega
              have HP := Lib.hid (show readS b = (0, [], 3) by rw [HRS.out, ← hRR.out, rdR_short _ _ hne (.inl (by omega))]; simp)
              clear hRR hrest hK
              go_wp2_with ((with_reducible refine at_store (p := 2) rfl ?_); (refine ev_put #[.int .i64 0, .slice none 0 0] rfl 24 (.tmp 2) (.tmp 48) rfl g2 24 _ rfl rfl C2 sizeS rfl rfl ?_); intro wf Bq hqf hzf; have z0 := Bq.cell 0 rfl; have z1 := Bq.cell 1 rfl)
              refine bodyPost_ret (v := .tuple #[.agg #[.int .i64 0, .slice none 0 0], .int .i64 3]) (by simp [results, Tryd.results17, go_sem, z0, z1]) rfl ⟨by rw [HP.out]; exact RetA.none _ _, below_grown HX (HX).size hqf (fun k e => by have := Option.some.inj e; have := eg2.out; omega)⟩
            case neg =>
              have hi8 : ¬ ((b.length - p : Nat) : Int) < 8 := by omega
              obtain ⟨n, hn⟩ : ∃ n, ckN rest = n := ⟨_, rfl⟩
              have hbr : Bytes rest := by rw [← hrest]; exact hb.drop p
              have hnv := ckN_nonneg hbr
              rw [hn] at hnv
              have hnlt : (n : Int) < 4294967296 := by
                have h := (numB_nonneg _ ((hbr.take 8).drop 4)).2
                rw [List.length_drop, List.length_take, hnv, Nat.min_eq_left (by omega)] at h
                exact h
              have e4 : ((p + 4 : Nat) : Int) = (p : Int) + 4 := by omega
              have e8 : ((p + 8 : Nat) : Int) = (p : Int) + 8 := by omega
              have hb4 : IntKind.i64.wrap ((p : Int) + 4) = (p : Int) + 4 := IntWalk.i64_in _ (by omega)
              have hb8 : IntKind.i64.wrap ((p : Int) + 8) = (p : Int) + 8 := IntWalk.i64_in _ (by omega)
              obtain ⟨N1, hcutN, hslN⟩ := cut_mid (P := Tryd.prog) 25 5 Tryd.underlying25 hi0 A b.length c p (p + 4) (by omega) (by omega) hle
              obtain ⟨N2, hcutV, hslV⟩ := cut_mid (P := Tryd.prog) 25 5 Tryd.underlying25 hi0 A b.length c (p + 4) (p + 8) (by omega) (by omega) hle
              rw [e4, show p + 4 - p = 4 by omega] at hcutN
              rw [e4, e8, show p + 8 - (p + 4) = 4 by omega] at hcutV
              obtain ⟨NM, hNM⟩ : ∃ NM, strOfNums (rest.take 4) = NM := ⟨_, rfl⟩
              have HSTR : Hid (∀ W : World, RY W A c b → (convert 25 9 (.slice N1 4 (c - p))).run Tryd.prog W = .ok (.string NM) W) := Lib.hid fun W hW => by
                have := conv_str (P := Tryd.prog) Tryd.underlying25 Tryd.underlying5 Tryd.underlying9 (c := c - p) (hslN (kInt .u8) AnyB W b hz1.symm rfl hW)
                rw [← take_at, hrest, hNM, show (rest.take 4).length = 4 by rw [List.length_take]; omega] at this
                exact this
              have HVAL : Hid (∀ W : World, RY W A c b → Calls Tryd.prog 61 #[.slice N2 4 (c - (p + 4))] W fun e w' => e = .returned (.int .i64 n) ∧ w' = W) := Lib.hid fun W hW => by
                have h := hslV (kInt .u8) AnyB W b hz1.symm rfl hW
                rw [← take_drop_at, hrest] at h
                have := refValue_any N2 (c - (p + 4)) ((rest.take 8).drop 4) W h ((hbr.take 8).drop 4) (by rw [List.length_drop, List.length_take]; omega)
                rw [hnv, show ((rest.take 8).drop 4).length = 4 by rw [List.length_drop, List.length_take]; omega] at this
                exact this
              clear hslN hslV e4 e8
              have D0 := (Below.refl wr.heap.size wr).drew
              have hRW := hR.below HX
              have hRD := hRW.below D0
              have hnm := Lib.hid hNM
              have Hhn := Lib.hid hn
              have Hrest := Lib.hid hrest
              have Hnv := Lib.hid hnv
              have HKK := Lib.hid hK
              have HBR := Lib.hid hbr
              clear hNM hn hrest hnv hK hbr
              go_wp2_with fail
              refine wp_region_G 14 (fun W => RY W A c b) (by kernel_rfl) hRD (fun hHeld => ?_)
              refine wpAnyG_takeL (i := 0) (.slice A b.length c) [14] rfl (by kernel_rfl) (fun _ _ _ h => h) hHeld (by rfl) ?_ ?_
              · (intro W hSw; (try dsimp only at hSw); go_simp)
              try simp only [Act.put, List.setIfInBounds_toArray, List.set_cons_zero, List.set_cons_succ]
              refine wpAnyG_takeL (i := 1) (.int .i64 p) [14] rfl (by kernel_rfl) (fun _ _ _ h => h) hHeld (by rfl) ?_ ?_
              · (intro W hSw; (try dsimp only at hSw); go_simp)
              try simp only [Act.put, List.setIfInBounds_toArray, List.set_cons_zero, List.set_cons_succ]
              refine wpAnyG_takeL (i := 2) (.int .i64 p) [14] rfl (by kernel_rfl) (fun _ _ _ h => h) hHeld (by rfl) ?_ ?_
              · (intro W hSw; (try dsimp only at hSw); go_simp)
              try simp only [Act.put, List.setIfInBounds_toArray, List.set_cons_zero, List.set_cons_succ]
              refine wpAnyG_takeL (i := 3) (.int .i64 ((p : Int) + 4)) [14] rfl (by kernel_rfl) (fun _ _ _ h => h) hHeld (by rfl) ?_ ?_
              · (intro W hSw; (try dsimp only at hSw); go_simp)
              try simp only [Act.put, List.setIfInBounds_toArray, List.set_cons_zero, List.set_cons_succ]
              refine wpAnyG_takeL (i := 4) (.slice N1 4 (c - p)) [14] rfl (by kernel_rfl) (fun _ _ _ h => h) hHeld (by rfl) ?_ ?_
              · (intro W hSw; (try dsimp only at hSw); go_simp)
              try simp only [Act.put, List.setIfInBounds_toArray, List.set_cons_zero, List.set_cons_succ]
              refine wpAnyG_takeL (i := 5) (.string NM) [14] rfl (by kernel_rfl) (fun _ _ _ h => h) hHeld (by rfl) ?_ ?_
              · (intro W hSw; have hcv := HSTR.out W hSw; go_simp)
              try simp only [Act.put, List.setIfInBounds_toArray, List.set_cons_zero, List.set_cons_succ]
              refine wpAnyG_takeL (i := 6) (.slice A b.length c) [14] rfl (by kernel_rfl) (fun _ _ _ h => h) hHeld (by rfl) ?_ ?_
              · (intro W hSw; (try dsimp only at hSw); go_simp)
              try simp only [Act.put, List.setIfInBounds_toArray, List.set_cons_zero, List.set_cons_succ]
              refine wpAnyG_takeL (i := 7) (.int .i64 p) [14] rfl (by kernel_rfl) (fun _ _ _ h => h) hHeld (by rfl) ?_ ?_
              · (intro W hSw; (try dsimp only at hSw); go_simp)
              try simp only [Act.put, List.setIfInBounds_toArray, List.set_cons_zero, List.set_cons_succ]
              refine wpAnyG_takeL (i := 8) (.int .i64 ((p : Int) + 4)) [14] rfl (by kernel_rfl) (fun _ _ _ h => h) hHeld (by rfl) ?_ ?_
              · (intro W hSw; (try dsimp only at hSw); go_simp)
              try simp only [Act.put, List.setIfInBounds_toArray, List.set_cons_zero, List.set_cons_succ]
              refine wpAnyG_takeL (i := 9) (.int .i64 p) [14] rfl (by kernel_rfl) (fun _ _ _ h => h) hHeld (by rfl) ?_ ?_
              · (intro W hSw; (try dsimp only at hSw); go_simp)
              try simp only [Act.put, List.setIfInBounds_toArray, List.set_cons_zero, List.set_cons_succ]
              refine wpAnyG_takeL (i := 10) (.int .i64 ((p : Int) + 8)) [14] rfl (by kernel_rfl) (fun _ _ _ h => h) hHeld (by rfl) ?_ ?_
              · (intro W hSw; (try dsimp only at hSw); go_simp)
              try simp only [Act.put, List.setIfInBounds_toArray, List.set_cons_zero, List.set_cons_succ]
              refine wpAnyG_takeL (i := 11) (.slice N2 4 (c - (p + 4))) [14] rfl (by kernel_rfl) (fun _ _ _ h => h) hHeld (by rfl) ?_ ?_
              · (intro W hSw; (try dsimp only at hSw); go_simp)
              try simp only [Act.put, List.setIfInBounds_toArray, List.set_cons_zero, List.set_cons_succ]
              refine wpAnyG_oneL (i := 12) (by kernel_rfl) rfl (fun K hK => ?_)
              (go_simp; go_at_call 61; refine (HVAL.out _ hRD).mono ?_; rintro e w9 ⟨rfl, hw9⟩; subst hw9)
              clear hHeld
              have hHeld := hRD
              refine hK.out _ _ (fun _ => hHeld) ?_
              clear hK K
              try simp only [Act.put, List.setIfInBounds_toArray, List.set_cons_zero, List.set_cons_succ]
              refine wpAnyG_takeL (i := 13) (.string NM) [14] rfl (by kernel_rfl) (fun _ _ _ h => h) hHeld (by rfl) ?_ ?_
              · (intro W hSw; (try dsimp only at hSw); go_simp)
              try simp only [Act.put, List.setIfInBounds_toArray, List.set_cons_zero, List.set_cons_succ]
              refine wpAnyG_oneL (i := 14) (by kernel_rfl) rfl (fun K hK => ?_)
              go_simp
              refine hK.out _ _ (fun h => Bool.noConfusion (show true = false from h)) ?_
              clear hK K
              try simp only [Act.put, List.setIfInBounds_toArray, List.set_cons_zero, List.set_cons_succ]
              refine wpAnyG_done (by kernel_rfl) ?_ _
              replace hB := below2 hB D0
              replace HX := below2 HX D0
              replace hO := hO.below D0
              replace C2 := C2.below D0
              generalize wr.drew = W1 at hRD hB HX hO C2 ⊢
              clear hcutN hcutV HSTR HVAL hRW D0 hb4
              obtain ⟨m2, hm2⟩ : ∃ m2, n % 2 = m2 := ⟨_, rfl⟩
              have ht2 : Int.tmod (n : Int) 2 = (m2 : Int) := by rw [← hm2, Int.tmod_eq_emod_of_nonneg (by omega)]; omega
              have hwn : IntKind.i64.wrap ((n : Int) + (m2 : Int)) = (n : Int) + (m2 : Int) := IntWalk.i64_in _ (by omega)
              have hws : IntKind.i64.wrap ((b.length : Int) - ((p : Int) + 8)) = (b.length : Int) - ((p : Int) + 8) := IntWalk.i64_in _ (by omega)
              have hm2l : m2 ≤ 1 := by omega
              by_cases hs : b.length - (p + 8) < n + m2
              case pos =>
                have his : (b.length : Int) - ((p : Int) + 8) < (n : Int) + (m2 : Int) := by omega
                have HP := Lib.hid (show readS b = (0, [], 3) by rw [HRS.out, ← hRR.out, rdR_short _ _ hne (.inr (by rw [Hhn.out, hm2, hrl]; omega))]; simp)
                clear hRR
                go_wp2_with ((with_reducible refine at_store (p := 2) rfl ?_); (refine ev_put #[.int .i64 0, .slice none 0 0] rfl 24 (.tmp 2) (.tmp 73) rfl g2 24 _ rfl rfl C2 sizeS rfl rfl ?_); intro wf Bq hqf hzf; have z0 := Bq.cell 0 rfl; have z1 := Bq.cell 1 rfl)
                refine bodyPost_ret (v := .tuple #[.agg #[.int .i64 0, .slice none 0 0], .int .i64 3]) (by simp [results, Tryd.results17, go_sem, z0, z1]) rfl ⟨by rw [HP.out]; exact RetA.none _ _, below_grown HX (HX).size hqf (fun k e => by have := Option.some.inj e; have := eg2.out; omega)⟩
              case neg =>
                have his : ¬ (b.length : Int) - ((p : Int) + 8) < (n : Int) + (m2 : Int) := by omega
                have hst := rdR_cons ⟨ch, rate, known, done, lst⟩ rest hne (by rw [Hhn.out, hm2, hrl]; omega)
                rw [Hhn.out, hm2] at hst
                obtain ⟨body, hbody⟩ : ∃ body, (rest.take (8 + n)).drop 8 = body := ⟨_, rfl⟩
                rw [hbody] at hst
                have hbl : body.length = n := by rw [← hbody, List.length_drop, List.length_take]; omega
                have hbb : Bytes body := by rw [← hbody]; exact (HBR.out.take _).drop _
                have hnext : rest.drop (8 + n + m2) = b.drop (p + 8 + (n + m2)) := by rw [← Hrest.out, List.drop_drop]; congr 1; omega
                rw [hnext] at hst
                rw [hst] at hRR
                have hwb : IntKind.i64.wrap ((p : Int) + 8 + (n : Int)) = (p : Int) + 8 + (n : Int) := IntWalk.i64_in _ (by omega)
                have hwe : IntKind.i64.wrap ((p : Int) + 8 + ((n : Int) + (m2 : Int))) = (p : Int) + 8 + ((n : Int) + (m2 : Int)) := IntWalk.i64_in _ (by omega)
                obtain ⟨N3, hcutB, hslB⟩ := cut_mid (P := Tryd.prog) 25 5 Tryd.underlying25 hi0 A b.length c (p + 8) (p + 8 + n) (by omega) (by omega) hle
                rw [show ((p + 8 : Nat) : Int) = (p : Int) + 8 by omega, show ((p + 8 + n : Nat) : Int) = (p : Int) + 8 + (n : Int) by omega, show p + 8 + n - (p + 8) = n by omega] at hcutB
                have HBD : Hid (∀ W : World, RY W A c b → RY W N3 (c - (p + 8)) body) := Lib.hid fun W hW => by
                  have h := hslB (kInt .u8) AnyB W b hz1.symm rfl hW
                  rw [show p + 8 + n = p + (8 + n) by omega, ← take_drop_at, Hrest.out, hbody] at h
                  exact h
                have Hbl := Lib.hid hbl
                have HBB := Lib.hid hbb
                clear hslB hst hbody hnext hbl hbb
                have hpn : p + 8 + (n + m2) ≤ b.length := by omega
                by_cases hf : rest.take 4 = nFmt
                case pos =>
                  have heF : (NM.toList == [102, 109, 116, 32]) = true := by rw [← hnm.out, hf]; exact ba_nums _ _ rfl
                  rw [hf] at hRR
                  cases known
                  case true =>
                    have hchb : (ch == 0) = false := by rcases HKK.out.file.ch rfl with h | h <;> (have h : ch = _ := h; rw [h]; rfl)
                    have hle4 : lookE ⟨ch, rate, true, done, lst⟩ (nFmt, body, false) = 4 := by simp [lookE, formatE]
                    rw [hle4] at hRR
                    have HP := Lib.hid (show readS b = (0, [], 4) by rw [HRS.out, ← hRR.out]; simp)
                    clear hRR hf hle4
                    go_wp2_with ((with_reducible refine at_store (p := 2) rfl ?_); (refine ev_put #[.int .i64 0, .slice none 0 0] rfl 24 (.tmp 2) (.tmp 100) rfl g2 24 _ rfl rfl C2 sizeS rfl rfl ?_); intro wf Bq hqf hzf; have z0 := Bq.cell 0 rfl; have z1 := Bq.cell 1 rfl)
                    refine bodyPost_ret (v := .tuple #[.agg #[.int .i64 0, .slice none 0 0], .int .i64 4]) (by simp [results, Tryd.results17, go_sem, z0, z1]) rfl ⟨by rw [HP.out]; exact RetA.none _ _, below_grown HX (HX).size hqf (fun k e => by have := Option.some.inj e; have := eg2.out; omega)⟩
                  case false =>
                    have hch0 : ch = 0 := HKK.out.ch rfl
                    have hch0 : ch = 0 := hch0
                    subst hch0
                    obtain ⟨hfd, hfs⟩ := format_desc ⟨0, rate, false, done, lst⟩ body rfl
                    have hle4 : lookE ⟨0, rate, false, done, lst⟩ (nFmt, body, false) = formatE ⟨0, rate, false, done, lst⟩ body := by simp [lookE]
                    have hls4 : lookS ⟨0, rate, false, done, lst⟩ (nFmt, body, false) = formatS ⟨0, rate, false, done, lst⟩ body := by simp [lookS]
                    rw [hle4, hls4, hfd] at hRR
                    obtain ⟨D1, D2, D3, hDS⟩ : ∃ D1 D2 D3, descS body = (D1, D2, D3) := ⟨_, _, _, rfl⟩
                    have HDS : Hid (∀ W : World, RY W A c b → Calls Tryd.prog 62 #[.slice N3 n (c - (p + 8))] W fun e w' => e = .returned (.tuple #[.int .i64 D1, .int .i64 D2, .bool D3]) ∧ Below W.heap.size W w') := Lib.hid fun W hW => by
                      have := refDescribed_any N3 (c - (p + 8)) body W (HBD.out W hW) HBB.out
                      rw [Hbl.out, hDS] at this
                      exact this
                    rw [hDS] at hRR hfs
                    have hfl := fun he => HKK.out.file.look (nm := nFmt) (b := body) (bad := false) (by rw [Hbl.out]; omega) he
                    rw [hle4, hls4, hfd, hDS] at hfl
                    have Hfl := Lib.hid hfl
                    have Hfs := Lib.hid hfs
                    clear hfd hle4 hls4 hDS hf hfl hfs
                    cases D3
                    case false =>
                      have HP := Lib.hid (show readS b = (0, [], 4) by rw [HRS.out, ← hRR.out]; simp)
                      clear hRR
                      go_wp2_with (first | (go_at_call 62; refine (HDS.out _ hRD).mono ?_; rintro e w9 ⟨rfl, b9⟩; have C9 := C2.below b9; have X9 := below2 HX b9) | ((with_reducible refine at_store (p := 2) rfl ?_); (refine ev_put #[.int .i64 0, .slice none 0 0] rfl 24 (.tmp 2) (.tmp 100) rfl g2 24 _ rfl rfl C9 sizeS rfl rfl ?_); intro wf Bq hqf hzf; have z0 := Bq.cell 0 rfl; have z1 := Bq.cell 1 rfl))
                      refine bodyPost_ret (v := .tuple #[.agg #[.int .i64 0, .slice none 0 0], .int .i64 4]) (by simp [results, Tryd.results17, go_sem, z0, z1]) rfl ⟨by rw [HP.out]; exact RetA.none _ _, below_grown X9 (X9).size hqf (fun k e => by have := Option.some.inj e; have := eg2.out; omega)⟩
                    case true =>
                      obtain ⟨hf1, hf2⟩ := Hfs.out rfl
                      dsimp only at hf1 hf2
                      rw [hf1] at hRR
                      have hfo := Hfl.out (by simp)
                      rw [hf1] at hfo
                      simp only [if_true] at hRR
                      have HRN := Lib.hid hRR.out
                      have HFO := Lib.hid hfo
                      clear hRR hf1 hf2 hfo
                      go_wp2_with (go_at_call 62; refine (HDS.out _ hRD).mono ?_; rintro e w9 ⟨rfl, b9⟩; have C9 := C2.below b9; have X9 := below2 HX b9)
                      go_roundw
                      case rel => exact ⟨⟨D1, D2, true, done, lst⟩, p + 8 + (n + m2), hpn, rfl, rfl, rfl, by go_num, hO.below b9, ⟨HFO.out, fun h => (by cases h)⟩, HRN, below2 hB b9⟩
                      case measure => simp [intOf]; omega
                case neg =>
                  by_cases hd : rest.take 4 = nData
                  case neg =>
                    have hnb : Bytes (rest.take 4) := HBR.out.take 4
                    have heF := ba_ne NM [102, 109, 116, 32] (fun e => hf ((strOfNums_inj hnb (by intro x hx; simp [nFmt] at hx; omega)).1 (hnm.out.trans (e.trans (show _ = strOfNums nFmt from rfl)))))
                    have heD := ba_ne NM [100, 97, 116, 97] (fun e => hd ((strOfNums_inj hnb (by intro x hx; simp [nData] at hx; omega)).1 (hnm.out.trans (e.trans (show _ = strOfNums nData from rfl)))))
                    have h1 : lookE ⟨ch, rate, known, done, lst⟩ (rest.take 4, body, false) = 0 := by simp [lookE, hf, hd]
                    have h2 : lookS ⟨ch, rate, known, done, lst⟩ (rest.take 4, body, false) = ⟨ch, rate, known, done, lst⟩ := by simp [lookS, hf, hd]
                    rw [h1, h2, if_pos rfl] at hRR
                    clear h1 h2 hf hd hnb
                    go_wp2_with fail
                    go_roundw
                    case rel => exact ⟨⟨ch, rate, known, done, lst⟩, p + 8 + (n + m2), hpn, rfl, rfl, rfl, by go_num, hO, HKK.out, hRR, hB⟩
                    case measure => simp [intOf]; omega
                  case pos =>
                    have hnb : Bytes (rest.take 4) := HBR.out.take 4
                    have heF := ba_ne NM [102, 109, 116, 32] (fun e => hf ((strOfNums_inj hnb (by intro x hx; simp [nFmt] at hx; omega)).1 (hnm.out.trans (e.trans (show _ = strOfNums nFmt from rfl)))))
                    have heD : (NM.toList == [100, 97, 116, 97]) = true := by rw [← hnm.out, hd]; exact ba_nums _ _ rfl
                    have h1 : lookE ⟨ch, rate, known, done, lst⟩ (rest.take 4, body, false) = dataE ⟨ch, rate, known, done, lst⟩ body := by rw [hd]; rfl
                    have h2 : lookS ⟨ch, rate, known, done, lst⟩ (rest.take 4, body, false) = dataS ⟨ch, rate, known, done, lst⟩ body := by rw [hd]; rfl
                    have hfl := fun he => HKK.out.file.look (nm := rest.take 4) (b := body) (bad := false) (by rw [Hbl.out]; omega) he
                    rw [h1, h2] at hRR hfl
                    clear h1 h2 hf hd hnb
                    cases done
                    case true =>
                      have hde : dataE ⟨ch, rate, known, true, lst⟩ body = 4 := by simp [dataE]
                      rw [hde] at hRR
                      have HP := Lib.hid (show readS b = (0, [], 4) by rw [HRS.out, ← hRR.out]; simp)
                      clear hRR hde hfl
                      go_wp2_with ((with_reducible refine at_store (p := 2) rfl ?_); (refine ev_put #[.int .i64 0, .slice none 0 0] rfl 24 (.tmp 2) (.tmp 115) rfl g2 24 _ rfl rfl C2 sizeS rfl rfl ?_); intro wf Bq hqf hzf; have z0 := Bq.cell 0 rfl; have z1 := Bq.cell 1 rfl)
                      refine bodyPost_ret (v := .tuple #[.agg #[.int .i64 0, .slice none 0 0], .int .i64 4]) (by simp [results, Tryd.results17, go_sem, z0, z1]) rfl ⟨by rw [HP.out]; exact RetA.none _ _, below_grown HX (HX).size hqf (fun k e => by have := Option.some.inj e; have := eg2.out; omega)⟩
                    case false =>
                      cases known
                      case false =>
                        have hch0 : ch = 0 := HKK.out.ch rfl
                        subst hch0
                        have hde : dataE ⟨0, rate, false, false, lst⟩ body = 4 := by simp [dataE]
                        rw [hde] at hRR
                        have HP := Lib.hid (show readS b = (0, [], 4) by rw [HRS.out, ← hRR.out]; simp)
                        clear hRR hde hfl
                        go_wp2_with ((with_reducible refine at_store (p := 2) rfl ?_); (refine ev_put #[.int .i64 0, .slice none 0 0] rfl 24 (.tmp 2) (.tmp 115) rfl g2 24 _ rfl rfl C2 sizeS rfl rfl ?_); intro wf Bq hqf hzf; have z0 := Bq.cell 0 rfl; have z1 := Bq.cell 1 rfl)
                        refine bodyPost_ret (v := .tuple #[.agg #[.int .i64 0, .slice none 0 0], .int .i64 4]) (by simp [results, Tryd.results17, go_sem, z0, z1]) rfl ⟨by rw [HP.out]; exact RetA.none _ _, below_grown HX (HX).size hqf (fun k e => by have := Option.some.inj e; have := eg2.out; omega)⟩
                      case true =>
                        have hlst : lst = [] := HKK.out.file.none rfl
                        have hcc : ch = 1 ∨ ch = 2 := HKK.out.file.ch rfl
                        have hchb : (ch == 0) = false := by rcases hcc with h | h <;> (rw [h]; rfl)
                        obtain ⟨Q, hQ, hQ2⟩ : ∃ Q : Nat, (Q : Int) = 2 * ch ∧ (Q = 2 ∨ Q = 4) := by rcases hcc with h | h; exact ⟨2, by rw [h]; rfl, .inl rfl⟩; exact ⟨4, by rw [h]; rfl, .inr rfl⟩
                        have hmul2 : IntKind.i64.wrap (2 * ch) = (Q : Int) := (IntWalk.i64_in _ (by omega)).trans hQ.symm
                        have hQ0 : ¬ (Q : Int) = 0 := by omega
                        have hQn : ¬ Q = 0 := by omega
                        obtain ⟨r4, hr4⟩ : ∃ r4, n % Q = r4 := ⟨_, rfl⟩
                        obtain ⟨q4, hq4⟩ : ∃ q4, n / Q = q4 := ⟨_, rfl⟩
                        have htm : Int.tmod (n : Int) (Q : Int) = (r4 : Int) := by rw [← hr4, Int.tmod_eq_emod_of_nonneg (by omega)]; simp
                        have htd : Int.tdiv (n : Int) (Q : Int) = (q4 : Int) := by rw [← hq4, Int.tdiv_eq_ediv_of_nonneg (by omega)]; simp
                        obtain ⟨qi, hqq⟩ : ∃ qi : Int, (q4 : Int) = qi := ⟨_, rfl⟩
                        rw [hqq] at htd
                        have hqb : q4 ≤ n := by rw [← hq4]; exact Nat.div_le_self _ _
                        have hwq : IntKind.i64.wrap qi = qi := IntWalk.i64_in _ (by omega)
                        have hwt : IntKind.i64.wrap (Int.tdiv (n : Int) (Q : Int)) = qi := by rw [htd]; exact hwq
                        have hem : (n : Int) % (2 * ch) = (r4 : Int) := by rw [← hQ, ← hr4]; simp
                        have hed : (n : Int) / (2 * ch) = qi := by rw [← hqq, ← hQ, ← hq4]; simp
                        have hev : r4 = 0 → n % 2 = 0 := by rcases hQ2 with h | h <;> (rw [h] at hr4; omega)
                        have HEM := Lib.hid hem
                        have HED := Lib.hid hed
                        have HEV := Lib.hid hev
                        have HCC := Lib.hid hcc
                        have HM2 := Lib.hid hm2
                        clear hr4 hq4 hm2 hcc hQ hQ2 hem hed hev hqq hqb
                        by_cases hz : 0 < r4
                        · have hzi : (0 : Int) < (r4 : Int) := by omega
                          have hde : dataE ⟨ch, rate, true, false, lst⟩ body = 4 := by unfold dataE; rw [if_pos (.inr (.inr (by rw [Hbl.out]; show ¬ (n : Int) % (2 * ch) = 0; rw [HEM.out]; omega)))]
                          rw [hde] at hRR
                          have HP := Lib.hid (show readS b = (0, [], 4) by rw [HRS.out, ← hRR.out]; simp)
                          clear hRR hde hfl
                          go_wp2_with ((with_reducible refine at_store (p := 2) rfl ?_); (refine ev_put #[.int .i64 0, .slice none 0 0] rfl 24 (.tmp 2) (.tmp 115) rfl g2 24 _ rfl rfl C2 sizeS rfl rfl ?_); intro wf Bq hqf hzf; have z0 := Bq.cell 0 rfl; have z1 := Bq.cell 1 rfl)
                          refine bodyPost_ret (v := .tuple #[.agg #[.int .i64 0, .slice none 0 0], .int .i64 4]) (by simp [results, Tryd.results17, go_sem, z0, z1]) rfl ⟨by rw [HP.out]; exact RetA.none _ _, below_grown HX (HX).size hqf (fun k e => by have := Option.some.inj e; have := eg2.out; omega)⟩
                        have hzi : ¬ (0 : Int) < (r4 : Int) := by omega
                        have hnd : ¬ (false = true ∨ true = false ∨ (body.length : Int) % (2 * ch) ≠ 0) := by rw [Hbl.out, HEM.out]; simp; omega
                        have HND := Lib.hid hnd
                        have hr0 : r4 = 0 := by omega
                        clear hnd hz hzi
                        subst hr0
                        replace htm : Int.tmod (n : Int) (Q : Int) = 0 := htm
                        by_cases hqi : 8192 < qi
                        · skip
                          have hde : dataE ⟨ch, rate, true, false, lst⟩ body = 2 := by unfold dataE; rw [if_neg HND.out, if_pos (by rw [Hbl.out]; show 8192 < (n : Int) / (2 * ch); rw [HED.out]; omega)]
                          rw [hde] at hRR
                          have HP := Lib.hid (show readS b = (0, [], 2) by rw [HRS.out, ← hRR.out]; simp)
                          clear hRR hde hfl
                          go_wp2_with ((with_reducible refine at_store (p := 2) rfl ?_); (refine ev_put #[.int .i64 0, .slice none 0 0] rfl 24 (.tmp 2) (.tmp 121) rfl g2 24 _ rfl rfl C2 sizeS rfl rfl ?_); intro wf Bq hqf hzf; have z0 := Bq.cell 0 rfl; have z1 := Bq.cell 1 rfl)
                          refine bodyPost_ret (v := .tuple #[.agg #[.int .i64 0, .slice none 0 0], .int .i64 2]) (by simp [results, Tryd.results17, go_sem, z0, z1]) rfl ⟨by rw [HP.out]; exact RetA.none _ _, below_grown HX (HX).size hqf (fun k e => by have := Option.some.inj e; have := eg2.out; omega)⟩
                        have hde : dataE ⟨ch, rate, true, false, lst⟩ body = 0 := by unfold dataE; rw [if_neg HND.out, if_neg (by rw [Hbl.out]; show ¬ 8192 < (n : Int) / (2 * ch); rw [HED.out]; omega)]
                        have hfo := hfl hde
                        have hds : dataS ⟨ch, rate, true, false, lst⟩ body = ⟨ch, rate, true, true, lst ++ dataL body (body.length / 2)⟩ := by unfold dataS; rw [if_pos hde]
                        rw [hde, hds, if_pos rfl] at hRR
                        rw [hds] at hfo
                        have HFO := Lib.hid hfo
                        have HRN := Lib.hid hRR.out
                        clear hRR hfo hds hde hfl
                        obtain ⟨h2, hh2⟩ : ∃ h2, n = 2 * h2 := ⟨n / 2, by have := HEV.out (by omega); omega⟩
                        have HH2 := Lib.hid hh2
                        have hll : lst.length = 0 := by rw [hlst]; rfl
                        clear hh2 hlst
                        go_wp2_with fail
                        go_loopw [7, 13] (fun u i wq => ∃ j : Nat, j ≤ h2 ∧ i = .int .i64 ((2 * j : Nat) : Int) ∧ OwnI 3 .i64 w4.heap.size wq u (lst ++ dataL body j) ∧ Below w4.heap.size w4 wq) (fun _ i _ => n - (intOf i).toNat)
                        case atStart => exact ⟨0, Nat.zero_le _, rfl, by simpa [dataL] using hO, hB⟩
                        case round =>
                          clear hO
                          obtain ⟨j, hj, rfl, hO, hq9⟩ := hrel
                          by_cases hjl : j < h2
                          · have hn2 := HH2.out
                            obtain ⟨jj, hjj⟩ : ∃ jj, 2 * j = jj := ⟨_, rfl⟩
                            rw [hjj]
                            have hij : (jj : Int) < (n : Int) := by omega
                            have hRq2 := hR.below (below2 b2 hq9)
                            have hRq := HBD.out _ hRq2
                            have hlb := hRq.le
                            rw [Hbl.out] at hlb
                            obtain ⟨N4, hcutP, hslP⟩ := cut_mid (P := Tryd.prog) 25 5 Tryd.underlying25 hi0 N3 n (c - (p + 8)) jj (jj + 2) (by omega) (by omega) hlb
                            rw [show ((jj + 2 : Nat) : Int) = (jj : Int) + 2 by omega, show jj + 2 - jj = 2 by omega] at hcutP
                            obtain ⟨cp, hcp⟩ : ∃ cp, c - (p + 8) - jj = cp := ⟨_, rfl⟩
                            rw [hcp] at hcutP
                            have hw2 : IntKind.i64.wrap ((jj : Int) + 2) = (jj : Int) + 2 := IntWalk.i64_in _ (by omega)
                            have hpr := hslP (kInt .u8) AnyB wr body hz1.symm Hbl.out hRq
                            rw [hcp, show (body.take (jj + 2)).drop jj = pairL body j by unfold pairL; rw [hjj]] at hpr
                            have hpb : Bytes (pairL body j) := (HBB.out.take _).drop _
                            have hpl : (pairL body j).length = 2 := by unfold pairL; rw [List.length_drop, List.length_take, Hbl.out]; omega
                            have hpv := refValue_any N4 cp (pairL body j) wr hpr hpb (by omega)
                            have hpn2 := numB_nonneg _ hpb
                            rw [hpl] at hpv hpn2
                            have hsn := dataL_snoc body j
                            obtain ⟨v, hv⟩ : ∃ v, numB (pairL body j) = v := ⟨_, rfl⟩
                            rw [hv] at hpv hpn2 hsn
                            have hvr : 0 ≤ v ∧ v < 65536 := hpn2
                            have HPV := Lib.hid hpv
                            have hlen8 : ((lst ++ dataL body j).length + 1) * 8 ≤ 140737488355328 := by rw [List.length_append, dataL_length]; omega
                            have hbase : w4.heap.size ≤ wr.heap.size := hq9.size
                            have HJJ := Lib.hid hjj
                            clear hslP hpr hpb hpl hpv hpn2 hv hRq hlb hcp hjj hn2
                            by_cases hvb : 32767 < v
                            · rw [i16_hi hvb hvr.2] at hsn
                              have hwv : IntKind.i64.wrap (v - 65536) = v - 65536 := IntWalk.i64_in _ (by omega)
                              have HSN := Lib.hid hsn
                              clear hsn
                              go_wp2_with (first | (go_at_call 61; refine HPV.out.mono ?_; rintro e w8 ⟨rfl, hw8⟩; subst hw8) | (at_builtin; refine append_one (w0 := w4) w4.heap.size rfl (.tmp 137) (.tmp 139) 36 3 .i64 8 rfl Tryd.underlying36 infoI (by decide) _ _ _ rfl rfl hO hq9 hbase hlen8 ?_; intro v1 w10 hO1 hB1 hg1 ha1))
                              rw [List.append_assoc, ← HSN.out] at hO1
                              go_roundw
                              case rel => exact ⟨j + 1, by omega, by have := HJJ.out; congr 1; omega, hO1, hB1⟩
                              case measure => have := HJJ.out; have := HH2.out; simp [intOf]; omega
                            · rw [i16_lo hvb hvr.1] at hsn
                              have hv3 : decide (32767 < v) = false := decide_eq_false hvb
                              have HSN := Lib.hid hsn
                              clear hsn
                              go_wp2_with (first | (go_at_call 61; refine HPV.out.mono ?_; rintro e w8 ⟨rfl, hw8⟩; subst hw8) | (at_builtin; refine append_one (w0 := w4) w4.heap.size rfl (.tmp 137) (.tmp 139) 36 3 .i64 8 rfl Tryd.underlying36 infoI (by decide) _ _ _ rfl rfl hO hq9 hbase hlen8 ?_; intro v1 w10 hO1 hB1 hg1 ha1))
                              rw [List.append_assoc, ← HSN.out] at hO1
                              go_roundw
                              case rel => exact ⟨j + 1, by omega, by have := HJJ.out; congr 1; omega, hO1, hB1⟩
                              case measure => have := HJJ.out; have := HH2.out; simp [intOf]; omega
                          · obtain rfl : j = h2 := by omega
                            have hn2 := HH2.out
                            obtain ⟨jj, hjj⟩ : ∃ jj, 2 * j = jj := ⟨_, rfl⟩
                            rw [hjj]
                            have hij : ¬ (jj : Int) < (n : Int) := by omega
                            clear hjj
                            have hb2 : body.length / 2 = j := by rw [Hbl.out]; omega
                            rw [hb2] at HRN HFO
                            clear hn2 hb2
                            go_wp2_with fail
                            go_roundw
                            case rel => exact ⟨⟨ch, rate, true, true, lst ++ dataL body j⟩, p + 8 + (n + m2), hpn, rfl, rfl, rfl, by go_num, hO, ⟨HFO.out, fun h => (by cases h)⟩, HRN, hq9⟩
                            case measure => simp [intOf]; omega
end Go.Proofs.YtijcecakofmhcaaDoor
