/- The document's answer, layer 2: described. -/
import Derived.Test.YtijcecakofmhcaaDoorPcmRefN
import Derived.Test.YtijcecakofmhcaaDoorPcmPlainB
import Derived.Test.YtijcecakofmhcaaDoorHeld
namespace Go.Proofs.YtijcecakofmhcaaDoor
open Go.RowKit

/-- What a chunk of the form says. -/
def descS (b : List Int) : Int × Int × Bool :=
  if b.length ≠ 16 then (0, 0, false) else if fmtCh b < 1 ∨ 2 < fmtCh b ∨ isRateB (fmtRate b) = false ∨ fmtB (fmtCh b) (fmtRate b) ≠ b then (0, 0, false) else (fmtCh b, fmtRate b, true)
theorem str_list_b (x y : ByteArray) : (x.toList == y.toList) = decide (x = y) := by
  by_cases e : x = y
  · rw [e]; simp
  · rw [decide_eq_false e, ba_toList, ba_toList]
    refine beq_eq_false_iff_ne.2 fun h => e ?_
    cases x
    cases y
    congr 1
    exact Array.toList_inj.1 h
theorem fmtB_bytes (ch rate : Int) : Bytes (fmtB ch rate) :=
  (leB_bytes _ _).app ((leB_bytes _ _).app ((leB_bytes _ _).app ((leB_bytes _ _).app ((leB_bytes _ _).app (leB_bytes _ _)))))

set_option maxHeartbeats 2000000 in
set_option maxRecDepth 100000 in
theorem refDescribed_any (A : Option Addr) (c : Nat) (b : List Int) (w : World) (hR : RY w A c b) (hb : Bytes b) :
    Calls Tryd.prog 62 #[.slice A b.length c] w fun e w' => e = .returned (.tuple #[.int .i64 (descS b).1, .int .i64 (descS b).2.1, .bool (descS b).2.2]) ∧ Below w.heap.size w w' := by
  have hle := hR.le
  have hcap := hR.cap
  by_cases h16 : b.length = 16
  · have HE := Lib.hid (show descS b = if fmtCh b < 1 ∨ 2 < fmtCh b ∨ isRateB (fmtRate b) = false ∨ fmtB (fmtCh b) (fmtRate b) ≠ b then (0, 0, false) else (fmtCh b, fmtRate b, true) by simp [descS, h16])
    obtain ⟨i0, hi0, hz0, hz1, hz2⟩ := info_parts infoY
    obtain ⟨A1, hcut1, hsl1⟩ := cut_mid (P := Tryd.prog) 25 5 Tryd.underlying25 hi0 A b.length c 2 4 (by omega) (by omega) hle
    obtain ⟨A2, hcut2, hsl2⟩ := cut_mid (P := Tryd.prog) 25 5 Tryd.underlying25 hi0 A b.length c 4 8 (by omega) (by omega) hle
    rw [h16] at hcut1 hcut2 hle
    replace hcut1 : ∀ W : World, (Instr.slice 25 (.slice A 16 c) (some (.int .i64 2)) (some (.int .i64 4)) none).run Tryd.prog W = .ok (.slice A1 2 (c - 2)) W := hcut1
    replace hcut2 : ∀ W : World, (Instr.slice 25 (.slice A 16 c) (some (.int .i64 4)) (some (.int .i64 8)) none).run Tryd.prog W = .ok (.slice A2 4 (c - 4)) W := hcut2
    have hR1 := hsl1 (kInt .u8) AnyB w b hz1.symm rfl hR
    have hR2 := hsl2 (kInt .u8) AnyB w b hz1.symm rfl hR
    have hl1 : ((b.take 4).drop 2).length = 2 := by rw [List.length_drop, List.length_take]; omega
    have hl2 : ((b.take 8).drop 4).length = 4 := by rw [List.length_drop, List.length_take]; omega
    have hb1 : Bytes ((b.take 4).drop 2) := (hb.take 4).drop 2
    have hb2 : Bytes ((b.take 8).drop 4) := (hb.take 8).drop 4
    have hn1 := refValue_any A1 (c - 2) ((b.take 4).drop 2) w.drew (hR1.below (Below.refl _ _).drew) hb1 (by omega)
    have hn2 := refValue_any A2 (c - 4) ((b.take 8).drop 4) w.drew (hR2.below (Below.refl _ _).drew) hb2 (by omega)
    have hp1 := numB_nonneg _ hb1
    have hp2 := numB_nonneg _ hb2
    rw [hl1] at hn1 hp1
    rw [hl2] at hn2 hp2
    obtain ⟨C, hC⟩ : ∃ C, fmtCh b = C := ⟨_, rfl⟩
    obtain ⟨R, hRt⟩ : ∃ R, fmtRate b = R := ⟨_, rfl⟩
    rw [show numB ((b.take 4).drop 2) = C from hC] at hn1 hp1
    rw [show numB ((b.take 8).drop 4) = R from hRt] at hn2 hp2
    rw [hC, hRt] at HE
    have HN1 := Lib.hid hn1
    have HN2 := Lib.hid hn2
    have hlt : ∀ l : Option Addr, True := fun _ => trivial
    clear hC hRt hn1 hn2 hb1 hb2 hl1 hl2 hR1 hR2 hsl1 hsl2 hlt
    have HB16 := Lib.hid h16
    have HRW := Lib.hid (hR.below (Below.refl w.heap.size w).drew)
    have hSTR := fun (W : World) (h : RY W A c b) => conv_str (src := 25) (dst := 9) (c := c) Tryd.underlying25 Tryd.underlying5 Tryd.underlying9 h
    rw [h16] at hSTR ⊢
    clear h16
    have HSTR := Lib.hid hSTR
    clear hSTR
    obtain ⟨SB, hSB⟩ : ∃ SB, strOfNums b = SB := ⟨_, rfl⟩
    have HSB := Lib.hid hSB
    rw [hSB] at HSTR
    clear hSB
    go_enter Tryd.func62, Tryd.ntmps62
    go_wp2_with fail
    have BX := (Below.refl w.heap.size w).drew
    refine wp_region_G 7 (fun W => RY W A c b) (by kernel_rfl) HRW.out (fun hHeld => ?_)
    refine wpAnyG_takeL (i := 0) (.slice A 16 c) [7] rfl (by kernel_rfl) (fun _ _ _ h => h) hHeld (by rfl) ?_ ?_
    · (intro W hSw; (try dsimp only at hSw); go_simp)
    try simp only [Act.put, List.setIfInBounds_toArray, List.set_cons_zero, List.set_cons_succ]
    refine wpAnyG_takeL (i := 1) (.slice A1 2 (c - 2)) [7] rfl (by kernel_rfl) (fun _ _ _ h => h) hHeld (by rfl) ?_ ?_
    · (intro W hSw; (try dsimp only at hSw); go_simp)
    try simp only [Act.put, List.setIfInBounds_toArray, List.set_cons_zero, List.set_cons_succ]
    refine wpAnyG_takeL (i := 3) (.slice A 16 c) [7] rfl (by kernel_rfl) (fun _ _ _ h => h) hHeld (by rfl) ?_ ?_
    · (intro W hSw; (try dsimp only at hSw); go_simp)
    try simp only [Act.put, List.setIfInBounds_toArray, List.set_cons_zero, List.set_cons_succ]
    refine wpAnyG_takeL (i := 4) (.slice A2 4 (c - 4)) [7] rfl (by kernel_rfl) (fun _ _ _ h => h) hHeld (by rfl) ?_ ?_
    · (intro W hSw; (try dsimp only at hSw); go_simp)
    try simp only [Act.put, List.setIfInBounds_toArray, List.set_cons_zero, List.set_cons_succ]
    refine wpAnyG_oneL (i := 2) (by kernel_rfl) rfl (fun K hK => ?_)
    (go_simp; go_at_call 61; (with_reducible refine HN1.out.mono ?_); rintro e w' ⟨rfl, rfl⟩)
    clear hHeld
    have hHeld := HRW.out
    refine hK.out _ _ (fun _ => hHeld) ?_
    clear hK K
    try simp only [Act.put, List.setIfInBounds_toArray, List.set_cons_zero, List.set_cons_succ]
    refine wpAnyG_oneL (i := 5) (by kernel_rfl) rfl (fun K hK => ?_)
    (go_simp; go_at_call 61; (with_reducible refine HN2.out.mono ?_); rintro e w' ⟨rfl, rfl⟩)
    clear hHeld
    have hHeld := HRW.out
    refine hK.out _ _ (fun _ => hHeld) ?_
    clear hK K
    try simp only [Act.put, List.setIfInBounds_toArray, List.set_cons_zero, List.set_cons_succ]
    refine wpAnyG_takeL (i := 6) (.int .i64 C) [7] rfl (by kernel_rfl) (fun _ _ _ h => h) hHeld (by rfl) ?_ ?_
    · (intro W hSw; (try dsimp only at hSw); go_simp)
    try simp only [Act.put, List.setIfInBounds_toArray, List.set_cons_zero, List.set_cons_succ]
    refine wpAnyG_oneL (i := 7) (by kernel_rfl) rfl (fun K hK => ?_)
    go_simp
    refine hK.out _ _ (fun h => Bool.noConfusion (show true = false from h)) ?_
    clear hK K
    try simp only [Act.put, List.setIfInBounds_toArray, List.set_cons_zero, List.set_cons_succ]
    refine wpAnyG_done (by kernel_rfl) ?_ _
    generalize w.drew = W1 at BX HRW HN1 HN2 ⊢
    clear HN1 HN2
    go_wp2_with fail
    by_cases hc1 : C < 1
    · have HP := Lib.hid (HE.out.trans (if_pos (.inl hc1)))
      have D0 := (Below.refl W1.heap.size W1).drew
      have hHeld0 := HRW.out.below D0
      refine wp_region_G 19 (fun W => RY W A c b) (by kernel_rfl) hHeld0 (fun hHeld => ?_)
      refine wpAnyG_takeL (i := 0) (.int .i64 C) [1, 2, 5, 6, 10, 11, 19] rfl (by kernel_rfl) (fun _ _ _ h => h) hHeld (by rfl) ?_ ?_
      · (intro W hSw; (try dsimp only at hSw); go_simp)
      try simp only [Act.put, List.setIfInBounds_toArray, List.set_cons_zero, List.set_cons_succ]
      refine wpAnyG_takeL (i := 1) (.bool true) [2, 5, 6, 10, 11, 19] rfl (by kernel_rfl) (fun _ _ _ h => h) hHeld (by rfl) ?_ ?_
      · (intro W hSw; (try dsimp only at hSw); go_simp)
      try simp only [Act.put, List.setIfInBounds_toArray, List.set_cons_zero, List.set_cons_succ]
      refine wpAnyG_takeL (i := 2) (.bool true) [5, 6, 10, 11, 19] rfl (by kernel_rfl) (fun _ _ _ h => h) hHeld (by rfl) ?_ ?_
      · (intro W hSw; (try dsimp only at hSw); go_simp)
      try simp only [Act.put, List.setIfInBounds_toArray, List.set_cons_zero, List.set_cons_succ]
      refine wpAnyG_dropL (i := 3) [4, 5, 6, 10, 11, 19] rfl (by kernel_rfl) (fun _ _ _ h => h) hHeld (by rfl) ?_
      try simp only [Act.put, List.setIfInBounds_toArray, List.set_cons_zero, List.set_cons_succ]
      refine wpAnyG_dropL (i := 4) [5, 6, 10, 11, 19] rfl (by kernel_rfl) (fun _ _ _ h => h) hHeld (by rfl) ?_
      try simp only [Act.put, List.setIfInBounds_toArray, List.set_cons_zero, List.set_cons_succ]
      refine wpAnyG_takeL (i := 5) (.bool true) [6, 10, 11, 19] rfl (by kernel_rfl) (fun _ _ _ h => h) hHeld (by rfl) ?_ ?_
      · (intro W hSw; (try dsimp only at hSw); go_simp)
      try simp only [Act.put, List.setIfInBounds_toArray, List.set_cons_zero, List.set_cons_succ]
      refine wpAnyG_takeL (i := 6) (.bool true) [10, 11, 19] rfl (by kernel_rfl) (fun _ _ _ h => h) hHeld (by rfl) ?_ ?_
      · (intro W hSw; (try dsimp only at hSw); go_simp)
      try simp only [Act.put, List.setIfInBounds_toArray, List.set_cons_zero, List.set_cons_succ]
      refine wpAnyG_dropL (i := 7) [8, 9, 10, 11, 19] rfl (by kernel_rfl) (fun _ _ _ h => h) hHeld (by rfl) ?_
      try simp only [Act.put, List.setIfInBounds_toArray, List.set_cons_zero, List.set_cons_succ]
      refine wpAnyG_dropL (i := 8) [9, 10, 11, 19] rfl (by kernel_rfl) (fun _ _ _ h => h) hHeld (by rfl) ?_
      try simp only [Act.put, List.setIfInBounds_toArray, List.set_cons_zero, List.set_cons_succ]
      refine wpAnyG_dropL (i := 9) [10, 11, 19] rfl (by kernel_rfl) (fun _ _ _ h => h) hHeld (by rfl) ?_
      try simp only [Act.put, List.setIfInBounds_toArray, List.set_cons_zero, List.set_cons_succ]
      refine wpAnyG_takeL (i := 10) (.bool true) [11, 19] rfl (by kernel_rfl) (fun _ _ _ h => h) hHeld (by rfl) ?_ ?_
      · (intro W hSw; (try dsimp only at hSw); go_simp)
      try simp only [Act.put, List.setIfInBounds_toArray, List.set_cons_zero, List.set_cons_succ]
      refine wpAnyG_takeL (i := 11) (.bool true) [19] rfl (by kernel_rfl) (fun _ _ _ h => h) hHeld (by rfl) ?_ ?_
      · (intro W hSw; (try dsimp only at hSw); go_simp)
      try simp only [Act.put, List.setIfInBounds_toArray, List.set_cons_zero, List.set_cons_succ]
      refine wpAnyG_dropL (i := 12) [13, 18, 19] rfl (by kernel_rfl) (fun _ _ _ h => h) hHeld (by rfl) ?_
      try simp only [Act.put, List.setIfInBounds_toArray, List.set_cons_zero, List.set_cons_succ]
      refine wpAnyG_dropL (i := 13) [18, 19] rfl (by kernel_rfl) (fun _ _ _ h => h) hHeld (by rfl) ?_
      try simp only [Act.put, List.setIfInBounds_toArray, List.set_cons_zero, List.set_cons_succ]
      refine wpAnyG_dropL (i := 14) [16, 17, 18, 19] rfl (by kernel_rfl) (fun _ _ _ h => h) hHeld (by rfl) ?_
      try simp only [Act.put, List.setIfInBounds_toArray, List.set_cons_zero, List.set_cons_succ]
      refine wpAnyG_dropL (i := 15) [16, 17, 18, 19] rfl (by kernel_rfl) (fun _ _ _ h => h) hHeld (by rfl) ?_
      try simp only [Act.put, List.setIfInBounds_toArray, List.set_cons_zero, List.set_cons_succ]
      refine wpAnyG_dropL (i := 16) [17, 18, 19] rfl (by kernel_rfl) (fun _ _ _ h => h) hHeld (by rfl) ?_
      try simp only [Act.put, List.setIfInBounds_toArray, List.set_cons_zero, List.set_cons_succ]
      refine wpAnyG_dropL (i := 17) [18, 19] rfl (by kernel_rfl) (fun _ _ _ h => h) hHeld (by rfl) ?_
      try simp only [Act.put, List.setIfInBounds_toArray, List.set_cons_zero, List.set_cons_succ]
      refine wpAnyG_dropL (i := 18) [19] rfl (by kernel_rfl) (fun _ _ _ h => h) hHeld (by rfl) ?_
      try simp only [Act.put, List.setIfInBounds_toArray, List.set_cons_zero, List.set_cons_succ]
      refine wpAnyG_oneL (i := 19) (by kernel_rfl) rfl (fun K hK => ?_)
      go_simp
      refine hK.out _ _ (fun h => Bool.noConfusion (show true = false from h)) ?_
      clear hK K
      try simp only [Act.put, List.setIfInBounds_toArray, List.set_cons_zero, List.set_cons_succ]
      refine wpAnyG_done (by kernel_rfl) ?_ _
      go_wp2_with fail
      refine bodyPost_ret (v := .tuple #[.int .i64 0, .int .i64 0, .bool false]) (by simp [results, Tryd.results62, go_sem]) rfl ⟨by rw [HP.out], below2 BX D0⟩
    by_cases hc2 : 2 < C
    · have HP := Lib.hid (HE.out.trans (if_pos (.inr (.inl hc2))))
      have D0 := (Below.refl W1.heap.size W1).drew
      have hHeld0 := HRW.out.below D0
      refine wp_region_G 19 (fun W => RY W A c b) (by kernel_rfl) hHeld0 (fun hHeld => ?_)
      refine wpAnyG_takeL (i := 0) (.int .i64 C) [1, 2, 5, 6, 10, 11, 19] rfl (by kernel_rfl) (fun _ _ _ h => h) hHeld (by rfl) ?_ ?_
      · (intro W hSw; (try dsimp only at hSw); go_simp)
      try simp only [Act.put, List.setIfInBounds_toArray, List.set_cons_zero, List.set_cons_succ]
      refine wpAnyG_takeL (i := 1) (.bool false) [2, 5, 6, 10, 11, 19] rfl (by kernel_rfl) (fun _ _ _ h => h) hHeld (by rfl) ?_ ?_
      · (intro W hSw; (try dsimp only at hSw); go_simp)
      try simp only [Act.put, List.setIfInBounds_toArray, List.set_cons_zero, List.set_cons_succ]
      refine wpAnyG_takeL (i := 2) (.bool false) [5, 6, 10, 11, 19] rfl (by kernel_rfl) (fun _ _ _ h => h) hHeld (by rfl) ?_ ?_
      · (intro W hSw; (try dsimp only at hSw); go_simp)
      try simp only [Act.put, List.setIfInBounds_toArray, List.set_cons_zero, List.set_cons_succ]
      refine wpAnyG_takeL (i := 3) (.int .i64 C) [4, 5, 6, 10, 11, 19] rfl (by kernel_rfl) (fun _ _ _ h => h) hHeld (by rfl) ?_ ?_
      · (intro W hSw; (try dsimp only at hSw); go_simp)
      try simp only [Act.put, List.setIfInBounds_toArray, List.set_cons_zero, List.set_cons_succ]
      refine wpAnyG_takeL (i := 4) (.bool true) [5, 6, 10, 11, 19] rfl (by kernel_rfl) (fun _ _ _ h => h) hHeld (by rfl) ?_ ?_
      · (intro W hSw; (try dsimp only at hSw); go_simp)
      try simp only [Act.put, List.setIfInBounds_toArray, List.set_cons_zero, List.set_cons_succ]
      refine wpAnyG_takeL (i := 5) (.bool true) [6, 10, 11, 19] rfl (by kernel_rfl) (fun _ _ _ h => h) hHeld (by rfl) ?_ ?_
      · (intro W hSw; (try dsimp only at hSw); go_simp)
      try simp only [Act.put, List.setIfInBounds_toArray, List.set_cons_zero, List.set_cons_succ]
      refine wpAnyG_takeL (i := 6) (.bool true) [10, 11, 19] rfl (by kernel_rfl) (fun _ _ _ h => h) hHeld (by rfl) ?_ ?_
      · (intro W hSw; (try dsimp only at hSw); go_simp)
      try simp only [Act.put, List.setIfInBounds_toArray, List.set_cons_zero, List.set_cons_succ]
      refine wpAnyG_dropL (i := 7) [8, 9, 10, 11, 19] rfl (by kernel_rfl) (fun _ _ _ h => h) hHeld (by rfl) ?_
      try simp only [Act.put, List.setIfInBounds_toArray, List.set_cons_zero, List.set_cons_succ]
      refine wpAnyG_dropL (i := 8) [9, 10, 11, 19] rfl (by kernel_rfl) (fun _ _ _ h => h) hHeld (by rfl) ?_
      try simp only [Act.put, List.setIfInBounds_toArray, List.set_cons_zero, List.set_cons_succ]
      refine wpAnyG_dropL (i := 9) [10, 11, 19] rfl (by kernel_rfl) (fun _ _ _ h => h) hHeld (by rfl) ?_
      try simp only [Act.put, List.setIfInBounds_toArray, List.set_cons_zero, List.set_cons_succ]
      refine wpAnyG_takeL (i := 10) (.bool true) [11, 19] rfl (by kernel_rfl) (fun _ _ _ h => h) hHeld (by rfl) ?_ ?_
      · (intro W hSw; (try dsimp only at hSw); go_simp)
      try simp only [Act.put, List.setIfInBounds_toArray, List.set_cons_zero, List.set_cons_succ]
      refine wpAnyG_takeL (i := 11) (.bool true) [19] rfl (by kernel_rfl) (fun _ _ _ h => h) hHeld (by rfl) ?_ ?_
      · (intro W hSw; (try dsimp only at hSw); go_simp)
      try simp only [Act.put, List.setIfInBounds_toArray, List.set_cons_zero, List.set_cons_succ]
      refine wpAnyG_dropL (i := 12) [13, 18, 19] rfl (by kernel_rfl) (fun _ _ _ h => h) hHeld (by rfl) ?_
      try simp only [Act.put, List.setIfInBounds_toArray, List.set_cons_zero, List.set_cons_succ]
      refine wpAnyG_dropL (i := 13) [18, 19] rfl (by kernel_rfl) (fun _ _ _ h => h) hHeld (by rfl) ?_
      try simp only [Act.put, List.setIfInBounds_toArray, List.set_cons_zero, List.set_cons_succ]
      refine wpAnyG_dropL (i := 14) [16, 17, 18, 19] rfl (by kernel_rfl) (fun _ _ _ h => h) hHeld (by rfl) ?_
      try simp only [Act.put, List.setIfInBounds_toArray, List.set_cons_zero, List.set_cons_succ]
      refine wpAnyG_dropL (i := 15) [16, 17, 18, 19] rfl (by kernel_rfl) (fun _ _ _ h => h) hHeld (by rfl) ?_
      try simp only [Act.put, List.setIfInBounds_toArray, List.set_cons_zero, List.set_cons_succ]
      refine wpAnyG_dropL (i := 16) [17, 18, 19] rfl (by kernel_rfl) (fun _ _ _ h => h) hHeld (by rfl) ?_
      try simp only [Act.put, List.setIfInBounds_toArray, List.set_cons_zero, List.set_cons_succ]
      refine wpAnyG_dropL (i := 17) [18, 19] rfl (by kernel_rfl) (fun _ _ _ h => h) hHeld (by rfl) ?_
      try simp only [Act.put, List.setIfInBounds_toArray, List.set_cons_zero, List.set_cons_succ]
      refine wpAnyG_dropL (i := 18) [19] rfl (by kernel_rfl) (fun _ _ _ h => h) hHeld (by rfl) ?_
      try simp only [Act.put, List.setIfInBounds_toArray, List.set_cons_zero, List.set_cons_succ]
      refine wpAnyG_oneL (i := 19) (by kernel_rfl) rfl (fun K hK => ?_)
      go_simp
      refine hK.out _ _ (fun h => Bool.noConfusion (show true = false from h)) ?_
      clear hK K
      try simp only [Act.put, List.setIfInBounds_toArray, List.set_cons_zero, List.set_cons_succ]
      refine wpAnyG_done (by kernel_rfl) ?_ _
      go_wp2_with fail
      refine bodyPost_ret (v := .tuple #[.int .i64 0, .int .i64 0, .bool false]) (by simp [results, Tryd.results62, go_sem]) rfl ⟨by rw [HP.out], below2 BX D0⟩
    cases hrt : isRateB R
    · have HRT := Lib.hid hrt
      have HP := Lib.hid (HE.out.trans (if_pos (.inr (.inr (.inl hrt)))))
      clear hrt
      have D0 := (Below.refl W1.heap.size W1).drew
      have hHeld0 := HRW.out.below D0
      refine wp_region_G 19 (fun W => RY W A c b) (by kernel_rfl) hHeld0 (fun hHeld => ?_)
      refine wpAnyG_takeL (i := 0) (.int .i64 C) [1, 2, 5, 6, 10, 11, 19] rfl (by kernel_rfl) (fun _ _ _ h => h) hHeld (by rfl) ?_ ?_
      · (intro W hSw; (try dsimp only at hSw); go_simp)
      try simp only [Act.put, List.setIfInBounds_toArray, List.set_cons_zero, List.set_cons_succ]
      refine wpAnyG_takeL (i := 1) (.bool false) [2, 5, 6, 10, 11, 19] rfl (by kernel_rfl) (fun _ _ _ h => h) hHeld (by rfl) ?_ ?_
      · (intro W hSw; (try dsimp only at hSw); go_simp)
      try simp only [Act.put, List.setIfInBounds_toArray, List.set_cons_zero, List.set_cons_succ]
      refine wpAnyG_takeL (i := 2) (.bool false) [5, 6, 10, 11, 19] rfl (by kernel_rfl) (fun _ _ _ h => h) hHeld (by rfl) ?_ ?_
      · (intro W hSw; (try dsimp only at hSw); go_simp)
      try simp only [Act.put, List.setIfInBounds_toArray, List.set_cons_zero, List.set_cons_succ]
      refine wpAnyG_takeL (i := 3) (.int .i64 C) [4, 5, 6, 10, 11, 19] rfl (by kernel_rfl) (fun _ _ _ h => h) hHeld (by rfl) ?_ ?_
      · (intro W hSw; (try dsimp only at hSw); go_simp)
      try simp only [Act.put, List.setIfInBounds_toArray, List.set_cons_zero, List.set_cons_succ]
      refine wpAnyG_takeL (i := 4) (.bool false) [5, 6, 10, 11, 19] rfl (by kernel_rfl) (fun _ _ _ h => h) hHeld (by rfl) ?_ ?_
      · (intro W hSw; (try dsimp only at hSw); go_simp)
      try simp only [Act.put, List.setIfInBounds_toArray, List.set_cons_zero, List.set_cons_succ]
      refine wpAnyG_takeL (i := 5) (.bool false) [6, 10, 11, 19] rfl (by kernel_rfl) (fun _ _ _ h => h) hHeld (by rfl) ?_ ?_
      · (intro W hSw; (try dsimp only at hSw); go_simp)
      try simp only [Act.put, List.setIfInBounds_toArray, List.set_cons_zero, List.set_cons_succ]
      refine wpAnyG_takeL (i := 6) (.bool false) [10, 11, 19] rfl (by kernel_rfl) (fun _ _ _ h => h) hHeld (by rfl) ?_ ?_
      · (intro W hSw; (try dsimp only at hSw); go_simp)
      try simp only [Act.put, List.setIfInBounds_toArray, List.set_cons_zero, List.set_cons_succ]
      refine wpAnyG_takeL (i := 7) (.int .i64 R) [8, 9, 10, 11, 19] rfl (by kernel_rfl) (fun _ _ _ h => h) hHeld (by rfl) ?_ ?_
      · (intro W hSw; (try dsimp only at hSw); go_simp)
      try simp only [Act.put, List.setIfInBounds_toArray, List.set_cons_zero, List.set_cons_succ]
      refine wpAnyG_oneL (i := 8) (by kernel_rfl) rfl (fun K hK => ?_)
      (go_simp; go_at_call 66; refine (refRate_any R _).mono ?_; rw [HRT.out]; rintro e V1 ⟨rfl, d1⟩)
      clear hHeld
      replace hHeld0 := (hHeld0.below d1)
      have hHeld := hHeld0
      refine hK.out _ _ (fun _ => hHeld) ?_
      clear hK K
      try simp only [Act.put, List.setIfInBounds_toArray, List.set_cons_zero, List.set_cons_succ]
      refine wpAnyG_takeL (i := 9) (.bool true) [10, 11, 19] rfl (by kernel_rfl) (fun _ _ _ h => h) hHeld (by rfl) ?_ ?_
      · (intro W hSw; (try dsimp only at hSw); go_simp)
      try simp only [Act.put, List.setIfInBounds_toArray, List.set_cons_zero, List.set_cons_succ]
      refine wpAnyG_takeL (i := 10) (.bool true) [11, 19] rfl (by kernel_rfl) (fun _ _ _ h => h) hHeld (by rfl) ?_ ?_
      · (intro W hSw; (try dsimp only at hSw); go_simp)
      try simp only [Act.put, List.setIfInBounds_toArray, List.set_cons_zero, List.set_cons_succ]
      refine wpAnyG_takeL (i := 11) (.bool true) [19] rfl (by kernel_rfl) (fun _ _ _ h => h) hHeld (by rfl) ?_ ?_
      · (intro W hSw; (try dsimp only at hSw); go_simp)
      try simp only [Act.put, List.setIfInBounds_toArray, List.set_cons_zero, List.set_cons_succ]
      refine wpAnyG_dropL (i := 12) [13, 18, 19] rfl (by kernel_rfl) (fun _ _ _ h => h) hHeld (by rfl) ?_
      try simp only [Act.put, List.setIfInBounds_toArray, List.set_cons_zero, List.set_cons_succ]
      refine wpAnyG_dropL (i := 13) [18, 19] rfl (by kernel_rfl) (fun _ _ _ h => h) hHeld (by rfl) ?_
      try simp only [Act.put, List.setIfInBounds_toArray, List.set_cons_zero, List.set_cons_succ]
      refine wpAnyG_dropL (i := 14) [16, 17, 18, 19] rfl (by kernel_rfl) (fun _ _ _ h => h) hHeld (by rfl) ?_
      try simp only [Act.put, List.setIfInBounds_toArray, List.set_cons_zero, List.set_cons_succ]
      refine wpAnyG_dropL (i := 15) [16, 17, 18, 19] rfl (by kernel_rfl) (fun _ _ _ h => h) hHeld (by rfl) ?_
      try simp only [Act.put, List.setIfInBounds_toArray, List.set_cons_zero, List.set_cons_succ]
      refine wpAnyG_dropL (i := 16) [17, 18, 19] rfl (by kernel_rfl) (fun _ _ _ h => h) hHeld (by rfl) ?_
      try simp only [Act.put, List.setIfInBounds_toArray, List.set_cons_zero, List.set_cons_succ]
      refine wpAnyG_dropL (i := 17) [18, 19] rfl (by kernel_rfl) (fun _ _ _ h => h) hHeld (by rfl) ?_
      try simp only [Act.put, List.setIfInBounds_toArray, List.set_cons_zero, List.set_cons_succ]
      refine wpAnyG_dropL (i := 18) [19] rfl (by kernel_rfl) (fun _ _ _ h => h) hHeld (by rfl) ?_
      try simp only [Act.put, List.setIfInBounds_toArray, List.set_cons_zero, List.set_cons_succ]
      refine wpAnyG_oneL (i := 19) (by kernel_rfl) rfl (fun K hK => ?_)
      go_simp
      refine hK.out _ _ (fun h => Bool.noConfusion (show true = false from h)) ?_
      clear hK K
      try simp only [Act.put, List.setIfInBounds_toArray, List.set_cons_zero, List.set_cons_succ]
      refine wpAnyG_done (by kernel_rfl) ?_ _
      go_wp2_with fail
      refine bodyPost_ret (v := .tuple #[.int .i64 0, .int .i64 0, .bool false]) (by simp [results, Tryd.results62, go_sem]) rfl ⟨by rw [HP.out], below2 (below2 BX D0) d1⟩
    have HRT := Lib.hid hrt
    have hrr : 0 ≤ R ∧ R ≤ 48000 := by have := rate_range hrt; omega
    obtain ⟨SF, hSF⟩ : ∃ SF, strOfNums (fmtB C R) = SF := ⟨_, rfl⟩
    have HSF := Lib.hid hSF
    obtain ⟨DD, hDD⟩ : ∃ DD, (!decide (fmtB C R = b)) = DD := ⟨_, rfl⟩
    have hinj := strOfNums_inj (fmtB_bytes C R) hb
    rw [hSF, HSB.out] at hinj
    have hstr : (SB.toList == SF.toList) = !DD := by rw [str_list_b, ← hDD, Bool.not_not]; exact decide_eq_decide.2 ⟨fun e => hinj.1 e.symm, fun e => (hinj.2 e).symm⟩
    have HDD := Lib.hid hDD
    clear hinj hSF hDD hrt
    have D0 := (Below.refl W1.heap.size W1).drew
    have hHeld0 := HRW.out.below D0
    refine wp_region_G 19 (fun W => RY W A c b) (by kernel_rfl) hHeld0 (fun hHeld => ?_)
    refine wpAnyG_takeL (i := 0) (.int .i64 C) [1, 2, 5, 6, 10, 11, 19] rfl (by kernel_rfl) (fun _ _ _ h => h) hHeld (by rfl) ?_ ?_
    · (intro W hSw; (try dsimp only at hSw); go_simp)
    try simp only [Act.put, List.setIfInBounds_toArray, List.set_cons_zero, List.set_cons_succ]
    refine wpAnyG_takeL (i := 1) (.bool false) [2, 5, 6, 10, 11, 19] rfl (by kernel_rfl) (fun _ _ _ h => h) hHeld (by rfl) ?_ ?_
    · (intro W hSw; (try dsimp only at hSw); go_simp)
    try simp only [Act.put, List.setIfInBounds_toArray, List.set_cons_zero, List.set_cons_succ]
    refine wpAnyG_takeL (i := 2) (.bool false) [5, 6, 10, 11, 19] rfl (by kernel_rfl) (fun _ _ _ h => h) hHeld (by rfl) ?_ ?_
    · (intro W hSw; (try dsimp only at hSw); go_simp)
    try simp only [Act.put, List.setIfInBounds_toArray, List.set_cons_zero, List.set_cons_succ]
    refine wpAnyG_takeL (i := 3) (.int .i64 C) [4, 5, 6, 10, 11, 19] rfl (by kernel_rfl) (fun _ _ _ h => h) hHeld (by rfl) ?_ ?_
    · (intro W hSw; (try dsimp only at hSw); go_simp)
    try simp only [Act.put, List.setIfInBounds_toArray, List.set_cons_zero, List.set_cons_succ]
    refine wpAnyG_takeL (i := 4) (.bool false) [5, 6, 10, 11, 19] rfl (by kernel_rfl) (fun _ _ _ h => h) hHeld (by rfl) ?_ ?_
    · (intro W hSw; (try dsimp only at hSw); go_simp)
    try simp only [Act.put, List.setIfInBounds_toArray, List.set_cons_zero, List.set_cons_succ]
    refine wpAnyG_takeL (i := 5) (.bool false) [6, 10, 11, 19] rfl (by kernel_rfl) (fun _ _ _ h => h) hHeld (by rfl) ?_ ?_
    · (intro W hSw; (try dsimp only at hSw); go_simp)
    try simp only [Act.put, List.setIfInBounds_toArray, List.set_cons_zero, List.set_cons_succ]
    refine wpAnyG_takeL (i := 6) (.bool false) [10, 11, 19] rfl (by kernel_rfl) (fun _ _ _ h => h) hHeld (by rfl) ?_ ?_
    · (intro W hSw; (try dsimp only at hSw); go_simp)
    try simp only [Act.put, List.setIfInBounds_toArray, List.set_cons_zero, List.set_cons_succ]
    refine wpAnyG_takeL (i := 7) (.int .i64 R) [8, 9, 10, 11, 19] rfl (by kernel_rfl) (fun _ _ _ h => h) hHeld (by rfl) ?_ ?_
    · (intro W hSw; (try dsimp only at hSw); go_simp)
    try simp only [Act.put, List.setIfInBounds_toArray, List.set_cons_zero, List.set_cons_succ]
    refine wpAnyG_oneL (i := 8) (by kernel_rfl) rfl (fun K hK => ?_)
    (go_simp; go_at_call 66; refine (refRate_any R _).mono ?_; rw [HRT.out]; rintro e V1 ⟨rfl, d1⟩)
    clear hHeld
    replace hHeld0 := (hHeld0.below d1)
    have hHeld := hHeld0
    refine hK.out _ _ (fun _ => hHeld) ?_
    clear hK K
    try simp only [Act.put, List.setIfInBounds_toArray, List.set_cons_zero, List.set_cons_succ]
    refine wpAnyG_takeL (i := 9) (.bool false) [10, 11, 19] rfl (by kernel_rfl) (fun _ _ _ h => h) hHeld (by rfl) ?_ ?_
    · (intro W hSw; (try dsimp only at hSw); go_simp)
    try simp only [Act.put, List.setIfInBounds_toArray, List.set_cons_zero, List.set_cons_succ]
    refine wpAnyG_takeL (i := 10) (.bool false) [11, 19] rfl (by kernel_rfl) (fun _ _ _ h => h) hHeld (by rfl) ?_ ?_
    · (intro W hSw; (try dsimp only at hSw); go_simp)
    try simp only [Act.put, List.setIfInBounds_toArray, List.set_cons_zero, List.set_cons_succ]
    refine wpAnyG_takeL (i := 11) (.bool false) [19] rfl (by kernel_rfl) (fun _ _ _ h => h) hHeld (by rfl) ?_ ?_
    · (intro W hSw; (try dsimp only at hSw); go_simp)
    try simp only [Act.put, List.setIfInBounds_toArray, List.set_cons_zero, List.set_cons_succ]
    refine wpAnyG_takeL (i := 12) (.slice A 16 c) [13, 18, 19] rfl (by kernel_rfl) (fun _ _ _ h => h) hHeld (by rfl) ?_ ?_
    · (intro W hSw; (try dsimp only at hSw); go_simp)
    try simp only [Act.put, List.setIfInBounds_toArray, List.set_cons_zero, List.set_cons_succ]
    refine wpAnyG_takeL (i := 13) (.string SB) [18, 19] rfl (by kernel_rfl) (fun _ _ _ h => h) hHeld (by rfl) ?_ ?_
    · (intro W hSw; have hcv := HSTR.out W hSw; go_simp)
    try simp only [Act.put, List.setIfInBounds_toArray, List.set_cons_zero, List.set_cons_succ]
    refine wpAnyG_takeL (i := 14) (.int .i64 C) [16, 17, 18, 19] rfl (by kernel_rfl) (fun _ _ _ h => h) hHeld (by rfl) ?_ ?_
    · (intro W hSw; (try dsimp only at hSw); go_simp)
    try simp only [Act.put, List.setIfInBounds_toArray, List.set_cons_zero, List.set_cons_succ]
    refine wpAnyG_takeL (i := 15) (.int .i64 R) [16, 17, 18, 19] rfl (by kernel_rfl) (fun _ _ _ h => h) hHeld (by rfl) ?_ ?_
    · (intro W hSw; (try dsimp only at hSw); go_simp)
    try simp only [Act.put, List.setIfInBounds_toArray, List.set_cons_zero, List.set_cons_succ]
    refine wpAnyG_oneL (i := 16) (by kernel_rfl) rfl (fun K hK => ?_)
    (go_simp; go_at_call 57; refine (refFormat_any C R _ (by omega) (by omega) hrr.1 hrr.2).mono ?_; rintro e V2 ⟨u2, rfl, O2, d2⟩; obtain ⟨A6, c6, rfl, S6⟩ := O2.rd; have hcv := conv_str (src := 25) (dst := 9) (c := c6) Tryd.underlying25 Tryd.underlying5 Tryd.underlying9 S6; rw [HSF.out] at hcv)
    clear hHeld
    replace hHeld0 := (hHeld0.below d2)
    have hHeld := hHeld0
    refine hK.out _ _ (fun _ => hHeld) ?_
    clear hK K
    try simp only [Act.put, List.setIfInBounds_toArray, List.set_cons_zero, List.set_cons_succ]
    refine wpAnyG_oneL (i := 17) (by kernel_rfl) rfl (fun K hK => ?_)
    go_simp
    clear hHeld
    have hHeld := hHeld0
    refine hK.out _ _ (fun _ => hHeld) ?_
    clear hK K
    try simp only [Act.put, List.setIfInBounds_toArray, List.set_cons_zero, List.set_cons_succ]
    refine wpAnyG_takeL (i := 18) (.bool DD) [19] rfl (by kernel_rfl) (fun _ _ _ h => h) hHeld (by rfl) ?_ ?_
    · (intro W hSw; (try dsimp only at hSw); go_simp)
    try simp only [Act.put, List.setIfInBounds_toArray, List.set_cons_zero, List.set_cons_succ]
    refine wpAnyG_oneL (i := 19) (by kernel_rfl) rfl (fun K hK => ?_)
    go_simp
    refine hK.out _ _ (fun h => Bool.noConfusion (show true = false from h)) ?_
    clear hK K
    try simp only [Act.put, List.setIfInBounds_toArray, List.set_cons_zero, List.set_cons_succ]
    refine wpAnyG_done (by kernel_rfl) ?_ _
    cases DD
    · have HP : Hid (descS b = (C, R, true)) := Lib.hid (HE.out.trans (if_neg (by have := HDD.out; simp at this; simp [this, HRT.out]; omega)))
      go_wp2_with fail
      refine bodyPost_ret (v := .tuple #[.int .i64 C, .int .i64 R, .bool true]) (by simp [results, Tryd.results62, go_sem]) rfl ⟨by rw [HP.out], below2 (below2 (below2 BX D0) d1) d2⟩
    · have HP : Hid (descS b = (0, 0, false)) := Lib.hid (HE.out.trans (if_pos (by have := HDD.out; simp at this; simp [this])))
      go_wp2_with fail
      refine bodyPost_ret (v := .tuple #[.int .i64 0, .int .i64 0, .bool false]) (by simp [results, Tryd.results62, go_sem]) rfl ⟨by rw [HP.out], below2 (below2 (below2 BX D0) d1) d2⟩
  · have HP := Lib.hid (show descS b = (0, 0, false) by simp [descS, h16])
    have hi : ¬ (b.length : Int) = 16 := by omega
    go_enter Tryd.func62, Tryd.ntmps62
    go_wp2
    refine bodyPost_ret (v := .tuple #[.int .i64 0, .int .i64 0, .bool false]) (by simp [results, Tryd.results62, go_sem]) rfl ⟨by rw [HP.out], Below.refl _ _⟩
end Go.Proofs.YtijcecakofmhcaaDoor
