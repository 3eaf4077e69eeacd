/- pcm: the file's record: format. -/
import Derived.Test.YtijcecakofmhcaaDoorPcmY
namespace Go.Proofs.YtijcecakofmhcaaDoor
open Go.RowKit

def fmtCh (b : List Int) : Int := numB ((b.take 4).drop 2)
def fmtRate (b : List Int) : Int := numB ((b.take 8).drop 4)
def formatE (s : FileS) (b : List Int) : Int :=
  if s.known = true ∨ b.length ≠ 16 then 4 else if fmtCh b < 1 ∨ 2 < fmtCh b ∨ isRateB (fmtRate b) = false ∨ (fmtL (fmtCh b) (fmtRate b)).drop 8 ≠ b then 4 else 0
def formatS (s : FileS) (b : List Int) : FileS := if s.known = true ∨ b.length ≠ 16 then s else { s with known := true, ch := fmtCh b, rate := fmtRate b }

theorem Sl.at_block {ik : IntKind} {ok : Nat → Prop} {w : World} {ad : Addr} {c : Nat} {xs : List Int} (h : Sl (kInt ik) ok w (some ad) c xs) : Sl (kInt ik) (fun i => i = ad.block) w (some ad) c xs :=
  ⟨h.le, h.cap, fun j hj => by obtain ⟨ad', cs, e, _, hl, hK, hc⟩ := h.rd j hj; cases e; exact ⟨_, cs, rfl, rfl, hl, hK, hc⟩⟩
theorem GR.low {g : Nat} {w w' : World} (h : GR w) (hb : Below g w w') (hg : 0 < g) : GR w' :=
  ((Sl.at_block h).keep ((Keep.of_below hb).weak fun i hi => by subst hi; exact hg)).any

set_option maxHeartbeats 1000000 in
set_option maxRecDepth 100000 in
theorem format_any (g n : Nat) (hgn : g < n) (v : Value) (s : FileS) (A : Option Addr) (c : Nat) (b : List Int) (w : World) (ok : Nat → Prop) (hG : GR w) (hg : 0 < g) (hF : FileAt g n v w s) (_ : n ≤ w.heap.size) (hR : Sl (kInt .u8) ok w A c b) (hok : ∀ i, i < w.heap.size → ok i → i < g) (hb : Bytes b) (_ : b.length ≤ 1000000) :
    Calls Tryd.prog 87 #[.pointer (some ⟨g, 0, none⟩), .slice A b.length c] w fun e w' => e = .returned (.int .i64 (formatE s b)) ∧ FileAt g n v w' (formatS s b) ∧ Chg g v w w' := by
  obtain ⟨ch, rate, known, done, l⟩ := s
  obtain ⟨hB, hO⟩ := hF
  have hv0 := hO.base_le
  simp only at hB hO
  have k2 := hB.cell 2 rfl
  have hle := hR.le
  have hcap := hR.cap
  cases known with
  | true =>
    have HP := Lib.hid (show formatE ⟨ch, rate, true, done, l⟩ b = 4 by simp [formatE])
    go_enter Tryd.func87, Tryd.ntmps87
    go_wp2
    go_ret
    refine ⟨by rw [HP.out]; rfl, ?_, Chg.refl _ _ _⟩
    unfold formatS
    rw [if_pos (.inl rfl)]
    exact ⟨hB, hO⟩
  | false =>
    by_cases h16 : b.length = 16
    · have HS := Lib.hid (show formatS ⟨ch, rate, false, done, l⟩ b = ⟨fmtCh b, fmtRate b, true, done, l⟩ by simp [formatS, h16])
      have HE := Lib.hid (show formatE ⟨ch, rate, false, done, l⟩ b = if fmtCh b < 1 ∨ 2 < fmtCh b ∨ isRateB (fmtRate b) = false ∨ (fmtL (fmtCh b) (fmtRate b)).drop 8 ≠ b then 4 else 0 by simp [formatE, h16])
      obtain ⟨i0, hi0, hz0, hz1, hz2⟩ := info_parts infoY
      obtain ⟨A1, hcut1, hsl1⟩ := cut_mid (P := Tryd.prog) 25 5 Tryd.underlying25 hi0 A b.length c 2 4 (by omega) (by omega) hle
      obtain ⟨A2, hcut2, hsl2⟩ := cut_mid (P := Tryd.prog) 25 5 Tryd.underlying25 hi0 A b.length c 4 8 (by omega) (by omega) hle
      rw [h16] at hcut1 hcut2 hle ⊢
      replace hcut1 : ∀ W : World, (Instr.slice 25 (.slice A 16 c) (some (.int .i64 2)) (some (.int .i64 4)) none).run Tryd.prog W = .ok (.slice A1 2 (c - 2)) W := hcut1
      replace hcut2 : ∀ W : World, (Instr.slice 25 (.slice A 16 c) (some (.int .i64 4)) (some (.int .i64 8)) none).run Tryd.prog W = .ok (.slice A2 4 (c - 4)) W := hcut2
      have hR1 := hsl1 (kInt .u8) ok w b hz1.symm rfl hR
      have hR2 := hsl2 (kInt .u8) ok w b hz1.symm rfl hR
      have hl1 : ((b.take 4).drop 2).length = 2 := by rw [List.length_drop, List.length_take]; omega
      have hl2 : ((b.take 8).drop 4).length = 4 := by rw [List.length_drop, List.length_take]; omega
      have hb1 : Bytes ((b.take 4).drop 2) := fun x hx => hb x (List.mem_of_mem_take (List.mem_of_mem_drop hx))
      have hb2 : Bytes ((b.take 8).drop 4) := fun x hx => hb x (List.mem_of_mem_take (List.mem_of_mem_drop hx))
      have hn1 := number_any A1 (c - 2) ((b.take 4).drop 2) w.drew (hR1.below (Below.refl _ _).drew).any hb1 (by omega)
      have hn2 := number_any A2 (c - 4) ((b.take 8).drop 4) w.drew (hR2.below (Below.refl _ _).drew).any hb2 (by omega)
      have hp1 := numB_nonneg _ hb1
      have hp2 := numB_nonneg _ hb2
      rw [hl1] at hn1 hp1
      rw [hl2] at hn2 hp2
      obtain ⟨C, hC⟩ : ∃ C, fmtCh b = C := ⟨_, rfl⟩
      obtain ⟨R, hRt⟩ : ∃ R, fmtRate b = R := ⟨_, rfl⟩
      rw [show numB ((b.take 4).drop 2) = C from hC] at hn1 hp1
      rw [show numB ((b.take 8).drop 4) = R from hRt] at hn2 hp2
      rw [hC, hRt] at HS HE
      have HN1 := Lib.hid hn1
      have HN2 := Lib.hid hn2
      have fr0 := hB.free 0
      have fr1 := hB.free 1
      have fr2 := hB.free 2
      have k0 := hB.cell 0 rfl
      have k1 := hB.cell 1 rfl
      clear hC hRt hn1 hn2 hb1 hb2 hl1 hl2 hR1 hR2 hsl1 hsl2
      go_enter Tryd.func87, Tryd.ntmps87
      go_wp2_with fail
      go_region_law (first | (go_simp; go_at_call 58; (with_reducible refine HN1.out.mono ?_); rintro e w' ⟨rfl, rfl⟩) | (go_simp; go_at_call 58; (with_reducible refine HN2.out.mono ?_); rintro e w' ⟨rfl, rfl⟩))
      have hlt := hB.lt
      have B1 := (((hB.set 2 (.bool true)).set 0 (.int .i64 C)).set 1 (.int .i64 R)).below (Below.refl _ _).drew
      have O1 := (((hO.grown (grown_setCell w g 2 (.bool true)) (.inr (fun e => by have := hO.base_le g e; omega))).grown (grown_setCell _ g 0 (.int .i64 C)) (.inr (fun e => by have := hO.base_le g e; omega))).grown (grown_setCell _ g 1 (.int .i64 R)) (.inr (fun e => by have := hO.base_le g e; omega))).below (Below.refl _ _).drew
      have C1 : Chg g v w (((w.setCell ⟨g, 2, none⟩ (.bool true)).setCell ⟨g, 0, none⟩ (.int .i64 C)).setCell ⟨g, 1, none⟩ (.int .i64 R)).drew :=
        ((((Chg.refl g v w).grown (grown_setCell w g 2 (.bool true)) (fun i e => .inl (Option.some.inj e).symm)).grown (grown_setCell _ g 0 (.int .i64 C)) (fun i e => .inl (Option.some.inj e).symm)).grown (grown_setCell _ g 1 (.int .i64 R)) (fun i e => .inl (Option.some.inj e).symm)).then_ (Below.refl _ _).drew
      have L1 := C1.low (Nat.le_of_lt hlt) (fun k e => by have := hv0 k e; omega)
      generalize (((w.setCell ⟨g, 2, none⟩ (.bool true)).setCell ⟨g, 0, none⟩ (.int .i64 C)).setCell ⟨g, 1, none⟩ (.int .i64 R)).drew = W1 at B1 O1 L1 C1 ⊢
      clear fr0 fr1 fr2 k0 k1 k2 hcut1 hcut2
      have F1 : FileAt g n v W1 ⟨C, R, true, done, l⟩ := ⟨B1, O1⟩
      have G1 := hG.low L1 hg
      have S1 := ((hR.weak (ok' := fun i => i < g) (fun i hi ho => hok i hi ho)).keep (Keep.of_below L1)).any
      have k0 := B1.cell 0 rfl
      have k1 := B1.cell 1 rfl
      by_cases hc1 : C < 1
      · have hd1 : decide (C < 1) = true := decide_eq_true hc1
        have HP := Lib.hid (HE.out.trans (if_pos (.inl hc1)))
        go_wp2_with fail
        go_quiet (fail)
        go_wp2
        go_ret
        exact ⟨by rw [HP.out]; rfl, by rw [HS.out]; exact F1.below (below_drewN (Below.refl _ _) nq), C1.then_ (below_drewN (Below.refl _ _) nq)⟩
      · have hd1 : decide (C < 1) = false := decide_eq_false hc1
        by_cases hc2 : 2 < C
        · have hd2 : decide (2 < C) = true := decide_eq_true hc2
          have HP := Lib.hid (HE.out.trans (if_pos (.inr (.inl hc2))))
          go_wp2_with fail
          go_quiet (fail)
          go_wp2
          go_ret
          exact ⟨by rw [HP.out]; rfl, by rw [HS.out]; exact F1.below (below_drewN (Below.refl _ _) nq), C1.then_ (below_drewN (Below.refl _ _) nq)⟩
        · have hd2 : decide (2 < C) = false := decide_eq_false hc2
          cases hrt : isRateB R
          · have HP := Lib.hid (HE.out.trans (if_pos (.inr (.inr (.inl hrt)))))
            go_wp2_with fail
            go_quiet ((go_at_call 63; exact Calls.quiet_of_same (v := .bool false) ((isRate_any R _ (Sl.drewN G1 _)).mono (fun e w' h => ⟨h.1.trans (by rw [hrt]), h.2.symm⟩))))
            go_wp2
            go_ret
            exact ⟨by rw [HP.out]; rfl, by rw [HS.out]; exact F1.below (below_drewN (Below.refl _ _) nq), C1.then_ (below_drewN (Below.refl _ _) nq)⟩
          · have hrr := rate_range hrt
            have HRT := Lib.hid hrt
            clear hrt
            have h24 : (fmtL C R).length = 24 := by simp [fmtL, leL_length]
            have HL16 : Hid (((fmtL C R).drop 8).length = 16) := Lib.hid (by rw [List.length_drop, h24])
            have H24 := Lib.hid h24
            clear h24
            have hcf := fun (A6 : Option Addr) (c6 : Nat) => cut_from (P := Tryd.prog) 25 5 Tryd.underlying25 hi0 A6 24 c6 8 (by omega)
            have HCF := Lib.hid hcf
            clear hcf
            obtain ⟨D, hD⟩ : ∃ D, decide ((fmtL C R).drop 8 = b) = D := ⟨_, rfl⟩
            have HDD := Lib.hid hD
            have HP : Hid (formatE ⟨ch, rate, false, done, l⟩ b = if D then 0 else 4) := Lib.hid (by
              rw [HE.out]
              cases D with
              | true => have := of_decide_eq_true hD; rw [if_neg (by simp [this, HRT.out]; omega), if_pos rfl]
              | false => have := of_decide_eq_false hD; rw [if_pos (.inr (.inr (.inr this))), if_neg (by simp)])
            clear hD
            have HB16 := Lib.hid h16
            clear h16
            go_wp2_with fail
            go_region_held3 (fun W => W.cell? ⟨g, 0, none⟩ = some (.int .i64 C) ∧ W.cell? ⟨g, 1, none⟩ = some (.int .i64 R)) (go_keep) (first | (go_at_call 63; refine (isRate_any R _ (G1.below (Below.refl _ _).drew)).mono ?_; rintro e w4 ⟨rfl, rfl⟩; rw [HRT.out]) | (go_at_call 54; refine (fmtChunk_any C R _ (by omega) (by omega) (by omega) (by omega)).mono ?_; rintro e w6 ⟨v6, rfl, hO6, hB6⟩; obtain ⟨A6, c6, rfl, hs6⟩ := hO6.rd; have q0 := (B1.below (below2 (Below.refl _ _).drew hB6)).cell 0 rfl; have q1 := (B1.below (below2 (Below.refl _ _).drew hB6)).cell 1 rfl; have hle6 := hs6.le; have hcap6 := hs6.cap; rw [H24.out] at hle6 ⊢; obtain ⟨A8, hcut8, hsl8⟩ := HCF.out A6 c6; replace hcut8 : ∀ W : World, (Instr.slice 25 (.slice A6 24 c6) (some (.int .i64 8)) none none).run Tryd.prog W = .ok (.slice A8 16 (c6 - 8)) W := hcut8; have hs8 := Lib.hid (hsl8 (kInt .u8) _ w6 (fmtL C R) hz1.symm H24.out hs6); clear hs6 hsl8) | (go_at_call 91; have he := equalY_any A8 (c6 - 8) ((fmtL C R).drop 8) A c b w6 hs8.out.any (S1.below (below2 (Below.refl _ _).drew hB6)); rw [HL16.out, HB16.out] at he; refine he.mono ?_; clear he; rintro e w7 ⟨rfl, m7, rfl⟩; rw [HDD.out]))
            have BX := below_drewN (below2 (Below.refl W1.heap.size W1).drew hB6) m7
            have LX := C1.then_ BX
            cases D
            · go_wp2
              go_ret
              exact ⟨by rw [HP.out]; rfl, by rw [HS.out]; exact F1.below BX, LX⟩
            · go_wp2
              go_ret
              exact ⟨by rw [HP.out]; rfl, by rw [HS.out]; exact F1.below BX, LX⟩
    · have HP := Lib.hid (show formatE ⟨ch, rate, false, done, l⟩ b = 4 by simp [formatE, h16])
      have hi : ¬ (b.length : Int) = 16 := by omega
      go_enter Tryd.func87, Tryd.ntmps87
      go_wp2
      go_ret
      refine ⟨by rw [HP.out]; rfl, ?_, Chg.refl _ _ _⟩
      unfold formatS
      rw [if_pos (.inr h16)]
      exact ⟨hB, hO⟩
end Go.Proofs.YtijcecakofmhcaaDoor
