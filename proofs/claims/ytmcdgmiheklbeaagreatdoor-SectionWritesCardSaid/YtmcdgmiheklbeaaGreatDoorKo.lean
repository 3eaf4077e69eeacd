/- The document's sections: Write: what it returns. -/
import Derived.Test.YtmcdgmiheklbeaaGreatDoorKn
namespace Go.Proofs.YtmcdgmiheklbeaaGreatDoor
open Go.RowKit

theorem rowQ_wr (ws l : List Int) (s : List (Int × Int)) (bs : List Bool) (hbl : bs.length ≤ 1048576) : wrS ws l s bs.length = (if (costQ ws l s).2 ≠ 0 then (costQ ws l s).2 else if 1048576 < bs.length + (rowQ ws l s).length then 2 else 0) ∧ wrB ws l s bs = (if (costQ ws l s).2 ≠ 0 then bs else if 1048576 < bs.length + (rowQ ws l s).length then bs else bs ++ rowQ ws l s) := by
  by_cases h : (costQ ws l s).2 = 0
  · have h1 := rowQ_cost ws l s
    have hr : rowQ ws l s = secP ws l s s.length := by unfold rowQ; rw [if_pos h]
    have e : wrS ws l s bs.length = if 1048576 < bs.length + (rowQ ws l s).length then 2 else 0 := by
      unfold wrS
      rw [if_neg (by simp [h]), h1]
      by_cases h2 : 1048576 < bs.length + (rowQ ws l s).length
      · rw [if_pos h2, if_pos (by omega)]
      · rw [if_neg h2, if_neg (by omega)]
    refine ⟨by rw [if_neg (by simp [h]), e], ?_⟩
    rw [if_neg (by simp [h])]
    unfold wrB
    rw [e]
    by_cases h2 : 1048576 < bs.length + (rowQ ws l s).length
    · rw [if_pos h2, if_pos h2, if_neg (by decide)]
    · rw [if_neg h2, if_neg h2, if_pos rfl, hr]
  · have e : wrS ws l s bs.length = (costQ ws l s).2 := by unfold wrS; rw [if_pos h]
    refine ⟨by rw [if_pos h, e], ?_⟩
    rw [if_pos h]
    unfold wrB
    rw [if_neg (by rw [e]; exact h)]
theorem wrB_le (ws l : List Int) (s : List (Int × Int)) (bs : List Bool) (hbl : bs.length ≤ 1048576) : (wrB ws l s bs).length ≤ 1048576 := by
  rw [(rowQ_wr ws l s bs hbl).2]
  split
  · exact hbl
  · split
    · exact hbl
    · rw [List.length_append]; omega
set_option maxHeartbeats 2000000 in
set_option maxRecDepth 100000 in
theorem rWrite18_any (R A B D : Option Addr) (r0 c d e0 : Nat) (ws l : List Int) (s : List (Int × Int)) (bs : List Bool) (w : World) (hR0 : RY w R r0 (bitsI bs)) (hbl : bs.length ≤ 1048576) (hS : RI w A c ws) (hT : RI w B d l) (hR : RS w D e0 s) (hw : ws.length ≤ 100000) :
    Calls Tryz.prog 13 #[.slice R bs.length r0, .slice A ws.length c, .slice B l.length d, .slice D s.length e0] w
      fun e w' => ∃ A2 c2, e = .returned (.tuple #[.slice A2 (wrB ws l s bs).length c2, .int .i64 (wrS ws l s bs.length)]) ∧ RY w' A2 c2 (bitsI (wrB ws l s bs)) ∧ Below w.heap.size w w' := by
  have HC := Lib.hid (rRow18_any A B D c d e0 ws l s w hS hT hR hw)
  have HLN := Lib.hid bitsI_len
  have HR := Lib.hid hR0
  have hml := rowQ_len ws l s
  obtain ⟨hX0, hY0⟩ := rowQ_wr ws l s bs hbl
  clear hS hT hR hR0
  generalize wrS ws l s bs.length = X at *
  generalize wrB ws l s bs = Y at *
  generalize rowQ ws l s = M at *
  generalize costQ ws l s = Z at *
  by_cases hE : Z.2 = 0
  · have hX1 := hX0.trans (if_neg (by simp [hE]))
    have hY1 := hY0.trans (if_neg (by simp [hE]))
    rw [hE] at HC
    have hwa : IntKind.i64.wrap ((bs.length : Int) + (M.length : Int)) = (bs.length : Int) + (M.length : Int) := IntWalk.i64_in _ (by omega)
    by_cases hf : 1048576 < bs.length + M.length
    · have hd : decide (1048576 < (bs.length : Int) + (M.length : Int)) = true := decide_eq_true (by omega)
      have HX := Lib.hid (hX1.trans (if_pos hf))
      have HF := Lib.hid (hY1.trans (if_pos hf))
      clear hE hf hX0 hY0 hX1 hY1
      go_enter Tryz.func13, Tryz.ntmps13
      go_wp2_with (go_at_call 28; refine HC.out.mono ?_; rintro e W2 ⟨v2, rfl, hO2, b2⟩; obtain ⟨A2, c2, rfl⟩ := hO2.slice; rw [HLN.out])
      go_ret2
      exact ⟨R, r0, ret_two (by rw [HF.out]; rfl) (by rw [HX.out]; rfl), by rw [HF.out]; exact HR.out.below b2, b2⟩
    · have hd : decide (1048576 < (bs.length : Int) + (M.length : Int)) = false := decide_eq_false (by omega)
      have HX := Lib.hid (hX1.trans (if_neg hf))
      have HF := Lib.hid (hY1.trans (if_neg hf))
      have HL1 := Lib.hid (HLN.out bs).symm
      have HL2 := Lib.hid (HLN.out M).symm
      clear hE hf hX0 hY0 hX1 hY1
      go_enter Tryz.func13, Tryz.ntmps13
      go_wp2_with (first
        | (go_at_call 28; refine HC.out.mono ?_; rintro e W2 ⟨v2, rfl, hO2, b2⟩; obtain ⟨A2, c2, rfl, hL2⟩ := own_ri hO2; rw [HLN.out]; have HL9 := Lib.hid hL2; clear hO2 hL2)
        | (at_builtin; (refine append_row (w0 := W2) W2.heap.size rfl (.tmp 32) (.tmp 33) 35 5 .u8 1 rfl Tryz.underlying35 infoY (by decide) _ [] (bitsI bs) R r0 rfl (by rw [← HL1.out]; rfl) (own_lit W2 5 .u8 [] (by decide)) ((HR.out.below b2).below (below_alloc (Below.refl _ _) _)) (below_alloc (Below.refl _ _) _) (by simp) (by simp [bitsI]; omega) ?_); intro v1 w4 hO4 hB4 _ _; have HO4 := Lib.hid hO4; have HB4 := Lib.hid hB4; clear hO4 hB4)
        | (at_builtin; (refine append_row (w0 := W2) W2.heap.size rfl (.tmp 34) (.tmp 35) 35 5 .u8 1 rfl Tryz.underlying35 infoY (by decide) v1 ([] ++ bitsI bs) (bitsI M) A2 c2 rfl (by rw [← HL2.out]; rfl) HO4.out (HL9.out.below HB4.out) HB4.out HB4.out.size (by simp [bitsI]; omega) ?_); intro v5 w5 hO5 hB5 _ _; have HO5 := Lib.hid hO5; have HB5 := Lib.hid hB5; clear hO5 hB5))
      have HO6 := Lib.hid (show OwnI 5 .u8 W2.heap.size w5 v5 (bitsI (bs ++ M)) by have := HO5.out; rwa [List.nil_append, show bitsI bs ++ bitsI M = bitsI (bs ++ M) by simp [bitsI]] at this)
      obtain ⟨A6, c6, rfl, hL6⟩ := own_ri HO6.out
      go_ret2
      refine ⟨A6, c6, ret_two (by rw [HF.out, HLN.out]; rfl) (by rw [HX.out]; rfl), by rw [HF.out]; exact hL6, below2 b2 HB5.out⟩
  · have hEb : (Z.2 != 0) = true := by simp [hE]
    have HX := Lib.hid (hX0.trans (if_pos hE))
    have HF := Lib.hid (hY0.trans (if_pos hE))
    clear hE hX0 hY0
    go_enter Tryz.func13, Tryz.ntmps13
    go_wp2_with (go_at_call 28; refine HC.out.mono ?_; rintro e W2 ⟨v2, rfl, hO2, b2⟩; obtain ⟨A2, c2, rfl⟩ := hO2.slice)
    go_ret2
    exact ⟨R, r0, ret_two (by rw [HF.out]; rfl) (by rw [HX.out]; rfl), by rw [HF.out]; exact HR.out.below b2, b2⟩
end Go.Proofs.YtmcdgmiheklbeaaGreatDoor
