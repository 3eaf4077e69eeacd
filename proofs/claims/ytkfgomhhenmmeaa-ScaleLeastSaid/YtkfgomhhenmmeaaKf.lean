/- The document's scale: Row, Cost: what each call returns. · The document's scale: Write: what it returns. · scale: Write: what it returns, and what is in the writer. · The words of a complete code: whatever bits there are begin with one. Plain; no program is named. · Maps whose keys are the words of steps: what they tell, and what an update does. · scale: reading: what it returns. · scale: a step that is read: what it returns, and where the reader is then. · scale: what reading scales gives. Plain; no program is named. · scale: read: what it returns, and where the reader is then. · scale: Read: what it returns, and where the reader is then. · scale: all; the bands of widths: what each call returns. · scale: Used: what it returns. -/
import Derived.Test.YtkfgomhhenmmeaaKe
import Derived.Test.YtkfgomhhenmmeaaKc
import Derived.Maps.OwnSet
import Derived.Maps.OwnOps
import Derived.DeepKeys4
import Derived.MapViews
import Derived.WideKeyArgs2
namespace Go.Proofs.Ytkfgomhhenmmeaa
open Go.RowKit

set_option maxHeartbeats 1500000 in
set_option maxRecDepth 100000 in
theorem row_any (A B : Option Addr) (c d : Nat) (ss : List Int) (us : List Bool) (w : World) (hS : RI w A c ss) (hU : RB w B d us) :
    Calls Try.prog 41 #[.slice A ss.length c, .slice B us.length d] w fun e w' => ∃ v, e = .returned (.tuple #[v, .int .i64 (checkedE ss us)]) ∧ OwnI 5 .u8 w.heap.size w' v (bitsI (rowB ss us)) ∧ Below w.heap.size w w' := by
  have hn := hS.len
  have hm := hU.len
  by_cases hl : ss.length = us.length
  · have hlb : ((ss.length : Int) != (us.length : Int)) = false := by simp [hl]
    by_cases h128 : (128 : Int) < (us.length : Int)
    · have d1 : decide ((128 : Int) < (us.length : Int)) = true := decide_eq_true h128
      have HE := Lib.hid (show checkedE ss us = 1 by unfold checkedE; rw [if_pos (.inr (by omega))])
      have HR := Lib.hid (show rowB ss us = [] by unfold rowB; rw [if_neg (by rw [HE.out]; decide)])
      clear hl h128
      go_enter Try.func41, Try.ntmps41
      go_wp2
      go_ret2
      exact ⟨_, ret_two rfl (by rw [HE.out]; rfl), by rw [HR.out]; exact OwnI.nil _ _ _ _, Below.refl _ _⟩
    · have d1 : decide ((128 : Int) < (us.length : Int)) = false := decide_eq_false h128
      have HA := Lib.hid (ranged_any A c ss w hS)
      have hE0 : checkedE ss us = if ss.all isB = false then 6 else if freeB ss us ss.length = false then 4 else 0 := by unfold checkedE; rw [if_neg (by omega)]
      cases hr : ss.all isB
      · rw [hr] at HA
        have HE := Lib.hid (show checkedE ss us = 6 by rw [hE0, if_pos hr])
        have HR := Lib.hid (show rowB ss us = [] by unfold rowB; rw [if_neg (by rw [HE.out]; decide)])
        clear hl h128 hr hE0
        go_enter Try.func41, Try.ntmps41
        go_wp2_with (go_at_call 54; refine HA.out.mono ?_; rintro e w2 ⟨rfl, rfl⟩)
        go_ret2
        exact ⟨_, ret_two rfl (by rw [HE.out]; rfl), by rw [HR.out]; exact OwnI.nil _ _ _ _, Below.refl _ _⟩
      · rw [hr] at HA
        have HF := Lib.hid (right_any A B c d ss us w hS hU hl)
        cases hf : freeB ss us ss.length
        · rw [hf] at HF
          have HE := Lib.hid (show checkedE ss us = 4 by rw [hE0, if_neg (by rw [hr]; decide), if_pos hf])
          have HR := Lib.hid (show rowB ss us = [] by unfold rowB; rw [if_neg (by rw [HE.out]; decide)])
          clear hl h128 hr hE0 hf
          go_enter Try.func41, Try.ntmps41
          go_wp2_with (first
            | (go_at_call 54; refine HA.out.mono ?_; rintro e w2 ⟨rfl, rfl⟩)
            | (go_at_call 64; refine HF.out.mono ?_; rintro e w2 ⟨rfl, rfl⟩))
          go_ret2
          exact ⟨_, ret_two rfl (by rw [HE.out]; rfl), by rw [HR.out]; exact OwnI.nil _ _ _ _, Below.refl _ _⟩
        · rw [hf] at HF
          have hE : checkedE ss us = 0 := by rw [hE0, if_neg (by rw [hr]; decide), if_neg (by rw [hf]; decide)]
          have HE := Lib.hid hE
          have HOK := Lib.hid (checked_ok hE)
          obtain ⟨T, hT⟩ : ∃ T, takK ss us ss.length = T := ⟨_, rfl⟩
          have HR := Lib.hid (show rowB ss us = bitsT T T.length by unfold rowB; rw [if_pos hE, hT])
          have hTl : T.length ≤ 128 := by rw [← hT]; have := takK_len ss us ss.length; omega
          have HTR := Lib.hid (show ∀ j, 0 ≤ nth 0 T j ∧ nth 0 T j ≤ 95 by rw [← hT]; exact fun j => nth_bound (takK_range (fun k => nth_range (checked_ok hE).2.2.1 k) ss.length) (by decide) j)
          have HS := Lib.hid hS
          have HU := Lib.hid hU
          have HTK := Lib.hid (fun W (hb : Below w.heap.size w W) => taken_any A B c d ss us W (hS.below hb) (hU.below hb) hl (by omega))
          rw [hT] at HTK
          have HCD := Lib.hid (fun Ac cc W (h : RI W Ac cc tabI) => rcodes_any Ac cc tabI W h)
          rw [tab_codes, tab_check, tabI_length] at HCD
          clear hl h128 hr hE0 hf hE hT hS hU
          go_enter Try.func41, Try.ntmps41
          go_wp2_with (first
            | (go_at_call 54; refine HA.out.mono ?_; rintro e w2 ⟨rfl, rfl⟩)
            | (go_at_call 64; refine HF.out.mono ?_; rintro e w2 ⟨rfl, rfl⟩)
            | (go_at_call 17; refine (rslengths_any _).mono ?_; rintro e w2 ⟨v2, rfl, hO2, b2⟩; obtain ⟨A2, c2, rfl, hL2⟩ := own_ri hO2; rw [tabI_length]; have HL2 := Lib.hid hL2; clear hO2 hL2)
            | (go_at_call 65; refine (HCD.out _ _ _ HL2.out).mono ?_; rintro e w3 ⟨v3, rfl, hO3, b3⟩; obtain ⟨A3, c3, rfl, hL3⟩ := own_ri hO3; rw [codesL_length, tabI_length]; have HL3 := Lib.hid hL3; have HB3 := Lib.hid (below2 b2 b3); clear hO3 hL3)
            | (go_at_call 55; refine (HTK.out _ HB3.out).mono ?_; rintro e w4 ⟨v4, rfl, hO4, b4⟩; obtain ⟨A4, c4, rfl, hL4⟩ := own_ri hO4; have HL4 := Lib.hid hL4; clear hO4 hL4))
          have HL2' := Lib.hid ((HL2.out.below b3).below b4)
          have HL3' := Lib.hid (HL3.out.below b4)
          have HB4 := Lib.hid (below2 HB3.out b4)
          clear HA HF HTK HCD HL2 HL3 HB3 b2 b3 b4
          obtain ⟨wo, rfl⟩ : ∃ wo, wo = w4 := ⟨_, rfl⟩
          go_loopw [9, 45] (fun rv iv wr => ∃ j : Nat, iv = .int .i64 (j : Int) ∧ j ≤ T.length ∧ Hid (OwnI 5 .u8 wo.heap.size wr rv (bitsI (bitsT T j))) ∧ Hid (Below wo.heap.size wo wr)) (fun _ iv _ => T.length - (intOf iv).toNat)
          case atStart => exact ⟨0, rfl, Nat.zero_le _, Lib.hid (OwnI.nil _ _ _ _), Lib.hid (Below.refl _ _)⟩
          case round =>
            obtain ⟨j, rfl, hj, hO, hB⟩ := hrel
            by_cases hlt : j < T.length
            · obtain ⟨ad, rfl, hc⟩ := rd_int (HL4.out.below hB.out) j hlt
              have hji : (j : Int) < (T.length : Int) := by omega
              have hbl := bitsT_len T j
              have HSU := Lib.hid (bitsT_succ T j)
              have hsz := hB.out.size
              have hrx := HTR.out j
              by_cases h0 : j = 0
              · have hj0 : ((j : Int) == 0) = true := by simp [h0]
                have hjd : j = 0 := h0
                have HFT := Lib.hid (show fieldT T j = numB (nth 0 T j).toNat 7 by rw [h0]; rfl)
                obtain ⟨x, hx⟩ : ∃ x : Nat, nth 0 T j = (x : Int) := ⟨(nth 0 T j).toNat, by omega⟩
                rw [hx] at hc HFT hrx
                rw [Int.toNat_natCast] at HFT
                have HP := Lib.hid (putrow_any wo.heap.size u9 (bitsT T j) x 7 wr hO.out hsz (by omega) (by omega) (by omega))
                clear h0 hx hjd hlt
                go_wp2_with (go_at_call 66; refine HP.out.mono ?_; rintro e w5 ⟨u5, rfl, hO5, hU5, -⟩)
                go_roundw
                case rel => exact ⟨j + 1, by go_num, by omega, Lib.hid (by rw [HSU.out, HFT.out]; exact hO5), Lib.hid (hB.out.trans (hU5.below hsz fun b _ e => hO.out.base_le b e))⟩
                case measure => simp [intOf]; omega
              · have hj0 : ((j : Int) == 0) = false := by simp [h0]
                obtain ⟨i, hi⟩ : ∃ i : Nat, i = j - 1 := ⟨_, rfl⟩
                have hwi : IntKind.i64.wrap ((j : Int) - 1) = (i : Int) := by rw [IntWalk.i64_in _ (by omega)]; omega
                have hil : (i : Int) < (T.length : Int) := by omega
                obtain ⟨ad2, e2, hc2⟩ := rd_int (HL4.out.below hB.out) i (by omega)
                cases e2
                have hry := HTR.out i
                have HFT := Lib.hid (show fieldT T j = stepB (nth 0 T j - nth 0 T i) by unfold fieldT; rw [if_neg h0, hi])
                generalize nth 0 T j = x at hc HFT hrx
                generalize nth 0 T i = y at hc2 HFT hry
                obtain ⟨k, hk⟩ : ∃ k : Nat, x - y + 95 = (k : Int) := ⟨(x - y + 95).toNat, by omega⟩
                have hk1 : k < 191 := by omega
                have hki : (k : Int) < 191 := by omega
                have hwx : IntKind.i64.wrap (x - y) = x - y := IntWalk.i64_in _ (by omega)
                have hwk : IntKind.i64.wrap (x - y + 95) = (k : Int) := by rw [IntWalk.i64_in _ (by omega)]; exact hk
                obtain ⟨ad3, rfl, hc3⟩ := rd_int (HL2'.out.below hB.out) k (by rw [tabI_length]; exact hk1)
                obtain ⟨ad4, rfl, hc4⟩ := rd_int (HL3'.out.below hB.out) k (by rw [codesL_length, tabI_length]; exact hk1)
                rw [tab_codes_nth k hk1] at hc4
                have hsd : nth 0 tabI k = ((stepL (x - y) : Nat) : Int) := by rw [tabI_nth k hk1]; unfold stepL; rw [hk, Int.toNat_natCast]
                have hsb : stepB (x - y) = numB (codeN tabI k) (stepL (x - y)) := by unfold stepB; rw [hk, Int.toNat_natCast]
                have hcl := tab_code_le k hk1
                have hsl := stepL_le (x - y)
                rw [hsd] at hc3
                rw [hsb] at HFT
                generalize stepL (x - y) = n at hc3 HFT hsl
                generalize codeN tabI k = C at hc4 HFT hcl
                have hdw := Lib.hid ((Below.refl wr.heap.size wr).drew)
                have HP := Lib.hid (putrow_any wo.heap.size u9 (bitsT T j) C n wr.drew (hO.out.below hdw.out) hsz (by omega) (by omega) (by omega))
                have HDW := Lib.hid (hB.out.trans (hdw.out.mono hsz))
                have hHD : wr.drew.heap.size = wr.heap.size := rfl
                clear h0 hsd hsb hlt hi hk hrx hry
                go_wp2
                go_still_tail 9, (by kernel_rfl)
                change wpList _ _ _ _ _ (World.drew _)
                go_wp2_with (go_at_call 66; refine HP.out.mono ?_; rintro e w5 ⟨u5, rfl, hO5, hU5, -⟩)
                go_roundw
                case rel => exact ⟨j + 1, by go_num, by omega, Lib.hid (by rw [HSU.out, HFT.out]; exact hO5), Lib.hid (HDW.out.trans (hU5.below hsz fun b _ e => hO.out.base_le b e))⟩
                case measure => simp [intOf]; omega
            · obtain rfl : j = T.length := by omega
              go_wp2
              go_ret2
              exact ⟨_, ret_two rfl (by rw [HE.out]; rfl), by rw [HR.out]; exact hO.out.mono HB4.out.size, below2 HB4.out hB.out⟩
  · have hlb : ((ss.length : Int) != (us.length : Int)) = true := by simp; omega
    have HE := Lib.hid (show checkedE ss us = 1 by unfold checkedE; rw [if_pos (.inl hl)])
    have HR := Lib.hid (show rowB ss us = [] by unfold rowB; rw [if_neg (by rw [HE.out]; decide)])
    clear hl
    go_enter Try.func41, Try.ntmps41
    go_wp2
    go_ret2
    exact ⟨_, ret_two rfl (by rw [HE.out]; rfl), by rw [HR.out]; exact OwnI.nil _ _ _ _, Below.refl _ _⟩

set_option maxHeartbeats 1000000 in
theorem rscost_any (A B : Option Addr) (c d : Nat) (ss : List Int) (us : List Bool) (w : World) (hS : RI w A c ss) (hU : RB w B d us) :
    Calls Try.prog 14 #[.slice A ss.length c, .slice B us.length d] w fun e w' => e = .returned (.tuple #[.int .i64 (costS ss us).1, .int .i64 (costS ss us).2]) ∧ Below w.heap.size w w' := by
  have HC := Lib.hid (row_any A B c d ss us w hS hU)
  have HX := Lib.hid (rowB_cost ss us)
  have HLN := Lib.hid (show (bitsI (rowB ss us)).length = (rowB ss us).length by simp [bitsI])
  clear hS hU
  go_enter Try.func14, Try.ntmps14
  go_wp2_with (go_at_call 41; refine HC.out.mono ?_; rintro e W2 ⟨v2, rfl, hO2, b2⟩; obtain ⟨A2, c2, rfl⟩ := hO2.slice; rw [HLN.out])
  go_ret2
  exact ⟨by rw [HX.out]; rfl, b2⟩
end Go.Proofs.Ytkfgomhhenmmeaa

namespace Go.Proofs.Ytkfgomhhenmmeaa
open Go.RowKit

/-- The error of writing scales. -/
def writeS (ss : List Int) (us : List Bool) (n : Nat) : Int := if checkedE ss us ≠ 0 then checkedE ss us else fullE n (rowB ss us).length

set_option maxHeartbeats 2000000 in
set_option maxRecDepth 100000 in
theorem rswrite_any (A B R : Option Addr) (c d e0 : Nat) (bs : List Bool) (ss : List Int) (us : List Bool) (w : World) (hR : RY w R e0 (bitsI bs)) (hbl : bs.length ≤ 1048576) (hS : RI w A c ss) (hU : RB w B d us) :
    Calls Try.prog 36 #[.slice R bs.length e0, .slice A ss.length c, .slice B us.length d] w
      fun e w' => ∃ A2 c2, e = .returned (.tuple #[.slice A2 (fullB bs (rowB ss us)).length c2, .int .i64 (writeS ss us bs.length)]) ∧ RY w' A2 c2 (bitsI (fullB bs (rowB ss us))) ∧ Below w.heap.size w w' := by
  have HC := Lib.hid (row_any A B c d ss us w hS hU)
  have HLN := Lib.hid (show ∀ l : List Bool, (bitsI l).length = l.length from fun l => by simp [bitsI])
  have HR := Lib.hid hR
  clear hS hU hR
  by_cases hE : checkedE ss us = 0
  · have HX := Lib.hid (show writeS ss us bs.length = fullE bs.length (rowB ss us).length by unfold writeS; rw [if_neg (by simp [hE])])
    have hml : (rowB ss us).length ≤ 2000 := by
      rw [rowB_walk hE, bitsP_len]
      have h1 := costP_le ss (walkK us us.length)
      have h2 := walkK_len us us.length
      have h3 := (checked_ok hE).2.1
      omega
    rw [hE] at HC
    obtain ⟨M, hM⟩ : ∃ M, rowB ss us = M := ⟨_, rfl⟩
    rw [hM] at HC hml HX ⊢
    have hwa : IntKind.i64.wrap ((bs.length : Int) + (M.length : Int)) = (bs.length : Int) + (M.length : Int) := IntWalk.i64_in _ (by omega)
    by_cases hf : 1048576 < bs.length + M.length
    · have hd : decide (1048576 < (bs.length : Int) + (M.length : Int)) = true := decide_eq_true (by omega)
      have HF := Lib.hid (show fullE bs.length M.length = 2 ∧ fullB bs M = bs from ⟨by unfold fullE; rw [if_pos hf], by unfold fullB; rw [if_pos hf]⟩)
      clear hE hf
      go_enter Try.func36, Try.ntmps36
      go_wp2_with (go_at_call 41; refine HC.out.mono ?_; rintro e W2 ⟨v2, rfl, hO2, b2⟩; obtain ⟨A2, c2, rfl⟩ := hO2.slice; rw [HLN.out])
      go_ret2
      exact ⟨R, e0, ret_two (by rw [HF.out.2]; rfl) (by rw [HX.out, HF.out.1]; rfl), by rw [HF.out.2]; exact HR.out.below b2, b2⟩
    · have hd : decide (1048576 < (bs.length : Int) + (M.length : Int)) = false := decide_eq_false (by omega)
      have HF := Lib.hid (show fullE bs.length M.length = 0 ∧ fullB bs M = bs ++ M from ⟨by unfold fullE; rw [if_neg hf], by unfold fullB; rw [if_neg hf]⟩)
      have HL1 := Lib.hid (HLN.out bs).symm
      have HL2 := Lib.hid (HLN.out M).symm
      clear hE hf
      go_enter Try.func36, Try.ntmps36
      go_wp2_with (first
        | (go_at_call 41; refine HC.out.mono ?_; rintro e W2 ⟨v2, rfl, hO2, b2⟩; obtain ⟨A2, c2, rfl, hL2⟩ := own_ri hO2; rw [HLN.out]; have HL9 := Lib.hid hL2; clear hO2 hL2)
        | (at_builtin; (refine append_row (w0 := W2) W2.heap.size rfl (.tmp 29) (.tmp 30) 43 5 .u8 1 rfl Try.underlying43 infoY (by decide) _ [] (bitsI bs) R e0 rfl (by rw [← HL1.out]; rfl) (own_lit W2 5 .u8 [] (by decide)) ((HR.out.below b2).below (below_alloc (Below.refl _ _) _)) (below_alloc (Below.refl _ _) _) (by simp) (by simp [bitsI]; omega) ?_); intro v1 w4 hO4 hB4 _ _; have HO4 := Lib.hid hO4; have HB4 := Lib.hid hB4; clear hO4 hB4)
        | (at_builtin; (refine append_row (w0 := W2) W2.heap.size rfl (.tmp 31) (.tmp 32) 43 5 .u8 1 rfl Try.underlying43 infoY (by decide) v1 ([] ++ bitsI bs) (bitsI M) A2 c2 rfl (by rw [← HL2.out]; rfl) HO4.out (HL9.out.below HB4.out) HB4.out HB4.out.size (by simp [bitsI]; omega) ?_); intro v5 w5 hO5 hB5 _ _; have HO5 := Lib.hid hO5; have HB5 := Lib.hid hB5; clear hO5 hB5))
      have HO6 := Lib.hid (show OwnI 5 .u8 W2.heap.size w5 v5 (bitsI (bs ++ M)) by have := HO5.out; rwa [List.nil_append, show bitsI bs ++ bitsI M = bitsI (bs ++ M) by simp [bitsI]] at this)
      obtain ⟨A6, c6, rfl, hL6⟩ := own_ri HO6.out
      go_ret2
      refine ⟨A6, c6, ret_two (by rw [HF.out.2, HLN.out]; rfl) (by rw [HX.out, HF.out.1]; rfl), by rw [HF.out.2]; exact hL6, below2 b2 HB5.out⟩
  · have hEb : (checkedE ss us != 0) = true := by simp [hE]
    have HX := Lib.hid (show writeS ss us bs.length = checkedE ss us by unfold writeS; rw [if_pos hE])
    have HF := Lib.hid (show fullB bs (rowB ss us) = bs by unfold rowB; rw [if_neg hE]; exact fullB_nil bs hbl)
    clear hE
    go_enter Try.func36, Try.ntmps36
    go_wp2_with (go_at_call 41; refine HC.out.mono ?_; rintro e W2 ⟨v2, rfl, hO2, b2⟩; obtain ⟨A2, c2, rfl⟩ := hO2.slice)
    go_ret2
    exact ⟨R, e0, ret_two (by rw [HF.out]; rfl) (by rw [HX.out]; rfl), by rw [HF.out]; exact HR.out.below b2, b2⟩
end Go.Proofs.Ytkfgomhhenmmeaa

namespace Go.Proofs.Ytkfgomhhenmmeaa
open Go.RowKit Go.Shelf
attribute [local go_sem] Oper.semAt_some

theorem costP_walk_mono (ss : List Int) (us : List Bool) (k : Nat) : ∀ m, k ≤ m → costP ss (walkK us k) ≤ costP ss (walkK us m)
  | 0, h => by
    obtain rfl : k = 0 := by omega
    exact Nat.le_refl _
  | m + 1, h => by
    rcases Nat.lt_or_ge m k with h1 | h1
    · obtain rfl : k = m + 1 := by omega
      exact Nat.le_refl _
    · have h2 := costP_walk_mono ss us k m h1
      cases hu : nth false us m
      · rw [(walkK_miss hu).1]; exact h2
      · rw [(walkK_hit hu).1, costP_snoc]; omega

structure WtI (o : Nat → Prop) (W0 : World) (g : Nat) (bits : List Bool) (W : World) : Prop where
  wr : Wr (fun b => o b ∨ W0.heap.size ≤ b) W g bits
  upd : Upd o W0 W

theorem WtI.put {o : Nat → Prop} {W0 W W' : World} {g : Nat} {bits : List Bool} (hs : WtI o W0 g bits W) (hb : Below W.heap.size W W') (v n : Nat) (hn : n ≤ 32) (hv : v < 2 ^ n) (hl : bits.length + n ≤ 1048576) :
    Calls Try.prog 59 #[.pointer (some ⟨g, 0, none⟩), .int .i64 (v : Int), .int .i64 (n : Int)] W'
      fun e w' => (∃ E, e = .returned (.int .i64 E)) ∧ KeepsFrom W0.heap.size W w' ∧ Keep (fun b => ¬ o b ∧ b < W0.heap.size) W w' ∧ WtI o W0 g (bits ++ numB v n) w' := by
  obtain ⟨vv, hw⟩ := hs.wr
  refine (wput_any (foot g vv) g v n bits W' ((show Wr (foot g vv) W g bits from ⟨vv, hw.exact⟩).below hb) (by omega) hn hv).mono ?_
  rintro e w3 ⟨rfl, hw3, hu3⟩
  have hu := (Upd.of_below hb (foot g vv)).trans hu3 (fun b _ e => e)
  have hfoot := hw.foot_in
  refine ⟨⟨_, rfl⟩, (hw.others hu).from _, hu.keep (fun b hb hf => ?_), ⟨?_, hs.upd.trans hu (fun b hb hf => ?_)⟩⟩
  · rcases (hfoot b hf).1 with h | h
    · exact hb.1 h
    · exact absurd hb.2 (by omega)
  · have hfb : fullB bits (numB v n) = bits ++ numB v n := by unfold fullB; rw [if_neg (by rw [numB_length]; omega)]
    rw [← hfb]
    exact hw3.weak (fun b _ h => by
      rcases h with h | h
      · exact (hfoot b h).1
      · exact .inr (by have := hs.upd.size; have := hb.size; omega))
  · rcases (hfoot b hf).1 with h | h
    · exact h
    · omega

set_option maxHeartbeats 4000000 in
set_option maxRecDepth 100000 in
theorem swrite0 (o : Nat → Prop) (g : Nat) (A B : Option Addr) (c d : Nat) (bs : List Bool) (ss : List Int) (us : List Bool) (w : World) (ho : ∀ b, o b → b < w.heap.size) (h : Wr o w g bs) (hl : bs.length ≤ 1048576)
    (hS : Sl (kInt .i64) (fun b => ¬ o b) w A c ss) (hU : Sl kBool (fun b => ¬ o b) w B d us) :
    Calls Try.prog 29 #[.pointer (some ⟨g, 0, none⟩), .slice A ss.length c, .slice B us.length d] w
      fun e w' => e = .returned (.int .i64 (writeS ss us bs.length)) ∧ Wr (fun b => o b ∨ w.heap.size ≤ b) w' g (fullB bs (rowB ss us)) ∧ Upd o w w' := by
  have hba := below_alloc (below_alloc (Below.refl w.heap.size w) (.cells #[.pointer (some ⟨g, 0, none⟩)] 55)) (.cells #[.slice A ss.length c] 22)
  have HBA := Lib.hid hba
  have HB3 := Lib.hid (show Blk ((w.alloc (.cells #[.pointer (some ⟨g, 0, none⟩)] 55)).alloc (.cells #[.slice A ss.length c] 22)) w.heap.size #[.pointer (some ⟨g, 0, none⟩)] 55 by
    have h9 : Blk _ _ #[.pointer (some ⟨g, 0, none⟩)] 55 := heap_alloc_new w (.cells #[.pointer (some ⟨g, 0, none⟩)] 55)
    exact h9.below (below_alloc (Below.refl _ _) _))
  have HB4 := Lib.hid (show Blk ((w.alloc (.cells #[.pointer (some ⟨g, 0, none⟩)] 55)).alloc (.cells #[.slice A ss.length c] 22)) (w.heap.size + 1) #[.slice A ss.length c] 22 by
    have h9 : Blk _ _ #[.slice A ss.length c] 22 := heap_alloc_new (w.alloc (.cells #[.pointer (some ⟨g, 0, none⟩)] 55)) (.cells #[.slice A ss.length c] 22)
    rwa [World.size_alloc] at h9)
  have HC := Lib.hid (scost_any A B c d ss us _ (hS.any.below hba) (hU.any.below hba))
  rw [rowB_cost] at HC
  have HS := Lib.hid hS
  have HU := Lib.hid hU
  have H := Lib.hid h
  by_cases hE : checkedE ss us = 0
  · have HX := Lib.hid (show writeS ss us bs.length = fullE bs.length (rowB ss us).length by unfold writeS; rw [if_neg (by simp [hE])])
    have HOK := Lib.hid (checked_ok hE)
    have HRW := Lib.hid (rowB_walk hE)
    rw [hE] at HC
    have hml : (rowB ss us).length ≤ 2000 := by
      rw [rowB_walk hE, bitsP_len]
      have h1 := costP_le ss (walkK us us.length)
      have h2 := walkK_len us us.length
      have h3 := (checked_ok hE).2.1
      omega
    obtain ⟨M, hM⟩ : ∃ M, (rowB ss us).length = M := ⟨_, rfl⟩
    have HM := Lib.hid hM
    rw [hM] at HC hml
    have hwa : IntKind.i64.wrap ((bs.length : Int) + (M : Int)) = (bs.length : Int) + (M : Int) := IntWalk.i64_in _ (by omega)
    by_cases hf : 1048576 < bs.length + M
    · have hd : decide (1048576 < (bs.length : Int) + (M : Int)) = true := decide_eq_true (by omega)
      have HF := Lib.hid (show fullE bs.length (rowB ss us).length = 2 ∧ fullB bs (rowB ss us) = bs from ⟨by unfold fullE; rw [hM, if_pos hf], by unfold fullB; rw [hM, if_pos hf]⟩)
      clear hE hf hS hU h hba hM
      go_enter Try.func29, Try.ntmps29
      go_wp2_with (first
        | (go_at_call 13; refine HC.out.mono ?_; rintro e W2 ⟨rfl, b2⟩; have HB2 := Lib.hid (below2 HBA.out b2); have HW2 := Lib.hid (H.out.below HB2.out); have k3 := (HB3.out.below b2).cell 0 rfl)
        | (go_at_call 30; refine (wlen_any o g bs _ HW2.out).mono ?_; rintro e w2 ⟨rfl, rfl⟩))
      go_ret
      exact ⟨by rw [HX.out, HF.out.1]; rfl, by rw [HF.out.2]; exact HW2.out.weak fun b _ h => .inl h, Upd.of_below HB2.out o⟩
    · have hd : decide (1048576 < (bs.length : Int) + (M : Int)) = false := decide_eq_false (by omega)
      have HF := Lib.hid (show fullE bs.length (rowB ss us).length = 0 ∧ fullB bs (rowB ss us) = bs ++ rowB ss us from ⟨by unfold fullE; rw [hM, if_neg hf], by unfold fullB; rw [hM, if_neg hf]⟩)
      have HRM := Lib.hid (show bs.length + costP ss (walkK us us.length) ≤ 1048576 by rw [← bitsP_len, ← rowB_walk hE, hM]; omega)
      have HCD := Lib.hid (fun Ac cc W (h : RI W Ac cc tabI) => codes_any Ac cc tabI W h)
      rw [tab_codes, tab_check, tabI_length] at HCD
      clear hE hf hS hU h hba hM
      refine (callsIn_wide (n := 9)).1 ?_
      refine callsIn_of_wp_marks Try.func29 rfl trivial ?_ rfl
      simp only [Try.ntmps29, List.size_toArray, List.length_cons, List.length_nil, Nat.reduceAdd, Nat.reduceSub, Array.replicate_succ, Array.replicate_zero, List.push_toArray, List.append_toArray, List.nil_append, List.cons_append]
      gi_wp2_with (first
        | (refine ⟨trivial, ?_⟩; gi_at_call 13; refine (callsIn_wide.2 HC.out).mono ?_; rintro e W2 ⟨rfl, b2⟩; have HB2 := Lib.hid (below2 HBA.out b2); have HW2 := Lib.hid (H.out.below HB2.out); have k3 := (HB3.out.below b2).cell 0 rfl)
        | (refine ⟨trivial, ?_⟩; gi_at_call 30; refine (callsIn_wide.2 (wlen_any o g bs _ HW2.out)).mono ?_; rintro e w2 ⟨rfl, rfl⟩)
        | (refine ⟨trivial, ?_⟩; gi_at_call 16; refine (callsIn_wide.2 (slengths_any _)).mono ?_; rintro e w2 ⟨v2, rfl, hO2, b4⟩; obtain ⟨A2, c2, rfl, hL2⟩ := own_ri hO2; rw [tabI_length]; have HL2 := Lib.hid hL2; clear hO2 hL2)
        | (refine ⟨trivial, ?_⟩; gi_at_call 58; refine (callsIn_wide.2 (HCD.out _ _ _ HL2.out)).mono ?_; rintro e w3 ⟨v3, rfl, hO3, b5⟩; obtain ⟨A3, c3, rfl, hL3⟩ := hO3.rd; rw [codesL_length, tabI_length]; have HL3 := Lib.hid (hL3.weak (ok' := fun b => ¬ o b) (fun b _ h hob => by have := ho b hob; have := HB2.out.size; have := b4.size; have := h.1; omega)); clear hO3 hL3)
        | (refine ⟨trivial, ?_⟩; gi_at_call 39; refine (callsIn_wide.2 (walk_any _ _ _ _)).mono ?_; rintro e W0 ⟨gb, rfl, e1, e2, bB, b6⟩))
      obtain ⟨g3, hg3⟩ : ∃ g3, w.heap.size = g3 := ⟨_, rfl⟩
      obtain ⟨g9, hg9⟩ : ∃ g9, w3.heap.size = g9 := ⟨_, rfl⟩
      have hb9 := below_alloc (Below.refl w3.heap.size w3) (.cells #[.slice A3 191 c3] 22)
      have hbw := below2 (below2 (below2 b4 b5) hb9) b6
      have hb0 := below2 HB2.out hbw
      have hB9 : Blk W0 g9 #[.slice A3 191 c3] 22 := by
        have h9 : Blk _ _ #[.slice A3 191 c3] 22 := heap_alloc_new w3 (.cells #[.slice A3 191 c3] 22)
        rw [← hg9]
        exact h9.below b6
      have hB3 := (HB3.out.below b2).below hbw
      have hB4 := (HB4.out.below b2).below hbw
      have hL0 := (HL3.out.below hb9).below b6
      have hI0 : WtI o W0 g (bs ++ bitsP ss []) W0 := ⟨by simpa [bitsP] using (HW2.out.below hbw).weak (fun b _ h => .inl h), Upd.refl _ _⟩
      have he1 := e1.out
      have he2 := e2.out
      have hgb : W0.heap.size = gb + 1 := he2
      have hz := hb0.size
      have hz2 := hbw.size
      have hS0 := HS.out.below hb0
      have hU0 := (HU.out.below hb0).weak (ok' := fun b => ¬ o b ∧ b < W0.heap.size) (fun b hb h => ⟨h, hb⟩)
      have l9 : g3 ≤ g9 := by have := HB2.out.size; have := b4.size; have := b5.size; omega
      have lb9 : g9 < gb := by simp at he1; omega
      have HB0 := Lib.hid hb0
      have HN := Lib.hid (show w.heap.size = g3 ∧ g3 ≤ g9 ∧ g9 < gb ∧ W0.heap.size = gb + 1 from ⟨hg3, l9, lb9, hgb⟩)
      rw [hg3] at hB3 hB4
      simp only [hg3, hg9]
      clear e1 e2 he1 he2 b2 b4 b5 b6 hb9 hbw HB3 HB4 HC HCD HW2 HL2 HL3 hz2 k3
      refine range_next rfl (by decide) (gf := 63) (lb := #[.pointer (some ⟨gb, 0, none⟩)]) rfl trivial (enters_of Try.func63 (by kernel_rfl) rfl)
        (walk1_yields gb B d us W0 (fun b => ¬ o b ∧ b < W0.heap.size) hU0 bB ⟨fun h => by have := ho gb h; omega, by omega⟩ 8 (by decide)) (fun r h => h.elim) (fun r h => h.2) (Below.refl _ _) (fun _ => rfl)
        (fun pre W => WtI o W0 g (bs ++ bitsP ss pre) W) (fun _ _ _ => False) ?hI (fun _ _ _ _ _ h _ _ => h) hI0
        (fun x a' W => a' = { tmps := (.pointer (some ⟨g, 0, none⟩) :: .slice A ss.length c :: .slice B us.length d :: .pointer (some ⟨g3, 0, none⟩) :: .pointer (some ⟨g3 + 1, 0, none⟩) :: undef :: .int .i64 0 :: .int .i64 (M : Int) :: .int .i64 0 :: .pointer (some ⟨g9, 0, none⟩) :: .int .i64 0 :: .int .i64 (x.1 : Int) :: .int .i64 x.2 :: undef :: .pointer (some ⟨g, 0, none⟩) :: .bool false :: .tuple #[.int .i64 (M : Int), .int .i64 0] :: .slice A ss.length c :: .slice B us.length d :: .tuple #[.int .i64 (M : Int), .int .i64 0] :: .int .i64 (M : Int) :: .int .i64 0 :: .int .i64 0 :: .bool false :: undef :: .pointer (some ⟨g, 0, none⟩) :: .int .i64 (bs.length : Int) :: .int .i64 (M : Int) :: .int .i64 ((bs.length : Int) + (M : Int)) :: .bool false :: .tuple #[.slice A3 191 c3, .int .i64 0] :: .slice A2 191 c2 :: .tuple #[.slice A3 191 c3, .int .i64 0] :: .slice A3 191 c3 :: .int .i64 0 :: .slice B us.length d :: .func (.func 63) #[] #[.pointer (some ⟨gb, 0, none⟩)] :: .int .i64 (x.1 : Int) :: .int .i64 x.2 :: undef :: undef :: undef :: undef :: undef :: undef :: undef :: undef :: undef :: undef :: undef :: undef :: undef :: undef :: undef :: undef :: undef :: undef :: undef :: undef :: undef :: undef :: undef :: undef :: undef :: undef :: []).toArray, defers := [] })
        (fun _ _ _ _ _ _ h _ _ => h) ?assign ?body ?done (fun _ _ _ _ _ _ h _ => h.elim)
      case hI =>
        rintro s X Y row hs hg hr
        have hO : Other X row := fun r e => by
          rcases hr r e with h | ⟨_, x, hx, hc⟩
          · exact h.elim
          · exact ⟨x, hx, hc⟩
        refine ⟨hs.wr.firm hg hO, hs.upd.trans (Upd.of_grown (o := fun b => W0.heap.size ≤ b) hg (fun r e => ?_)) (fun b hb e => by omega)⟩
        rcases hr r e with h | ⟨h, _⟩
        · exact h.elim
        · exact h
      case assign =>
        clear hg3 hg9
        intro l pre x W K hi _ hK
        gi_wp2
        exact hK _ _ (KeepsOthers.refl _ |>.from _) (Keep.refl _ _) hi rfl
      case body =>
        clear hg3 hg9
        rintro l pre x a' W hs rfl ⟨k, hk, huk, hpre, hx⟩
        subst hx
        have hkp := hs.upd.keep (ok := fun b => ¬ o b) (fun _ h => h)
        have no3 : ∀ b, g3 ≤ b → ¬ o b := fun b h1 h => by have := ho _ h; have := HN.out; omega
        have k3 := (hB3.keep hkp (no3 _ (Nat.le_refl _))).cell 0 rfl
        have k4 := (hB4.keep hkp (no3 _ (by omega))).cell 0 rfl
        have k9 := (hB9.keep hkp (no3 _ (by omega))).cell 0 rfl
        have hL := HOK.out.1
        obtain ⟨ad, rfl, hcx⟩ := rd_int (hS0.keep hkp) k (by omega)
        have hcm := costP_walk_mono ss us (k + 1) us.length (by omega)
        rw [(walkK_hit huk).1, costP_snoc, ← hpre, ← bitsP_len] at hcm
        have hcm2 : (bs ++ bitsP ss pre).length + stepC ss (k, befK us k) ≤ 1048576 := by have := HRM.out; rw [List.length_append]; omega
        have hrx := nth_range HOK.out.2.2.1 k
        have hki : (k : Int) < (ss.length : Int) := by omega
        have HFS := Lib.hid (bitsP_snoc ss pre (k, befK us k))
        by_cases hb : befK us k < 0
        · have hd1 : decide (befK us k < 0) = true := decide_eq_true hb
          have HFP := Lib.hid (show fieldP ss (k, befK us k) = numB (nth 0 ss k).toNat 7 by unfold fieldP; rw [if_pos hb])
          have hst : stepC ss (k, befK us k) = 7 := by unfold stepC; rw [if_pos hb]
          rw [hst] at hcm2
          obtain ⟨y, hy⟩ : ∃ y : Nat, nth 0 ss k = (y : Int) := ⟨(nth 0 ss k).toNat, by omega⟩
          rw [hy] at hcx hrx HFP
          rw [Int.toNat_natCast] at HFP
          have HP := Lib.hid (fun W' (hb : Below W.heap.size W W') => WtI.put hs hb y 7 (by decide) (by omega) hcm2)
          clear hb hst hs hpre huk hcm hcm2 hy k9 hL hkp
          gi_wp2
          refine wpIn_still_tail 5 (by kernel_rfl) (by kernel_rfl) (by kernel_rfl) ?_
          simp only [List.take_succ_cons, List.take_zero, List.drop_succ_cons, List.drop_zero]
          repeat still_step
          try refine wpStill_nil ?_
          gi_wp2_with (refine ⟨trivial, ?_⟩; gi_at_call 59; refine (CallsIn.inRound l (callsIn_wide.2 (HP.out _ (Below.refl _ _).drew))).mono ?_; rintro e W3 ⟨⟨E, rfl⟩, hk1, hk2, hw3⟩)
          exact ⟨hk1, hk2, by show WtI o W0 g (bs ++ bitsP ss (pre ++ [(k, befK us k)])) W3; rw [HFS.out, ← List.append_assoc, HFP.out]; exact hw3⟩
        · obtain ⟨j, hbj, hjk, huj⟩ := (befK_lt us k).resolve_left (fun h => hb (by omega))
          obtain ⟨ad', e', hcy⟩ := rd_int (hS0.keep hkp) j (by omega)
          injection e' with e'; subst e'
          have hry := nth_range HOK.out.2.2.1 j
          have hst : stepC ss (k, (j : Int)) = stepL (nth 0 ss k - nth 0 ss j) := by unfold stepC; rw [if_neg (by show ¬ (j : Int) < 0; omega)]; rfl
          have hfp : fieldP ss (k, (j : Int)) = stepB (nth 0 ss k - nth 0 ss j) := by unfold fieldP; rw [if_neg (by show ¬ (j : Int) < 0; omega)]; rfl
          have hd1 : decide ((j : Int) < 0) = false := decide_eq_false (by omega)
          rw [hbj] at hcm2 HFS ⊢
          rw [hst] at hcm2
          generalize nth 0 ss k = x at hcx hrx hst hfp hcm2
          generalize nth 0 ss j = y at hcy hry hst hfp hcm2
          obtain ⟨q, hq⟩ : ∃ q : Nat, x - y + 95 = (q : Int) := ⟨(x - y + 95).toNat, by omega⟩
          have hq1 : q < 191 := by omega
          have hqi : (q : Int) < 191 := by omega
          have hwxy : IntKind.i64.wrap (x - y) = x - y := IntWalk.i64_in _ (by omega)
          have hwq : IntKind.i64.wrap (x - y + 95) = (q : Int) := by rw [IntWalk.i64_in _ (by omega)]; exact hq
          obtain ⟨ad3, rfl, hcz⟩ := rd_int (hL0.keep hkp) q (by rw [codesL_length, tabI_length]; exact hq1)
          rw [tab_codes_nth q hq1] at hcz
          have hsb : stepB (x - y) = numB (codeN tabI q) (stepL (x - y)) := by unfold stepB; rw [hq, Int.toNat_natCast]
          have hcl := tab_code_lt q hq1
          rw [show lenOf tabI q = stepL (x - y) by rw [← tab_lenOf_stepL (x - y) (by omega), hq, Int.toNat_natCast]] at hcl
          have HFP := Lib.hid (hfp.trans hsb)
          have HLN := Lib.hid (fun W => length_any (x - y) W (by omega))
          have hsl := stepL_le (x - y)
          have hHeld0 : (fun W' : World => W'.cell? ⟨g3, 0, none⟩ = some (.pointer (some ⟨g, 0, none⟩)) ∧ W'.cell? ⟨g9, 0, none⟩ = some (.slice (some ad3) 191 c3) ∧ W'.cell? (ad3.add q) = some (.int .i64 (codeN tabI q : Int))) W := ⟨k3, k9, hcz⟩
          generalize stepL (x - y) = n at hcm2 HLN HFP hsl hcl hst
          generalize codeN tabI q = C at hcz HFP hcl hHeld0
          have HP := Lib.hid (fun W' (hb : Below W.heap.size W W') => WtI.put hs hb C n (by omega) hcl hcm2)
          have hjl : (j : Int) < (ss.length : Int) := by omega
          clear hb hst hs hpre huk huj hcm hcm2 hL hkp hbj hjk hfp hsb hcl hrx hry hq
          gi_wp2
          refine wpIn_still_tail 9 (by kernel_rfl) (by kernel_rfl) (by kernel_rfl) ?_
          simp only [List.take_succ_cons, List.take_zero, List.drop_succ_cons, List.drop_zero]
          repeat still_step
          try refine wpStill_nil ?_
          gi_wp2
          refine wpIn_region_G 8 (fun W' : World => W'.cell? ⟨g3, 0, none⟩ = some (.pointer (some ⟨g, 0, none⟩)) ∧ W'.cell? ⟨g9, 0, none⟩ = some (.slice (some ad3) 191 c3) ∧ W'.cell? (ad3.add q) = some (.int .i64 (C : Int))) (by kernel_rfl) (by kernel_rfl) (fun ⟨_, _, h⟩ => h) hHeld0 (fun hHeld => ?_)
          refine wpAnyG_takeL (i := 0) (.pointer (some ⟨g, 0, none⟩)) [8] rfl (by kernel_rfl) (fun _ _ _ h => h) hHeld (by rfl) ?_ ?_
          · (intro W' hSw; (try dsimp only at hSw); go_simp)
          try simp only [Act.put, List.setIfInBounds_toArray, List.set_cons_zero, List.set_cons_succ]
          refine wpAnyG_takeL (i := 1) (.slice (some ad3) 191 c3) [4, 5, 8] rfl (by kernel_rfl) (fun _ _ _ h => h) hHeld (by rfl) ?_ ?_
          · (intro W' hSw; (try dsimp only at hSw); go_simp)
          try simp only [Act.put, List.setIfInBounds_toArray, List.set_cons_zero, List.set_cons_succ]
          refine wpAnyG_takeL (i := 2) (.int .i64 (x - y)) [3, 4, 5, 8] rfl (by kernel_rfl) (fun _ _ _ h => h) hHeld (by rfl) ?_ ?_
          · (intro W' hSw; (try dsimp only at hSw); go_simp)
          try simp only [Act.put, List.setIfInBounds_toArray, List.set_cons_zero, List.set_cons_succ]
          refine wpAnyG_takeL (i := 3) (.int .i64 q) [4, 5, 8] rfl (by kernel_rfl) (fun _ _ _ h => h) hHeld (by rfl) ?_ ?_
          · (intro W' hSw; (try dsimp only at hSw); go_simp)
          try simp only [Act.put, List.setIfInBounds_toArray, List.set_cons_zero, List.set_cons_succ]
          refine wpAnyG_takeL (i := 4) (.pointer (some (ad3.add q))) [5, 8] rfl (by kernel_rfl) (fun _ _ _ h => h) hHeld (by rfl) ?_ ?_
          · (intro W' hSw; (try dsimp only at hSw); go_simp)
          try simp only [Act.put, List.setIfInBounds_toArray, List.set_cons_zero, List.set_cons_succ]
          refine wpAnyG_takeL (i := 5) (.int .i64 C) [8] rfl (by kernel_rfl) (fun _ _ _ h => h) hHeld (by rfl) ?_ ?_
          · (intro W' hSw; (try dsimp only at hSw); go_simp)
          try simp only [Act.put, List.setIfInBounds_toArray, List.set_cons_zero, List.set_cons_succ]
          refine wpAnyG_takeL (i := 6) (.int .i64 (x - y)) [7, 8] rfl (by kernel_rfl) (fun _ _ _ h => h) hHeld (by rfl) ?_ ?_
          · (intro W' hSw; (try dsimp only at hSw); go_simp)
          try simp only [Act.put, List.setIfInBounds_toArray, List.set_cons_zero, List.set_cons_succ]
          clear hHeld
          refine wpAnyG_oneL (i := 7) (by kernel_rfl) rfl (fun K hK => ?_)
          (go_simp; go_at_call 40; refine (HLN.out _).mono ?_; rintro e w9 ⟨rfl, rfl⟩)
          refine hK.out _ _ (fun _ => hHeld0) ?_
          clear hK K
          try simp only [Act.put, List.setIfInBounds_toArray, List.set_cons_zero, List.set_cons_succ]
          refine wpAnyG_oneL (i := 8) (by kernel_rfl) rfl (fun K hK => ?_)
          (go_simp; go_at_call 59; refine (HP.out _ ((Below.refl _ _).drew.trans (Below.refl _ _).drew)).mono ?_; rintro e w9 ⟨⟨E, rfl⟩, hk1, hk2, hw3⟩)
          refine hK.out _ _ (fun h => Bool.noConfusion (show true = false from h)) ?_
          clear hK K
          refine wpAnyG_done (by kernel_rfl) ?_ _
          exact ⟨hk1, hk2, by show WtI o W0 g (bs ++ bitsP ss (pre ++ [(k, (j : Int))])) _; rw [HFS.out, ← List.append_assoc, HFP.out]; exact hw3⟩
      case done =>
        clear hg3 hg9
        rintro D xs W hD rfl hs hK
        gi_wp2
        refine ⟨by simp, .inl ⟨_, _, rfl, run_takeDeferred hK, ?_⟩⟩
        have hO : Other W (some D) := fun r e => by cases e; exact ⟨_, hK, rfl⟩
        have hu := hs.upd.trans (Upd.of_grown (o := fun b => b = D) (grownBy_putObj' W D (.deferred none)) (fun r e => by cases e; rfl)) (fun b hb e => by omega)
        refine ⟨_, results_tmp rfl _ _ _, by rw [HX.out, HF.out.1]; rfl, ?_, (Upd.of_below HB0.out o).trans hu (fun _ _ h => h)⟩
        rw [HF.out.2, HRW.out]
        exact (hs.wr.firm (grownBy_putObj' W D _) hO).weak (fun b _ h => h.imp id (fun h => by have := HN.out; have := HB0.out.size; omega))
  · have hEb : (checkedE ss us != 0) = true := by simp [hE]
    have HX := Lib.hid (show writeS ss us bs.length = checkedE ss us by unfold writeS; rw [if_pos hE])
    have HF := Lib.hid (show fullB bs (rowB ss us) = bs by unfold rowB; rw [if_neg hE]; exact fullB_nil bs hl)
    clear hE hS hU h hba
    go_enter Try.func29, Try.ntmps29
    go_wp2_with (go_at_call 13; refine HC.out.mono ?_; rintro e W2 ⟨rfl, b2⟩; have HB2 := Lib.hid (below2 HBA.out b2))
    go_ret
    exact ⟨by rw [HX.out]; rfl, by rw [HF.out]; exact (H.out.below HB2.out).weak fun b _ h => .inl h, Upd.of_below HB2.out o⟩
theorem swrite_any (o : Nat → Prop) (g : Nat) (A B : Option Addr) (c d : Nat) (bs : List Bool) (ss : List Int) (us : List Bool) (w : World) (h : Wr o w g bs) (hl : bs.length ≤ 1048576)
    (hS : Sl (kInt .i64) (fun b => ¬ o b) w A c ss) (hU : Sl kBool (fun b => ¬ o b) w B d us) :
    Calls Try.prog 29 #[.pointer (some ⟨g, 0, none⟩), .slice A ss.length c, .slice B us.length d] w
      fun e w' => e = .returned (.int .i64 (writeS ss us bs.length)) ∧ Wr (fun b => o b ∨ w.heap.size ≤ b) w' g (fullB bs (rowB ss us)) ∧ Upd o w w' :=
  (swrite0 (fun b => o b ∧ b < w.heap.size) g A B c d bs ss us w (fun _ h => h.2) h.cut hl (hS.weak fun _ _ h k => h k.1) (hU.weak fun _ _ h k => h k.1)).mono
    fun _ _ ⟨h1, h2, h3⟩ => ⟨h1, h2.weak (fun _ _ h => h.imp And.left id), h3.weak (fun _ _ h => h.1)⟩

set_option maxHeartbeats 1000000 in
theorem swrite_nil (A B : Option Addr) (n m c d : Nat) (w : World) :
    Calls Try.prog 29 #[.pointer none, .slice A n c, .slice B m d] w fun e w' => e = .returned (.int .i64 1) ∧ Below w.heap.size w w' := by
  go_enter Try.func29, Try.ntmps29
  go_wp2
  go_ret
  exact ⟨rfl, below_alloc (below_alloc (Below.refl _ _) _) _⟩
end Go.Proofs.Ytkfgomhhenmmeaa

namespace Go.Proofs.Ytkfgomhhenmmeaa
open Go.RowKit

theorem before_last {ls : List Int} (h16 : ∀ k, lenOf ls k ≤ 16) {A : List Nat} {p : Nat} (h : ordN ls = A ++ [p]) : before ls p + share (lenOf ls p) = filledN ls := by
  have hs := ordN_sorted ls
  have hmem : ∀ k, k ∈ ordN ls ↔ _ := mem_ordN h16
  have hp : p < ls.length ∧ 0 < lenOf ls p := (hmem p).1 (by rw [h]; simp)
  rw [h] at hs
  have hs2 := List.pairwise_append.1 hs
  refine sumTo_one (m := p) hp.1 (fun k hk hne => ?_) (by rw [if_neg (by rw [ltW_irrefl]; simp)]; omega)
  by_cases hk0 : 0 < lenOf ls k
  · have hm : k ∈ ordN ls := (hmem k).2 ⟨hk, hk0⟩
    rw [h] at hm
    rcases List.mem_append.1 hm with hm | hm
    · rw [if_pos (hs2.2.2 k hm p (by simp))]
    · exact absurd (List.mem_singleton.1 hm) hne
  · have hz : share (lenOf ls k) = 0 := by unfold share; rw [if_pos (by omega)]
    rw [hz]; split <;> rfl
theorem cover {ls : List Int} (h16 : ∀ k, lenOf ls k ≤ 16) (hf : filledN ls = 65536) {v : Nat} (hv : v < 65536) : ∃ i, i < ls.length ∧ 0 < lenOf ls i ∧ before ls i ≤ v ∧ v < before ls i + share (lenOf ls i) := by
  have go : ∀ (B A : List Nat) (p : Nat), ordN ls = A ++ p :: B → before ls p ≤ v → ∃ i, i < ls.length ∧ 0 < lenOf ls i ∧ before ls i ≤ v ∧ v < before ls i + share (lenOf ls i) := by
    intro B
    induction B with
    | nil =>
      intro A p h hb
      have hp := (mem_ordN h16 p).1 (by rw [h]; simp)
      have := before_last h16 h
      exact ⟨p, hp.1, hp.2, hb, by omega⟩
    | cons i B ih =>
      intro A p h hb
      have hp := (mem_ordN h16 p).1 (by rw [h]; simp)
      have hn := before_next h16 h
      rcases Nat.lt_or_ge v (before ls p + share (lenOf ls p)) with h1 | h1
      · exact ⟨p, hp.1, hp.2, hb, h1⟩
      · exact ih (A ++ [p]) i (by rw [h]; simp) (by omega)
  cases ho : ordN ls with
  | nil =>
    exfalso
    have : filledN ls = sumTo ls.length fun _ => 0 := by
      refine sumTo_congr fun k hk => ?_
      by_cases hk0 : 0 < lenOf ls k
      · have := (mem_ordN h16 k).2 ⟨hk, hk0⟩; rw [ho] at this; cases this
      · unfold share; rw [if_pos (by omega)]
    have hz : ∀ n, sumTo n (fun _ => 0) = 0 := fun n => by induction n with
      | zero => rfl
      | succ n ih => rw [sumTo_succ, ih]
    rw [this, hz] at hf; cases hf
  | cons p B => exact go B [] p ho (by rw [before_first h16 ho]; exact Nat.zero_le _)
/-- A number in n bits, filled up to 16: it begins with a word, or is the beginning of one. -/
theorem cover_bits {ls : List Int} (h16 : ∀ k, lenOf ls k ≤ 16) (hf : filledN ls = 65536) {n x : Nat} (hn : n ≤ 16) (hx : x < 2 ^ n) :
    ∃ i, i < ls.length ∧ 0 < lenOf ls i ∧ (lenOf ls i ≤ n ∧ codeN ls i = x / 2 ^ (n - lenOf ls i) ∨ n < lenOf ls i ∧ codeN ls i / 2 ^ (lenOf ls i - n) = x) := by
  have hp : 2 ^ n * 2 ^ (16 - n) = 65536 := by rw [← Nat.pow_add, show n + (16 - n) = 16 by omega]
  have hq : 0 < 2 ^ (16 - n) := Nat.two_pow_pos _
  have hv : x * 2 ^ (16 - n) < 65536 := by rw [← hp]; exact Nat.mul_lt_mul_of_pos_right hx hq
  obtain ⟨i, hi, hl, h1, h2⟩ := cover h16 hf hv
  have hm := code_mul h16 hl
  rw [share_pos hl] at h2
  have hL := h16 i
  refine ⟨i, hi, hl, ?_⟩
  have hr : 0 < 2 ^ (16 - lenOf ls i) := Nat.two_pow_pos _
  have hcode : x * 2 ^ (16 - n) / 2 ^ (16 - lenOf ls i) = codeN ls i := by
    rw [← hm] at h1 h2
    refine Nat.div_eq_of_lt_le h1 ?_
    rw [Nat.add_mul, Nat.one_mul]; exact h2
  rcases Nat.lt_or_ge n (lenOf ls i) with h | h
  · refine .inr ⟨h, ?_⟩
    have e : 2 ^ (16 - n) = 2 ^ (16 - lenOf ls i) * 2 ^ (lenOf ls i - n) := by rw [← Nat.pow_add]; congr 1; omega
    rw [← hcode, Nat.div_div_eq_div_mul, ← e, Nat.mul_div_cancel _ hq]
  · refine .inl ⟨h, ?_⟩
    have e : 2 ^ (16 - lenOf ls i) = 2 ^ (16 - n) * 2 ^ (n - lenOf ls i) := by rw [← Nat.pow_add]; congr 1; omega
    rw [← hcode, e, Nat.mul_comm (2 ^ (16 - n)), Nat.mul_div_mul_right _ _ hq]
theorem valB_take_div (D : List Bool) (m : Nat) : ∀ d, m + d ≤ D.length → valB (D.take (m + d)) / 2 ^ d = valB (D.take m)
  | 0, _ => by simp
  | d + 1, h => by
    have h1 := valB_take_div D m d (by omega)
    rw [show m + (d + 1) = (m + d) + 1 by omega, take_succ_nth false D (m + d) (by omega), valB_snoc, Nat.pow_succ, Nat.mul_comm (2 ^ d) 2, ← Nat.div_div_eq_div_mul]
    have : (nth false D (m + d)).toNat ≤ 1 := by cases nth false D (m + d) <;> decide
    rw [show (2 * valB (D.take (m + d)) + (nth false D (m + d)).toNat) / 2 = valB (D.take (m + d)) by omega, h1]
/-- None of the first beginnings is a word. -/
def NoWord (ls : List Int) (D : List Bool) (n : Nat) : Prop := ∀ m, 1 ≤ m → m ≤ n → symF ls ls.length (m, valB (D.take m)) = none
theorem NoWord.succ {ls : List Int} {D : List Bool} {n : Nat} (h : NoWord ls D n) (h1 : symF ls ls.length (n + 1, valB (D.take (n + 1))) = none) : NoWord ls D (n + 1) := fun m h2 h3 => by
  rcases Nat.lt_or_ge n m with h4 | h4
  · obtain rfl : m = n + 1 := by omega
    exact h1
  · exact h m h2 h4
theorem begs {ls : List Int} (hr : Right ls) (hf : filledN ls = 65536) {D : List Bool} {n : Nat} (hn : n ≤ 16) (hD : n ≤ D.length) (h : NoWord ls D n) : ∃ i, i < ls.length ∧ n < lenOf ls i ∧ codeN ls i / 2 ^ (lenOf ls i - n) = valB (D.take n) := by
  have hlt := valB_lt (D.take n)
  rw [List.length_take, Nat.min_eq_left hD] at hlt
  obtain ⟨i, hi, hl, h1 | h1⟩ := cover_bits hr.ok.len16 hf hn hlt
  · exfalso
    have h2 := valB_take_div D (lenOf ls i) (n - lenOf ls i) (by omega)
    rw [show lenOf ls i + (n - lenOf ls i) = n by omega, ← h1.2] at h2
    have h3 := h (lenOf ls i) hl h1.1
    rw [← h2, symF_some hr hl hi (Nat.le_refl _)] at h3
    cases h3
  · exact ⟨i, hi, h1⟩
theorem begs_16 {ls : List Int} (hr : Right ls) (hf : filledN ls = 65536) {D : List Bool} {n : Nat} (hn : n ≤ 16) (hD : n ≤ D.length) (h : NoWord ls D n) : n ≤ 15 := by
  obtain ⟨i, _, h1, _⟩ := begs hr hf hn hD h
  have := hr.ok.len16 i
  omega
/-- Bits read, one behind the other, till they are a word: the symbol, the error, and how many bits. -/
def wordF (ls : List Int) (D : List Bool) : Nat → Nat → Nat × Int × Nat
  | 0, n => (0, 3, n)
  | fuel + 1, n => if D.length ≤ n then (0, 3, n) else
    match symF ls ls.length (n + 1, valB (D.take (n + 1))) with
    | some s => (s, 0, n + 1)
    | none => wordF ls D fuel (n + 1)
def wordR (ls : List Int) (D : List Bool) : Nat × Int × Nat := wordF ls D 16 0
theorem wordF_count (ls : List Int) (D : List Bool) : ∀ (fuel n : Nat), n ≤ D.length → (wordF ls D fuel n).2.2 ≤ D.length ∧ n ≤ (wordF ls D fuel n).2.2
  | 0, n, h => ⟨h, Nat.le_refl _⟩
  | fuel + 1, n, h => by
    unfold wordF
    split
    · exact ⟨h, Nat.le_refl _⟩
    · split
      · exact ⟨by show n + 1 ≤ _; omega, by show n ≤ n + 1; omega⟩
      · have := wordF_count ls D fuel (n + 1) (by omega)
        exact ⟨this.1, by omega⟩
theorem symF_lt {ls : List Int} {p : Nat × Nat} {s : Nat} : ∀ {k : Nat}, symF ls k p = some s → s < k ∧ 0 < lenOf ls s ∧ p = (lenOf ls s, codeN ls s)
  | 0, h => by cases h
  | k + 1, h => by
    unfold symF at h
    split at h
    · rename_i h1
      cases h
      exact ⟨by omega, h1⟩
    · have := symF_lt h
      exact ⟨by omega, this.2⟩
theorem wordF_ok (ls : List Int) (D : List Bool) : ∀ (fuel n : Nat), (wordF ls D fuel n).1 < ls.length + 1 ∧ ((wordF ls D fuel n).2.1 = 0 ∧ (wordF ls D fuel n).1 < ls.length ∨ (wordF ls D fuel n).2.1 = 3 ∧ (wordF ls D fuel n).1 = 0)
  | 0, n => ⟨Nat.succ_pos _, .inr ⟨rfl, rfl⟩⟩
  | fuel + 1, n => by
    unfold wordF
    split
    · exact ⟨Nat.succ_pos _, .inr ⟨rfl, rfl⟩⟩
    · split
      · rename_i s hs
        have := (symF_lt hs).1
        exact ⟨by show s < _; omega, .inl ⟨rfl, this⟩⟩
      · exact wordF_ok ls D fuel (n + 1)
end Go.Proofs.Ytkfgomhhenmmeaa

namespace Go.Proofs.Ytkfgomhhenmmeaa
open Go Go.RowKit Go.Maps

theorem laidS : laidOutB Try.prog = true := by kernel_rfl
theorem rowSd : (130 : TypeId) < Try.prog.types.size := of_decide_eq_true (by kernel_rfl)
theorem wideSd : (match Try.prog.underlying 130 with | some (.array _ _) | some (.struct _) => true | _ => false) = true := by kernel_rfl
theorem deepSd : Try.prog.keyTypeAt 3 130 = true := by kernel_rfl
set_option maxRecDepth 100000 in
theorem klawSd : WideMaps.KeyLaw Try.prog 130 := deep_law_laid laidS (m := 3) (by omega) rowSd deepSd wideSd
theorem lawSd : Keyed Try.prog 130 := Keyed.of_law klawSd
def klS (k : Nat × Nat) : Lit := .string (keyBytes [.int .i64 (k.1 : Int), .int .i64 (k.2 : Int)])
def SKey (k : Nat × Nat) : Prop := k.1 ≤ 100000000 ∧ k.2 ≤ 100000000
def kvS (k : Nat × Nat) : Value := .agg #[.int .i64 (k.1 : Int), .int .i64 (k.2 : Int)]
theorem wfSn (n : Nat) (h : n ≤ 100000000) : (Lit.int .i64 (n : Int)).wf = true := by
  have h1 : IntKind.i64.min ≤ (n : Int) := by
    have : IntKind.i64.min = -9223372036854775808 := rfl
    omega
  simp [Lit.wf, h1]
  omega
theorem wfSi (n : Nat) (h : n ≤ 1000000) : (Lit.int .i64 ((n : Int) - 95)).wf = true := by
  have h1 : IntKind.i64.min ≤ (n : Int) - 95 := by
    have : IntKind.i64.min = -9223372036854775808 := rfl
    omega
  simp [Lit.wf, h1]
  omega
theorem keyTypeSd : Try.prog.keyType 130 = true := by kernel_rfl
theorem cellsSd : Try.prog.cellsOf 130 = 2 := by kernel_rfl
theorem keyS {k : Nat × Nat} (h : SKey k) : keyOf Try.prog 130 (kvS k) = some (klS k) := by
  have h1 := wfSn k.1 h.1
  have h2 := wfSn k.2 h.2
  obtain ⟨n, hn⟩ : ∃ n, Try.prog.types.size = n + 1 := ⟨Try.prog.types.size - 1, by have : 0 < Try.prog.types.size := of_decide_eq_true (by kernel_rfl); omega⟩
  unfold keyOf
  have hl : Try.prog.keyLits (n + 1 + 1) 130 [.int .i64 (k.1 : Int), .int .i64 (k.2 : Int)] = some [.int .i64 (k.1 : Int), .int .i64 (k.2 : Int)] := by
    have hi : ∀ v, (Lit.int .i64 v).wf = true → Try.prog.keyLits (n + 1) 3 [.int .i64 v] = some [.int .i64 v] := fun v hv => by
      unfold Program.keyLits
      rw [Try.underlying3]
      simp [hv]
    unfold Program.keyLits
    rw [Try.underlying130]
    have hc3 : Try.prog.cellsOf 3 = 1 := by kernel_rfl
    simp [cellsSd, hc3, hi _ h1, hi _ h2]
  have hf : (kvS k).formed Try.prog 130 = true := by
    unfold kvS Value.formed
    rw [Try.underlying130]
    simp [cellsSd]
  have hcells : (kvS k).cells.toList = [.int .i64 (k.1 : Int), .int .i64 (k.2 : Int)] := rfl
  have hsz : Try.prog.types.size + 1 = n + 1 + 1 := by rw [hn]
  rw [Try.underlying130]
  simp only [keyTypeSd, hf, Bool.and_self, if_true, hcells, hsz, hl]
  rfl
theorem kvS_inj {k k' : Nat × Nat} (h : kvS k = kvS k') : k = k' := by
  unfold kvS at h
  simp at h
  exact Prod.ext (by omega) (by omega)
theorem klS_inj {k k' : Nat × Nat} (h : SKey k) (h' : SKey k') (e : klS k = klS k') : k = k' :=
  kvS_inj (lawSd.inj (keyS h) (e ▸ keyS h'))
theorem isKeyS {k : Nat × Nat} (h : SKey k) : WideAt.IsKeyLit (klS k) := lawSd.key (keyS h)

/-- A map from words to steps. -/
def SymS (n : Nat) (w : World) (b : Nat) (f : Nat × Nat → Option Nat) : Prop :=
  ∃ D : DataW Unit, w.ownsMap Try.prog 130 (plainElem Try.prog 3) b n D ∧ IsMap D ∧ ∀ k, SKey k → Maps.has D (klS k) = (f k).isSome ∧ ∀ x, f k = some x → D.atKey (klS k) (.lit (.int .i64 0)) = .lit (.int .i64 ((x : Int) - 95))
section
variable {n b : Nat} {w w' : World} {f : Nat × Nat → Option Nat}
theorem SymS.lt (h : SymS n w b f) : b < w.heap.size := let ⟨_, h, _⟩ := h; World.ownsMap.lt h
theorem SymS.grown {row : Option Nat} (h : SymS n w b f) (hg : w.grownBy w' row) (hne : some b ≠ row) : SymS n w' b f := let ⟨D, h, r⟩ := h; ⟨D, World.ownsMap.kept h hg hne, r⟩
theorem ownsMap_blkS {P : Program} {k : TypeId} {R : Value → Option (DataW Unit × List MemPlace)} {D : DataW Unit} (h : w.ownsMap P k R b n D) (hb : w'.heap[b]? = w.heap[b]?) : w'.ownsMap P k R b n D := by
  obtain ⟨es, clock, h1, h2⟩ := h
  exact ⟨es, clock, hb.trans h1, h2⟩
theorem SymS.keep {ok : Nat → Prop} (h : SymS n w b f) (hk : Keep ok w w') (ho : ok b) : SymS n w' b f := let ⟨D, h1, r⟩ := h; ⟨D, ownsMap_blkS h1 (hk.blk b h.lt ho), r⟩
theorem SymS.below (h : SymS n w b f) (hb : Below w.heap.size w w') : SymS n w' b f := let ⟨D, h1, r⟩ := h; ⟨D, ownsMap_blkS h1 (hb.block b h.lt), r⟩
theorem SymS.mono (h : SymS n w b f) {m : Nat} (hm : n ≤ m) : SymS m w b f := let ⟨D, h, r⟩ := h; ⟨D, World.ownsMap.mono h hm, r⟩
end
theorem SymS.new (w : World) : SymS 0 (w.alloc (.map #[] 0)) w.heap.size (fun _ => none) :=
  ⟨_, World.ownsMap_made _ _ _ _, isMap_empty, fun k _ => ⟨rfl, fun x e => by cases e⟩⟩
theorem zeroIS (w : World) : (zeroValue 3).run Try.prog w = .ok (.int .i64 0) w := by kernel_rfl
theorem underSS : Try.prog.underlying 128 = some (.map 130 3) := by kernel_rfl
set_option maxRecDepth 100000 in
/-- 'm[k] = x'. -/
theorem SymS.put {n b : Nat} {w : World} {f : Nat × Nat → Option Nat} (h : SymS n w b f) (hn : n < 9000000000) (k : Nat × Nat) (hk : SKey k) (x : Nat) (hx : x ≤ 1000000) :
    ∃ w', (Instr.mapUpdate 128 (.map (some b)) (kvS k) (.int .i64 ((x : Int) - 95))).run Try.prog w = .ok () w' ∧ SymS (n + 1) w' b (fun j => if j = k then some x else f j) ∧ w.grownBy w' (some b) := by
  obtain ⟨D, h1, h2, h3⟩ := h
  obtain ⟨w', hr, ho, hg⟩ := World.ownsMap.update h1 lawSd underSS (by unfold maxLen; omega) (keyS hk) (plainElem_int Try.underlying3 (wfSi x hx))
  refine ⟨w', hr, ⟨_, ho, h2.put _ _, fun j hj => ?_⟩, hg⟩
  dsimp only
  by_cases e : j = k
  · subst e
    rw [if_pos rfl]
    exact ⟨by rw [has_put_same h2 (isKeyS hj)]; rfl, fun y hy => by rw [atKey_put_same h2 (isKeyS hj)]; cases hy; rfl⟩
  · have hne : klS j ≠ klS k := fun he => e (klS_inj hj hk he)
    rw [if_neg e, has_put_other hne, atKey_put_other hne]
    exact h3 j hj
set_option maxRecDepth 100000 in
/-- 'x, ok := m[k]'. -/
theorem SymS.look {n b : Nat} {w : World} {f : Nat × Nat → Option Nat} (h : SymS n w b f) (k : Nat × Nat) (hk : SKey k) :
    ∃ c : Int, (Instr.lookup 128 (.map (some b)) (kvS k) true).run Try.prog w = .ok (.tuple #[.int .i64 c, .bool (f k).isSome]) w ∧ ∀ x, f k = some x → c = (x : Int) - 95 := by
  obtain ⟨D, h1, h2, h3⟩ := h
  obtain ⟨v, ps, hr, hv⟩ := World.ownsMap.look_ok h1 lawSd underSS (zeroIS w) (plainElem_int Try.underlying3 (by decide)) (keyS hk)
  obtain ⟨c, rfl, hc, hw⟩ := plainElem_int_inv Try.underlying3 hv
  obtain ⟨h4, h5⟩ := h3 k hk
  refine ⟨c, by rw [hr, h4], fun x hx => ?_⟩
  have e1 := h5 x hx
  have e2 : D.atKey (klS k) (.lit (.int .i64 0)) = .lit (.int .i64 c) := congrArg Prod.fst hc
  rw [e1] at e2
  injection e2 with e2
  injection e2 with _ e2
  exact e2.symm
end Go.Proofs.Ytkfgomhhenmmeaa

namespace Go.Proofs.Ytkfgomhhenmmeaa
open Go.RowKit

structure OpS (w : World) (g6 b k : Nat) (W : World) : Prop where
  box : Blk W g6 #[.map (some b)] 128
  sym : SymS k W b (symF tabI k)
  low : Below w.heap.size w W
theorem tab_pos (k : Nat) (h : k < 191) : 0 < lenOf tabI k := by rw [tab_lenOf k h]; exact (tabS_bound k h).1

set_option maxHeartbeats 2000000 in
set_option maxRecDepth 100000 in
theorem reading_any (g : Nat) (w : World) :
    Calls Try.prog 69 #[.pointer (some ⟨g, 0, none⟩)] w fun e w' => ∃ g1 g6 b, e = .returned (.func (.func 82) #[] #[.pointer (some ⟨g1, 0, none⟩), .pointer (some ⟨g6, 0, none⟩)]) ∧ w.heap.size ≤ g1 ∧ g1 < b ∧ b < g6 ∧ g6 < w'.heap.size ∧
      Blk w' g1 #[.pointer (some ⟨g, 0, none⟩)] 35 ∧ Blk w' g6 #[.map (some b)] 128 ∧ SymS 191 w' b (symF tabI 191) ∧ Below w.heap.size w w' := by
  have hmm := @run_makeMap Try.prog
  have HCD := Lib.hid (fun Ac cc W (h : RI W Ac cc tabI) => codes_any Ac cc tabI W h)
  rw [tab_codes, tab_check, tabI_length] at HCD
  go_enter Try.func69, Try.ntmps69
  go_wp2_with (first
    | (go_at_call 16; refine (slengths_any _).mono ?_; rintro e w2 ⟨v2, rfl, hO2, b2⟩; obtain ⟨A2, c2, rfl, hL2⟩ := own_ri hO2; rw [tabI_length]; have HL2 := Lib.hid hL2; clear hO2 hL2)
    | (go_at_call 58; refine (HCD.out _ _ _ HL2.out).mono ?_; rintro e w3 ⟨v3, rfl, hO3, b3⟩; obtain ⟨A3, c3, rfl, hL3⟩ := own_ri hO3; rw [codesL_length, tabI_length]; have HL3 := Lib.hid hL3; clear hO3 hL3))
  have HX2 := Lib.hid (HL2.out.below b3)
  obtain ⟨b, hb⟩ : ∃ b, w3.heap.size = b := ⟨_, rfl⟩
  obtain ⟨g6, hg6⟩ : ∃ g6, b + 1 = g6 := ⟨_, rfl⟩
  obtain ⟨g1, hg1⟩ : ∃ g1, w.heap.size = g1 := ⟨_, rfl⟩
  have hB1 : Blk w3 g1 #[.pointer (some ⟨g, 0, none⟩)] 35 := by
    have h9 : Blk _ _ #[.pointer (some ⟨g, 0, none⟩)] 35 := heap_alloc_new w (.cells #[.pointer (some ⟨g, 0, none⟩)] 35)
    rw [hg1] at h9
    exact (h9.below b2).below b3
  have hbz := below2 (below2 (below_alloc (Below.refl w.heap.size w) (.cells #[.pointer (some ⟨g, 0, none⟩)] 35)) b2) b3
  have hI0 : OpS w3 g6 b 0 ((w3.alloc (.map #[] 0)).alloc (.cells #[.map (some b)] 128)) := by
    have h6 : Blk _ _ #[.map (some b)] 128 := heap_alloc_new (w3.alloc (.map #[] 0)) (.cells #[.map (some b)] 128)
    rw [World.size_alloc, hb, hg6] at h6
    have hs := SymS.new w3
    rw [hb] at hs
    exact ⟨h6, hs.below (below_alloc (Below.refl _ _) _), below_alloc (below_alloc (Below.refl _ _) _) _⟩
  have hl1 := hB1.lt
  have HG := Lib.hid (show w3.heap.size = b ∧ b + 1 = g6 ∧ w.heap.size = g1 ∧ g1 < b from ⟨hb, hg6, hg1, by omega⟩)
  have HBZ := Lib.hid hbz
  have HB1 := Lib.hid hB1
  simp only [hb, hg6, hg1]
  clear hb hg6 hg1 hl1 hbz hB1 b2 b3 HL2 HCD hmm
  go_loopw [18] (fun iv wr => ∃ k : Nat, iv = .int .i64 (k : Int) ∧ k ≤ 191 ∧ Hid (OpS w3 g6 b k wr)) (fun iv _ => 191 - (intOf iv).toNat)
  case atStart => exact ⟨0, rfl, Nat.zero_le _, Lib.hid hI0⟩
  case round =>
    clear hI0
    obtain ⟨k, rfl, hk, hI⟩ := hrel
    by_cases hlt : k < 191
    · have hki : (k : Int) < 191 := by omega
      obtain ⟨ad, rfl, hc⟩ := rd_int (HX2.out.below hI.out.low) k (by rw [tabI_length]; exact hlt)
      obtain ⟨ad2, rfl, hc2⟩ := rd_int (HL3.out.below hI.out.low) k (by rw [codesL_length, tabI_length]; exact hlt)
      rw [tab_codes_nth k hlt] at hc2
      have hlo : nth 0 tabI k = ((lenOf tabI k : Nat) : Int) := by rw [tab_lenOf k hlt]; exact tabI_nth k hlt
      rw [hlo] at hc
      have hl16 := tab_len16 k
      have hcl := tab_code_le k hlt
      have k6 := hI.out.box.cell 0 rfl
      have hdr := (Below.refl wr.heap.size wr).drew
      obtain ⟨w1, hr1, hs1, hg1⟩ := (hI.out.sym.below hdr).put (by omega) (lenOf tabI k, codeN tabI k) ⟨by show lenOf tabI k ≤ _; omega, by show codeN tabI k ≤ _; omega⟩ k (by omega)
      rw [← symF_yes (tab_pos k hlt)] at hs1
      have HN := Lib.hid (show OpS w3 g6 b (k + 1) w1 by
        have hG := HG.out
        have hk1 : Keep (fun x => x ≠ b) _ w1 := Keep.of_grown1 hg1
        exact ⟨(hI.out.box.below hdr).keep hk1 (by omega), hs1, below_grown (below2 hI.out.low hdr) (below2 hI.out.low hdr).size hg1 (fun j e => by have := Option.some.inj e; omega)⟩)
      replace hr1 : (Instr.mapUpdate 128 (.map (some b)) (.agg #[.int .i64 (lenOf tabI k : Int), .int .i64 (codeN tabI k : Int)]) (.int .i64 ((k : Int) - 95))).run Try.prog wr.drew = .ok () w1 := hr1
      have hw1 : IntKind.i64.wrap ((k : Int) - 95) = (k : Int) - 95 := IntWalk.i64_in _ (by omega)
      generalize lenOf tabI k = L at hc hr1
      generalize codeN tabI k = C at hc2 hr1
      clear hlo hl16 hcl hs1 hg1 hdr hlt
      go_wp2
      go_still_tail 9, (by kernel_rfl)
      change wpList _ _ _ _ _ (World.drew _)
      go_wp2
      go_roundw
      case rel => exact ⟨k + 1, by go_num, by omega, HN⟩
      case measure => simp [intOf]; omega
    · obtain rfl : k = 191 := by omega
      go_wp2
      go_ret
      have hG := HG.out
      have hI := hI.out
      have hz := hI.box.lt
      exact ⟨g1, g6, b, rfl, by omega, by omega, by omega, hz, HB1.out.below hI.low, hI.box, hI.sym, below2 HBZ.out hI.low⟩
end Go.Proofs.Ytkfgomhhenmmeaa

namespace Go.Proofs.Ytkfgomhhenmmeaa
open Go.RowKit

/-- A step, read from bits: the step, the error, and how many bits. -/
def stepV (D : List Bool) : Int := if (wordR tabI D).2.1 = 0 then ((wordR tabI D).1 : Int) - 95 else 0
def stepE (D : List Bool) : Int := (wordR tabI D).2.1
def stepN (D : List Bool) : Nat := (wordR tabI D).2.2
theorem step_bd (D : List Bool) : -95 ≤ stepV D ∧ stepV D ≤ 95 := by
  have h := (wordF_ok tabI D 16 0).1
  rw [tabI_length] at h
  have h2 : (wordR tabI D).1 < 191 + 1 := h
  unfold stepV
  split
  · rename_i h3
    rcases (wordF_ok tabI D 16 0).2 with h4 | h4
    · have h5 : (wordR tabI D).1 < tabI.length := h4.2
      rw [tabI_length] at h5; omega
    · have h5 : (wordR tabI D).2.1 = 3 := h4.1
      omega
  · omega
theorem stepE_or (D : List Bool) : stepE D = 0 ∨ stepE D = 3 := (wordF_ok tabI D 16 0).2.imp And.left And.left
theorem stepN_le (D : List Bool) : stepN D ≤ D.length := (wordF_count tabI D 16 0 (Nat.zero_le _)).1

structure RsI (o : Nat → Prop) (w : World) (l : List Bool) (g i b g1 g6 g4 n : Nat) (W : World) : Prop where
  rd : Rr o W g l (i + n)
  b1 : Blk W g1 #[.pointer (some ⟨g, 0, none⟩)] 35
  b6 : Blk W g6 #[.map (some b)] 128
  cur : Blk W g4 #[.int .i64 (n : Int), .int .i64 ((valB ((l.drop i).take n) : Nat) : Int)] 130
  sym : SymS 191 W b (symF tabI 191)
  upd : Upd (fun x => x = g) w W
  no : NoWord tabI (l.drop i) n
  run : wordR tabI (l.drop i) = wordF tabI (l.drop i) (16 - n) n
  n15 : n ≤ 15

set_option maxHeartbeats 4000000 in
set_option maxRecDepth 100000 in
theorem step0 (o : Nat → Prop) (g i b g1 g6 : Nat) (l : List Bool) (w : World) (ho : ∀ x, o x → x < w.heap.size) (h : Rr o w g l i) (h1 : Blk w g1 #[.pointer (some ⟨g, 0, none⟩)] 35) (h6 : Blk w g6 #[.map (some b)] 128)
    (hs : SymS 191 w b (symF tabI 191)) (n1 : g1 ≠ g) (n6 : g6 ≠ g) (nb : b ≠ g) :
    Calls Try.prog 82 #[.pointer (some ⟨g1, 0, none⟩), .pointer (some ⟨g6, 0, none⟩)] w
      fun e w' => e = .returned (.tuple #[.int .i64 (stepV (l.drop i)), .int .i64 (stepE (l.drop i))]) ∧ Rr o w' g l (i + stepN (l.drop i)) ∧ Upd (fun x => x = g) w w' := by
  have HO := Lib.hid ho
  have hI0 : RsI o w l g i b g1 g6 w.heap.size 0 (w.alloc (.cells #[.int .i64 0, .int .i64 0] 130)) := by
    have hal := below_alloc (Below.refl w.heap.size w) (.cells #[.int .i64 0, .int .i64 0] 130)
    exact ⟨h.below hal, h1.below hal, h6.below hal, heap_alloc_new w _, hs.below hal, Upd.of_below hal _, fun m h1 h2 => by omega, rfl, by omega⟩
  have HL := Lib.hid (show g < w.heap.size ∧ g1 < w.heap.size ∧ g6 < w.heap.size ∧ b < w.heap.size from ⟨h.lt, h1.lt, h6.lt, hs.lt⟩)
  clear h h1 h6 hs ho
  go_enter Try.func82, Try.ntmps82
  go_wp2
  obtain ⟨g4, hg4⟩ : ∃ g4, w.heap.size = g4 := ⟨_, rfl⟩
  rw [hg4] at hI0
  simp only [hg4]
  have HG := Lib.hid (show w.heap.size = g4 ∧ g < g4 ∧ g1 < g4 ∧ g6 < g4 ∧ b < g4 from ⟨hg4, by rw [← hg4]; exact HL.out⟩)
  clear hg4 HL
  go_loopw [10] (fun _ wr => ∃ n : Nat, RsI o w l g i b g1 g6 g4 n wr) (fun _ wr => match wr.cell? ⟨g4, 0, none⟩ with | some (.int _ n) => 17 - n.toNat | _ => 0)
  case atStart => exact ⟨0, hI0⟩
  case round =>
    clear hI0
    obtain ⟨n, hI⟩ := hrel
    have p0 := hI.b1.cell 0 rfl
    have c0 := hI.cur.cell 0 rfl
    have c1 := hI.cur.cell 1 rfl
    have f0 := hI.cur.free 0
    have f1 := hI.cur.free 1
    have hile := hI.rd.le
    have hn15 := hI.n15
    by_cases hsh : l.length < i + n + 1
    · have hE : getE l (i + n) 1 = 3 ∧ getV l (i + n) 1 = 0 ∧ getI l (i + n) 1 = i + n := by unfold getE getV getI; simp [hsh]
      have hC := rget_any o g (i + n) 1 l wr hI.rd (by decide)
      rw [hE.1, hE.2.1, hE.2.2] at hC
      have hres : wordR tabI (l.drop i) = (0, 3, n) := by
        rw [hI.run, show 16 - n = (15 - n) + 1 by omega]
        unfold wordF
        rw [if_pos (by rw [List.length_drop]; omega)]
      have HRS := Lib.hid (show stepV (l.drop i) = 0 ∧ stepE (l.drop i) = 3 ∧ stepN (l.drop i) = n by unfold stepV stepE stepN; rw [hres]; exact ⟨rfl, rfl, rfl⟩)
      have HC := Lib.hid hC
      have HI := Lib.hid hI
      clear hI hE hC hres hsh
      go_wp2_with (go_at_call 70; refine HC.out.mono ?_; rintro e w2 ⟨rfl, hr2, hu2⟩)
      go_ret2
      exact ⟨ret_two (by rw [HRS.out.1]; rfl) (by rw [HRS.out.2.1]; rfl), by rw [HRS.out.2.2]; exact hr2, HI.out.upd.trans hu2 fun _ _ h => h⟩
    · have hE : getE l (i + n) 1 = 0 ∧ (getV l (i + n) 1 : Int) = b2i (nth false l (i + n)) ∧ getI l (i + n) 1 = i + n + 1 := by
        unfold getE getV getI
        rw [if_neg hsh, if_neg hsh, if_neg hsh]
        refine ⟨rfl, ?_, rfl⟩
        rw [drop_nth false l (i + n) (by omega)]
        simp [valB, b2i_nat]
      have hC := rget_any o g (i + n) 1 l wr hI.rd (by decide)
      rw [hE.1, hE.2.1, hE.2.2] at hC
      obtain ⟨x, hx⟩ : ∃ x, valB ((l.drop i).take n) = x := ⟨_, rfl⟩
      obtain ⟨t, ht⟩ : ∃ t, nth false l (i + n) = t := ⟨_, rfl⟩
      have hxl : x < 2 ^ n := by
        have := valB_lt ((l.drop i).take n)
        rw [hx, List.length_take, List.length_drop, Nat.min_eq_left (by omega)] at this
        exact this
      have h2n : 2 ^ n ≤ 65536 := by have := Nat.pow_le_pow_right (n := 2) (by decide) (show n ≤ 16 by omega); simpa using this
      have hV : valB ((l.drop i).take (n + 1)) = 2 * x + t.toNat := by
        rw [take_succ_nth false _ n (by rw [List.length_drop]; omega), valB_snoc, hx, nth_drop, ht]
      obtain ⟨V, hVe⟩ : ∃ V, 2 * x + t.toNat = V := ⟨_, rfl⟩
      rw [hVe] at hV
      have hbt := toNat_le t
      have htn : b2i t = (t.toNat : Int) := b2i_nat t
      rw [ht] at hC
      rw [hx] at c1
      obtain ⟨N, hN⟩ : ∃ N, n + 1 = N := ⟨_, rfl⟩
      have hw1 : IntKind.i64.wrap ((n : Int) + 1) = (N : Int) := by rw [IntWalk.i64_in _ (by omega)]; omega
      have hw2 : IntKind.i64.wrap (2 * (x : Int)) = 2 * (x : Int) := IntWalk.i64_in _ (by omega)
      have hw3 : IntKind.i64.wrap (2 * (x : Int) + b2i t) = (V : Int) := by rw [IntWalk.i64_in _ (by omega)]; omega
      have hrun : wordR tabI (l.drop i) = match symF tabI 191 (N, V) with
          | some s => (s, 0, N)
          | none => wordF tabI (l.drop i) (16 - N) N := by
        rw [hI.run, show 16 - n = (16 - N) + 1 by omega]
        conv => lhs; unfold wordF
        rw [if_neg (by rw [List.length_drop]; omega), hV, hN, tabI_length]
        try (cases symF tabI 191 (N, V) <;> rfl)
      have hNV : SKey (N, V) := ⟨by show N ≤ _; omega, by show V ≤ _; omega⟩
      have HI := Lib.hid hI
      have HC := Lib.hid hC
      have HRUN := Lib.hid hrun
      have HV := Lib.hid hV
      have HN := Lib.hid hN
      have HNV := Lib.hid hNV
      have HX := Lib.hid hx
      have hgz := HG.out
      have HRES := Lib.hid (show ∀ w2, Upd (fun j => j = g) wr w2 → Upd (fun j => j = g ∨ j = g4) wr ((w2.setCell ⟨g4, 0, none⟩ (.int .i64 (N : Int))).setCell ⟨g4, 1, none⟩ (.int .i64 (V : Int))) from fun w2 hu =>
        (hu.weak (o' := fun j => j = g ∨ j = g4) fun _ _ h => .inl h).trans (set_two w2 g4 (.int .i64 (N : Int)) (.int .i64 (V : Int))) fun _ _ h => .inr h)
      have HNW := Lib.hid (show symF tabI 191 (N, V) = none → NoWord tabI (l.drop i) N from fun h => by rw [← hN]; exact hI.no.succ (by rw [tabI_length, hN, ← hN, hV, hN]; exact h))
      have hNl : N ≤ (l.drop i).length := by rw [List.length_drop]; omega
      have HNL := Lib.hid hNl
      cases hsy : symF tabI 191 (N, V) with
      | some s =>
        have HSY := Lib.hid hsy
        have hs191 := (symF_lt hsy).1
        clear hI hE hC hrun hV hN hNV hsh hx ht hxl h2n hVe hbt htn hsy hile hNl
        go_wp2_with fail
        refine HC.out.mono ?_
        rintro e w2 ⟨rfl, hr2, hu2⟩
        have hu3 := HRES.out w2 hu2
        have hk2 := hu3.keep (ok := fun j => j ≠ g ∧ j ≠ g4) fun _ h h2 => by omega
        obtain ⟨c, hlk, hlc⟩ := (HI.out.sym.keep hk2 (by omega)).look (N, V) HNV.out
        rw [HSY.out] at hlk
        rw [hlc s HSY.out] at hlk
        replace hlk : (Instr.lookup 128 (.map (some b)) (.agg #[.int .i64 (N : Int), .int .i64 (V : Int)]) true).run Try.prog ((w2.setCell ⟨g4, 0, none⟩ (.int .i64 (N : Int))).setCell ⟨g4, 1, none⟩ (.int .i64 (V : Int))) = .ok (.tuple #[.int .i64 ((s : Int) - 95), .bool true]) _ := hlk
        have kk := hu2.keep (ok := fun j => j ≠ g) fun _ h => h
        have d0 := (HI.out.cur.keep kk (by omega)).cell 0 rfl
        have d1 := (HI.out.cur.keep kk (by omega)).cell 1 rfl
        rw [HX.out] at d1
        have e0 := (HI.out.cur.keep kk (by omega)).free 0
        have e1 := (HI.out.cur.keep kk (by omega)).free 1
        have q0 := (HI.out.b6.keep kk (by omega)).cell 0 rfl
        have n64 : g6 ≠ g4 := by omega
        clear kk hk2 hlc c0 c1 f0 f1 p0
        have HU3 := Lib.hid hu3
        clear hu3
        go_wp2
        go_ret2
        have hR : wordR tabI (l.drop i) = (s, 0, N) := by rw [HRUN.out, HSY.out]
        have hR2 : stepV (l.drop i) = (s : Int) - 95 ∧ stepE (l.drop i) = 0 ∧ stepN (l.drop i) = N := by unfold stepV stepE stepN; rw [hR]; exact ⟨rfl, rfl, rfl⟩
        refine ⟨ret_two (by rw [hR2.1]; rfl) (by rw [hR2.2.1]; rfl), ?_, ?_⟩
        · rw [hR2.2.2]
          have hNN := HN.out
          have hr3 := hr2.upd (set_two w2 g4 (.int .i64 (N : Int)) (.int .i64 (V : Int))) (fun b _ h1 h2 => by have := HO.out b h1; omega)
          rw [show i + N = i + n + 1 by omega]
          exact hr3
        · exact (HI.out.upd.weak (o' := fun b => b = g) fun _ _ h => h).trans HU3.out (fun b hb e => by rcases e with e | e <;> omega)
      | none =>
        have HSY := Lib.hid hsy
        have hN15 := begs_16 tab_right tab_filled (show N ≤ 16 by omega) hNl (HNW.out hsy)
        clear hI hE hC hrun hV hN hNV hsh hx ht hxl h2n hVe hbt htn hsy hile hNl
        go_wp2_with fail
        refine HC.out.mono ?_
        rintro e w2 ⟨rfl, hr2, hu2⟩
        have hu3 := HRES.out w2 hu2
        have hk2 := hu3.keep (ok := fun j => j ≠ g ∧ j ≠ g4) fun _ h h2 => by omega
        obtain ⟨c, hlk, hlc⟩ := (HI.out.sym.keep hk2 (by omega)).look (N, V) HNV.out
        rw [HSY.out] at hlk
        replace hlk : (Instr.lookup 128 (.map (some b)) (.agg #[.int .i64 (N : Int), .int .i64 (V : Int)]) true).run Try.prog ((w2.setCell ⟨g4, 0, none⟩ (.int .i64 (N : Int))).setCell ⟨g4, 1, none⟩ (.int .i64 (V : Int))) = .ok (.tuple #[.int .i64 c, .bool false]) _ := hlk
        have kk := hu2.keep (ok := fun j => j ≠ g) fun _ h => h
        have HCUR := Lib.hid (HI.out.cur.keep kk (by omega))
        have d0 := (HI.out.cur.keep kk (by omega)).cell 0 rfl
        have d1 := (HI.out.cur.keep kk (by omega)).cell 1 rfl
        rw [HX.out] at d1
        have e0 := (HI.out.cur.keep kk (by omega)).free 0
        have e1 := (HI.out.cur.keep kk (by omega)).free 1
        have q0 := (HI.out.b6.keep kk (by omega)).cell 0 rfl
        have n64 : g6 ≠ g4 := by omega
        clear kk hlc f0 f1 p0
        have HU3 := Lib.hid hu3
        have HK2 := Lib.hid hk2
        have HC0 := Lib.hid c0
        clear hu3 hk2 c0 c1
        go_wp2
        go_roundw
        case rel =>
          have hNN := HN.out
          have hk2 := HK2.out
          have hVV := HV.out
          rw [hNN] at hVV
          refine ⟨N, ⟨?_, HI.out.b1.keep hk2 ⟨by omega, by omega⟩, HI.out.b6.keep hk2 ⟨by omega, by omega⟩, ?_, HI.out.sym.keep hk2 ⟨by omega, by omega⟩, ?_, HNW.out HSY.out, ?_, hN15⟩⟩
          · rw [show i + N = i + n + 1 by omega]
            exact hr2.upd (set_two w2 g4 (.int .i64 (N : Int)) (.int .i64 (V : Int))) (fun b _ h1 h2 => by have := HO.out b h1; omega)
          · rw [hVV]
            exact (HCUR.out.set 0 (.int .i64 (N : Int))).set 1 (.int .i64 (V : Int))
          · exact (HI.out.upd.weak (o' := fun b => b = g) fun _ _ h => h).trans HU3.out (fun b hb e => by rcases e with e | e <;> omega)
          · rw [HRUN.out, HSY.out]
        case measure =>
          have hNN := HN.out
          have hc := ((HCUR.out.set 0 (.int .i64 (N : Int))).set 1 (.int .i64 (V : Int))).cell 0 (v := .int .i64 (N : Int)) rfl
          have hc2 : wr.cell? ⟨g4, 0, none⟩ = some (.int .i64 (n : Int)) := HC0.out
          rw [hc, hc2]
          show 17 - ((N : Int)).toNat < 17 - ((n : Int)).toNat
          omega
theorem step_any (o : Nat → Prop) (g i b g1 g6 : Nat) (l : List Bool) (w : World) (h : Rr o w g l i) (h1 : Blk w g1 #[.pointer (some ⟨g, 0, none⟩)] 35) (h6 : Blk w g6 #[.map (some b)] 128)
    (hs : SymS 191 w b (symF tabI 191)) (n1 : g1 ≠ g) (n6 : g6 ≠ g) (nb : b ≠ g) :
    Calls Try.prog 82 #[.pointer (some ⟨g1, 0, none⟩), .pointer (some ⟨g6, 0, none⟩)] w
      fun e w' => e = .returned (.tuple #[.int .i64 (stepV (l.drop i)), .int .i64 (stepE (l.drop i))]) ∧ Rr o w' g l (i + stepN (l.drop i)) ∧ Upd (fun x => x = g) w w' :=
  (step0 (fun x => o x ∧ x < w.heap.size) g i b g1 g6 l w (fun _ h => h.2) h.cut h1 h6 hs n1 n6 nb).mono fun _ _ ⟨h1, h2, h3⟩ => ⟨h1, h2.weak fun _ _ h => h.1, h3⟩
end Go.Proofs.Ytkfgomhhenmmeaa

namespace Go.Proofs.Ytkfgomhhenmmeaa
open Go.RowKit

theorem walkK_prefix (us : List Bool) (k : Nat) : ∀ m, k ≤ m → ∃ t, walkK us m = walkK us k ++ t
  | 0, h => by
    obtain rfl : k = 0 := by omega
    exact ⟨[], by simp⟩
  | m + 1, h => by
    rcases Nat.lt_or_ge m k with h1 | h1
    · obtain rfl : k = m + 1 := by omega
      exact ⟨[], by simp⟩
    · obtain ⟨t, h2⟩ := walkK_prefix us k m h1
      cases hu : nth false us m
      · exact ⟨t, by rw [(walkK_miss hu).1]; exact h2⟩
      · exact ⟨t ++ [(m, befK us m)], by rw [(walkK_hit hu).1, h2, List.append_assoc]⟩
/-- A scale that is read: the scale, the error, and where one is then. -/
def rdV (l : List Bool) (row : List Int) (p : Nat) (b : Int) : Int := if b < 0 then (getV l p 7 : Int) else stepV (l.drop p) + nth 0 row b.toNat
def rdE (l : List Bool) (p : Nat) (b : Int) : Int := if b < 0 then getE l p 7 else stepE (l.drop p)
def rdN (l : List Bool) (p : Nat) (b : Int) : Nat := if b < 0 then getI l p 7 else p + stepN (l.drop p)
def rdStep (l : List Bool) (st : List Int × Nat × Int) (x : Nat × Int) : List Int × Nat × Int :=
  if st.2.2 ≠ 0 then st else
  if rdE l st.2.1 x.2 ≠ 0 then (st.1, rdN l st.2.1 x.2, rdE l st.2.1 x.2) else
  if isB (rdV l st.1 st.2.1 x.2) = false then (st.1, rdN l st.2.1 x.2, 6) else
  (st.1.set x.1 (rdV l st.1 st.2.1 x.2), rdN l st.2.1 x.2, 0)
/-- The row, where one is, and the error, behind the first bands. -/
def rdP (l : List Bool) (i n : Nat) (pre : List (Nat × Int)) : List Int × Nat × Int := pre.foldl (rdStep l) (List.replicate n 0, i, 0)
theorem rdP_nil (l : List Bool) (i n : Nat) : rdP l i n [] = (List.replicate n 0, i, 0) := rfl
theorem rdP_snoc (l : List Bool) (i n : Nat) (pre : List (Nat × Int)) (x : Nat × Int) : rdP l i n (pre ++ [x]) = rdStep l (rdP l i n pre) x := by simp [rdP]
theorem rdP_stop (l : List Bool) (i n : Nat) (pre : List (Nat × Int)) (h : (rdP l i n pre).2.2 ≠ 0) : ∀ t, rdP l i n (pre ++ t) = rdP l i n pre := by
  intro t
  have go : ∀ (t : List (Nat × Int)) (st : List Int × Nat × Int), st.2.2 ≠ 0 → t.foldl (rdStep l) st = st := by
    intro t
    induction t with
    | nil => intro st _; rfl
    | cons x t ih =>
      intro st hst
      have : rdStep l st x = st := by unfold rdStep; rw [if_pos hst]
      rw [List.foldl_cons, this]
      exact ih st hst
  unfold rdP
  rw [List.foldl_append]
  exact go t _ h
theorem rdStep_len (l : List Bool) (st : List Int × Nat × Int) (x : Nat × Int) : (rdStep l st x).1.length = st.1.length := by
  unfold rdStep; split
  · rfl
  · split
    · rfl
    · split
      · rfl
      · simp
theorem foldl_inv {α β : Type} (f : α → β → α) (Q : α → Prop) (h : ∀ a b, Q a → Q (f a b)) : ∀ (t : List β) (a : α), Q a → Q (t.foldl f a)
  | [], _, ha => ha
  | b :: t, a, ha => foldl_inv f Q h t (f a b) (h a b ha)
theorem rdP_len (l : List Bool) (i n : Nat) (pre : List (Nat × Int)) : (rdP l i n pre).1.length = n :=
  foldl_inv (rdStep l) (fun st => st.1.length = n) (fun st x h => (rdStep_len l st x).trans h) pre _ (by simp)
theorem rdN_le {l : List Bool} {p : Nat} (b : Int) (h : p ≤ l.length) : rdN l p b ≤ l.length := by
  unfold rdN; split
  · unfold getI; split <;> omega
  · have := stepN_le (l.drop p)
    rw [List.length_drop] at this; omega
theorem rdP_le (l : List Bool) (i n : Nat) (hi : i ≤ l.length) (pre : List (Nat × Int)) : (rdP l i n pre).2.1 ≤ l.length :=
  foldl_inv (rdStep l) (fun st => st.2.1 ≤ l.length) (fun st x h => by
    unfold rdStep; split
    · exact h
    · split
      · exact rdN_le _ h
      · split
        · exact rdN_le _ h
        · exact rdN_le _ h) pre _ hi
theorem isB_iff (x : Int) : isB x = true ↔ 0 ≤ x ∧ x ≤ 95 := by simp [isB]
theorem rdP_range (l : List Bool) (i n : Nat) (pre : List (Nat × Int)) : ∀ x ∈ (rdP l i n pre).1, 0 ≤ x ∧ x ≤ 95 :=
  foldl_inv (rdStep l) (fun st => ∀ x ∈ st.1, 0 ≤ x ∧ x ≤ 95) (fun st x h => by
    unfold rdStep; split
    · exact h
    · split
      · exact h
      · split
        · exact h
        · rename_i h1 h2 h3
          intro y hy
          rcases List.mem_or_eq_of_mem_set hy with h4 | h4
          · exact h y h4
          · rw [h4]; exact (isB_iff _).1 (by simpa using h3)) pre _ (fun x hx => by have := List.eq_of_mem_replicate hx; omega)
theorem getV7 (l : List Bool) (p : Nat) : getV l p 7 ≤ 127 := by
  unfold getV; split
  · omega
  · have := valB_lt ((l.drop p).take 7)
    rw [List.length_take, List.length_drop] at this
    have h2 : 2 ^ min 7 (l.length - p) ≤ 2 ^ 7 := Nat.pow_le_pow_right (by decide) (by omega)
    have h3 : (2 : Nat) ^ 7 = 128 := by decide
    omega
/-- What Read answers: the scales, the error, and where one is then. -/
def readQ (l : List Bool) (i : Nat) (us : List Bool) : List Int × Int × Nat :=
  if 128 < us.length then ([], 1, i) else
  if (rdP l i us.length (walkK us us.length)).2.2 ≠ 0 then ([], (rdP l i us.length (walkK us us.length)).2.2, i) else
  ((rdP l i us.length (walkK us us.length)).1, 0, (rdP l i us.length (walkK us us.length)).2.1)
end Go.Proofs.Ytkfgomhhenmmeaa

namespace Go.Proofs.Ytkfgomhhenmmeaa
open Go.RowKit Go.Shelf
theorem run_storeFn (P : Program) (w : World) (a : Addr) (m : Mode) (fn : Fn) (x y : Array Value) : (store a (.func fn x y) m).run P w = stored P w a (.func fn x y) m := run_store P w a _ m rfl
attribute [local go_sem] Oper.semAt_some run_storeFn

theorem sread_res (tmps : Array Value) (W : World) (g4 g5 : Nat) (e : Int) (A : Option Addr) (n c : Nat) (h4 : tmps[4]?.getD undef = .pointer (some ⟨g4, 0, none⟩)) (h5 : tmps[5]?.getD undef = .pointer (some ⟨g5, 0, none⟩))
    (B4 : Blk W g4 #[.slice A n c] 22) (B5 : Blk W g5 #[.int .i64 e] 26) : (results Try.f45 tmps).run Try.prog W = .ok (.tuple #[.slice A n c, .int .i64 e]) W := by
  have z4 := B4.cell 0 rfl
  have z5 := B5.cell 0 rfl
  simp [results, Try.f45, go_sem, h4, h5, z4, z5]

/-- The row that read returns. -/
def rdO (l : List Bool) (i : Nat) (us : List Bool) : List Int := if (rdP l i us.length (walkK us us.length)).2.2 ≠ 0 then [] else (rdP l i us.length (walkK us us.length)).1
structure SrI (o : Nat → Prop) (W0 : World) (l : List Bool) (g i n gA gr : Nat) (pre : List (Nat × Int)) (W : World) : Prop where
  rd : Rr o W g l (rdP l i n pre).2.1
  row : OwnI 3 .i64 gA W (.slice (some ⟨gr, 0, none⟩) n n) (rdP l i n pre).1
  err : (rdP l i n pre).2.2 = 0
  upd : Upd (fun x => x = g ∨ x = gr) W0 W
structure SrX (o : Nat → Prop) (W0 : World) (l : List Bool) (us : List Bool) (g i gA g4 g5 : Nat) (pre : List (Nat × Int)) (W : World) : Prop where
  rd : ∃ j, Rr o W g l j
  at_ : ∃ k, k < us.length ∧ pre = walkK us (k + 1)
  err : (rdP l i us.length pre).2.2 ≠ 0
  b4 : Blk W g4 #[.slice none 0 0] 22
  b5 : Blk W g5 #[.int .i64 (rdP l i us.length pre).2.2] 26
  upd : Upd (fun x => x = g ∨ gA ≤ x) W0 W

theorem sread_start (w W1 : World) (g n gA g4 g5 gr g6 : Nat) (hn : n ≤ 128) (hA : w.heap.size = gA) (h4 : gA + 1 = g4) (h5 : g4 + 1 = g5) (hr : g5 + 1 = gr) (h6 : gr + 1 = g6)
    (hW : ((((w.alloc (.cells #[.pointer (some ⟨g, 0, none⟩)] 35)).alloc (.cells #[.slice none 0 0] 22)).alloc (.cells #[.int .i64 0] 26)).alloc (.cells (madeCells #[.int .i64 0] n) 3)).alloc (.cells #[.slice (some ⟨gr, 0, none⟩) n n] 22) = W1) :
    Blk W1 gA #[.pointer (some ⟨g, 0, none⟩)] 35 ∧ Blk W1 g4 #[.slice none 0 0] 22 ∧ Blk W1 g5 #[.int .i64 0] 26 ∧ OwnI 3 .i64 gA W1 (.slice (some ⟨gr, 0, none⟩) n n) (List.replicate n 0) ∧ Blk W1 g6 #[.slice (some ⟨gr, 0, none⟩) n n] 22 ∧ Below w.heap.size w W1 ∧ W1.heap.size = g6 + 1 := by
  obtain ⟨Wa, ha⟩ : ∃ Wa, w.alloc (.cells #[.pointer (some ⟨g, 0, none⟩)] 35) = Wa := ⟨_, rfl⟩
  have a1 : Blk Wa w.heap.size #[.pointer (some ⟨g, 0, none⟩)] 35 := ha ▸ heap_alloc_new w _
  have s1 : Wa.heap.size = w.heap.size + 1 := ha ▸ World.size_alloc _ _
  have c1 : Below w.heap.size w Wa := ha ▸ below_alloc (Below.refl _ _) _
  rw [ha] at hW
  obtain ⟨Wb, hb⟩ : ∃ Wb, Wa.alloc (.cells #[.slice none 0 0] 22) = Wb := ⟨_, rfl⟩
  have a2 : Blk Wb Wa.heap.size #[.slice none 0 0] 22 := hb ▸ heap_alloc_new Wa _
  have s2 : Wb.heap.size = Wa.heap.size + 1 := hb ▸ World.size_alloc _ _
  have c2 : Below Wa.heap.size Wa Wb := hb ▸ below_alloc (Below.refl _ _) _
  rw [hb] at hW
  obtain ⟨Wc, hc⟩ : ∃ Wc, Wb.alloc (.cells #[.int .i64 0] 26) = Wc := ⟨_, rfl⟩
  have a3 : Blk Wc Wb.heap.size #[.int .i64 0] 26 := hc ▸ heap_alloc_new Wb _
  have s3 : Wc.heap.size = Wb.heap.size + 1 := hc ▸ World.size_alloc _ _
  have c3 : Below Wb.heap.size Wb Wc := hc ▸ below_alloc (Below.refl _ _) _
  rw [hc] at hW
  obtain ⟨Wd, hd⟩ : ∃ Wd, Wc.alloc (.cells (madeCells #[.int .i64 0] n) 3) = Wd := ⟨_, rfl⟩
  have a4 : OwnI 3 .i64 Wc.heap.size Wd (.slice (some ⟨Wc.heap.size, 0, none⟩) n n) (List.replicate n 0) := hd ▸ own_made Wc 3 .i64 n (by omega)
  have s4 : Wd.heap.size = Wc.heap.size + 1 := hd ▸ World.size_alloc _ _
  have c4 : Below Wc.heap.size Wc Wd := hd ▸ below_alloc (Below.refl _ _) _
  rw [hd] at hW
  have a5 : Blk W1 Wd.heap.size #[.slice (some ⟨gr, 0, none⟩) n n] 22 := hW ▸ heap_alloc_new Wd _
  have s5 : W1.heap.size = Wd.heap.size + 1 := hW ▸ World.size_alloc _ _
  have c5 : Below Wd.heap.size Wd W1 := hW ▸ below_alloc (Below.refl _ _) _
  rw [s4, s3, s2, s1, hA, h4, h5, hr, h6] at a5
  rw [s3, s2, s1, hA, h4, h5, hr] at a4
  rw [s2, s1, hA, h4, h5] at a3
  rw [s1, hA, h4] at a2
  rw [hA] at a1
  exact ⟨(((a1.below c2).below c3).below c4).below c5, ((a2.below c3).below c4).below c5, (a3.below c4).below c5, (a4.mono (by omega)).below c5, a5, below2 (below2 (below2 (below2 c1 c2) c3) c4) c5, by omega⟩

theorem sread_exit {o : Nat → Prop} {W0 W W3 : World} {l : List Bool} {us : List Bool} {g i j k gA g4 g5 gr : Nat} {E : Int} {xs : List (Nat × Int)} (hg : g < gA ∧ gA < g4 ∧ g4 < g5 ∧ g5 < W0.heap.size ∧ gA ≤ gr) (ho : ∀ b, o b → b < gA)
    (hr3 : Rr o W3 g l j) (hu3 : Upd (fun x => x = g) W W3) (hupd : Upd (fun x => x = g ∨ x = gr) W0 W) (m4 : Blk W3 g4 #[.slice none 0 0] 22) (m5 : Blk W3 g5 #[.int .i64 0] 26) (hk : k < us.length ∧ xs = walkK us (k + 1))
    (hE : (rdP l i us.length xs).2.2 = E) (hne : E ≠ 0) :
    KeepsFrom W0.heap.size W ((W3.setCell ⟨g4, 0, none⟩ (.slice none 0 0)).setCell ⟨g5, 0, none⟩ (.int .i64 E)) ∧ SrX o W0 l us g i gA g4 g5 xs ((W3.setCell ⟨g4, 0, none⟩ (.slice none 0 0)).setCell ⟨g5, 0, none⟩ (.int .i64 E)) := by
  have hua : Upd (fun x => x = g4) W3 (W3.setCell ⟨g4, 0, none⟩ (.slice none 0 0)) := Upd.setCell (fun x => x = g4) _ g4 0 _ rfl
  have hub : Upd (fun x => x = g5) (W3.setCell ⟨g4, 0, none⟩ (.slice none 0 0)) ((W3.setCell ⟨g4, 0, none⟩ (.slice none 0 0)).setCell ⟨g5, 0, none⟩ (.int .i64 E)) := Upd.setCell (fun x => x = g5) _ g5 0 _ rfl
  have huc := (hua.weak (o' := fun x => x = g4 ∨ x = g5) fun _ _ h => .inl h).trans hub fun _ _ h => .inr h
  have hud := (hu3.weak (o' := fun x => x = g ∨ x = g4 ∨ x = g5) fun _ _ h => .inl h).trans huc fun _ _ h => .inr h
  refine ⟨keepsU hud (fun b _ h => by rcases h with h | h | h <;> omega), ⟨_, hr3.upd huc (fun b _ h1 h2 => by have := ho b h1; rcases h2 with h | h <;> omega)⟩, ⟨k, hk⟩, by rw [hE]; exact hne, ?_, ?_, ?_⟩
  · exact (m4.set 0 (.slice none 0 0)).keep (hub.keep (ok := fun x => x ≠ g5) fun _ h => h) (by omega)
  · rw [hE]
    exact (m5.keep (hua.keep (ok := fun x => x ≠ g4) fun _ h => h) (by omega)).set 0 (.int .i64 E)
  · exact (hupd.weak (o' := fun x => x = g ∨ gA ≤ x) fun _ _ h => by rcases h with h | h <;> omega).trans hud (fun b _ h => by rcases h with h | h | h <;> omega)
theorem sread_next {o : Nat → Prop} {W0 W W3 : World} {l : List Bool} {us : List Bool} {g i j k gA g4 g5 gr gb : Nat} {R : List Int} {V b : Int} {pre : List (Nat × Int)} (hg : g < gA ∧ gA < g4 ∧ g4 < g5 ∧ g5 < gr ∧ gr < gb ∧ gb < W0.heap.size) (ho : ∀ b, o b → b < gA)
    (hr3 : Rr o W3 g l j) (hu3 : Upd (fun x => x = g) W W3) (hupd : Upd (fun x => x = g ∨ x = gr) W0 W) (mr : OwnI 3 .i64 gA W3 (.slice (some ⟨gr, 0, none⟩) us.length us.length) R) (hE : rdP l i us.length (pre ++ [(k, b)]) = (R.set k V, j, 0)) :
    KeepsFrom W0.heap.size W (W3.setCell ⟨gr, k, none⟩ (.int .i64 V)) ∧ Keep (fun x => (x ≠ g ∧ x < gA) ∨ x = gb) W (W3.setCell ⟨gr, k, none⟩ (.int .i64 V)) ∧ SrI o W0 l g i us.length gA gr (pre ++ [(k, b)]) (W3.setCell ⟨gr, k, none⟩ (.int .i64 V)) := by
  have hua : Upd (fun x => x = gr) W3 (W3.setCell ⟨gr, k, none⟩ (.int .i64 V)) := Upd.setCell (fun x => x = gr) _ gr k _ rfl
  have hud := (hu3.weak (o' := fun x => x = g ∨ x = gr) fun _ _ h => .inl h).trans hua fun _ _ h => .inr h
  refine ⟨keepsU hud (fun b _ h => by rcases h with h | h <;> omega), hud.keep (fun b hb h => by rcases h with h | h <;> rcases hb with hb | hb <;> omega), ?_, ?_, ?_, hupd.trans hud fun _ _ h => h⟩
  · rw [hE]; exact hr3.upd hua (fun b _ h1 h2 => by have := ho b h1; omega)
  · rw [hE]; exact (mr.set k V).1
  · rw [hE]

set_option maxHeartbeats 4000000 in
set_option maxRecDepth 100000 in
theorem sread0 (o : Nat → Prop) (g i : Nat) (l : List Bool) (B : Option Addr) (d : Nat) (us : List Bool) (w : World) (ho : ∀ x, o x → x < w.heap.size) (h : Rr o w g l i) (hU : Sl kBool (fun b => b ≠ g) w B d us) (h128 : us.length ≤ 128) :
    Calls Try.prog 45 #[.pointer (some ⟨g, 0, none⟩), .slice B us.length d] w
      fun e w' => ∃ v, e = .returned (.tuple #[v, .int .i64 (rdP l i us.length (walkK us us.length)).2.2]) ∧ OwnI 3 .i64 w.heap.size w' v (rdO l i us) ∧
        (∃ j, Rr o w' g l j ∧ ((rdP l i us.length (walkK us us.length)).2.2 = 0 → j = (rdP l i us.length (walkK us us.length)).2.1)) ∧ Upd (fun x => x = g) w w' := by
  have hmk := make_row (P := Try.prog) 22 3 .i64 8 Try.underlying22 infoI (by decide) us.length (by omega)
  have HO := Lib.hid ho
  have H := Lib.hid h
  have HU := Lib.hid hU
  clear ho h hU
  refine (callsIn_wide (n := 9)).1 ?_
  refine callsIn_of_wp_marks Try.func45 rfl trivial ?_ rfl
  simp only [Try.ntmps45, List.size_toArray, List.length_cons, List.length_nil, Nat.reduceAdd, Nat.reduceSub, Array.replicate_succ, Array.replicate_zero, List.push_toArray, List.append_toArray, List.nil_append, List.cons_append]
  gi_wp2_with (first
    | (refine ⟨trivial, ?_⟩; gi_at_call 69; refine (callsIn_wide.2 (reading_any g _)).mono ?_; rintro e W2 ⟨g1, gm, b, rfl, q1, q2, q3, q4, B1, Bm, hsy, b2⟩)
    | (refine ⟨trivial, ?_⟩; gi_at_call 39; refine (callsIn_wide.2 (walk_any _ _ _ _)).mono ?_; rintro e W0 ⟨gb, rfl, e1, e2, bB, b6⟩))
  obtain ⟨gA, hA⟩ : ∃ gA, w.heap.size = gA := ⟨_, rfl⟩
  obtain ⟨g4, h4⟩ : ∃ g4, gA + 1 = g4 := ⟨_, rfl⟩
  obtain ⟨g5, h5⟩ : ∃ g5, g4 + 1 = g5 := ⟨_, rfl⟩
  obtain ⟨gr, hr⟩ : ∃ gr, g5 + 1 = gr := ⟨_, rfl⟩
  obtain ⟨g6, h6⟩ : ∃ g6, gr + 1 = g6 := ⟨_, rfl⟩
  obtain ⟨g7, h7⟩ : ∃ g7, W2.heap.size = g7 := ⟨_, rfl⟩
  simp only [hA, h4, h5, hr, h6, h7] at q1 b2 e1 e2 bB b6 ⊢
  obtain ⟨W1, hW1⟩ : ∃ W1, ((((w.alloc (.cells #[.pointer (some ⟨g, 0, none⟩)] 35)).alloc (.cells #[.slice none 0 0] 22)).alloc (.cells #[.int .i64 0] 26)).alloc (.cells (madeCells #[.int .i64 0] us.length) 3)).alloc (.cells #[.slice (some ⟨gr, 0, none⟩) us.length us.length] 22) = W1 := ⟨_, rfl⟩
  rw [hW1] at q1 b2
  obtain ⟨x1, x4, x5, xr, x6, xb, xz⟩ := sread_start w W1 g us.length gA g4 g5 gr g6 h128 hA h4 h5 hr h6 hW1
  have b7 := below_alloc (Below.refl W2.heap.size W2) (.cells #[.func (.func 82) #[] #[.pointer (some ⟨g1, 0, none⟩), .pointer (some ⟨gm, 0, none⟩)]] 112)
  have x7 : Blk (W2.alloc (.cells #[.func (.func 82) #[] #[.pointer (some ⟨g1, 0, none⟩), .pointer (some ⟨gm, 0, none⟩)]] 112)) g7 #[.func (.func 82) #[] #[.pointer (some ⟨g1, 0, none⟩), .pointer (some ⟨gm, 0, none⟩)]] 112 := by rw [← h7]; exact heap_alloc_new W2 _
  have b20 := below2 (below2 b2 b7) b6
  have b70 := below2 b7 b6
  have y1 := x1.below b20
  have y4 := x4.below b20
  have y5 := x5.below b20
  have yr := xr.below b20
  have y6 := x6.below b20
  have y7 := x7.below b6
  have z1 := B1.below b70
  have zm := Bm.below b70
  have zs := hsy.below b70
  have hb0 := below2 xb b20
  have hR0 := H.out.below hb0
  have hgl := H.out.lt
  have he1 := e1.out
  have he2 := e2.out
  simp only [World.size_alloc] at he1
  have hz2 := b2.size
  have HN := Lib.hid (show w.heap.size = gA ∧ g < gA ∧ gA + 1 = g4 ∧ g4 + 1 = g5 ∧ g5 + 1 = gr ∧ gr + 1 = g6 ∧ g6 < g1 ∧ g1 < b ∧ b < gm ∧ gm < g7 ∧ g7 < gb ∧ W0.heap.size = gb + 1 from ⟨hA, by omega, h4, h5, hr, h6, by omega, q2, q3, by omega, by omega, by omega⟩)
  have HB0 := Lib.hid hb0
  have hU0 := (HU.out.weak (ok' := fun x => x ≠ g ∧ x < gA) (fun x hx h => ⟨h, by omega⟩)).below hb0
  have hI0 : SrI o W0 l g i us.length gA gr [] W0 := ⟨by rw [rdP_nil]; exact hR0, by rw [rdP_nil]; exact yr, by rw [rdP_nil], Upd.refl _ _⟩
  have lW : gb < W0.heap.size := by omega
  have l7b : g7 < gb := by omega
  clear hA h4 h5 hr h6 h7 hW1 x1 x4 x5 xr x6 xb xz b7 x7 b20 b70 B1 Bm hsy q1 q2 q3 q4 b2 e1 e2 b6 he1 he2 hz2 hR0 hgl hb0 hmk yr
  refine range_next rfl (by decide) (gf := 63) (lb := #[.pointer (some ⟨gb, 0, none⟩)]) rfl trivial (enters_of Try.func63 (by kernel_rfl) rfl)
    (walk1_yields gb B d us W0 (fun x => (x ≠ g ∧ x < gA) ∨ x = gb) (hU0.weak fun _ _ h => .inl h) bB (.inr rfl) 8 (by decide)) (fun r h => h.elim) (fun r h => by have := HN.out; rcases h with h | h <;> omega) (Below.refl _ _) (fun _ => rfl)
    (fun pre W => SrI o W0 l g i us.length gA gr pre W) (fun c pre W => c = .ret ∧ SrX o W0 l us g i gA g4 g5 pre W) ?hI ?hIx hI0
    (fun x a' W => a' = { tmps := (.pointer (some ⟨g, 0, none⟩) :: .slice B us.length d :: .pointer (some ⟨gA, 0, none⟩) :: undef :: .pointer (some ⟨g4, 0, none⟩) :: .pointer (some ⟨g5, 0, none⟩) :: .pointer (some ⟨g6, 0, none⟩) :: .pointer (some ⟨g7, 0, none⟩) :: .int .i64 (x.1 : Int) :: .int .i64 x.2 :: undef :: undef :: .slice B us.length d :: .int .i64 (us.length : Int) :: .slice (some ⟨gr, 0, none⟩) us.length us.length :: .pointer (some ⟨g, 0, none⟩) :: .func (.func 82) #[] #[.pointer (some ⟨g1, 0, none⟩), .pointer (some ⟨gm, 0, none⟩)] :: .slice B us.length d :: .func (.func 63) #[] #[.pointer (some ⟨gb, 0, none⟩)] :: .int .i64 (x.1 : Int) :: .int .i64 x.2 :: undef :: undef :: undef :: undef :: undef :: undef :: undef :: undef :: undef :: undef :: undef :: undef :: undef :: undef :: undef :: undef :: undef :: undef :: undef :: undef :: undef :: undef :: undef :: undef :: undef :: undef :: undef :: undef :: undef :: undef :: undef :: []).toArray, defers := [] })
    (fun _ _ _ _ _ _ h _ _ => h) ?assign ?body ?done ?stop
  case hI =>
    rintro s X Y row hs hg hr
    have hO : Other X row := fun r e => by
      rcases hr r e with h | ⟨_, x, hx, hc⟩
      · exact h.elim
      · exact ⟨x, hx, hc⟩
    have hu : Upd (fun x => W0.heap.size ≤ x) X Y := Upd.of_grown hg (fun r e => by
      rcases hr r e with h | ⟨h, _⟩
      · exact h.elim
      · exact h)
    exact ⟨hs.rd.upd hu (fun b _ h1 h2 => by have := HO.out b h1; have := HN.out; omega), hs.row.firm hg hO, hs.err, hs.upd.trans hu (fun b hb e => by omega)⟩
  case hIx =>
    rintro c s X Y row ⟨rfl, hs⟩ hg hr
    have hO : Other X row := fun r e => by
      rcases hr r e with h | ⟨_, x, hx, hc⟩
      · exact h.elim
      · exact ⟨x, hx, hc⟩
    have hu : Upd (fun x => W0.heap.size ≤ x) X Y := Upd.of_grown hg (fun r e => by
      rcases hr r e with h | ⟨h, _⟩
      · exact h.elim
      · exact h)
    obtain ⟨j, hj⟩ := hs.rd
    exact ⟨rfl, ⟨⟨j, hj.upd hu (fun b _ h1 h2 => by have := HO.out b h1; have := HN.out; omega)⟩, hs.at_, hs.err, hs.b4.firm hg hO, hs.b5.firm hg hO, hs.upd.trans hu (fun b hb e => by omega)⟩⟩
  case assign =>
    intro l pre x W K hi _ hK
    gi_wp2
    exact hK _ _ (KeepsOthers.refl _ |>.from _) (Keep.refl _ _) hi rfl
  case body =>
    rintro ll pre x a' W hs rfl ⟨k, hk, huk, hpre, hx⟩
    subst hx
    have hkp := hs.upd.keep (ok := fun x => x ≠ g ∧ x ≠ gr) (fun _ h h2 => by omega)
    have k2 := (y1.keep hkp (by have := HN.out; omega)).cell 0 rfl
    have k7 := (y7.keep hkp (by have := HN.out; omega)).cell 0 rfl
    have v1 := z1.keep hkp (by have := HN.out; omega)
    have vm := zm.keep hkp (by have := HN.out; omega)
    have vs := zs.keep hkp (by have := HN.out; omega)
    have hrd := hs.rd
    have hrow := hs.row
    have hupd := hs.upd
    have hsn := rdP_snoc l i us.length pre (k, befK us k)
    have hRl := rdP_len l i us.length pre
    have hRr := rdP_range l i us.length pre
    have her := hs.err
    have hpre2 : pre ++ [(k, befK us k)] = walkK us (k + 1) := by rw [hpre]; exact (walkK_hit huk).1.symm
    obtain ⟨st, hst⟩ : ∃ st, rdP l i us.length pre = st := ⟨_, rfl⟩
    obtain ⟨R, p, er⟩ := st
    rw [hst] at hrd hrow hsn hRl hRr her
    simp only at hrd hrow hRl hRr her
    subst her
    have HROW := Lib.hid hrow
    have HUPD := Lib.hid hupd
    have HPRE2 := Lib.hid (show k < us.length ∧ pre ++ [(k, befK us k)] = walkK us (k + 1) from ⟨hk, hpre2⟩)
    have HRR := Lib.hid hRr
    have HRL := Lib.hid hRl
    have HHG : Hid (∀ W3, Upd (fun x => x = g) W W3 → OwnI 3 .i64 gA W3 (.slice (some ⟨gr, 0, none⟩) us.length us.length) R ∧ Blk W3 g4 #[.slice none 0 0] 22 ∧ Blk W3 g5 #[.int .i64 0] 26 ∧ Blk W3 g6 #[.slice (some ⟨gr, 0, none⟩) us.length us.length] 22) := Lib.hid fun W3 hu3 => by
      have hN := HN.out
      have hu9 := HUPD.out.trans (hu3.weak (o' := fun x => x = g ∨ x = gr) fun _ _ h => .inl h) fun _ _ h => h
      have hkq := hu9.keep (ok := fun x => x ≠ g ∧ x ≠ gr) (fun _ h h2 => by omega)
      exact ⟨ownI_keep HROW.out (hu3.keep (ok := fun x => x ≠ g) fun _ h => h) (fun b e => by have h9 : gr = b := Option.some.inj e; omega), y4.keep hkq (by omega), y5.keep hkq (by omega), y6.keep hkq (by omega)⟩
    have n45 : g4 ≠ g5 := by have := HN.out; omega
    have hki : (k : Int) < (us.length : Int) := by omega
    clear hs hrow hupd hst hkp hpre hpre2
    by_cases hb : befK us k < 0
    · have hd1 : decide (befK us k < 0) = true := decide_eq_true hb
      have hC := rget_any o g p 7 l W hrd (by decide)
      have hstp : rdStep l (R, p, 0) (k, befK us k) = if getE l p 7 ≠ 0 then (R, getI l p 7, getE l p 7) else if isB (getV l p 7 : Int) = false then (R, getI l p 7, 6) else (R.set k (getV l p 7 : Int), getI l p 7, 0) := by
        unfold rdStep rdE rdN rdV
        simp only [if_pos hb]
        rw [if_neg (by simp)]
      rw [hstp] at hsn
      obtain ⟨V, hV⟩ : ∃ V : Int, (getV l p 7 : Int) = V := ⟨_, rfl⟩
      obtain ⟨E, hE⟩ : ∃ E : Int, getE l p 7 = E := ⟨_, rfl⟩
      obtain ⟨P, hP⟩ : ∃ P : Nat, getI l p 7 = P := ⟨_, rfl⟩
      rw [hV, hE, hP] at hsn hC
      have HSN := Lib.hid hsn
      have HC := Lib.hid hC
      clear hb hstp hsn hC hV hE hP hrd v1 vm vs hRr hRl hk huk
      by_cases hE : E = 0
      · subst hE
        have HX := Lib.hid (fun W => is_any V W)
        obtain ⟨q, hq⟩ : ∃ q, isB V = q := ⟨_, rfl⟩
        rw [hq] at HX
        cases q
        · have HSE := Lib.hid (show (rdP l i us.length (pre ++ [(k, befK us k)])).2.2 = 6 by rw [HSN.out, if_neg (by simp), if_pos hq])
          clear hq
          gi_wp2_with (first
            | (refine ⟨trivial, ?_⟩; gi_at_call 70; refine (CallsIn.inRound ll (callsIn_wide.2 HC.out)).mono ?_; rintro e W3 ⟨rfl, hr3, hu3⟩; obtain ⟨mr, m4, m5, m6⟩ := HHG.out W3 hu3; have c4 := m4.cell 0 rfl; have f4 := m4.free 0; have c5 := m5.cell 0 rfl; have f5 := m5.free 0; have c6 := m6.cell 0 rfl; have crk := mr.at_ k (by have := HRL.out; omega); have crk1 := crk.1; have crk2 := crk.2; skip; have HQ := Lib.hid (show Rr o W3 g l P ∧ Upd (fun x => x = g) W W3 ∧ _ ∧ _ ∧ _ from ⟨hr3, hu3, mr, m4, m5⟩); clear hr3 hu3 mr m4 m5 m6 crk)
            | (refine ⟨trivial, ?_⟩; gi_at_call 48; refine (CallsIn.inRound ll (callsIn_wide.2 (HX.out _))).mono ?_; rintro e W5 ⟨rfl, rfl⟩))
          have hN := HN.out
          obtain ⟨hr3, hu3, mr, m4, m5⟩ := HQ.out
          obtain ⟨t1, t2⟩ := sread_exit (gA := gA) (g4 := g4) (g5 := g5) (gr := gr) (E := 6) (by omega) (fun b hb => by have := HO.out b hb; omega) hr3 hu3 HUPD.out m4 m5 HPRE2.out HSE.out (by decide)
          exact ⟨t1, rfl, t2⟩
        · have HSE := Lib.hid (show rdP l i us.length (pre ++ [(k, befK us k)]) = (R.set k V, P, 0) by rw [HSN.out, if_neg (by simp), if_neg (by rw [hq]; decide)])
          clear hq
          gi_wp2_with (first
            | (refine ⟨trivial, ?_⟩; gi_at_call 70; refine (CallsIn.inRound ll (callsIn_wide.2 HC.out)).mono ?_; rintro e W3 ⟨rfl, hr3, hu3⟩; obtain ⟨mr, m4, m5, m6⟩ := HHG.out W3 hu3; have c4 := m4.cell 0 rfl; have f4 := m4.free 0; have c5 := m5.cell 0 rfl; have f5 := m5.free 0; have c6 := m6.cell 0 rfl; have crk := mr.at_ k (by have := HRL.out; omega); have crk1 := crk.1; have crk2 := crk.2; skip; have HQ := Lib.hid (show Rr o W3 g l P ∧ Upd (fun x => x = g) W W3 ∧ _ ∧ _ ∧ _ from ⟨hr3, hu3, mr, m4, m5⟩); clear hr3 hu3 mr m4 m5 m6 crk)
            | (refine ⟨trivial, ?_⟩; gi_at_call 48; refine (CallsIn.inRound ll (callsIn_wide.2 (HX.out _))).mono ?_; rintro e W5 ⟨rfl, rfl⟩))
          have hN := HN.out
          obtain ⟨hr3, hu3, mr, m4, m5⟩ := HQ.out
          exact sread_next (gA := gA) (g4 := g4) (g5 := g5) (gr := gr) (gb := gb) (by omega) (fun b hb => by have := HO.out b hb; omega) hr3 hu3 HUPD.out mr HSE.out
      · have hEb : (E != 0) = true := by simp [hE]
        have HSE := Lib.hid (show (rdP l i us.length (pre ++ [(k, befK us k)])).2.2 = E by rw [HSN.out, if_pos hE])
        have HNE := Lib.hid hE
        clear hE
        gi_wp2_with (refine ⟨trivial, ?_⟩; gi_at_call 70; refine (CallsIn.inRound ll (callsIn_wide.2 HC.out)).mono ?_; rintro e W3 ⟨rfl, hr3, hu3⟩; obtain ⟨mr, m4, m5, m6⟩ := HHG.out W3 hu3; have c4 := m4.cell 0 rfl; have f4 := m4.free 0; have c5 := m5.cell 0 rfl; have f5 := m5.free 0; have c6 := m6.cell 0 rfl; have crk := mr.at_ k (by have := HRL.out; omega); have crk1 := crk.1; have crk2 := crk.2; skip; have HQ := Lib.hid (show Rr o W3 g l P ∧ Upd (fun x => x = g) W W3 ∧ _ ∧ _ ∧ _ from ⟨hr3, hu3, mr, m4, m5⟩); clear hr3 hu3 mr m4 m5 m6 crk)
        have hN := HN.out
        obtain ⟨hr3, hu3, mr, m4, m5⟩ := HQ.out
        obtain ⟨t1, t2⟩ := sread_exit (gA := gA) (g4 := g4) (g5 := g5) (gr := gr) (E := E) (by omega) (fun b hb => by have := HO.out b hb; omega) hr3 hu3 HUPD.out m4 m5 HPRE2.out HSE.out HNE.out
        exact ⟨t1, rfl, t2⟩
    · obtain ⟨j, hbj, hjk, huj⟩ := (befK_lt us k).resolve_left (fun h => hb (by omega))
      rw [hbj] at hsn HPRE2 ⊢
      have hd1 : decide ((j : Int) < 0) = false := decide_eq_false (by omega)
      have hC := step_any o g p b g1 gm l W hrd v1 vm vs (by have := HN.out; omega) (by have := HN.out; omega) (by have := HN.out; omega)
      have hstp : rdStep l (R, p, 0) (k, (j : Int)) = if stepE (l.drop p) ≠ 0 then (R, p + stepN (l.drop p), stepE (l.drop p)) else if isB (stepV (l.drop p) + nth 0 R j) = false then (R, p + stepN (l.drop p), 6) else (R.set k (stepV (l.drop p) + nth 0 R j), p + stepN (l.drop p), 0) := by
        unfold rdStep rdE rdN rdV
        simp only [if_neg (show ¬ (j : Int) < 0 by omega)]
        rw [if_neg (by simp)]
        rfl
      rw [hstp] at hsn
      have hsb := step_bd (l.drop p)
      obtain ⟨V0, hV0⟩ : ∃ V : Int, stepV (l.drop p) = V := ⟨_, rfl⟩
      obtain ⟨E, hE⟩ : ∃ E : Int, stepE (l.drop p) = E := ⟨_, rfl⟩
      obtain ⟨P, hP⟩ : ∃ P : Nat, p + stepN (l.drop p) = P := ⟨_, rfl⟩
      rw [hV0, hE, hP] at hsn hC
      rw [hV0] at hsb
      have hrj := nth_bound hRr (by decide) j
      obtain ⟨rj, hRj⟩ : ∃ rj, nth 0 R j = rj := ⟨_, rfl⟩
      rw [hRj] at hrj hsn
      obtain ⟨V, hV⟩ : ∃ V : Int, V0 + rj = V := ⟨_, rfl⟩
      have hwV : IntKind.i64.wrap (V0 + rj) = V := by rw [hV]; exact IntWalk.i64_in _ (by omega)
      rw [hV] at hsn
      have hju : j < us.length := by omega
      have hjui : (j : Int) < (us.length : Int) := by omega
      have HSN := Lib.hid hsn
      have HC := Lib.hid hC
      clear hb hstp hsn hC hV hE hP hrd v1 vm vs hRr hRl hk huk hbj hjk huj hsb hrj hV0
      by_cases hE : E = 0
      · subst hE
        have HX := Lib.hid (fun W => is_any V W)
        obtain ⟨q, hq⟩ : ∃ q, isB V = q := ⟨_, rfl⟩
        rw [hq] at HX
        cases q
        · have HSE := Lib.hid (show (rdP l i us.length (pre ++ [(k, (j : Int))])).2.2 = 6 by rw [HSN.out, if_neg (by simp), if_pos hq])
          clear hq
          gi_wp2_with (first
            | (refine ⟨trivial, ?_⟩; gi_at_call 82; refine (CallsIn.inRound ll (callsIn_wide.2 HC.out)).mono ?_; rintro e W3 ⟨rfl, hr3, hu3⟩; obtain ⟨mr, m4, m5, m6⟩ := HHG.out W3 hu3; have c4 := m4.cell 0 rfl; have f4 := m4.free 0; have c5 := m5.cell 0 rfl; have f5 := m5.free 0; have c6 := m6.cell 0 rfl; have crk := mr.at_ k (by have := HRL.out; omega); have crk1 := crk.1; have crk2 := crk.2; have crj := (mr.at_ j (by have := HRL.out; omega)).1; rw [hRj] at crj; have HQ := Lib.hid (show Rr o W3 g l P ∧ Upd (fun x => x = g) W W3 ∧ _ ∧ _ ∧ _ from ⟨hr3, hu3, mr, m4, m5⟩); clear hr3 hu3 mr m4 m5 m6 crk)
            | (refine ⟨trivial, ?_⟩; gi_at_call 48; refine (CallsIn.inRound ll (callsIn_wide.2 (HX.out _))).mono ?_; rintro e W5 ⟨rfl, rfl⟩))
          have hN := HN.out
          obtain ⟨hr3, hu3, mr, m4, m5⟩ := HQ.out
          obtain ⟨t1, t2⟩ := sread_exit (gA := gA) (g4 := g4) (g5 := g5) (gr := gr) (E := 6) (by omega) (fun b hb => by have := HO.out b hb; omega) hr3 hu3 HUPD.out m4 m5 HPRE2.out HSE.out (by decide)
          exact ⟨t1, rfl, t2⟩
        · have HSE := Lib.hid (show rdP l i us.length (pre ++ [(k, (j : Int))]) = (R.set k V, P, 0) by rw [HSN.out, if_neg (by simp), if_neg (by rw [hq]; decide)])
          clear hq
          gi_wp2_with (first
            | (refine ⟨trivial, ?_⟩; gi_at_call 82; refine (CallsIn.inRound ll (callsIn_wide.2 HC.out)).mono ?_; rintro e W3 ⟨rfl, hr3, hu3⟩; obtain ⟨mr, m4, m5, m6⟩ := HHG.out W3 hu3; have c4 := m4.cell 0 rfl; have f4 := m4.free 0; have c5 := m5.cell 0 rfl; have f5 := m5.free 0; have c6 := m6.cell 0 rfl; have crk := mr.at_ k (by have := HRL.out; omega); have crk1 := crk.1; have crk2 := crk.2; have crj := (mr.at_ j (by have := HRL.out; omega)).1; rw [hRj] at crj; have HQ := Lib.hid (show Rr o W3 g l P ∧ Upd (fun x => x = g) W W3 ∧ _ ∧ _ ∧ _ from ⟨hr3, hu3, mr, m4, m5⟩); clear hr3 hu3 mr m4 m5 m6 crk)
            | (refine ⟨trivial, ?_⟩; gi_at_call 48; refine (CallsIn.inRound ll (callsIn_wide.2 (HX.out _))).mono ?_; rintro e W5 ⟨rfl, rfl⟩))
          have hN := HN.out
          obtain ⟨hr3, hu3, mr, m4, m5⟩ := HQ.out
          exact sread_next (gA := gA) (g4 := g4) (g5 := g5) (gr := gr) (gb := gb) (by omega) (fun b hb => by have := HO.out b hb; omega) hr3 hu3 HUPD.out mr HSE.out
      · have hEb : (E != 0) = true := by simp [hE]
        have HSE := Lib.hid (show (rdP l i us.length (pre ++ [(k, (j : Int))])).2.2 = E by rw [HSN.out, if_pos hE])
        have HNE := Lib.hid hE
        clear hE
        gi_wp2_with (refine ⟨trivial, ?_⟩; gi_at_call 82; refine (CallsIn.inRound ll (callsIn_wide.2 HC.out)).mono ?_; rintro e W3 ⟨rfl, hr3, hu3⟩; obtain ⟨mr, m4, m5, m6⟩ := HHG.out W3 hu3; have c4 := m4.cell 0 rfl; have f4 := m4.free 0; have c5 := m5.cell 0 rfl; have f5 := m5.free 0; have c6 := m6.cell 0 rfl; have crk := mr.at_ k (by have := HRL.out; omega); have crk1 := crk.1; have crk2 := crk.2; have crj := (mr.at_ j (by have := HRL.out; omega)).1; rw [hRj] at crj; have HQ := Lib.hid (show Rr o W3 g l P ∧ Upd (fun x => x = g) W W3 ∧ _ ∧ _ ∧ _ from ⟨hr3, hu3, mr, m4, m5⟩); clear hr3 hu3 mr m4 m5 m6 crk)
        have hN := HN.out
        obtain ⟨hr3, hu3, mr, m4, m5⟩ := HQ.out
        obtain ⟨t1, t2⟩ := sread_exit (gA := gA) (g4 := g4) (g5 := g5) (gr := gr) (E := E) (by omega) (fun b hb => by have := HO.out b hb; omega) hr3 hu3 HUPD.out m4 m5 HPRE2.out HSE.out HNE.out
        exact ⟨t1, rfl, t2⟩
  case done =>
    rintro D xs W hD rfl hs hK
    have hN := Lib.hid HN.out
    have hkp := hs.upd.keep (ok := fun x => x ≠ g ∧ x ≠ gr) (fun _ h h2 => by omega)
    have m4 := y4.keep hkp (by have := HN.out; omega)
    have m5 := y5.keep hkp (by have := HN.out; omega)
    have c6 := (y6.keep hkp (by have := HN.out; omega)).cell 0 rfl
    have c4 := m4.cell 0 rfl
    have f4 := m4.free 0
    have c5 := m5.cell 0 rfl
    have f5 := m5.free 0
    have n45 : g4 ≠ g5 := by have := HN.out; omega
    have HS := Lib.hid hs
    have HM4 := Lib.hid m4
    have HM5 := Lib.hid m5
    clear hs m4 m5 hkp
    gi_wp2
    have hN := HN.out
    have hs := HS.out
    have hup : Upd (fun x => x = g4) W (W.setCell ⟨g4, 0, none⟩ (.slice (some ⟨gr, 0, none⟩) us.length us.length)) := Upd.setCell (fun x => x = g4) _ g4 0 _ rfl
    have huq : Upd (fun x => x = g5) (W.setCell ⟨g4, 0, none⟩ (.slice (some ⟨gr, 0, none⟩) us.length us.length)) ((W.setCell ⟨g4, 0, none⟩ (.slice (some ⟨gr, 0, none⟩) us.length us.length)).setCell ⟨g5, 0, none⟩ (.int .i64 0)) := Upd.setCell (fun x => x = g5) _ g5 0 _ rfl
    have hua := (hup.weak (o' := fun x => x = g4 ∨ x = g5) fun _ _ h => .inl h).trans huq fun _ _ h => .inr h
    have b4 := (HM4.out.set 0 (.slice (some ⟨gr, 0, none⟩) us.length us.length)).keep (huq.keep (ok := fun x => x ≠ g5) fun _ h => h) (by omega)
    have b5 := (HM5.out.keep (hup.keep (ok := fun x => x ≠ g4) fun _ h => h) (by omega)).set 0 (.int .i64 0)
    obtain ⟨W5, hW5⟩ : ∃ W5, (W.setCell ⟨g4, 0, none⟩ (.slice (some ⟨gr, 0, none⟩) us.length us.length)).setCell ⟨g5, 0, none⟩ (.int .i64 0) = W5 := ⟨_, rfl⟩
    rw [hW5] at hua b4 b5 ⊢
    have hK5 : W5.heap[D]? = some (.deferred (some [])) := (hua.blk D (Array.getElem?_eq_some_iff.1 hK).1 (by omega)).trans hK
    have hO : Other W5 (some D) := fun r e => by cases e; exact ⟨_, hK5, rfl⟩
    have hpu : Upd (fun x => x = D) W5 (W5.putObj D (.deferred none)) := Upd.of_grown (o := fun x => x = D) (grownBy_putObj' W5 D (.deferred none)) (fun r e => by cases e; rfl)
    refine ⟨by simp, .inl ⟨_, _, rfl, run_takeDeferred hK5, ?_⟩⟩
    refine ⟨_, sread_res _ _ g4 g5 _ _ _ _ rfl rfl (b4.firm (grownBy_putObj' _ D _) hO) (b5.firm (grownBy_putObj' _ D _) hO), _, by rw [hs.err], ?_, ⟨_, (hs.rd.upd hua (fun b _ h1 h2 => by have := HO.out b h1; omega)).upd hpu (fun b _ h1 h2 => by have := HO.out b h1; omega), fun _ => rfl⟩, ?_⟩
    · have hrd : rdO l i us = (rdP l i us.length (walkK us us.length)).1 := by unfold rdO; rw [if_neg (by rw [hs.err]; simp)]
      rw [hrd]
      exact ((ownI_keep hs.row (hua.keep (ok := fun x => x ≠ g4 ∧ x ≠ g5) fun _ h h2 => by omega) (fun b e => by have h9 : gr = b := Option.some.inj e; omega)).firm (grownBy_putObj' _ D _) hO).mono (by omega)
    · have hw1 := ((hs.upd.weak (o' := fun x => x = g ∨ gA ≤ x) fun _ _ h => by omega).trans hua (fun b _ h => by omega)).trans hpu (fun b _ h => by omega)
      exact (Upd.of_below HB0.out (fun x => x = g)).trans hw1 (fun b hb e => by omega)
  case stop =>
    rintro D c pre W hD _ ⟨rfl, hs⟩ hK
    refine wpIn_ret ?_
    have hN := HN.out
    have hO : Other W (some D) := fun r e => by cases e; exact ⟨_, hK, rfl⟩
    have hpu : Upd (fun x => x = D) W (W.putObj D (.deferred none)) := Upd.of_grown (o := fun x => x = D) (grownBy_putObj' W D (.deferred none)) (fun r e => by cases e; rfl)
    obtain ⟨k, hk, hpre⟩ := hs.at_
    obtain ⟨t, ht⟩ := walkK_prefix us (k + 1) us.length (by omega)
    have hst : rdP l i us.length (walkK us us.length) = rdP l i us.length pre := by rw [ht, ← hpre]; exact rdP_stop l i us.length pre hs.err t
    obtain ⟨j, hj⟩ := hs.rd
    refine ⟨by simp, .inl ⟨_, _, rfl, run_takeDeferred hK, ?_⟩⟩
    refine ⟨_, sread_res _ _ g4 g5 _ _ _ _ rfl rfl (hs.b4.firm (grownBy_putObj' _ D _) hO) (hs.b5.firm (grownBy_putObj' _ D _) hO), _, by rw [hst], ?_, ⟨j, hj.upd hpu (fun b _ h1 h2 => by have := HO.out b h1; omega), fun h => absurd (by rw [← hst]; exact h) hs.err⟩, ?_⟩
    · have hrd : rdO l i us = [] := by unfold rdO; rw [if_pos (by rw [hst]; exact hs.err)]
      rw [hrd]; exact OwnI.nil _ _ _ _
    · exact (Upd.of_below HB0.out (fun x => x = g)).trans (hs.upd.trans hpu (fun b _ h => by omega)) (fun b hb e => by omega)
end Go.Proofs.Ytkfgomhhenmmeaa

namespace Go.Proofs.Ytkfgomhhenmmeaa
open Go.RowKit

theorem sread_any (o : Nat → Prop) (g i : Nat) (l : List Bool) (B : Option Addr) (d : Nat) (us : List Bool) (w : World) (h : Rr o w g l i) (hU : Sl kBool (fun b => b ≠ g) w B d us) (h128 : us.length ≤ 128) :
    Calls Try.prog 45 #[.pointer (some ⟨g, 0, none⟩), .slice B us.length d] w
      fun e w' => ∃ v, e = .returned (.tuple #[v, .int .i64 (rdP l i us.length (walkK us us.length)).2.2]) ∧ OwnI 3 .i64 w.heap.size w' v (rdO l i us) ∧
        (∃ j, Rr o w' g l j ∧ ((rdP l i us.length (walkK us us.length)).2.2 = 0 → j = (rdP l i us.length (walkK us us.length)).2.1)) ∧ Upd (fun x => x = g) w w' :=
  (sread0 (fun x => o x ∧ x < w.heap.size) g i l B d us w (fun _ h => h.2) h.cut hU h128).mono fun _ _ ⟨v, h1, h2, ⟨j, h3, h4⟩, h5⟩ => ⟨v, h1, h2, ⟨j, h3.weak fun _ _ h => h.1, h4⟩, h5⟩

set_option maxHeartbeats 1000000 in
set_option maxRecDepth 100000 in
theorem sRead_any (o : Nat → Prop) (g i : Nat) (l : List Bool) (B : Option Addr) (d : Nat) (us : List Bool) (w : World) (h : Rr o w g l i) (hU : Sl kBool (fun b => b ≠ g) w B d us) :
    Calls Try.prog 20 #[.pointer (some ⟨g, 0, none⟩), .slice B us.length d] w
      fun e w' => ∃ v, e = .returned (.tuple #[v, .int .i64 (readQ l i us).2.1]) ∧ OwnI 3 .i64 w.heap.size w' v (readQ l i us).1 ∧ Rr o w' g l (readQ l i us).2.2 ∧ Upd (fun x => x = g) w w' := by
  have hile := h.le
  by_cases h128 : 128 < us.length
  · have hd : decide (128 < (us.length : Int)) = true := decide_eq_true (by omega)
    have HQ := Lib.hid (show readQ l i us = ([], 1, i) by unfold readQ; rw [if_pos h128])
    have H := Lib.hid h
    clear h hU h128
    go_enter Try.func20, Try.ntmps20
    go_wp2
    go_ret2
    exact ⟨_, ret_two rfl (by rw [HQ.out]; rfl), by rw [HQ.out]; exact OwnI.nil _ _ _ _, by rw [HQ.out]; exact H.out, Upd.refl _ _⟩
  · have hd : decide (128 < (us.length : Int)) = false := decide_eq_false (by omega)
    have HC := Lib.hid (sread_any o g i l B d us w h hU (by omega))
    have HA := Lib.hid (rat_any o g i l w h)
    obtain ⟨E, hE⟩ : ∃ E, (rdP l i us.length (walkK us us.length)).2.2 = E := ⟨_, rfl⟩
    rw [hE] at HC
    by_cases h0 : E = 0
    · subst h0
      have HQ := Lib.hid (show readQ l i us = (rdO l i us, 0, (rdP l i us.length (walkK us us.length)).2.1) by unfold readQ rdO; rw [if_neg h128, if_neg (by rw [hE]; simp), if_neg (by rw [hE]; simp)])
      clear h hU hE h128
      go_enter Try.func20, Try.ntmps20
      go_wp2_with (first
        | (go_at_call 22; refine HA.out.mono ?_; rintro e w2 ⟨rfl, rfl⟩)
        | (go_at_call 45; refine HC.out.mono ?_; rintro e w3 ⟨v3, rfl, hO3, ⟨j, hj, hj0⟩, hu3⟩))
      go_ret2
      exact ⟨_, ret_two rfl (by rw [HQ.out]; rfl), by rw [HQ.out]; exact hO3, by rw [HQ.out]; rw [hj0 trivial] at hj; exact hj, hu3⟩
    · have hEb : (E != 0) = true := by simp [h0]
      have HQ := Lib.hid (show readQ l i us = ([], E, i) by unfold readQ; rw [if_neg h128, if_pos (by rw [hE]; exact h0), hE])
      have HR := Lib.hid (show rdO l i us = [] by unfold rdO; rw [if_pos (by rw [hE]; exact h0)])
      have HSK := Lib.hid (show seekI l = fun j k => seekI l j k from rfl)
      have HI := Lib.hid hile
      have HGL := Lib.hid h.lt
      clear h hU hE h128 h0 hile
      go_enter Try.func20, Try.ntmps20
      go_wp2_with (first
        | (go_at_call 22; refine HA.out.mono ?_; rintro e w2 ⟨rfl, rfl⟩)
        | (go_at_call 45; refine HC.out.mono ?_; rintro e w3 ⟨v3, rfl, hO3, ⟨j, hj, hj0⟩, hu3⟩; have HK := Lib.hid (rseek_any o g j (i : Int) l w3 hj))
        | (go_at_call 43; refine HK.out.mono ?_; rintro e w4 ⟨rfl, hr4, hu4⟩))
      go_ret2
      rw [HR.out] at hO3
      have hsi : seekI l j (i : Int) = i := by unfold seekI; rw [if_neg (by have := HI.out; omega)]; simp
      rw [hsi] at hr4
      refine ⟨_, ret_two rfl (by rw [HQ.out]; rfl), ?_, by rw [HQ.out]; exact hr4, hu3.trans hu4 fun _ _ h => h⟩
      rw [HQ.out]
      exact ownI_keep hO3 (hu4.keep (ok := fun x => x ≠ g) fun _ h => h) (fun b e => by have := hO3.base_le b e; have := HGL.out; omega)
set_option maxHeartbeats 400000 in
theorem sRead_nil (B : Option Addr) (n d : Nat) (w : World) :
    Calls Try.prog 20 #[.pointer none, .slice B n d] w fun e w' => e = .returned (.tuple #[.slice none 0 0, .int .i64 1]) ∧ w = w' := by
  go_enter Try.func20, Try.ntmps20
  go_wp2
  go_ret2
  exact ⟨rfl, rfl⟩
end Go.Proofs.Ytkfgomhhenmmeaa

namespace Go.Proofs.Ytkfgomhhenmmeaa
open Go.RowKit

/-- All scales. -/
def allL : List Int := (List.range 96).map fun s => ((s : Nat) : Int)
theorem allL_length : allL.length = 96 := by simp [allL]
theorem allL_nth (k : Nat) (h : k < 96) : nth 0 allL k = (k : Int) := by rw [nth_eq 0 _ k (by rw [allL_length]; exact h)]; simp [allL]

set_option maxHeartbeats 1000000 in
set_option maxRecDepth 100000 in
theorem all_any (w : World) :
    Calls Try.prog 53 #[] w fun e w' => ∃ v, e = .returned v ∧ OwnI 3 .i64 w.heap.size w' v allL ∧ Below w.heap.size w w' := by
  go_enter Try.func53, Try.ntmps53
  go_wp2
  go_loopw [1, 3] (fun v i wr => ∃ k : Nat, k ≤ 96 ∧ i = .int .i64 (k : Int) ∧ Hid (OwnI 3 .i64 w.heap.size wr v (allL.take k)) ∧ Below w.heap.size w wr) (fun _ i _ => 96 - (intOf i).toNat)
  case atStart => exact ⟨0, Nat.zero_le _, rfl, Lib.hid (OwnI.nil _ _ _ _), Below.refl _ _⟩
  case round =>
    obtain ⟨k, hk, rfl, hO, hB⟩ := hrel
    by_cases hlt : k < 96
    · have hki : (k : Int) < 96 := by omega
      have HT := Lib.hid (take_succ_nth 0 allL k (by rw [allL_length]; exact hlt))
      rw [allL_nth k hlt] at HT
      have hl : (allL.take k).length ≤ 96 := by rw [List.length_take]; omega
      go_wp2_with (at_builtin; (refine append_one (w0 := w) w.heap.size rfl (.tmp 6) (.tmp 8) 22 3 .i64 8 rfl Try.underlying22 infoI (by decide) _ (allL.take k) (k : Int) rfl rfl hO.out hB hB.size (by omega) ?_); intro v1 w4 hO4 hB4 _ _; have HO4 := Lib.hid hO4; clear hO4)
      go_roundw
      case rel => exact ⟨k + 1, by omega, by go_num, by rw [HT.out]; exact HO4, hB4⟩
      case measure => simp [intOf]; omega
    · obtain rfl : k = 96 := by omega
      have HT := Lib.hid (show allL.take 96 = allL from List.take_of_length_le (by rw [allL_length]; exact Nat.le_refl _))
      go_wp2
      go_ret
      exact ⟨_, rfl, by rw [← HT.out]; exact hO.out, hB⟩

end Go.Proofs.Ytkfgomhhenmmeaa

namespace Go.Proofs.Ytkfgomhhenmmeaa
open Go.RowKit

def bools (xs : List Bool) : List Value := xs.map Value.bool
theorem bools_length (xs : List Bool) : (bools xs).length = xs.length := by simp [bools]
theorem bools_get (xs : List Bool) (j : Nat) (h : j < xs.length) : (bools xs)[j]? = some (.bool (nth false xs j)) := by
  simp [bools, nth, List.getD_eq_getElem?_getD, List.getElem?_eq_getElem h]
theorem bools_set (xs : List Bool) (j : Nat) (x : Bool) : (bools xs).set j (.bool x) = bools (xs.set j x) := by simp [bools, List.map_set]
theorem bools_zero (n : Nat) : (madeCells #[.bool false] n) = (bools (List.replicate n false)).toArray := by
  apply Array.ext
  · simp [madeCells, bools]
  · intro i h1 h2
    simp [madeCells, bools, Nat.mod_one]
theorem sl_bools {W : World} {r n : Nat} {xs : List Bool} {t : TypeId} (h : Blk W r (bools xs).toArray t) (hn : xs.length ≤ n) (hc : n ≤ 9223372036854775807) : Sl kBool (fun b => b = r) W (some ⟨r, 0, none⟩) n xs := by
  refine ⟨hn, hc, fun j hj => ⟨_, [.bool (nth false xs j)], rfl, rfl, h.lt, rfl, fun i v hv => ?_⟩⟩
  match i, hv with
  | 0, hv =>
    simp at hv; subst hv
    rw [add_plain]
    exact h.cell _ (by rw [List.getElem?_toArray]; simpa [kBool] using bools_get xs j hj)
theorem infoB : (Try.prog.info? 4).map (fun i => (i.zero, i.size, i.bytes)) = some (some (.bool false), 1, 1) := by kernel_rfl
theorem make_bools (n : Nat) (hn : n ≤ 1000000) : ∀ W : World, (Instr.makeSlice 23 (.int .i64 (n : Int)) (.int .i64 (n : Int))).run Try.prog W = .ok (.slice (some ⟨W.heap.size, 0, none⟩) n n) (W.alloc (.cells (bools (List.replicate n false)).toArray 4)) := by
  intro W
  rw [← bools_zero]
  exact run_make_row' 23 4 (.bool false) 1 Try.underlying23 infoB rfl .i64 .i64 n (by omega) (by omega) W

/-! ### Which bands have a value -/
def widN (ws : List Int) (j : Nat) : Nat := (nth 0 ws j).toNat
def sumN (ws : List Int) (k : Nat) : Nat := sumTo k (widN ws)
theorem sumN_succ (ws : List Int) (k : Nat) : sumN ws (k + 1) = sumN ws k + widN ws k := sumTo_succ _ _
def okW (x : Int) : Bool := decide (1 ≤ x) && decide (x ≤ 128)
def usedE (ws l : List Int) : Int := if ws.all okW = true ∧ sumN ws ws.length = l.length ∧ ws.length ≤ 128 then 0 else 1
def partB (ws l : List Int) (k m : Nat) : Bool := ((l.drop (sumN ws k)).take m).any (· != 0)
def rowU (ws l : List Int) (k m : Nat) : List Bool := (List.range ws.length).map fun i => if i < k then partB ws l i (widN ws i) else if i = k then partB ws l k m else false
def usedB (ws l : List Int) : List Bool := if usedE ws l = 0 then rowU ws l ws.length 0 else []
theorem rowU_length (ws l : List Int) (k m : Nat) : (rowU ws l k m).length = ws.length := by simp [rowU]
theorem rowU_nth (ws l : List Int) (k m : Nat) (h : k < ws.length) : nth false (rowU ws l k m) k = partB ws l k m := by
  rw [nth_eq false _ k (by rw [rowU_length]; exact h)]; simp [rowU]
theorem rowU_set (ws l : List Int) (k m m2 : Nat) : (rowU ws l k m).set k (partB ws l k m2) = rowU ws l k m2 := by
  apply List.ext_getElem
  · simp [rowU]
  · intro i h1 h2
    rw [List.getElem_set]
    split
    · rename_i h; subst h; simp [rowU]
    · rename_i h
      simp only [rowU, List.getElem_map, List.getElem_range]
      split
      · rfl
      · rw [if_neg (fun e => h e.symm), if_neg (fun e => h e.symm)]
theorem partB_zero (ws l : List Int) (k : Nat) : partB ws l k 0 = false := by simp [partB]
theorem rowU_zero (ws l : List Int) : rowU ws l 0 0 = List.replicate ws.length false := by
  apply List.ext_getElem
  · simp [rowU]
  · intro i h1 h2
    simp [rowU, partB_zero]
theorem rowU_next (ws l : List Int) (k : Nat) : rowU ws l k (widN ws k) = rowU ws l (k + 1) 0 := by
  apply List.ext_getElem
  · simp [rowU]
  · intro i h1 h2
    simp only [rowU, List.getElem_map, List.getElem_range]
    by_cases h : i < k
    · rw [if_pos h, if_pos (by omega)]
    · rw [if_neg h]
      by_cases he : i = k
      · subst he; rw [if_pos rfl, if_pos (by omega)]
      · rw [if_neg he, if_neg (by omega), partB_zero]; split <;> rfl
theorem partB_succ (ws l : List Int) (k m : Nat) (h : sumN ws k + m < l.length) : partB ws l k (m + 1) = (partB ws l k m || (nth 0 l (sumN ws k + m) != 0)) := by
  unfold partB
  rw [take_succ_nth 0 _ m (by rw [List.length_drop]; omega), List.any_append, nth_drop]
  simp
theorem all_okW_take (ws : List Int) (k : Nat) (h : k < ws.length) : (ws.take (k + 1)).all okW = ((ws.take k).all okW && okW (nth 0 ws k)) := by
  rw [take_succ_nth 0 ws k h, List.all_append]; simp
theorem all_okW_no {ws : List Int} {k : Nat} (h : k < ws.length) (hk : okW (nth 0 ws k) = false) : ws.all okW = false := by
  cases he : ws.all okW
  · rfl
  · have := List.all_eq_true.1 he _ (nth_mem 0 ws k h)
    rw [hk] at this; cases this
theorem sumN_le {ws : List Int} : ∀ k, k ≤ ws.length → (ws.take k).all okW = true → sumN ws k ≤ 128 * k
  | 0, _, _ => Nat.le_refl _
  | k + 1, h, ha => by
    rw [all_okW_take ws k (by omega), Bool.and_eq_true] at ha
    have h1 := sumN_le k (by omega) ha.1
    have h2 : 1 ≤ nth 0 ws k ∧ nth 0 ws k ≤ 128 := by simpa [okW] using ha.2
    rw [sumN_succ]; unfold widN; omega
theorem sumN_mono (ws : List Int) (k : Nat) : ∀ d, sumN ws k ≤ sumN ws (k + d)
  | 0 => Nat.le_refl _
  | d + 1 => by
    have := sumN_mono ws k d
    rw [show k + (d + 1) = (k + d) + 1 by omega, sumN_succ]; omega
end Go.Proofs.Ytkfgomhhenmmeaa
