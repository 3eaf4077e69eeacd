/- The document's tape of bits: Word: what it returns, for a complete code, and where the tape is then. · The reference's books: Take, Read: what each call returns, and where the tape is then. · The reference's books: Read: what it returns, and where the tape is then. · The statements' Copy: what it returns; the two tables, below a limit. · section: Books; the document's Books: what each call returns. · The document's section: Books: what it returns. · section: Runs: what it returns. · The document's section: Same, Runs: what each call returns. · The document's section: runs, Runs: what each call returns. · section: right, checked, gamma; the document's Widths: what each call returns. -/
import Derived.Test.YtmcdgmiheklbeaaDoorKf
import Derived.Test.YtmcdgmiheklbeaaDoorKh
import Derived.Test.YtmcdgmiheklbeaaDoorKj
import Derived.Test.YtmcdgmiheklbeaaDoorKi
import Derived.Test.YtmcdgmiheklbeaaDoorKc
import Derived.Test.YtmcdgmiheklbeaaDoorKe
import Derived.Test.YtmcdgmiheklbeaaDoorKg
namespace Go.Proofs.YtmcdgmiheklbeaaDoor
open Go.RowKit

/-- Some word of the first ones is longer than n, and begins with x. -/
def someK (ls : List Int) (n x k : Nat) : Bool := (List.range k).any fun s => decide (n < lenOf ls s) && (codeN ls s / 2 ^ (lenOf ls s - n) == x)
theorem someK_succ (ls : List Int) (n x k : Nat) : someK ls n x (k + 1) = (someK ls n x k || (decide (n < lenOf ls k) && (codeN ls k / 2 ^ (lenOf ls k - n) == x))) := by
  unfold someK; rw [List.range_succ, List.any_append]; simp
theorem someK_begs {ls : List Int} (hr : Right ls) (hf : filledN ls = 65536) {D : List Bool} {n : Nat} (hn : n ≤ 16) (hD : n ≤ D.length) (h : NoWord ls D n) : someK ls n (valB (D.take n)) ls.length = true := by
  obtain ⟨i, h1, h2, h3⟩ := begs hr hf hn hD h
  unfold someK
  rw [List.any_eq_true]
  exact ⟨i, List.mem_range.2 h1, by simp [h2, h3]⟩

/-- Where a word's reading is. -/
def WdI (ls : List Int) (l : List Bool) (i m x at_ : Nat) (E : Int) : Prop :=
  (E = 0 ∧ at_ = i + m ∧ x = valB ((l.drop i).take m) ∧ m ≤ 15 ∧ m ≤ (l.drop i).length ∧ NoWord ls (l.drop i) m ∧ wordR ls (l.drop i) = wordF ls (l.drop i) (16 - m) m) ∨
  (E = 3 ∧ m ≤ 16 ∧ i ≤ at_ ∧ wordR ls (l.drop i) = (0, 3, at_ - i))

set_option maxHeartbeats 4000000 in
set_option maxRecDepth 100000 in
theorem tword_any (o : Nat → Prop) (g i : Nat) (l : List Bool) (A1 A2 : Option Addr) (c1 c2 : Nat) (ls : List Int) (w : World) (h : Tr o w g l i 0) (hS : Sl (kInt .i64) (fun b => b ≠ g) w A1 c1 ls) (hC : Sl (kInt .i64) (fun b => b ≠ g) w A2 c2 (codesL ls)) (hr : Right ls) (hf : filledN ls = 65536) :
    Calls Tryd.prog 91 #[.pointer (some ⟨g, 0, none⟩), .slice A1 ls.length c1, .slice A2 ls.length c2] w
      fun e w' => e = .returned (.int .i64 ((wordR ls (l.drop i)).1 : Int)) ∧ Tr o w' g l (i + (wordR ls (l.drop i)).2.2) (wordR ls (l.drop i)).2.1 ∧ Upd (fun b => b = g) w w' := by
  have HK := Lib.hid (fun (j : Nat) (E : Int) W (h : Tr o W g l j E) => tok_any o g j l E W h)
  have HR := Lib.hid hr
  have HFD := Lib.hid hf
  have HS := Lib.hid hS
  have HC := Lib.hid hC
  have hn := hr.len
  have H0 := Lib.hid h
  have HIL := Lib.hid (show i ≤ l.length ∧ l.length ≤ 1048576 from ⟨h.le, h.bound⟩)
  clear hS hC hr hf h
  go_enter Tryd.func91, Tryd.ntmps91
  go_wp2
  go_loopw [7, 8] (fun xv nv wr => ∃ (m x at_ : Nat) (E : Int), nv = .int .i64 ((m : Int) + 1) ∧ xv = .int .i64 (x : Int) ∧ x ≤ 131072 ∧ m ≤ 16 ∧ Hid (WdI ls l i m x at_ E) ∧ Hid (Tr o wr g l at_ E) ∧ Hid (Upd (fun b => b = g) w wr)) (fun _ nv _ => 20 - (intOf nv).toNat)
  case atStart => exact ⟨0, 0, i, 0, rfl, rfl, by omega, by omega, Lib.hid (.inl ⟨rfl, rfl, rfl, by omega, Nat.zero_le _, fun m h1 h2 => by omega, rfl⟩), H0, Lib.hid (Upd.refl _ _)⟩
  case round =>
    clear H0
    obtain ⟨m, x, at_, E, rfl, rfl, hxb, hm, hI, hT, hU⟩ := hrel
    rcases hI.out with ⟨rfl, hat, hx, hm15, hmD, hNo, hrun⟩ | ⟨rfl, hm16, hia, hrun⟩
    · have hxl : x < 2 ^ m := by
        have := valB_lt ((l.drop i).take m)
        rw [← hx, List.length_take, Nat.min_eq_left hmD] at this; exact this
      have hx15 : (2 : Nat) ^ m ≤ 2 ^ 15 := Nat.pow_le_pow_right (by decide) hm15
      have h15 : (2 : Nat) ^ 15 = 32768 := by decide
      obtain ⟨N, hN⟩ : ∃ N, m + 1 = N := ⟨_, rfl⟩
      have hNi : (m : Int) + 1 = (N : Int) := by omega
      rw [hNi]
      have HG := Lib.hid (tget_any o g at_ 1 l wr hT.out (by decide))
      obtain ⟨E2, hE2⟩ : ∃ E2, getE l at_ 1 = E2 := ⟨_, rfl⟩
      obtain ⟨V1, hV1⟩ : ∃ V1, getV l at_ 1 = V1 := ⟨_, rfl⟩
      obtain ⟨at2, hat2⟩ : ∃ at2, getI l at_ 1 = at2 := ⟨_, rfl⟩
      rw [hE2, hV1, hat2] at HG
      obtain ⟨x2, hx2⟩ : ∃ x2, 2 * x + V1 = x2 := ⟨_, rfl⟩
      -- what the bit gives
      have hcase : (E2 = 0 ∧ at2 = i + N ∧ x2 = valB ((l.drop i).take N) ∧ N ≤ (l.drop i).length ∧ V1 ≤ 1) ∨ (E2 = 3 ∧ V1 = 0 ∧ at2 = at_ ∧ wordR ls (l.drop i) = (0, 3, m)) := by
        by_cases hsh : l.length < at_ + 1
        · refine .inr ⟨by rw [← hE2]; unfold getE; rw [if_pos hsh], by rw [← hV1]; unfold getV; rw [if_pos hsh], by rw [← hat2]; unfold getI; rw [if_pos hsh], ?_⟩
          rw [hrun, show 16 - m = (15 - m) + 1 by omega]
          unfold wordF
          rw [if_pos (by rw [List.length_drop]; omega)]
        · have hv : V1 = (nth false l at_).toNat := by
            rw [← hV1]; unfold getV; rw [if_neg hsh, drop_nth false l at_ (by omega)]; simp [valB]
          have hvt := toNat_le (nth false l at_)
          refine .inl ⟨by rw [← hE2]; unfold getE; rw [if_neg hsh], by rw [← hat2]; unfold getI; rw [if_neg hsh]; omega, ?_, by rw [List.length_drop]; omega, by omega⟩
          rw [← hx2, ← hN, take_succ_nth false _ m (by rw [List.length_drop]; omega), valB_snoc, nth_drop, ← hx, hv, hat]
      have hV1b : V1 ≤ 1 := by rcases hcase with h | h <;> omega
      have hw1 : IntKind.i64.wrap (2 * (x : Int)) = 2 * (x : Int) := IntWalk.i64_in _ (by omega)
      have hw2 : IntKind.i64.wrap (2 * (x : Int) + (V1 : Int)) = (x2 : Int) := by rw [IntWalk.i64_in _ (by omega)]; omega
      have hx2b : x2 ≤ 131072 := by omega
      have HCASE := Lib.hid hcase
      have HRUN := Lib.hid hrun
      have HNN := Lib.hid (show m + 1 = N ∧ m ≤ 15 from ⟨hN, hm15⟩)
      have hN16 : N ≤ 16 := by omega
      have HNO := Lib.hid hNo
      have HAT := Lib.hid hat
      clear hat hx hm15 hmD hNo hrun hxl hx15 h15 hN hNi hE2 hV1 hat2 hx2 hcase hI hV1b hm
      go_wp2_with (first
        | (go_at_call 38; refine (HK.out at_ 0 _ hT.out).mono ?_; rintro e w2 ⟨rfl, rfl⟩)
        | (go_at_call 63; refine HG.out.mono ?_; rintro e w3 ⟨rfl, hT3, hU3⟩))
      have HT3 := Lib.hid hT3
      have HU3 := Lib.hid (hU.out.trans hU3 fun _ _ h => h)
      have HS3 := Lib.hid (HS.out.keep (HU3.out.keep (ok := fun b => b ≠ g) fun _ h => h))
      have HC3 := Lib.hid (HC.out.keep (HU3.out.keep (ok := fun b => b ≠ g) fun _ h => h))
      clear hT hU hT3 hU3 HG
      obtain ⟨wo, rfl⟩ : ∃ wo, wo = w3 := ⟨_, rfl⟩
      go_loopw [9, 23] (fun bv iv wr => ∃ k : Nat, iv = .int .i64 (k : Int) ∧ k ≤ ls.length ∧ bv = .bool (someK ls N x2 k) ∧ Hid (E2 = 0 → ∀ s, s < k → ¬ (0 < lenOf ls s ∧ (N, x2) = (lenOf ls s, codeN ls s))) ∧ wo = wr) (fun _ iv _ => ls.length - (intOf iv).toNat)
      case atStart => exact ⟨0, rfl, Nat.zero_le _, rfl, Lib.hid (fun _ s hs => by omega), rfl⟩
      case round =>
        obtain ⟨k, rfl, hk, rfl, hM, rfl⟩ := hrel
        by_cases hlt : k < ls.length
        · obtain ⟨ad, rfl, hc⟩ := rd_int HS3.out k hlt
          obtain ⟨ad2, rfl, hc2⟩ := rd_int HC3.out k (by rw [codesL_length]; exact hlt)
          rw [codesL_nth _ _ hlt] at hc2
          have hlo : nth 0 ls k = ((lenOf ls k : Nat) : Int) := by have := HR.out.ok.at k; unfold lenOf; omega
          rw [hlo] at hc
          have hki : (k : Int) < (ls.length : Int) := by omega
          have hL16 := HR.out.ok.len16 k
          have hCl := code_lt HR.out.ok.len16 HR.out.full hlt
          have hC16 : (2 : Nat) ^ lenOf ls k ≤ 2 ^ 16 := Nat.pow_le_pow_right (by decide) hL16
          have h16 : (2 : Nat) ^ 16 = 65536 := by decide
          have HSK := Lib.hid (someK_succ ls N x2 k)
          have HMT := Lib.hid (show lenOf ls k = N → codeN ls k = x2 → E2 = 0 → symF ls ls.length (N, x2) = some k from fun h1 h2 _ => by rw [← h1, ← h2]; exact symF_some HR.out (by have := HNN.out; omega) hlt (Nat.le_refl _))
          obtain ⟨L, hL⟩ : ∃ L, lenOf ls k = L := ⟨_, rfl⟩
          obtain ⟨C, hC⟩ : ∃ C, codeN ls k = C := ⟨_, rfl⟩
          have HLC := Lib.hid (show lenOf ls k = L ∧ codeN ls k = C from ⟨hL, hC⟩)
          rw [hL] at hc hL16 hCl hC16 HSK HMT
          rw [hC] at hc2 hCl HSK HMT
          obtain ⟨b, hb⟩ : ∃ b, someK ls N x2 k = b := ⟨_, rfl⟩
          rw [hb] at HSK ⊢
          by_cases hE0 : E2 = 0
          · have he : (E2 == 0) = true := by simp [hE0]
            by_cases hLN : L = N
            · have hq1 : ((L : Int) == (N : Int)) = true := by simp [hLN]
              by_cases hCX : C = x2
              · have hq2 : ((C : Int) == (x2 : Int)) = true := by simp [hCX]
                have HSY := Lib.hid (HMT.out hLN hCX hE0)
                have HE0 := Lib.hid hE0
                clear hE0 hLN hCX hL hC hb hL16 hCl hC16 h16 hlo hlt
                go_wp2_with (go_at_call 38; refine (HK.out at2 E2 _ HT3.out).mono ?_; rintro e w2 ⟨rfl, rfl⟩)
                go_ret
                have hN := HNN.out
                have hwr : wordR ls (l.drop i) = (k, 0, N) := by
                  rcases HCASE.out with ⟨_, h2, h3, h4, _⟩ | ⟨h2, _⟩
                  · rw [HRUN.out, show 16 - m = (16 - N) + 1 by omega]
                    unfold wordF
                    rw [if_neg (by omega), hN.1, ← h3, HSY.out]
                  · have := HE0.out; omega
                have ha2 : at2 = i + N := by
                  rcases HCASE.out with ⟨_, h2, _⟩ | ⟨h2, _⟩
                  · exact h2
                  · have := HE0.out; omega
                rw [hwr]
                refine ⟨rfl, ?_, HU3.out⟩
                have hT3 := HT3.out
                rw [HE0.out, ha2] at hT3
                exact hT3
              · have hq2 : ((C : Int) == (x2 : Int)) = false := by simp; omega
                have HM2 : Hid (E2 = 0 → ∀ s, s < k + 1 → ¬ (0 < lenOf ls s ∧ (N, x2) = (lenOf ls s, codeN ls s))) := Lib.hid (fun h s hs hh => by
                  rcases Nat.lt_or_ge s k with h9 | h9
                  · exact hM.out h s h9 hh
                  · obtain rfl : s = k := by omega
                    have h8 := congrArg Prod.snd hh.2
                    simp only at h8
                    omega)
                clear hE0 hCX
                cases b
                · by_cases hgt : N < L
                  · omega
                  · have hgd : decide ((N : Int) < (L : Int)) = false := decide_eq_false (by omega)
                    have hgdN : decide (N < L) = false := decide_eq_false hgt
                    have HSQ := Lib.hid (show someK ls N x2 (k + 1) = false by rw [HSK.out, decide_eq_false hgt]; rfl)
                    clear hgt hL hC hb hL16 hCl hC16 h16 hlo hlt
                    go_wp2_with (go_at_call 38; refine (HK.out at2 E2 _ HT3.out).mono ?_; rintro e w2 ⟨rfl, rfl⟩)
                    go_roundw
                    case rel => exact ⟨k + 1, by go_num, by omega, by rw [HSQ.out], HM2, trivial⟩
                    case measure => simp [intOf]; omega
                · have HSQ := Lib.hid (show someK ls N x2 (k + 1) = true by rw [HSK.out]; rfl)
                  clear hL hC hb hL16 hCl hC16 h16 hlo hlt
                  go_wp2_with (go_at_call 38; refine (HK.out at2 E2 _ HT3.out).mono ?_; rintro e w2 ⟨rfl, rfl⟩)
                  go_roundw
                  case rel => exact ⟨k + 1, by go_num, by omega, by rw [HSQ.out], HM2, trivial⟩
                  case measure => simp [intOf]; omega
            · have hq1 : ((L : Int) == (N : Int)) = false := by simp; omega
              have HM2 : Hid (E2 = 0 → ∀ s, s < k + 1 → ¬ (0 < lenOf ls s ∧ (N, x2) = (lenOf ls s, codeN ls s))) := Lib.hid (fun h s hs hh => by
                rcases Nat.lt_or_ge s k with h9 | h9
                · exact hM.out h s h9 hh
                · obtain rfl : s = k := by omega
                  have h8 := congrArg Prod.fst hh.2
                  simp only at h8
                  omega)
              clear hE0 hLN
              cases b
              · by_cases hgt : N < L
                · have hgd : decide ((N : Int) < (L : Int)) = true := decide_eq_true (by omega)
                  obtain ⟨d, hd⟩ : ∃ d, L - N = d := ⟨_, rfl⟩
                  have hwd : IntKind.i64.wrap ((L : Int) - (N : Int)) = (d : Int) := by rw [IntWalk.i64_in _ (by omega)]; omega
                  have hd64 : d ≤ 64 := by omega
                  have hd64i : (d : Int) ≤ 64 := by omega
                  obtain ⟨q, hq⟩ : ∃ q, C / 2 ^ d = q := ⟨_, rfl⟩
                  have hsr : (C : Int) / 2 ^ d = (q : Int) := by rw [← hq]; simp
                  obtain ⟨r, hrr⟩ : ∃ r, (q == x2) = r := ⟨_, rfl⟩
                  have hqe : ((q : Int) == (x2 : Int)) = r := by rw [← hrr, Bool.eq_iff_iff, beq_iff_eq, beq_iff_eq]; omega
                  have hgdN : decide (N < L) = true := decide_eq_true hgt
                  have hwd2 : wrap64 ((L : Int) - (N : Int)) = (d : Int) := by rw [IntWalk.wrap64_in _ (by omega)]; omega
                  have HSQ := Lib.hid (show someK ls N x2 (k + 1) = r by rw [HSK.out, decide_eq_true hgt, hd, hq, hrr]; rfl)
                  clear hgt hd hq hL hC hb hL16 hCl hC16 h16 hlo hlt
                  go_wp2_with (go_at_call 38; refine (HK.out at2 E2 _ HT3.out).mono ?_; rintro e w2 ⟨rfl, rfl⟩)
                  go_roundw
                  case rel => exact ⟨k + 1, by go_num, by omega, by rw [HSQ.out], HM2, trivial⟩
                  case measure => simp [intOf]; omega
                · have hgd : decide ((N : Int) < (L : Int)) = false := decide_eq_false (by omega)
                  have hgdN : decide (N < L) = false := decide_eq_false hgt
                  have HSQ := Lib.hid (show someK ls N x2 (k + 1) = false by rw [HSK.out, decide_eq_false hgt]; rfl)
                  clear hgt hL hC hb hL16 hCl hC16 h16 hlo hlt
                  go_wp2_with (go_at_call 38; refine (HK.out at2 E2 _ HT3.out).mono ?_; rintro e w2 ⟨rfl, rfl⟩)
                  go_roundw
                  case rel => exact ⟨k + 1, by go_num, by omega, by rw [HSQ.out], HM2, trivial⟩
                  case measure => simp [intOf]; omega
              · have HSQ := Lib.hid (show someK ls N x2 (k + 1) = true by rw [HSK.out]; rfl)
                clear hL hC hb hL16 hCl hC16 h16 hlo hlt
                go_wp2_with (go_at_call 38; refine (HK.out at2 E2 _ HT3.out).mono ?_; rintro e w2 ⟨rfl, rfl⟩)
                go_roundw
                case rel => exact ⟨k + 1, by go_num, by omega, by rw [HSQ.out], HM2, trivial⟩
                case measure => simp [intOf]; omega
          · have he : (E2 == 0) = false := by simp [hE0]
            have HM2 : Hid (E2 = 0 → ∀ s, s < k + 1 → ¬ (0 < lenOf ls s ∧ (N, x2) = (lenOf ls s, codeN ls s))) := Lib.hid (fun h => absurd h hE0)
            clear hE0
            cases b
            · by_cases hgt : N < L
              · have hgd : decide ((N : Int) < (L : Int)) = true := decide_eq_true (by omega)
                obtain ⟨d, hd⟩ : ∃ d, L - N = d := ⟨_, rfl⟩
                have hwd : IntKind.i64.wrap ((L : Int) - (N : Int)) = (d : Int) := by rw [IntWalk.i64_in _ (by omega)]; omega
                have hd64 : d ≤ 64 := by omega
                have hd64i : (d : Int) ≤ 64 := by omega
                obtain ⟨q, hq⟩ : ∃ q, C / 2 ^ d = q := ⟨_, rfl⟩
                have hsr : (C : Int) / 2 ^ d = (q : Int) := by rw [← hq]; simp
                obtain ⟨r, hrr⟩ : ∃ r, (q == x2) = r := ⟨_, rfl⟩
                have hqe : ((q : Int) == (x2 : Int)) = r := by rw [← hrr, Bool.eq_iff_iff, beq_iff_eq, beq_iff_eq]; omega
                have hgdN : decide (N < L) = true := decide_eq_true hgt
                have hwd2 : wrap64 ((L : Int) - (N : Int)) = (d : Int) := by rw [IntWalk.wrap64_in _ (by omega)]; omega
                have HSQ := Lib.hid (show someK ls N x2 (k + 1) = r by rw [HSK.out, decide_eq_true hgt, hd, hq, hrr]; rfl)
                clear hgt hd hq hL hC hb hL16 hCl hC16 h16 hlo hlt
                go_wp2_with (go_at_call 38; refine (HK.out at2 E2 _ HT3.out).mono ?_; rintro e w2 ⟨rfl, rfl⟩)
                go_roundw
                case rel => exact ⟨k + 1, by go_num, by omega, by rw [HSQ.out], HM2, trivial⟩
                case measure => simp [intOf]; omega
              · have hgd : decide ((N : Int) < (L : Int)) = false := decide_eq_false (by omega)
                have hgdN : decide (N < L) = false := decide_eq_false hgt
                have HSQ := Lib.hid (show someK ls N x2 (k + 1) = false by rw [HSK.out, decide_eq_false hgt]; rfl)
                clear hgt hL hC hb hL16 hCl hC16 h16 hlo hlt
                go_wp2_with (go_at_call 38; refine (HK.out at2 E2 _ HT3.out).mono ?_; rintro e w2 ⟨rfl, rfl⟩)
                go_roundw
                case rel => exact ⟨k + 1, by go_num, by omega, by rw [HSQ.out], HM2, trivial⟩
                case measure => simp [intOf]; omega
            · have HSQ := Lib.hid (show someK ls N x2 (k + 1) = true by rw [HSK.out]; rfl)
              clear hL hC hb hL16 hCl hC16 h16 hlo hlt
              go_wp2_with (go_at_call 38; refine (HK.out at2 E2 _ HT3.out).mono ?_; rintro e w2 ⟨rfl, rfl⟩)
              go_roundw
              case rel => exact ⟨k + 1, by go_num, by omega, by rw [HSQ.out], HM2, trivial⟩
              case measure => simp [intOf]; omega
        · obtain rfl : k = ls.length := by omega
          have hN := HNN.out
          rcases HCASE.out with ⟨hE2, ha2, hx2, hND, _⟩ | ⟨hE2, _, ha2, hw⟩
          · have hsn : symF ls ls.length (N, x2) = none := symF_none (hM.out hE2)
            have hnw : NoWord ls (l.drop i) N := by rw [← hN.1]; refine HNO.out.succ ?_; rw [hN.1, ← hx2]; exact hsn
            have hsk := someK_begs HR.out HFD.out hN16 hND hnw
            have h15 := begs_16 HR.out HFD.out hN16 hND hnw
            rw [← hx2] at hsk
            have HI2 := Lib.hid (show WdI ls l i N x2 at2 E2 from .inl ⟨hE2, ha2, hx2, h15, hND, hnw, by
              rw [HRUN.out, show 16 - m = (16 - N) + 1 by omega]
              conv => lhs; unfold wordF
              rw [if_neg (by omega), hN.1, ← hx2, hsn]⟩)
            rw [hsk]
            have hwN : IntKind.i64.wrap ((N : Int) + 1) = (N : Int) + 1 := IntWalk.i64_in _ (by omega)
            clear hE2 ha2 hx2 hND hsn hnw hsk h15 hN
            go_wp2
            go_roundw
            case rel => exact ⟨N, x2, at2, E2, by go_num, rfl, hx2b, hN16, HI2, HT3, HU3⟩
            case measure => have := HNN.out; simp [intOf]; omega
          · have HI2 := Lib.hid (show WdI ls l i N x2 at2 E2 from .inr ⟨hE2, hN16, by have := HAT.out; omega, by rw [hw, ha2, HAT.out, Nat.add_sub_cancel_left]⟩)
            have hwN : IntKind.i64.wrap ((N : Int) + 1) = (N : Int) + 1 := IntWalk.i64_in _ (by omega)
            have HFL := Lib.hid (tfail_any o g at2 l E2 4 wo HT3.out)
            have hfe : failE E2 4 = E2 := by unfold failE; rw [if_neg (by omega)]
            rw [hfe] at HFL
            clear hE2 ha2 hw hN hfe
            cases hb : someK ls N x2 ls.length
            · go_wp2_with (go_at_call 65; refine HFL.out.mono ?_; rintro e w4 ⟨rfl, hT4, hU4⟩)
              go_roundw
              case rel => exact ⟨N, x2, at2, E2, by go_num, rfl, hx2b, hN16, HI2, Lib.hid hT4, Lib.hid (HU3.out.trans hU4 fun _ _ h => h)⟩
              case measure => have := HNN.out; simp [intOf]; omega
            · go_wp2
              go_roundw
              case rel => exact ⟨N, x2, at2, E2, by go_num, rfl, hx2b, hN16, HI2, HT3, HU3⟩
              case measure => have := HNN.out; simp [intOf]; omega
    · have hE : ((3 : Int) == 0) = false := by decide
      have HRU := Lib.hid hrun
      have HIA := Lib.hid hia
      clear hrun hia
      go_wp2_with (go_at_call 38; refine (HK.out at_ 3 _ hT.out).mono ?_; rintro e w2 ⟨rfl, rfl⟩)
      go_ret
      rw [HRU.out]
      exact ⟨rfl, by rw [show i + (at_ - i) = at_ by have := HIA.out; omega]; exact hT.out, hU.out⟩
end Go.Proofs.YtmcdgmiheklbeaaDoor

namespace Go.Proofs.YtmcdgmiheklbeaaDoor
open Go.RowKit

theorem symV_0 (b : Nat) (D : List Bool) (h : symE b D ≠ 0) : symV b D = 0 := by unfold symV; rw [if_neg (show ¬ (wordR (tabKI b) D).2.1 = 0 from h)]
theorem word_sym (b : Nat) (D : List Bool) : (wordR (tabKI b) D).1 = symV b D := by
  unfold symV
  split
  · rfl
  · rename_i h
    rcases (wordF_ok (tabKI b) D 16 0).2 with h4 | h4
    · exact absurd h4.1 h
    · exact h4.2
theorem rtake_no (o : Nat → Prop) (g i n b : Nat) (A1 : Option Addr) (n1 c1 : Nat) (A2 : Option Addr) (n2 c2 : Nat) (l : List Bool) (E : Int) (w : World) (h : Tr o w g l i E) (hE : E ≠ 0) :
    Calls Tryd.prog 66 #[.agg (bookC b A1 n1 c1 A2 n2 c2), .pointer (some ⟨g, 0, none⟩), .int .i64 (n : Int)] w fun e w' => e = .returned (.slice none 0 0) ∧ Below w.heap.size w w' := by
  have hba := below_alloc (Below.refl w.heap.size w) (.cells (bookC b A1 n1 c1 A2 n2 c2) 123)
  have HK := Lib.hid (tok_any o g i l E _ (h.below hba))
  rw [show (E == 0) = false by simp [hE]] at HK
  clear h hE
  go_enter Tryd.func66, Tryd.ntmps66
  go_wp2
  go_loopw [7] (fun ov wr => ov = .slice none 0 0 ∧ wr = w.alloc (.cells (bookC b A1 n1 c1 A2 n2 c2) 123)) (fun _ _ => 0)
  case atStart => exact ⟨rfl, rfl⟩
  case round =>
    obtain ⟨rfl, rfl⟩ := hrel
    go_wp2_with (go_at_call 38; refine HK.out.mono ?_; rintro e w2 ⟨rfl, rfl⟩)
    go_ret
    exact ⟨rfl, hba⟩
set_option maxHeartbeats 4000000 in
set_option maxRecDepth 100000 in
theorem rtake_any (o : Nat → Prop) (g i n b : Nat) (A1 : Option Addr) (c1 : Nat) (A2 : Option Addr) (c2 : Nat) (l : List Bool) (w : World) (h : Tr o w g l i 0) (ho : ∀ x, o x → x < w.heap.size) (h1 : Sl (kInt .i64) (fun x => x ≠ g) w A1 c1 (tabKI b)) (h2 : Sl (kInt .i64) (fun x => x ≠ g) w A2 c2 (codesL (tabKI b))) (h8 : b < 8) (hn : n ≤ 4096) (hd : n % dimB b = 0) :
    Calls Tryd.prog 66 #[.agg (bookM b A1 c1 A2 c2), .pointer (some ⟨g, 0, none⟩), .int .i64 (n : Int)] w
      fun e w' => ∃ v L, e = .returned v ∧ OwnI 3 .i64 w.heap.size w' v L ∧ AftT o w' g i l (bkRE b n (l.drop i)) (bkRN b n (l.drop i)) ∧ (bkRE b n (l.drop i) = 0 → L = bkRL b n (l.drop i)) ∧ L.length ≤ n ∧ Upd (fun x => x = g) w w' := by
  obtain ⟨nn, hnn⟩ : ∃ nn, (tabKI b).length = nn := ⟨_, rfl⟩
  have HNN := Lib.hid hnn
  unfold bookM bookC
  rw [hnn]
  have hbX := below_alloc (Below.refl w.heap.size w) (.cells (bookC b A1 nn c1 A2 nn c2) 123)
  obtain ⟨g3, hg3⟩ : ∃ g3, w.heap.size = g3 := ⟨_, rfl⟩
  have B3 : Blk (w.alloc (.cells (bookC b A1 nn c1 A2 nn c2) 123)) g3 (bookC b A1 nn c1 A2 nn c2) 123 := by rw [← hg3]; exact heap_alloc_new w _
  obtain ⟨q, hq⟩ : ∃ q, n / dimB b = q := ⟨_, rfl⟩
  have hdp := dimB_pos b
  have hnq : n = q * dimB b := by rw [← hq]; have := Nat.div_add_mod n (dimB b); rw [hd, Nat.mul_comm] at this; omega
  have HQ := Lib.hid hnq
  have HX := Lib.hid (show bkRE b n (l.drop i) = (grpP b (l.drop i) q).2.1 ∧ (bkRL b n (l.drop i) = if (grpP b (l.drop i) q).2.1 ≠ 0 then [] else (grpP b (l.drop i) q).1) ∧ (bkRN b n (l.drop i) = if (grpP b (l.drop i) q).2.1 ≠ 0 then 0 else (grpP b (l.drop i) q).2.2) by
    unfold bkRL bkRN bkRE; rw [hq]; exact ⟨rfl, rfl, rfl⟩)
  generalize bkRE b n (l.drop i) = RE at HX
  generalize bkRL b n (l.drop i) = RL at HX
  generalize bkRN b n (l.drop i) = RN at HX
  have HTT := Lib.hid (h.below hbX)
  have hgl := h.lt
  have HO := Lib.hid ho
  have HT12 := Lib.hid (And.intro (h1.below hbX) (h2.below hbX))
  have HBX := Lib.hid hbX
  have H8 := Lib.hid h8
  have HK := Lib.hid (grpP_len b (l.drop i))
  have HER := Lib.hid (grpP_err b (l.drop i))
  have HNX := Lib.hid (fun k (st : List Int) m (h9 : grpP b (l.drop i) k = (st, 0, m)) => grpP_next b (l.drop i) k h9)
  have HG3 := Lib.hid hg3
  have HN4 := Lib.hid hn
  obtain ⟨W0, hW0⟩ : ∃ W0, w.alloc (.cells (bookC b A1 nn c1 A2 nn c2) 123) = W0 := ⟨_, rfl⟩
  rw [hW0] at B3 HTT HT12 HBX
  have HB3 := Lib.hid B3
  have hz0 : W0.heap.size = g3 + 1 := by rw [← hW0, World.size_alloc, hg3]
  have HZ0 := Lib.hid hz0
  have HGW := Lib.hid hgl
  clear h h1 h2 h8 ho hq hnq hd hbX hgl hnn B3
  go_enter Tryd.func66, Tryd.ntmps66
  go_wp2
  clear hW0 hg3 hz0
  go_loopw [7, 8] (fun ov sv wr => ∃ (k j : Nat) (E : Int) (st : List Int), k ≤ q ∧ Hid ((grpP b (l.drop i) k).2.1 = E ∧ (E = 0 → st = (grpP b (l.drop i) k).1 ∧ j = i + (grpP b (l.drop i) k).2.2)) ∧ Hid (st.length = k * dimB b) ∧ Hid (OwnI 3 .i64 (g3 + 1) wr ov st) ∧ Hid (Tr o wr g l j E) ∧ Hid (Upd (fun x => x = g) W0 wr)) (fun ov _ _ => match ov with | .slice _ n2 _ => n - n2 | _ => 0)
  case atStart => exact ⟨0, i, 0, [], Nat.zero_le _, Lib.hid ⟨rfl, fun _ => ⟨rfl, rfl⟩⟩, Lib.hid (by simp), Lib.hid (OwnI.nil _ _ _ _), HTT, Lib.hid (Upd.refl _ _)⟩
  case round =>
    clear HTT
    obtain ⟨k, j, E, st, hk, hP, hL, hO, hT, hU⟩ := hrel
    obtain ⟨A7, c7, rfl⟩ := hO.out.slice
    have HOK := Lib.hid (tok_any o g j l E wr hT.out)
    by_cases hE : E = 0
    · subst hE
      obtain ⟨hst, hj⟩ := hP.out.2 rfl
      by_cases hlt : k < q
      · have hin := grp_in (d := dimB b) (k := k) (n := n) (by rw [HQ.out, Nat.mul_div_cancel _ (by omega)]; exact hlt)
        have hli : (st.length : Int) < (n : Int) := by rw [hL.out]; omega
        have hln : st.length < n := by rw [hL.out]; omega
        have hkp := hU.out.keep (ok := fun x => x ≠ g) fun _ h => h
        have B3 := HB3.out.keep hkp (by have := HGW.out; have := HG3.out; omega)
        have k0 := B3.cell 0 rfl
        have k1 := B3.cell 1 rfl
        have k2 := B3.cell 2 rfl
        have k3 := B3.cell 3 rfl
        have k4 := B3.cell 4 rfl
        have k5 := B3.cell 5 rfl
        have HBK := Lib.hid B3
        have HPK := Lib.hid (show grpP b (l.drop i) k = (st, 0, j - i) by
          have h9 := hP.out.1
          rw [hst, hj]
          refine Prod.ext rfl (Prod.ext h9 ?_)
          show _ = _ - _
          omega)
        have HNK := Lib.hid (HNX.out k st (j - i) HPK.out)
        rw [List.drop_drop, show i + (j - i) = j by omega] at HNK
        have hgl := grpR_len b (l.drop j)
        have hgr : grpR b (l.drop j) = if (symR b (l.drop j)).2.1 ≠ 0 then ([], (symR b (l.drop j)).2.1, 0) else ((valP b ((l.drop j).drop (symR b (l.drop j)).2.2) (digN (mostB b) (dimB b) (symR b (l.drop j)).1)).1, (valP b ((l.drop j).drop (symR b (l.drop j)).2.2) (digN (mostB b) (dimB b) (symR b (l.drop j)).1)).2.1, (symR b (l.drop j)).2.2 + (valP b ((l.drop j).drop (symR b (l.drop j)).2.2) (digN (mostB b) (dimB b) (symR b (l.drop j)).1)).2.2) := rfl
        have HLE := Lib.hid (show st.length + dimB b ≤ n by rw [hL.out]; exact hin)
        have HGC := Lib.hid (fun (j1 s1 : Nat) (E1 : Int) W (hT : Tr o W g l j1 E1) (hz : g3 ≤ W.heap.size) (hE1 : E1 = 0 ∨ s1 = 0) (hs : s1 ≤ 256) => rgroup_any o g j1 b s1 A1 nn c1 A2 nn c2 l E1 W hT (fun x hx => by have := HO.out x hx; have := HG3.out; omega) hE1 hs)
        have HKQ := Lib.hid hlt
        have HJ := Lib.hid (show j = i + (j - i) by omega)
        have HSZ := Lib.hid (show g3 + 1 ≤ wr.heap.size by have := hU.out.size; have := HZ0.out; omega)
        clear hst hj hin hkp B3 hlt
        have HOI := hO
        have HOB := Lib.hid hO.out.base_le
        have HSU := Lib.hid hU.out.size
        rcases Nat.eq_zero_or_pos b with hb0 | hb1
        · have hmz : mostB b = 0 := by rw [hb0]; rfl
          have hmi : ¬ (0 : Int) < (mostB b : Int) := by omega
          have hmn : ¬ 0 < mostB b := by omega
          have HSR := Lib.hid (show symR b (l.drop j) = (0, 0, 0) by unfold symR; rw [if_pos hb0])
          have HGW2 := Lib.hid (HGC.out j 0 0 wr hT.out (by have := HSZ.out; omega) (Or.inl rfl) (by omega))
          clear hb0 hmz
          go_wp2_with (first
            | (go_at_call 38; refine HOK.out.mono ?_; rintro e w2 ⟨rfl, rfl⟩)
            | (go_at_call 92; refine HGW2.out.mono ?_; rintro e w3 ⟨v3, L3, rfl, hO3, hl3, ha3, hx3, hu3⟩; obtain ⟨A3, c3, rfl, hs3⟩ := hO3.rd; have HL3 := Lib.hid hl3; have HS3 := Lib.hid hs3.any; have HO3 := Lib.hid (ownI_keep HOI.out (hu3.keep (ok := fun x => x ≠ g) fun _ h => h) (fun x e => by have := HOB.out x e; have := HGW.out; have := HG3.out; omega)); have HA3 := Lib.hid ha3; have HX3 := Lib.hid hx3; have HU3 := Lib.hid hu3; clear hO3 hs3 ha3 hx3 hu3 hl3)
            | (at_builtin; (refine append_row (w0 := w3) (g3 + 1) rfl (.tmp 26) (.tmp 30) 25 3 .i64 8 rfl Tryd.underlying25 infoI (by decide) _ st L3 A3 c3 rfl rfl HO3.out HS3.out (Below.refl _ _) (by have := HU3.out.size; have := HSZ.out; omega) (by have := HLE.out; have := HL3.out; have := HN4.out; have := (dimB_pos b).2; omega) ?_); intro v1 w4 hO4 _ hg4 ha4; have HO4 := Lib.hid hO4; have HG4 := Lib.hid hg4; clear hO4 hg4 ha4))
          have HAF : Hid (AftT o w3 g j l (grpR b (l.drop j)).2.1 (grpR b (l.drop j)).2.2 ∧ ((grpR b (l.drop j)).2.1 = 0 → L3 = (grpR b (l.drop j)).1)) := by
            rw [hgr, HSR.out, if_neg (by simp)]
            have h9 := HA3.out (by trivial)
            exact Lib.hid (by simpa using h9)
          obtain ⟨j3, hr3, he3⟩ := HAF.out.1
          obtain ⟨A4, c4, rfl⟩ := HO4.out.slice
          have hgu := Upd.of_grown (o := fun x => g3 + 1 ≤ x) HG4.out (fun r e => by have := HO3.out.base_le r e; exact this)
          go_roundw
          case rel =>
            have hL2 := HL3.out
            by_cases hE2 : (grpR b (l.drop j)).2.1 = 0
            · obtain rfl := he3 hE2
              have hl3 := HAF.out.2 hE2
              subst hl3
              have hs9 := congrArg (fun z => z.2.2) HNK.out
              refine ⟨k + 1, j + (grpR b (l.drop j)).2.2, 0, _, HKQ.out, Lib.hid ⟨by rw [HNK.out]; exact hE2, fun _ => ⟨by rw [HNK.out], by have := HJ.out; simp only at hs9; omega⟩⟩, Lib.hid (by rw [List.length_append, hL.out, hL2]; exact (Nat.succ_mul _ _).symm), HO4, Lib.hid ?_, Lib.hid ((hU.out.trans HU3.out fun _ _ h => h).trans hgu fun x hx h9 => by have := HZ0.out; omega)⟩
              rw [hE2] at hr3
              exact hr3.upd hgu (fun x _ h9 h8 => by have := HO.out x h9; have := HG3.out; omega)
            · refine ⟨k + 1, j3, (grpR b (l.drop j)).2.1, _, HKQ.out, Lib.hid ⟨by rw [HNK.out], fun h9 => absurd h9 hE2⟩, Lib.hid (by rw [List.length_append, hL.out, hL2]; exact (Nat.succ_mul _ _).symm), HO4, Lib.hid ?_, Lib.hid ((hU.out.trans HU3.out fun _ _ h => h).trans hgu fun x hx h9 => by have := HZ0.out; omega)⟩
              exact hr3.upd hgu (fun x _ h9 h8 => by have := HO.out x h9; have := HG3.out; omega)
          case measure => have := HLE.out; have := HL3.out; have := (dimB_pos b).1; show n - (st ++ L3).length < n - st.length; rw [List.length_append]; omega
        · have hmp := most_pos b hb1 H8.out
          have hmi : (0 : Int) < (mostB b : Int) := by omega
          have hmn : 0 < mostB b := by omega
          have HSR := Lib.hid (show symR b (l.drop j) = (symV b (l.drop j), symE b (l.drop j), symN b (l.drop j)) by unfold symR; rw [if_neg (by omega)])
          have HWD := Lib.hid (tword_any o g j l A1 A2 c1 c2 (tabKI b) wr hT.out ((HT12.out.1).keep (hU.out.keep fun _ h => h)) ((HT12.out.2).keep (hU.out.keep fun _ h => h)) (tabK_right b hb1 H8.out) (tabK_filled b hb1 H8.out))
          rw [HNN.out, word_sym] at HWD
          have HS6 := Lib.hid (show symV b (l.drop j) ≤ 256 by have := symV_lt b (l.drop j) hb1 H8.out; have := symsB_le b H8.out; omega)
          clear hb1 hmp
          go_wp2_with (first
            | (go_at_call 38; refine HOK.out.mono ?_; rintro e w2 ⟨rfl, rfl⟩)
            | (go_at_call 91; refine HWD.out.mono ?_; rintro e w2 ⟨rfl, ht2, hu2⟩; have HU2 := Lib.hid hu2; have HGW2 := Lib.hid (HGC.out (j + symN b (l.drop j)) (symV b (l.drop j)) (symE b (l.drop j)) w2 ht2 (by have := hu2.size; have := HSZ.out; omega) (by by_cases h9 : symE b (l.drop j) = 0; exact Or.inl h9; exact Or.inr (symV_0 b _ h9)) HS6.out); have HOI := Lib.hid (ownI_keep HOI.out (hu2.keep (ok := fun x => x ≠ g) fun _ h => h) (fun x e => by have := HOB.out x e; have := HGW.out; have := HG3.out; omega)); have HSZ := Lib.hid (show g3 + 1 ≤ w2.heap.size by have := hu2.size; have := HSZ.out; omega); have B4 := HBK.out.keep (hu2.keep (ok := fun x => x ≠ g) fun _ h => h) (by have := HGW.out; have := HG3.out; omega); have k0 := B4.cell 0 rfl; have k1 := B4.cell 1 rfl; have k2 := B4.cell 2 rfl; have k3 := B4.cell 3 rfl; have k4 := B4.cell 4 rfl; have k5 := B4.cell 5 rfl; clear ht2 hu2 B4)
            | (go_at_call 92; refine HGW2.out.mono ?_; rintro e w3 ⟨v3, L3, rfl, hO3, hl3, ha3, hx3, hu3⟩; obtain ⟨A3, c3, rfl, hs3⟩ := hO3.rd; have HL3 := Lib.hid hl3; have HS3 := Lib.hid hs3.any; have HO3 := Lib.hid (ownI_keep HOI.out (hu3.keep (ok := fun x => x ≠ g) fun _ h => h) (fun x e => by have := HOB.out x e; have := HGW.out; have := HG3.out; omega)); have HA3 := Lib.hid ha3; have HX3 := Lib.hid hx3; have HU3 := Lib.hid hu3; clear hO3 hs3 ha3 hx3 hu3 hl3)
            | (at_builtin; (refine append_row (w0 := w3) (g3 + 1) rfl (.tmp 26) (.tmp 30) 25 3 .i64 8 rfl Tryd.underlying25 infoI (by decide) _ st L3 A3 c3 rfl rfl HO3.out HS3.out (Below.refl _ _) (by have := HU3.out.size; have := HSZ.out; omega) (by have := HLE.out; have := HL3.out; have := HN4.out; have := (dimB_pos b).2; omega) ?_); intro v1 w4 hO4 _ hg4 ha4; have HO4 := Lib.hid hO4; have HG4 := Lib.hid hg4; clear hO4 hg4 ha4))
          have HAF : Hid (AftT o w3 g j l (grpR b (l.drop j)).2.1 (grpR b (l.drop j)).2.2 ∧ ((grpR b (l.drop j)).2.1 = 0 → L3 = (grpR b (l.drop j)).1)) := by
            rw [hgr, HSR.out]
            by_cases h9 : symE b (l.drop j) = 0
            · rw [if_neg (by simpa using h9)]
              have h8 := HA3.out h9
              rw [← List.drop_drop] at h8
              obtain ⟨⟨j4, h7, h6⟩, h5⟩ := h8
              exact Lib.hid ⟨⟨j4, h7, fun e => by rw [h6 e]; exact Nat.add_assoc _ _ _⟩, h5⟩
            · rw [if_pos h9]
              exact Lib.hid ⟨⟨_, HX3.out h9, fun e => absurd e h9⟩, fun e => absurd e h9⟩
          obtain ⟨j3, hr3, he3⟩ := HAF.out.1
          obtain ⟨A4, c4, rfl⟩ := HO4.out.slice
          have hgu := Upd.of_grown (o := fun x => g3 + 1 ≤ x) HG4.out (fun r e => by have := HO3.out.base_le r e; exact this)
          go_roundw
          case rel =>
            have hL2 := HL3.out
            by_cases hE2 : (grpR b (l.drop j)).2.1 = 0
            · obtain rfl := he3 hE2
              have hl3 := HAF.out.2 hE2
              subst hl3
              have hs9 := congrArg (fun z => z.2.2) HNK.out
              refine ⟨k + 1, j + (grpR b (l.drop j)).2.2, 0, _, HKQ.out, Lib.hid ⟨by rw [HNK.out]; exact hE2, fun _ => ⟨by rw [HNK.out], by have := HJ.out; simp only at hs9; omega⟩⟩, Lib.hid (by rw [List.length_append, hL.out, hL2]; exact (Nat.succ_mul _ _).symm), HO4, Lib.hid ?_, Lib.hid (((hU.out.trans HU2.out fun _ _ h => h).trans HU3.out fun _ _ h => h).trans hgu fun x hx h9 => by have := HZ0.out; omega)⟩
              rw [hE2] at hr3
              exact hr3.upd hgu (fun x _ h9 h8 => by have := HO.out x h9; have := HG3.out; omega)
            · refine ⟨k + 1, j3, (grpR b (l.drop j)).2.1, _, HKQ.out, Lib.hid ⟨by rw [HNK.out], fun h9 => absurd h9 hE2⟩, Lib.hid (by rw [List.length_append, hL.out, hL2]; exact (Nat.succ_mul _ _).symm), HO4, Lib.hid ?_, Lib.hid (((hU.out.trans HU2.out fun _ _ h => h).trans HU3.out fun _ _ h => h).trans hgu fun x hx h9 => by have := HZ0.out; omega)⟩
              exact hr3.upd hgu (fun x _ h9 h8 => by have := HO.out x h9; have := HG3.out; omega)
          case measure => have := HLE.out; have := HL3.out; have := (dimB_pos b).1; show n - (st ++ L3).length < n - st.length; rw [List.length_append]; omega
      · obtain rfl : k = q := by omega
        have hli : ¬ (st.length : Int) < (n : Int) := by rw [hL.out, HQ.out]; omega
        have hln : ¬ st.length < n := by rw [hL.out, HQ.out]; omega
        have HST := Lib.hid (And.intro hst hj)
        clear hlt hst hj
        go_wp2_with (go_at_call 38; refine HOK.out.mono ?_; rintro e w2 ⟨rfl, rfl⟩)
        go_ret
        have hz := HG3.out
        refine ⟨_, st, rfl, hO.out.mono (by omega), ⟨j, by rw [HX.out.1, hP.out.1]; exact hT.out, fun _ => by rw [HX.out.2.2, hP.out.1, if_neg (by simp)]; exact HST.out.2⟩, fun _ => by rw [HX.out.2.1, hP.out.1, if_neg (by simp)]; exact HST.out.1, by rw [hL.out, HQ.out]; exact Nat.le_refl _, ?_⟩
        exact (Upd.of_below HBX.out (fun x => x = g)).trans hU.out fun _ _ h => h
    · have hEb : (E == 0) = false := by simp [hE]
      rw [hEb] at HOK
      have HPQ := Lib.hid (show grpP b (l.drop i) q = grpP b (l.drop i) k from HER.out k (by rw [hP.out.1]; exact hE) q hk)
      have HEX := Lib.hid hE
      have HKQ := Lib.hid hk
      clear hE hEb
      go_wp2_with (go_at_call 38; refine HOK.out.mono ?_; rintro e w2 ⟨rfl, rfl⟩)
      go_ret
      have hz := HG3.out
      have hE2 : RE = E := by rw [HX.out.1, HPQ.out, hP.out.1]
      refine ⟨_, st, rfl, hO.out.mono (by omega), ⟨j, by rw [hE2]; exact hT.out, fun h9 => absurd (hE2.symm.trans h9) HEX.out⟩, fun h9 => absurd (hE2.symm.trans h9) HEX.out, by rw [hL.out, HQ.out]; exact Nat.mul_le_mul_right _ HKQ.out, ?_⟩
      exact (Upd.of_below HBX.out (fun x => x = g)).trans hU.out fun _ _ h => h
end Go.Proofs.YtmcdgmiheklbeaaDoor

namespace Go.Proofs.YtmcdgmiheklbeaaDoor
open Go.RowKit

end Go.Proofs.YtmcdgmiheklbeaaDoor

namespace Go.Proofs.YtmcdgmiheklbeaaDoor
open Go.RowKit

/-- Both tables of the package, below a limit. -/
structure GS (base : Nat) (w : World) : Prop where
  f : GF w
  t : GT w
  lf : 0 < base
  lt : 1 < base
theorem GS.of {w : World} (hG : GF w) (hT : GT w) : GS w.heap.size w :=
  ⟨hG, hT, World.block_lt_of_cell? w _ (hG.dim 0 (by omega)), World.block_lt_of_cell? w _ (hT.txt 0 (by omega))⟩
theorem GS.below {base : Nat} {w w' : World} (h : GS base w) (hb : Below w.heap.size w w') : GS base w' := ⟨h.f.below hb, h.t.below hb, h.lf, h.lt⟩
theorem GS.upd {base : Nat} {w w' : World} {o : Nat → Prop} (h : GS base w) (hu : Upd o w w') (ho : ∀ x, x < base → ¬ o x) : GS base w' :=
  ⟨h.f.keep (hu.keep (ok := fun x => x < base) fun x h => ho x h) h.lf, h.t.keep (hu.keep (ok := fun x => x < base) fun x h => ho x h) h.lt, h.lf, h.lt⟩
end Go.Proofs.YtmcdgmiheklbeaaDoor

namespace Go.Proofs.YtmcdgmiheklbeaaDoor
open Go.RowKit

/-- One more section: the books so far, or none at an error. -/
def bksS (o : Option (List Int)) (x : Int × Int) : Option (List Int) :=
  match o with
  | none => none
  | some l => if x.1 < 0 ∨ 8 ≤ x.1 ∨ x.2 < 1 ∨ 128 - (l.length : Int) < x.2 then none else some (l ++ List.replicate x.2.toNat x.1)
def bksP (s : List (Int × Int)) : Option (List Int) := s.foldl bksS (some [])
def booksL (s : List (Int × Int)) : List Int := (bksP s).getD []
def booksE (s : List (Int × Int)) : Int := if (bksP s).isSome then 0 else 4
theorem bks_none : ∀ s : List (Int × Int), s.foldl bksS none = none
  | [] => rfl
  | x :: s => by rw [List.foldl_cons]; exact bks_none s
theorem bks_take (s : List (Int × Int)) (k : Nat) (h : k < s.length) : bksP (s.take (k + 1)) = bksS (bksP (s.take k)) (nth (0, 0) s k) := by
  unfold bksP; rw [take_succ_nth (0, 0) s k h, List.foldl_append]; rfl
theorem bks_stop (s : List (Int × Int)) (k : Nat) (h : bksP (s.take k) = none) : bksP s = none := by
  unfold bksP at *
  rw [← List.take_append_drop k s, List.foldl_append, h, bks_none]
theorem bks_len : ∀ (s : List (Int × Int)) (l m : List Int), l.length ≤ 128 → s.foldl bksS (some l) = some m → m.length ≤ 128
  | [], l, m, hl, h => by cases h; exact hl
  | x :: s, l, m, hl, h => by
    rw [List.foldl_cons] at h
    by_cases hb : x.1 < 0 ∨ 8 ≤ x.1 ∨ x.2 < 1 ∨ 128 - (l.length : Int) < x.2
    · have e : bksS (some l) x = none := if_pos hb
      rw [e, bks_none] at h; cases h
    · have e : bksS (some l) x = some (l ++ List.replicate x.2.toNat x.1) := if_neg hb
      rw [e] at h
      exact bks_len s _ m (by rw [List.length_append, List.length_replicate]; omega) h
theorem bksP_len {s : List (Int × Int)} {m : List Int} (h : bksP s = some m) : m.length ≤ 128 := bks_len s [] m (by simp) h
theorem bad_cases {x1 x2 L : Int} (h : x1 < 0 ∨ 8 ≤ x1 ∨ x2 < 1 ∨ 128 - L < x2) :
    decide (x1 < 0) = true ∨ (decide (x1 < 0) = false ∧ decide (8 ≤ x1) = true) ∨ (decide (x1 < 0) = false ∧ decide (8 ≤ x1) = false ∧ decide (x2 < 1) = true) ∨ (decide (x1 < 0) = false ∧ decide (8 ≤ x1) = false ∧ decide (x2 < 1) = false ∧ decide (128 - L < x2) = true) := by
  by_cases h1 : x1 < 0
  · exact .inl (decide_eq_true h1)
  · by_cases h2 : 8 ≤ x1
    · exact .inr (.inl ⟨decide_eq_false h1, decide_eq_true h2⟩)
    · by_cases h3 : x2 < 1
      · exact .inr (.inr (.inl ⟨decide_eq_false h1, decide_eq_false h2, decide_eq_true h3⟩))
      · exact .inr (.inr (.inr ⟨decide_eq_false h1, decide_eq_false h2, decide_eq_false h3, decide_eq_true (by omega)⟩))

theorem repeat_lit (k : Int) (n : Nat) (W : World) (X : Obj) (h1 : 1 ≤ n) (hn : n ≤ 100000) :
    Calls Tryd.prog 39 #[.slice (some ⟨W.heap.size + 1, 0, none⟩) 1 1, .int .i64 (n : Int)] ((W.alloc X).alloc (.cells #[.int .i64 k] 3)) fun e w' => ∃ v, e = .returned v ∧ OwnI 3 .i64 W.heap.size w' v (List.replicate n k) ∧ Below W.heap.size W w' := by
  have h := repeat_any (some ⟨(W.alloc X).heap.size, 0, none⟩) 1 k n ((W.alloc X).alloc (.cells #[.int .i64 k] 3)) (lit_ri (W.alloc X) 3 .i64 [k] (by simp)) h1 hn
  rw [World.size_alloc] at h
  refine h.mono ?_
  rintro e w' ⟨v, rfl, hO, hb⟩
  exact ⟨v, rfl, hO.mono (by rw [World.size_alloc, World.size_alloc]; omega), below2 (below2 (below_alloc (Below.refl _ _) X) (below_alloc (Below.refl _ _) _)) hb⟩
set_option maxHeartbeats 2000000 in
set_option maxRecDepth 100000 in
theorem books_any (A : Option Addr) (c : Nat) (s : List (Int × Int)) (w : World) (hS : RS w A c s) :
    Calls Tryd.prog 16 #[.slice A s.length c] w fun e w' => ∃ v, e = .returned (.tuple #[v, .int .i64 (booksE s)]) ∧ OwnI 3 .i64 w.heap.size w' v (booksL s) ∧ Below w.heap.size w w' := by
  have HS := Lib.hid hS
  have HRP := Lib.hid (fun (k : Int) (n : Nat) (W : World) (X : Obj) (h1 : 1 ≤ n) (hn : n ≤ 100000) => repeat_lit k n W X h1 hn)
  clear hS
  go_enter Tryd.func16, Tryd.ntmps16
  go_wp2
  go_loopw [4, 6, 9] (fun ov xv iv wr => ∃ (k : Nat) (m : List Int), iv = .int .i64 (k : Int) ∧ k ≤ s.length ∧ Hid (bksP (s.take k) = some m) ∧ Hid (OwnI 3 .i64 w.heap.size wr ov m) ∧ Hid (Below w.heap.size w wr)) (fun _ _ iv _ => s.length - (intOf iv).toNat)
  case atStart => exact ⟨0, [], rfl, Nat.zero_le _, Lib.hid rfl, Lib.hid (OwnI.nil _ _ _ _), Lib.hid (Below.refl _ _)⟩
  case round =>
    obtain ⟨k, m, rfl, hk, hP, hO, hB⟩ := hrel
    obtain ⟨A4, c4, rfl⟩ := hO.out.slice
    by_cases hlt : k < s.length
    · have hli : (k : Int) < (s.length : Int) := by omega
      have hls : s.length ≤ 9223372036854775807 := Nat.le_trans HS.out.1 HS.out.cap
      have hk1 : IntKind.i64.wrap ((k : Int) + 1) = ((k + 1 : Nat) : Int) := by rw [IntWalk.i64_in _ (by omega)]; omega
      obtain ⟨ad, rfl, _, k0, k1⟩ := rd_se (HS.out.below hB.out) k hlt
      have HNX := Lib.hid (bks_take s k hlt)
      have HST := Lib.hid (fun h => bks_stop s (k + 1) h)
      have HML := Lib.hid (bksP_len hP.out)
      generalize nth (0, 0) s k = x at k0 k1 HNX
      obtain ⟨x1, x2⟩ := x
      have hml := HML.out
      have hw128 : IntKind.i64.wrap (128 - (m.length : Int)) = 128 - (m.length : Int) := IntWalk.i64_in _ (by omega)
      by_cases hb : x1 < 0 ∨ 8 ≤ x1 ∨ x2 < 1 ∨ 128 - (m.length : Int) < x2
      · have hn : bksP (s.take (k + 1)) = none := by rw [HNX.out, hP.out]; exact if_pos hb
        have HE := Lib.hid (HST.out hn)
        have hcs := bad_cases hb
        clear hb hn hls
        rcases hcs with d1 | ⟨d1, d2⟩ | ⟨d1, d2, d3⟩ | ⟨d1, d2, d3, d4⟩
        all_goals
          go_wp2
          go_ret2
          exact ⟨_, ret_two rfl (by unfold booksE; rw [HE.out]; rfl), by unfold booksL; rw [HE.out]; exact OwnI.nil _ _ _ _, below_alloc hB.out _⟩
      · obtain ⟨n, rfl⟩ : ∃ n : Nat, x2 = (n : Int) := ⟨x2.toNat, by omega⟩
        have hn : bksP (s.take (k + 1)) = some (m ++ List.replicate n x1) := by
          rw [HNX.out, hP.out]
          show (if _ then _ else _) = _
          rw [if_neg hb, Int.toNat_natCast]
        have HE := Lib.hid hn
        have d1 : decide (x1 < 0) = false := decide_eq_false (by omega)
        have d2 : decide (8 ≤ x1) = false := decide_eq_false (by omega)
        have d3 : decide ((n : Int) < 1) = false := decide_eq_false (by omega)
        have d4 : decide (128 - (m.length : Int) < (n : Int)) = false := decide_eq_false (by omega)
        have HN := Lib.hid (show 1 ≤ n ∧ n ≤ 128 ∧ m.length ≤ 128 from ⟨by omega, by omega, hml⟩)
        clear hb hn hls hml
        go_wp2_with (first
          | (go_at_call 39; refine (HRP.out x1 n _ _ (by have := HN.out; omega) (by have := HN.out; omega)).mono ?_; rintro e w3 ⟨v3, rfl, hO3, b3⟩; obtain ⟨A3, c3, rfl, h3⟩ := own_ri hO3; have HR3 := Lib.hid h3; have HO3 := Lib.hid (hO.out.below b3); have HB3 := Lib.hid (below2 hB.out b3); clear hO3 h3 b3)
          | (at_builtin; go_loud (refine append_row (w0 := w) w.heap.size rfl (.tmp 34) (.tmp 40) 25 3 .i64 8 rfl Tryd.underlying25 infoI (by decide) _ m (List.replicate n x1) A3 c3 rfl (by rw [List.length_replicate]; rfl) HO3.out HR3.out HB3.out HB3.out.size (by have := HN.out; rw [List.length_replicate]; omega) ?_); intro v4 w4 hO4 hB4 _ _; have HO4 := Lib.hid hO4; have HB4 := Lib.hid hB4; clear hO4 hB4))
        obtain ⟨A6, c6, rfl⟩ := HO4.out.slice
        go_roundw
        case rel => exact ⟨k + 1, _, by first | rfl | go_num, by omega, HE, HO4, HB4⟩
        case measure => simp [intOf] <;> omega
    · obtain rfl : k = s.length := by omega
      have HE := Lib.hid (show bksP s = some m by have h9 := hP.out; rw [List.take_length] at h9; exact h9)
      go_wp2
      go_ret2
      exact ⟨_, ret_two rfl (by unfold booksE; rw [HE.out]; rfl), by unfold booksL; rw [HE.out]; exact hO.out, hB.out⟩
end Go.Proofs.YtmcdgmiheklbeaaDoor

namespace Go.Proofs.YtmcdgmiheklbeaaDoor
open Go.RowKit

theorem bad_casesR {x1 x2 L : Int} (h : x1 < 0 ∨ 8 ≤ x1 ∨ x2 < 1 ∨ 128 - L < x2) :
    thereB x1 = false ∨ (thereB x1 = true ∧ decide (x2 < 1) = true) ∨ (thereB x1 = true ∧ decide (x2 < 1) = false ∧ decide (128 - L < x2) = true) := by
  by_cases h1 : x1 < 0 ∨ 8 ≤ x1
  · exact .inl (by simp [thereB]; omega)
  · by_cases h3 : x2 < 1
    · exact .inr (.inl ⟨by simp [thereB]; omega, decide_eq_true h3⟩)
    · exact .inr (.inr ⟨by simp [thereB]; omega, decide_eq_false h3, decide_eq_true (by omega)⟩)
set_option maxHeartbeats 2000000 in
set_option maxRecDepth 100000 in
theorem rbooks_any (A : Option Addr) (c : Nat) (s : List (Int × Int)) (w : World) (hS : RS w A c s) :
    Calls Tryd.prog 17 #[.slice A s.length c] w fun e w' => ∃ v, e = .returned (.tuple #[v, .int .i64 (booksE s)]) ∧ OwnI 3 .i64 w.heap.size w' v (booksL s) ∧ Below w.heap.size w w' := by
  have HS := Lib.hid hS
  have HIS := Lib.hid (fun n W => ris_any n W)
  clear hS
  go_enter Tryd.func17, Tryd.ntmps17
  go_wp2
  go_loopw [4, 6, 9] (fun ov xv iv wr => ∃ (k : Nat) (m : List Int), iv = .int .i64 (k : Int) ∧ k ≤ s.length ∧ Hid (bksP (s.take k) = some m) ∧ Hid (OwnI 3 .i64 w.heap.size wr ov m) ∧ Hid (Below w.heap.size w wr)) (fun _ _ iv _ => s.length - (intOf iv).toNat)
  case atStart => exact ⟨0, [], rfl, Nat.zero_le _, Lib.hid rfl, Lib.hid (OwnI.nil _ _ _ _), Lib.hid (Below.refl _ _)⟩
  case round =>
    obtain ⟨k, m, rfl, hk, hP, hO, hB⟩ := hrel
    obtain ⟨A4, c4, rfl⟩ := hO.out.slice
    by_cases hlt : k < s.length
    · have hli : (k : Int) < (s.length : Int) := by omega
      have hls : s.length ≤ 9223372036854775807 := Nat.le_trans HS.out.1 HS.out.cap
      have hk1 : IntKind.i64.wrap ((k : Int) + 1) = ((k + 1 : Nat) : Int) := by rw [IntWalk.i64_in _ (by omega)]; omega
      obtain ⟨ad, rfl, _, k0, k1⟩ := rd_se (HS.out.below hB.out) k hlt
      have HNX := Lib.hid (bks_take s k hlt)
      have HST := Lib.hid (fun h => bks_stop s (k + 1) h)
      have HML := Lib.hid (bksP_len hP.out)
      generalize nth (0, 0) s k = x at k0 k1 HNX
      obtain ⟨x1, x2⟩ := x
      have hml := HML.out
      have hw128 : IntKind.i64.wrap (128 - (m.length : Int)) = 128 - (m.length : Int) := IntWalk.i64_in _ (by omega)
      by_cases hb : x1 < 0 ∨ 8 ≤ x1 ∨ x2 < 1 ∨ 128 - (m.length : Int) < x2
      · have hn : bksP (s.take (k + 1)) = none := by rw [HNX.out, hP.out]; exact if_pos hb
        have HE := Lib.hid (HST.out hn)
        have hcs := bad_casesR hb
        clear hb hn hls
        rcases hcs with d1 | ⟨d1, d2⟩ | ⟨d1, d2, d3⟩
        all_goals
          go_wp2_with (go_at_call 40; refine (HIS.out _ _).mono ?_; rw [d1]; rintro e w3 ⟨rfl, rfl⟩)
          go_ret2
          exact ⟨_, ret_two rfl (by unfold booksE; rw [HE.out]; rfl), by unfold booksL; rw [HE.out]; exact OwnI.nil _ _ _ _, below_alloc hB.out _⟩
      · obtain ⟨n, rfl⟩ : ∃ n : Nat, x2 = (n : Int) := ⟨x2.toNat, by omega⟩
        have hn : bksP (s.take (k + 1)) = some (m ++ List.replicate n x1) := by
          rw [HNX.out, hP.out]
          show (if _ then _ else _) = _
          rw [if_neg hb, Int.toNat_natCast]
        have HE := Lib.hid hn
        have d1 : thereB x1 = true := by simp [thereB]; omega
        have d3 : decide ((n : Int) < 1) = false := decide_eq_false (by omega)
        have d4 : decide (128 - (m.length : Int) < (n : Int)) = false := decide_eq_false (by omega)
        have HN := Lib.hid (show 1 ≤ n ∧ n ≤ 128 ∧ m.length ≤ 128 from ⟨by omega, by omega, hml⟩)
        have hbA := below_alloc (Below.refl wr.heap.size wr) (.cells #[.int .i64 x1, .int .i64 (n : Int)] 67)
        obtain ⟨g6, hg6⟩ : ∃ g6, wr.heap.size = g6 := ⟨_, rfl⟩
        have HB6 := Lib.hid (show Blk (wr.alloc (.cells #[.int .i64 x1, .int .i64 (n : Int)] 67)) g6 #[.int .i64 x1, .int .i64 (n : Int)] 67 by rw [← hg6]; exact heap_alloc_new wr _)
        have HOW := Lib.hid (hO.out.below hbA)
        have HNE := Lib.hid (show (Value.slice A4 m.length c4).ownBlock ≠ some g6 from fun h => by have := (hO.out.lt g6 h).2; omega)
        have HBW := Lib.hid (below2 hB.out hbA)
        have HG6 := Lib.hid hg6
        clear hb hn hls hml hbA
        go_wp2_with (go_at_call 40; refine (HIS.out _ _).mono ?_; rw [d1]; rintro e w3 ⟨rfl, rfl⟩)
        try simp only [HG6.out]
        obtain ⟨W0, hW0⟩ : ∃ W0, wr.alloc (.cells #[.int .i64 x1, .int .i64 (n : Int)] 67) = W0 := ⟨_, rfl⟩
        try simp only [hW0] at HB6 HOW HBW ⊢
        clear hW0 k0 k1 hg6
        go_loopw [4, 32] (fun ov iv W2 => ∃ j : Nat, iv = .int .i64 (j : Int) ∧ j ≤ n ∧ Hid (OwnI 3 .i64 w.heap.size W2 ov (m ++ List.replicate j x1)) ∧ Hid (ov.ownBlock ≠ some g6) ∧ Hid (Blk W2 g6 #[.int .i64 x1, .int .i64 (n : Int)] 67) ∧ Hid (Below w.heap.size w W2)) (fun _ iv _ => n - (intOf iv).toNat)
        case atStart => exact ⟨0, rfl, Nat.zero_le _, Lib.hid (by rw [List.replicate_zero, List.append_nil]; exact HOW.out), HNE, HB6, HBW⟩
        case round =>
          obtain ⟨j, rfl, hj, hO2, hNE, hB6, hBW⟩ := hrel
          obtain ⟨A5, c5, rfl⟩ := hO2.out.slice
          have z0 := hB6.out.cell 0 rfl
          have z1 := hB6.out.cell 1 rfl
          by_cases hjl : j < n
          · have hji : (j : Int) < (n : Int) := by omega
            have hj1 : IntKind.i64.wrap ((j : Int) + 1) = ((j + 1 : Nat) : Int) := by rw [IntWalk.i64_in _ (by have := HN.out; omega)]; omega
            have HLT := Lib.hid (hO2.out.lt)
            have HB8 := Lib.hid hB6.out.lt
            go_wp2_with (at_builtin; go_loud (refine append_row (W := wr.alloc (.cells #[.int .i64 x1] 3)) (w0 := w) w.heap.size rfl (.tmp 34) (.tmp 37) 25 3 .i64 8 rfl Tryd.underlying25 infoI (by decide) _ (m ++ List.replicate j x1) [x1] (some ⟨wr.heap.size, 0, none⟩) 1 rfl rfl (hO2.out.below (below_alloc (Below.refl _ _) _)) (lit_ri wr 3 .i64 [x1] (by simp)) (below_alloc hBW.out _) (by rw [World.size_alloc]; have := hBW.out.size; omega) (by have := HN.out; rw [List.length_append, List.length_replicate]; simp; omega) ?_); intro v4 w4 hO4 hB4 hg4 ha4; have HO4 := Lib.hid hO4; have HB4 := Lib.hid hB4; have HG4 := Lib.hid hg4; have HA4 := Lib.hid ha4; clear hO4 hB4 hg4 ha4)
            obtain ⟨A6, c6, rfl⟩ := HO4.out.slice
            go_roundw
            case rel =>
              refine ⟨j + 1, by first | rfl | go_num, by omega, Lib.hid (by rw [show List.replicate (j + 1) x1 = List.replicate j x1 ++ [x1] from List.replicate_succ', ← List.append_assoc]; exact HO4.out), Lib.hid ?_, Lib.hid ?_, HB4⟩
              · intro h
                rcases HA4.out with h9 | ⟨b, h8, h9⟩
                · exact hNE.out (h9.symm.trans h)
                · rw [h8] at h; injection h with h; rw [World.size_alloc] at h9; have := HB8.out; omega
              · exact (hB6.out.below (below_alloc (Below.refl wr.heap.size wr) (.cells #[.int .i64 x1] 3))).keep (Keep.of_grown HG4.out) (fun h => hNE.out h.symm)
            case measure => simp [intOf] <;> omega
          · obtain rfl : j = n := by omega
            go_wp2
            go_roundw
            case rel => exact ⟨k + 1, _, by first | rfl | go_num, by omega, HE, hO2, hBW⟩
            case measure => simp [intOf] <;> omega
    · obtain rfl : k = s.length := by omega
      have HE := Lib.hid (show bksP s = some m by have h9 := hP.out; rw [List.take_length] at h9; exact h9)
      go_wp2
      go_ret2
      exact ⟨_, ret_two rfl (by unfold booksE; rw [HE.out]; rfl), by unfold booksL; rw [HE.out]; exact hO.out, hB.out⟩
end Go.Proofs.YtmcdgmiheklbeaaDoor

namespace Go.Proofs.YtmcdgmiheklbeaaDoor
open Go.RowKit

/-- One more book: the sections. -/
def rnS (s : List (Int × Int)) (k : Int) : List (Int × Int) :=
  if 0 < s.length ∧ (nth (0, 0) s (s.length - 1)).1 = k then s.set (s.length - 1) ((nth (0, 0) s (s.length - 1)).1, (nth (0, 0) s (s.length - 1)).2 + 1) else s ++ [(k, 1)]
def rnK (l : List Int) : List (Int × Int) := l.foldl rnS []
def badK (l : List Int) : Bool := l.any fun k => decide (k < 0) || decide (8 ≤ k)
def runsE (l : List Int) : Int := if 128 < l.length then 1 else if badK l = true then 4 else 0
def runsL (l : List Int) : List (Int × Int) := if runsE l ≠ 0 then [] else rnK l
theorem rnK_take (l : List Int) (k : Nat) (h : k < l.length) : rnK (l.take (k + 1)) = rnS (rnK (l.take k)) (nth 0 l k) := by
  unfold rnK; rw [take_succ_nth 0 l k h, List.foldl_append]; rfl
theorem rnS_len (s : List (Int × Int)) (k : Int) : (rnS s k).length ≤ s.length + 1 ∧ 0 < (rnS s k).length := by
  unfold rnS
  split
  · rename_i h; rw [List.length_set]; exact ⟨Nat.le_succ _, h.1⟩
  · rw [List.length_append]; exact ⟨Nat.le_refl _, by simp⟩
theorem rnK_len (l : List Int) : ∀ k, k ≤ l.length → (rnK (l.take k)).length ≤ k
  | 0, _ => by simp [rnK]
  | k + 1, h => by
    have h1 := rnK_len l k (by omega)
    rw [rnK_take l k h]
    have := (rnS_len (rnK (l.take k)) (nth 0 l k)).1
    omega
theorem bad_at (l : List Int) (k : Nat) (h : k < l.length) (hb : nth 0 l k < 0 ∨ 8 ≤ nth 0 l k) : badK l = true := by
  unfold badK
  rw [List.any_eq_true]
  exact ⟨_, nth_mem 0 l k h, by simpa using hb⟩
theorem bad_no (l : List Int) (h : ∀ k, k < l.length → ¬ (nth 0 l k < 0 ∨ 8 ≤ nth 0 l k)) : badK l = false := by
  unfold badK
  rw [List.any_eq_false]
  intro x hx
  obtain ⟨i, hi, rfl⟩ := List.mem_iff_getElem.1 hx
  have := h i hi
  rw [nth_eq 0 l i hi] at this
  simpa using this
/-- The bands of the sections are few. -/
theorem rnK_bd (l : List Int) : ∀ k, k ≤ l.length → ∀ j, j < (rnK (l.take k)).length → 1 ≤ (nth (0, 0) (rnK (l.take k)) j).2 ∧ (nth (0, 0) (rnK (l.take k)) j).2 ≤ k
  | 0, _, j, hj => by simp [rnK] at hj
  | k + 1, h, j, hj => by
    have ih := rnK_bd l k (by omega)
    rw [rnK_take l k h] at hj ⊢
    unfold rnS at hj ⊢
    split at hj
    · rename_i hc
      rw [if_pos hc]
      rw [List.length_set] at hj
      by_cases e : (rnK (l.take k)).length - 1 = j
      · rw [nth_eq _ _ j (by rw [List.length_set]; exact hj), List.getElem_set, if_pos e]
        have := ih _ (show (rnK (l.take k)).length - 1 < (rnK (l.take k)).length by omega)
        show 1 ≤ (nth (0, 0) (rnK (l.take k)) ((rnK (l.take k)).length - 1)).2 + 1 ∧ (nth (0, 0) (rnK (l.take k)) ((rnK (l.take k)).length - 1)).2 + 1 ≤ ((k + 1 : Nat) : Int)
        omega
      · rw [nth_eq _ _ j (by rw [List.length_set]; exact hj), List.getElem_set, if_neg e, ← nth_eq (0, 0) _ j hj]
        have := ih j hj
        omega
    · rename_i hc
      rw [if_neg hc]
      rcases Nat.lt_or_ge j (rnK (l.take k)).length with h2 | h2
      · rw [nth_append_left _ _ _ _ h2]
        have := ih j h2
        omega
      · rw [nth_append_right _ _ _ _ h2]
        rw [List.length_append, List.length_singleton] at hj
        obtain rfl : j = (rnK (l.take k)).length := by omega
        rw [Nat.sub_self]
        show 1 ≤ (1 : Int) ∧ (1 : Int) ≤ ((k + 1 : Nat) : Int)
        omega

set_option maxHeartbeats 1000000 in
theorem runs1_any (A : Option Addr) (c : Nat) (s : List (Int × Int)) (k : Int) (w : World) (hS : RS w A c s) (hl : s.length ≤ 1000) :
    Calls Tryd.prog 41 #[.slice A s.length c, .int .i64 k] w fun e w' => e = .returned (.bool (decide (0 < s.length ∧ (nth (0, 0) s (s.length - 1)).1 = k))) ∧ w = w' := by
  by_cases h0 : 0 < s.length
  · obtain ⟨j, hj⟩ : ∃ j, s.length - 1 = j := ⟨_, rfl⟩
    have hjl : j < s.length := by omega
    obtain ⟨ad, rfl, _, k0, _⟩ := rd_se hS j hjl
    have d0 : decide ((0 : Int) < (s.length : Int)) = true := decide_eq_true (by omega)
    have hw : IntKind.i64.wrap ((s.length : Int) - 1) = (j : Int) := by rw [IntWalk.i64_in _ (by omega)]; omega
    have hji : (j : Int) < (s.length : Int) := by omega
    have hj0 : (0 : Int) ≤ (j : Int) := by omega
    rw [hj]
    generalize (nth (0, 0) s j).1 = x at *
    have HE := Lib.hid (show (x == k) = decide (0 < s.length ∧ x = k) by rw [Bool.eq_iff_iff]; simp; omega)
    clear hj
    go_enter Tryd.func41, Tryd.ntmps41
    go_wp2
    go_ret
    exact ⟨ret_bool HE.out, rfl⟩
  · have d0 : decide ((0 : Int) < (s.length : Int)) = false := decide_eq_false (by omega)
    have HE := Lib.hid (show false = decide (0 < s.length ∧ (nth (0, 0) s (s.length - 1)).1 = k) by rw [decide_eq_false (fun h => h0 h.1)])
    go_enter Tryd.func41, Tryd.ntmps41
    go_wp2
    go_ret
    exact ⟨ret_bool HE.out, rfl⟩

set_option maxHeartbeats 2000000 in
set_option maxRecDepth 100000 in
theorem runs_any (A : Option Addr) (c : Nat) (l : List Int) (w : World) (hS : RI w A c l) :
    Calls Tryd.prog 18 #[.slice A l.length c] w fun e w' => ∃ v, e = .returned (.tuple #[v, .int .i64 (runsE l)]) ∧ OwnS w.heap.size w' v (runsL l) ∧ Below w.heap.size w w' := by
  by_cases h128 : 128 < l.length
  · have d0 : decide ((128 : Int) < (l.length : Int)) = true := decide_eq_true (by omega)
    have HE := Lib.hid (show runsE l = 1 by unfold runsE; rw [if_pos h128])
    clear h128
    go_enter Tryd.func18, Tryd.ntmps18
    go_wp2
    go_ret2
    exact ⟨_, ret_two rfl (by rw [HE.out]; rfl), by unfold runsL; rw [HE.out, if_pos (by decide)]; exact OwnK.nil _ _ _ _ _, Below.refl _ _⟩
  · have d0 : decide ((128 : Int) < (l.length : Int)) = false := decide_eq_false (by omega)
    have HL := Lib.hid (show l.length ≤ 128 by omega)
    have HS := Lib.hid hS
    have HR1 := Lib.hid (fun A c (s : List (Int × Int)) k W h hl => runs1_any A c s k W h hl)
    clear h128 hS
    go_enter Tryd.func18, Tryd.ntmps18
    go_wp2
    go_loopw [5, 7, 13] (fun ov kv iv wr => ∃ (k : Nat) (s : List (Int × Int)), iv = .int .i64 (k : Int) ∧ k ≤ l.length ∧ Hid (rnK (l.take k) = s) ∧ Hid (∀ j, j < k → ¬ (nth 0 l j < 0 ∨ 8 ≤ nth 0 l j)) ∧ Hid (OwnS w.heap.size wr ov s) ∧ Hid (Below w.heap.size w wr)) (fun _ _ iv _ => l.length - (intOf iv).toNat)
    case atStart => exact ⟨0, [], rfl, Nat.zero_le _, Lib.hid rfl, Lib.hid (fun j h => by omega), Lib.hid (OwnK.nil _ _ _ _ _), Lib.hid (Below.refl _ _)⟩
    case round =>
      obtain ⟨k, s, rfl, hk, hP, hQ, hO, hB⟩ := hrel
      obtain ⟨A5, c5, rfl, h5⟩ := own_rs hO.out
      by_cases hlt : k < l.length
      · have hli : (k : Int) < (l.length : Int) := by omega
        have hk1 : IntKind.i64.wrap ((k : Int) + 1) = ((k + 1 : Nat) : Int) := by rw [IntWalk.i64_in _ (by have := HL.out; omega)]; omega
        obtain ⟨ad, rfl, k0⟩ := rd_int (HS.out.below hB.out) k hlt
        have HNX := Lib.hid (show rnK (l.take (k + 1)) = rnS s (nth 0 l k) by rw [rnK_take l k hlt, hP.out])
        have HLN := Lib.hid (show s.length ≤ 128 by have := rnK_len l k hk; rw [hP.out] at this; have := HL.out; omega)
        have HBD := Lib.hid (show ∀ j, j < s.length → 1 ≤ (nth (0, 0) s j).2 ∧ (nth (0, 0) s j).2 ≤ 128 from fun j hj => by have := rnK_bd l k hk j (by rw [hP.out]; exact hj); rw [hP.out] at this; have := HL.out; omega)
        have HBA := Lib.hid (bad_at l k hlt)
        have HQ2 := Lib.hid (fun (h : ¬ (nth 0 l k < 0 ∨ 8 ≤ nth 0 l k)) j (hj : j < k + 1) => show ¬ (nth 0 l j < 0 ∨ 8 ≤ nth 0 l j) by
          rcases Nat.lt_or_ge j k with h1 | h1
          · exact hQ.out j h1
          · obtain rfl : j = k := by omega
            exact h)
        generalize nth 0 l k = x at k0 HNX HBA HQ2
        by_cases hb : x < 0 ∨ 8 ≤ x
        · have HE := Lib.hid (show runsE l = 4 by unfold runsE; rw [if_neg (by have := HL.out; omega), if_pos (HBA.out hb)])
          have hcs : decide (x < 0) = true ∨ (decide (x < 0) = false ∧ decide (8 ≤ x) = true) := by
            by_cases h1 : x < 0
            · exact .inl (decide_eq_true h1)
            · exact .inr ⟨decide_eq_false h1, decide_eq_true (by omega)⟩
          clear hb
          rcases hcs with d1 | ⟨d1, d2⟩
          all_goals
            go_wp2
            go_ret2
            exact ⟨_, ret_two rfl (by rw [HE.out]; rfl), by unfold runsL; rw [HE.out, if_pos (by decide)]; exact OwnK.nil _ _ _ _ _, hB.out⟩
        · have HQ3 := Lib.hid (HQ2.out hb)
          have d1 : decide (x < 0) = false := decide_eq_false (by omega)
          have d2 : decide (8 ≤ x) = false := decide_eq_false (by omega)
          have H5 := Lib.hid h5.any
          clear hb h5
          cases hc : decide (0 < s.length ∧ (nth (0, 0) s (s.length - 1)).1 = x)
          · have HNS := Lib.hid (show rnS s x = s ++ [(x, 1)] from if_neg (of_decide_eq_false hc))
            have HC := Lib.hid hc
            clear hc
            go_wp2_with (first
              | (go_at_call 41; refine (HR1.out A5 c5 s x _ H5.out (by have := HLN.out; omega)).mono ?_; rw [HC.out]; rintro e w3 ⟨rfl, rfl⟩)
              | (at_builtin; (refine append_k (W := wr) (k := kSe) w.heap.size rfl (.tmp 17) (.tmp 20) 31 67 (.agg #[.int .i64 0, .int .i64 0]) 16 (fun _ => False) rfl Tryd.underlying31 infoSe rfl (by decide) (by decide) _ s (x, 1) [.int .i64 x, .int .i64 1] rfl rfl rfl hO.out rfl hB.out.size (by have := HLN.out; omega) ?_); intro g5 cap5 w5 hO5 hg5 hb5 ha5; have HO5 := Lib.hid hO5; have HB5 := Lib.hid (hB.out.grown hg5 hB.out.size hO.out.base_le); clear hO5 hg5 ha5))
            go_roundw
            case rel => exact ⟨k + 1, s ++ [(x, 1)], by first | rfl | go_num, by omega, Lib.hid (by rw [HNX.out, HNS.out]), HQ3, HO5, HB5⟩
            case measure => simp [intOf] <;> omega
          · obtain ⟨h0, hx⟩ := of_decide_eq_true hc
            have HC := Lib.hid hc
            obtain ⟨j, hj⟩ : ∃ j, s.length - 1 = j := ⟨_, rfl⟩
            have hjl : j < s.length := by omega
            have hns : rnS s x = s.set j ((nth (0, 0) s j).1, (nth (0, 0) s j).2 + 1) := by unfold rnS; rw [if_pos ⟨h0, hx⟩, hj]
            obtain ⟨g, cap, hf, hg, _⟩ := hO.out.form h0
            injection hf with e1 e2 e3
            subst e1 e3
            obtain ⟨q0, q1, q2⟩ := hO.out.at_ j hjl
            have HSET := Lib.hid (hO.out.set j hjl ((nth (0, 0) s j).2 + 1))
            rw [← hns] at HSET
            have hbd := HBD.out j hjl
            generalize (nth (0, 0) s j).2 = y at q1 HSET hbd
            have hwy : IntKind.i64.wrap (y + 1) = y + 1 := IntWalk.i64_in _ (by omega)
            have hw : IntKind.i64.wrap ((s.length : Int) - 1) = (j : Int) := by rw [IntWalk.i64_in _ (by have := HLN.out; omega)]; omega
            have hji : (j : Int) < (s.length : Int) := by omega
            have hj0 : (0 : Int) ≤ (j : Int) := by omega
            have HB6 := Lib.hid (hB.out.trans ((Upd.of_grown (o := fun z => w.heap.size ≤ z) HSET.out.2 (fun r e => by cases e; exact hg)).below (n := w.heap.size) hB.out.size (fun z _ h => h)))
            clear hc hj hns h0 hx e2 hbd
            go_wp2_with (go_at_call 41; refine (HR1.out _ _ s x _ H5.out (by have := HLN.out; omega)).mono ?_; rw [HC.out]; rintro e w3 ⟨rfl, rfl⟩)
            go_roundw
            case rel => exact ⟨k + 1, rnS s x, by first | rfl | go_num, by omega, HNX, HQ3, Lib.hid HSET.out.1, HB6⟩
            case measure => simp [intOf] <;> omega
      · obtain rfl : k = l.length := by omega
        have HE := Lib.hid (show runsE l = 0 by unfold runsE; rw [if_neg (by have := HL.out; omega), if_neg (by rw [bad_no l hQ.out]; simp)])
        have HS2 := Lib.hid (show rnK l = s by have h9 := hP.out; rw [List.take_length] at h9; exact h9)
        go_wp2
        go_ret2
        exact ⟨_, ret_two rfl (by rw [HE.out]; rfl), by unfold runsL; rw [HE.out, if_neg (by simp), HS2.out]; exact hO.out, hB.out⟩
end Go.Proofs.YtmcdgmiheklbeaaDoor

namespace Go.Proofs.YtmcdgmiheklbeaaDoor
open Go.RowKit

/-- Two lists of sections are the same. -/
def sameS (a b : List (Int × Int)) : Bool := decide (a = b)
theorem sameS_end {a b : List (Int × Int)} (hl : a.length = b.length) (h : ∀ j, j < a.length → nth (0, 0) a j = nth (0, 0) b j) : sameS a b = true := by
  refine decide_eq_true (List.ext_getElem hl fun i h1 h2 => ?_)
  have := h i h1
  rwa [nth_eq (0, 0) a i h1, nth_eq (0, 0) b i h2] at this
theorem sameS_refl (a : List (Int × Int)) : sameS a a = true := decide_eq_true rfl
set_option maxHeartbeats 1000000 in
set_option maxRecDepth 100000 in
theorem rsame_any (A B : Option Addr) (c d : Nat) (a b : List (Int × Int)) (w : World) (hS : RS w A c a) (hT : RS w B d b) :
    Calls Tryd.prog 14 #[.slice A a.length c, .slice B b.length d] w fun e w' => e = .returned (.bool (sameS a b)) ∧ Below w.heap.size w w' := by
  by_cases hl : a.length = b.length
  · have hb : ((a.length : Int) != (b.length : Int)) = false := by simp [hl]
    have hls : a.length ≤ 9223372036854775807 := Nat.le_trans hS.1 hS.cap
    have HLS := Lib.hid hls
    have HL := Lib.hid hl
    have HS := Lib.hid hS
    have HT := Lib.hid hT
    clear hl hls hS hT
    go_enter Tryd.func14, Tryd.ntmps14
    go_wp2
    go_loopw [5, 13] (fun iv kv wr => ∃ k : Nat, kv = .int .i64 (k : Int) ∧ k ≤ a.length ∧ Hid (∀ j, j < k → nth (0, 0) a j = nth (0, 0) b j) ∧ Hid (Below w.heap.size w wr)) (fun _ kv _ => a.length - (intOf kv).toNat)
    case atStart => exact ⟨0, rfl, Nat.zero_le _, Lib.hid (fun j h => by omega), Lib.hid (Below.refl _ _)⟩
    case round =>
      obtain ⟨k, rfl, hk, hE, hB⟩ := hrel
      by_cases hlt : k < a.length
      · have hli : (k : Int) < (a.length : Int) := by omega
        have hli2 : (k : Int) < (b.length : Int) := by have := HL.out; omega
        have hk0 : (0 : Int) ≤ (k : Int) := by omega
        have hk1 : IntKind.i64.wrap ((k : Int) + 1) = ((k + 1 : Nat) : Int) := by rw [IntWalk.i64_in _ (by have := HLS.out; omega)]; omega
        obtain ⟨ad, rfl, _, p0, p1⟩ := rd_se (HS.out.below hB.out) k hlt
        obtain ⟨ae, rfl, _, q0, q1⟩ := rd_se (HT.out.below hB.out) k (by have := HL.out; omega)
        by_cases he : nth (0, 0) a k = nth (0, 0) b k
        · have HE := Lib.hid he
          rw [he] at p0 p1
          generalize nth (0, 0) b k = y at p0 p1 q0 q1
          clear he
          go_wp2_with fail
          go_quiet (fail)
          go_wp2
          go_roundw
          case rel =>
            refine ⟨k + 1, by first | rfl | go_num, by omega, Lib.hid (fun j hj => ?_), Lib.hid (below_drewN hB.out _)⟩
            rcases Nat.lt_or_ge j k with h1 | h1
            · exact hE.out j h1
            · obtain rfl : j = k := by omega
              exact HE.out
          case measure => simp [intOf] <;> omega
        · have HN := Lib.hid (show sameS a b = false from decide_eq_false fun e => he (by rw [e]))
          have hne : ((nth (0, 0) a k).1 == (nth (0, 0) b k).1 && (nth (0, 0) a k).2 == (nth (0, 0) b k).2) = false := by
            rw [Bool.and_eq_false_iff]
            by_cases h1 : (nth (0, 0) a k).1 = (nth (0, 0) b k).1
            · exact .inr (by simpa using fun h2 => he (Prod.ext h1 h2))
            · exact .inl (by simpa using h1)
          have hcs : ((nth (0, 0) a k).1 == (nth (0, 0) b k).1) = false ∨ (((nth (0, 0) a k).1 == (nth (0, 0) b k).1) = true ∧ ((nth (0, 0) a k).2 == (nth (0, 0) b k).2) = false) := by
            cases h1 : ((nth (0, 0) a k).1 == (nth (0, 0) b k).1)
            · exact .inl rfl
            · rw [h1, Bool.true_and] at hne; exact .inr ⟨rfl, hne⟩
          generalize nth (0, 0) a k = x at *
          generalize nth (0, 0) b k = y at *
          clear he hne
          rcases hcs with d1 | ⟨d1, d2⟩
          all_goals
            go_wp2_with fail
            go_quiet (fail)
            go_wp2
            go_ret
            exact ⟨ret_bool HN.out.symm, below_drewN hB.out _⟩
      · obtain rfl : k = a.length := by omega
        have HN := Lib.hid (sameS_end HL.out hE.out)
        go_wp2
        go_ret
        exact ⟨ret_bool HN.out.symm, hB.out⟩
  · have hb : ((a.length : Int) != (b.length : Int)) = true := by simp; omega
    have HN := Lib.hid (show sameS a b = false from decide_eq_false fun e => hl (by rw [e]))
    clear hl
    go_enter Tryd.func14, Tryd.ntmps14
    go_wp2
    go_ret
    exact ⟨ret_bool HN.out.symm, Below.refl _ _⟩
end Go.Proofs.YtmcdgmiheklbeaaDoor

namespace Go.Proofs.YtmcdgmiheklbeaaDoor
open Go.RowKit

theorem rnS_last (s : List (Int × Int)) (k : Int) : (nth (0, 0) (rnS s k) ((rnS s k).length - 1)).1 = k := by
  unfold rnS
  split
  · rename_i h
    rw [List.length_set, nth_eq _ _ _ (by rw [List.length_set]; omega), List.getElem_set, if_pos rfl]
    exact h.2
  · rw [List.length_append, List.length_singleton, Nat.add_sub_cancel, nth_append_right _ _ _ _ (Nat.le_refl _), Nat.sub_self]; rfl
/-- The last section's book is the last book. -/
theorem rnK_last (l : List Int) (k : Nat) (h : k < l.length) : 0 < (rnK (l.take (k + 1))).length ∧ (nth (0, 0) (rnK (l.take (k + 1))) ((rnK (l.take (k + 1))).length - 1)).1 = nth 0 l k := by
  rw [rnK_take l k h]
  exact ⟨(rnS_len _ _).2, rnS_last _ _⟩

set_option maxHeartbeats 2000000 in
set_option maxRecDepth 100000 in
theorem rruns_any (A : Option Addr) (c : Nat) (l : List Int) (w : World) (hS : RI w A c l) (hl : l.length ≤ 128) :
    Calls Tryd.prog 42 #[.slice A l.length c] w fun e w' => ∃ v, e = .returned v ∧ OwnS w.heap.size w' v (rnK l) ∧ Below w.heap.size w w' := by
  have HL := Lib.hid hl
  have HS := Lib.hid hS
  clear hS hl
  go_enter Tryd.func42, Tryd.ntmps42
  go_wp2
  go_loopw [3, 4, 5, 8] (fun ov nv kv iv wr => ∃ (k : Nat) (s : List (Int × Int)), iv = .int .i64 (k : Int) ∧ k ≤ l.length ∧ Hid (rnK (l.take k) = s) ∧ Hid (OwnS w.heap.size wr ov s) ∧ Hid (Below w.heap.size w wr)) (fun _ _ _ iv _ => l.length - (intOf iv).toNat)
  case atStart => exact ⟨0, [], rfl, Nat.zero_le _, Lib.hid rfl, Lib.hid (OwnK.nil _ _ _ _ _), Lib.hid (Below.refl _ _)⟩
  case round =>
    obtain ⟨k, s, rfl, hk, hP, hO, hB⟩ := hrel
    obtain ⟨A5, c5, rfl, h5⟩ := own_rs hO.out
    by_cases hlt : k < l.length
    · have hli : (k : Int) < (l.length : Int) := by omega
      have hk1 : IntKind.i64.wrap ((k : Int) + 1) = ((k + 1 : Nat) : Int) := by rw [IntWalk.i64_in _ (by have := HL.out; omega)]; omega
      have hS1 := HS.out.below hB.out
      obtain ⟨ad, hAD, k0⟩ := rd_int hS1 k hlt
      subst hAD
      have HNX := Lib.hid (show rnK (l.take (k + 1)) = rnS s (nth 0 l k) by rw [rnK_take l k hlt, hP.out])
      have HLN := Lib.hid (show s.length ≤ 128 by have := rnK_len l k hk; rw [hP.out] at this; have := HL.out; omega)
      have HBD := Lib.hid (show ∀ j, j < s.length → 1 ≤ (nth (0, 0) s j).2 ∧ (nth (0, 0) s j).2 ≤ 128 from fun j hj => by have := rnK_bd l k hk j (by rw [hP.out]; exact hj); rw [hP.out] at this; have := HL.out; omega)
      have hcs : (∃ q, k = q + 1 ∧ nth 0 l q = nth 0 l k ∧ 0 < s.length ∧ (nth (0, 0) s (s.length - 1)).1 = nth 0 l k) ∨ (¬ (0 < s.length ∧ (nth (0, 0) s (s.length - 1)).1 = nth 0 l k) ∧ (k = 0 ∨ ∃ q, k = q + 1 ∧ nth 0 l q ≠ nth 0 l k)) := by
        match k, hlt, hP.out with
        | 0, _, hp => exact .inr ⟨fun h => by rw [← hp] at h; simp [rnK] at h, .inl rfl⟩
        | q + 1, hlt, hp =>
          obtain ⟨h1, h2⟩ := rnK_last l q (by omega)
          rw [hp] at h1 h2
          by_cases e : nth 0 l q = nth 0 l (q + 1)
          · exact .inl ⟨q, rfl, e, h1, h2.trans e⟩
          · exact .inr ⟨fun h => e (h2.symm.trans h.2), .inr ⟨q, rfl, e⟩⟩
      rcases hcs with ⟨q, hkq, hqe, h0, hx⟩ | ⟨hno, hkq⟩
      · obtain ⟨ad', hAD, kq⟩ := rd_int hS1 q (by omega)
        cases hAD
        rw [hqe] at kq
        generalize nth 0 l k = x at k0 kq HNX hx
        have hd0 : decide ((0 : Int) < (k : Int)) = true := decide_eq_true (by omega)
        have hz0 : 0 < k := by omega
        have hwq : IntKind.i64.wrap ((k : Int) - 1) = (q : Int) := by rw [IntWalk.i64_in _ (by have := HL.out; omega)]; omega
        have hqi : (q : Int) < (l.length : Int) := by omega
        have hq0 : (0 : Int) ≤ (q : Int) := by omega
        obtain ⟨j, hj⟩ : ∃ j, s.length - 1 = j := ⟨_, rfl⟩
        have hjl : j < s.length := by omega
        have hns : rnS s x = s.set j ((nth (0, 0) s j).1, (nth (0, 0) s j).2 + 1) := by unfold rnS; rw [if_pos ⟨h0, hx⟩, hj]
        obtain ⟨g, cap, hf, hg, _⟩ := hO.out.form h0
        injection hf with e1 e2 e3
        subst e1 e3
        obtain ⟨q0, q1, q2⟩ := hO.out.at_ j hjl
        have HSET := Lib.hid (hO.out.set j hjl ((nth (0, 0) s j).2 + 1))
        rw [← hns] at HSET
        have hbd := HBD.out j hjl
        generalize (nth (0, 0) s j).2 = y at q1 HSET hbd
        have hwy : IntKind.i64.wrap (y + 1) = y + 1 := IntWalk.i64_in _ (by omega)
        have hw : IntKind.i64.wrap ((s.length : Int) - 1) = (j : Int) := by rw [IntWalk.i64_in _ (by have := HLN.out; omega)]; omega
        have hji : (j : Int) < (s.length : Int) := by omega
        have hj0 : (0 : Int) ≤ (j : Int) := by omega
        have HB6 := Lib.hid (hB.out.trans ((Upd.of_grown (o := fun z => w.heap.size ≤ z) HSET.out.2 (fun r e => by cases e; exact hg)).below (n := w.heap.size) hB.out.size (fun z _ h => h)))
        clear hj hns h0 hx e2 hbd hqe hS1 h5 hkq
        go_wp2
        go_roundw
        case rel => exact ⟨k + 1, rnS s x, by first | rfl | go_num, by omega, HNX, Lib.hid HSET.out.1, HB6⟩
        case measure => simp [intOf] <;> omega
      · have HNS := Lib.hid (show rnS s (nth 0 l k) = s ++ [(nth 0 l k, 1)] from if_neg hno)
        clear hno h5
        rcases hkq with hk0 | ⟨q, rfl, hne⟩
        · generalize nth 0 l k = x at k0 HNX HNS
          have hd0 : decide ((0 : Int) < (k : Int)) = false := decide_eq_false (by omega)
          have hz0 : ¬ 0 < k := by omega
          clear hk0
          go_wp2_with (at_builtin; (refine append_k (W := wr) (k := kSe) w.heap.size rfl (.tmp 34) (.tmp 37) 31 67 (.agg #[.int .i64 0, .int .i64 0]) 16 (fun _ => False) rfl Tryd.underlying31 infoSe rfl (by decide) (by decide) _ s (x, 1) [.int .i64 x, .int .i64 1] rfl rfl rfl hO.out rfl hB.out.size (by have := HLN.out; omega) ?_); intro g5 cap5 w5 hO5 hg5 hb5 ha5; have HO5 := Lib.hid hO5; have HB5 := Lib.hid (hB.out.grown hg5 hB.out.size hO.out.base_le); clear hO5 hg5 ha5)
          go_roundw
          case rel => exact ⟨k + 1, s ++ [(x, 1)], by first | rfl | go_num, by omega, Lib.hid (by rw [HNX.out, HNS.out]), HO5, HB5⟩
          case measure => simp [intOf] <;> omega
        · obtain ⟨ad', hAD, kq⟩ := rd_int hS1 q (by omega)
          cases hAD
          have hxy : (nth 0 l q == nth 0 l (q + 1)) = false := by simpa using hne
          generalize nth 0 l (q + 1) = x at k0 HNX HNS hxy
          generalize nth 0 l q = z at kq hxy
          have hd0 : decide ((0 : Int) < ((q + 1 : Nat) : Int)) = true := decide_eq_true (by omega)
          have hwq : IntKind.i64.wrap (((q + 1 : Nat) : Int) - 1) = (q : Int) := by rw [IntWalk.i64_in _ (by have := HL.out; omega)]; omega
          have hqi : (q : Int) < (l.length : Int) := by omega
          have hq0 : (0 : Int) ≤ (q : Int) := by omega
          obtain ⟨Z, hZ⟩ : ∃ Z, q + 1 = Z := ⟨_, rfl⟩
          rw [hZ] at hd0 hwq k0 hk1 hlt hli hk hP HNX ⊢
          have hz0 : 0 < Z := by omega
          clear hne hZ hS1
          go_wp2_with (at_builtin; (refine append_k (W := wr) (k := kSe) w.heap.size rfl (.tmp 34) (.tmp 37) 31 67 (.agg #[.int .i64 0, .int .i64 0]) 16 (fun _ => False) rfl Tryd.underlying31 infoSe rfl (by decide) (by decide) _ s (x, 1) [.int .i64 x, .int .i64 1] rfl rfl rfl hO.out rfl hB.out.size (by have := HLN.out; omega) ?_); intro g5 cap5 w5 hO5 hg5 hb5 ha5; have HO5 := Lib.hid hO5; have HB5 := Lib.hid (hB.out.grown hg5 hB.out.size hO.out.base_le); clear hO5 hg5 ha5)
          go_roundw
          case rel => exact ⟨Z + 1, s ++ [(x, 1)], by first | rfl | go_num, by omega, Lib.hid (by rw [HNX.out, HNS.out]), HO5, HB5⟩
          case measure => simp [intOf] <;> omega
    · obtain rfl : k = l.length := by omega
      have HS2 := Lib.hid (show rnK l = s by have h9 := hP.out; rw [List.take_length] at h9; exact h9)
      go_wp2
      go_ret
      exact ⟨_, rfl, by rw [HS2.out]; exact hO.out, hB.out⟩
set_option maxHeartbeats 2000000 in
set_option maxRecDepth 100000 in
theorem rRuns_any (A : Option Addr) (c : Nat) (l : List Int) (w : World) (hS : RI w A c l) :
    Calls Tryd.prog 19 #[.slice A l.length c] w fun e w' => ∃ v, e = .returned (.tuple #[v, .int .i64 (runsE l)]) ∧ OwnS w.heap.size w' v (runsL l) ∧ Below w.heap.size w w' := by
  by_cases h128 : 128 < l.length
  · have d0 : decide ((128 : Int) < (l.length : Int)) = true := decide_eq_true (by omega)
    have HE := Lib.hid (show runsE l = 1 by unfold runsE; rw [if_pos h128])
    clear h128
    go_enter Tryd.func19, Tryd.ntmps19
    go_wp2
    go_ret2
    exact ⟨_, ret_two rfl (by rw [HE.out]; rfl), by unfold runsL; rw [HE.out, if_pos (by decide)]; exact OwnK.nil _ _ _ _ _, Below.refl _ _⟩
  · have d0 : decide ((128 : Int) < (l.length : Int)) = false := decide_eq_false (by omega)
    have HL := Lib.hid (show l.length ≤ 128 by omega)
    have HS := Lib.hid hS
    have HIS := Lib.hid (fun n W => ris_any n W)
    have HRN := Lib.hid (rruns_any A c l w hS (by omega))
    clear h128 hS
    go_enter Tryd.func19, Tryd.ntmps19
    go_wp2
    go_loopw [5, 11] (fun kv iv wr => ∃ k : Nat, iv = .int .i64 (k : Int) ∧ k ≤ l.length ∧ Hid (∀ j, j < k → ¬ (nth 0 l j < 0 ∨ 8 ≤ nth 0 l j)) ∧ wr = w) (fun _ iv _ => l.length - (intOf iv).toNat)
    case atStart => exact ⟨0, rfl, Nat.zero_le _, Lib.hid (fun j h => by omega), rfl⟩
    case round =>
      obtain ⟨k, rfl, hk, hQ, rfl⟩ := hrel
      by_cases hlt : k < l.length
      · have hli : (k : Int) < (l.length : Int) := by omega
        have hk1 : IntKind.i64.wrap ((k : Int) + 1) = ((k + 1 : Nat) : Int) := by rw [IntWalk.i64_in _ (by have := HL.out; omega)]; omega
        obtain ⟨ad, rfl, k0⟩ := rd_int HS.out k hlt
        have HBA := Lib.hid (bad_at l k hlt)
        have HQ2 := Lib.hid (fun (h : ¬ (nth 0 l k < 0 ∨ 8 ≤ nth 0 l k)) j (hj : j < k + 1) => show ¬ (nth 0 l j < 0 ∨ 8 ≤ nth 0 l j) by
          rcases Nat.lt_or_ge j k with h1 | h1
          · exact hQ.out j h1
          · obtain rfl : j = k := by omega
            exact h)
        generalize nth 0 l k = x at k0 HBA HQ2
        by_cases hb : x < 0 ∨ 8 ≤ x
        · have HE := Lib.hid (show runsE l = 4 by unfold runsE; rw [if_neg (by have := HL.out; omega), if_pos (HBA.out hb)])
          have d1 : thereB x = false := by simp [thereB]; omega
          clear hb
          go_wp2_with (go_at_call 40; refine (HIS.out _ _).mono ?_; rw [d1]; rintro e w3 ⟨rfl, rfl⟩)
          go_ret2
          exact ⟨_, ret_two rfl (by rw [HE.out]; rfl), by unfold runsL; rw [HE.out, if_pos (by decide)]; exact OwnK.nil _ _ _ _ _, Below.refl _ _⟩
        · have HQ3 := Lib.hid (HQ2.out hb)
          have d1 : thereB x = true := by simp [thereB]; omega
          clear hb
          go_wp2_with (go_at_call 40; refine (HIS.out _ _).mono ?_; rw [d1]; rintro e w3 ⟨rfl, rfl⟩)
          go_roundw
          case rel => exact ⟨k + 1, by first | rfl | go_num, by omega, HQ3, by first | rfl | trivial⟩
          case measure => simp [intOf] <;> omega
      · obtain rfl : k = l.length := by omega
        have HE := Lib.hid (show runsE l = 0 by unfold runsE; rw [if_neg (by have := HL.out; omega), if_neg (by rw [bad_no l hQ.out]; simp)])
        go_wp2_with (go_at_call 42; refine HRN.out.mono ?_; rintro e w3 ⟨v3, rfl, hO3, b3⟩)
        go_ret2
        exact ⟨_, ret_two rfl (by rw [HE.out]; rfl), by unfold runsL; rw [HE.out, if_neg (by simp)]; exact hO3, b3⟩
end Go.Proofs.YtmcdgmiheklbeaaDoor

namespace Go.Proofs.YtmcdgmiheklbeaaDoor
open Go.RowKit

def widV (ws : List Int) (j : Nat) : Nat := (nth 0 ws j).toNat
def sumV (ws : List Int) (k : Nat) : Nat := sumTo k (widV ws)
theorem sumV_succ (ws : List Int) (k : Nat) : sumV ws (k + 1) = sumV ws k + widV ws k := sumTo_succ _ _
def okV (x : Int) : Bool := decide (1 ≤ x) && decide (x ≤ 128)
theorem all_okV_take (ws : List Int) (k : Nat) (h : k < ws.length) : (ws.take (k + 1)).all okV = ((ws.take k).all okV && okV (nth 0 ws k)) := by
  rw [take_succ_nth 0 ws k h, List.all_append]; simp
theorem all_okV_no {ws : List Int} {k : Nat} (h : k < ws.length) (hk : okV (nth 0 ws k) = false) : ws.all okV = false := by
  cases he : ws.all okV
  · rfl
  · have := List.all_eq_true.1 he _ (nth_mem 0 ws k h)
    rw [hk] at this; cases this
theorem sumV_le {ws : List Int} : ∀ k, k ≤ ws.length → (ws.take k).all okV = true → sumV ws k ≤ 128 * k
  | 0, _, _ => Nat.le_refl _
  | k + 1, h, ha => by
    rw [all_okV_take ws k (by omega), Bool.and_eq_true] at ha
    have h1 := sumV_le k (by omega) ha.1
    have h2 : 1 ≤ nth 0 ws k ∧ nth 0 ws k ≤ 128 := by simpa [okV] using ha.2
    rw [sumV_succ]; unfold widV; omega
theorem sumV_mono (ws : List Int) (k : Nat) : ∀ d, sumV ws k ≤ sumV ws (k + d)
  | 0 => Nat.le_refl _
  | d + 1 => by
    have := sumV_mono ws k d
    rw [show k + (d + 1) = (k + d) + 1 by omega, sumV_succ]; omega
set_option maxHeartbeats 2000000 in
set_option maxRecDepth 100000 in
theorem right18_any (A : Option Addr) (c : Nat) (ws : List Int) (w : World) (hS : RI w A c ws) (hw : ws.length ≤ 100000) :
    Calls Tryd.prog 34 #[.slice A ws.length c] w fun e w' => e = .returned (.tuple #[.int .i64 (if ws.all okV = true then (sumV ws ws.length : Int) else 0), .bool (ws.all okV && decide (ws.length ≤ 128))]) ∧ w = w' := by
  have HS := Lib.hid hS
  obtain ⟨R, hR⟩ : ∃ R : Int, (if ws.all okV = true then (sumV ws ws.length : Int) else 0) = R := ⟨_, rfl⟩
  have HR := Lib.hid hR
  rw [hR]
  clear hS hR
  go_enter Tryd.func34, Tryd.ntmps34
  go_wp2
  go_loopw [4, 9] (fun nv iv wr => ∃ k : Nat, iv = .int .i64 (k : Int) ∧ k ≤ ws.length ∧ nv = .int .i64 (sumV ws k : Int) ∧ Hid ((ws.take k).all okV = true) ∧ w = wr) (fun _ iv _ => ws.length - (intOf iv).toNat)
  case atStart => exact ⟨0, rfl, Nat.zero_le _, rfl, Lib.hid rfl, rfl⟩
  case round =>
    obtain ⟨k, rfl, hk, rfl, hA, rfl⟩ := hrel
    by_cases hlt : k < ws.length
    · obtain ⟨ad, rfl, hc⟩ := rd_int HS.out k hlt
      have hki : (k : Int) < (ws.length : Int) := by omega
      have HN := Lib.hid (all_okV_take ws k hlt)
      have HNO := Lib.hid (all_okV_no hlt)
      have hsl := sumV_le k hk hA.out
      have HSU := Lib.hid (sumV_succ ws k)
      have hwd : widV ws k = (nth 0 ws k).toNat := rfl
      obtain ⟨T, hT⟩ : ∃ T, sumV ws k = T := ⟨_, rfl⟩
      rw [hT] at hsl HSU
      obtain ⟨S, hS2⟩ : ∃ S, sumV ws (k + 1) = S := ⟨_, rfl⟩
      rw [hS2] at HSU
      generalize nth 0 ws k = x at hc HN HNO hwd
      by_cases h1 : x < 1
      · have e1 : decide (x < 1) = true := decide_eq_true h1
        have HQ := Lib.hid (show ws.all okV = false from HNO.out (by unfold okV; rw [decide_eq_false (by omega)]; rfl))
        rw [hT]
        clear h1 hwd hT hS2
        go_wp2
        go_ret2
        exact ⟨ret_two (by rw [← HR.out, if_neg (by rw [HQ.out]; simp)]; rfl) (by rw [HQ.out]; rfl), rfl⟩
      · have e1 : decide (x < 1) = false := decide_eq_false h1
        by_cases h2 : 128 < x
        · have e2 : decide (128 < x) = true := decide_eq_true h2
          have HQ := Lib.hid (show ws.all okV = false from HNO.out (by unfold okV; rw [decide_eq_false (by omega : ¬ x ≤ 128)]; simp))
          rw [hT]
          clear h1 h2 hwd hT hS2
          go_wp2
          go_ret2
          exact ⟨ret_two (by rw [← HR.out, if_neg (by rw [HQ.out]; simp)]; rfl) (by rw [HQ.out]; rfl), rfl⟩
        · have e2 : decide (128 < x) = false := decide_eq_false h2
          have HA2 := Lib.hid (show (ws.take (k + 1)).all okV = true by rw [HN.out, hA.out]; unfold okV; rw [decide_eq_true (by omega), decide_eq_true (by omega)]; rfl)
          have hws : IntKind.i64.wrap ((T : Int) + x) = (S : Int) := by rw [IntWalk.i64_in _ (by omega)]; have := HSU.out; omega
          have HS2 := Lib.hid hS2
          rw [hT]
          clear h1 h2 hwd hT hS2 hsl
          go_wp2
          go_roundw
          case rel => exact ⟨k + 1, by go_num, by omega, by rw [HS2.out], HA2, trivial⟩
          case measure => simp [intOf]; omega
    · obtain rfl : k = ws.length := by omega
      have HALL := Lib.hid (show ws.all okV = true by have := hA.out; rwa [List.take_length] at this)
      by_cases h128 : ws.length ≤ 128
      · have hd : decide ((ws.length : Int) ≤ 128) = true := decide_eq_true (by omega)
        have HD := Lib.hid (show decide (ws.length ≤ 128) = true from decide_eq_true h128)
        clear h128
        go_wp2
        go_ret2
        exact ⟨ret_two (by rw [← HR.out, if_pos HALL.out]; rfl) (by rw [HALL.out, HD.out]; rfl), rfl⟩
      · have hd : decide ((ws.length : Int) ≤ 128) = false := decide_eq_false (by omega)
        have HD := Lib.hid (show decide (ws.length ≤ 128) = false from decide_eq_false h128)
        clear h128
        go_wp2
        go_ret2
        exact ⟨ret_two (by rw [← HR.out, if_pos HALL.out]; rfl) (by rw [HALL.out, HD.out]; rfl), rfl⟩
set_option maxHeartbeats 2000000 in
set_option maxRecDepth 100000 in
theorem widths18_any (A : Option Addr) (c : Nat) (ws : List Int) (w : World) (hS : RI w A c ws) (hw : ws.length ≤ 100000) :
    Calls Tryd.prog 36 #[.slice A ws.length c] w fun e w' => e = .returned (.tuple #[.int .i64 (if ws.all okV = true then (sumV ws ws.length : Int) else 0), .bool (ws.all okV && decide (ws.length ≤ 128))]) ∧ w = w' := by
  have HS := Lib.hid hS
  obtain ⟨R, hR⟩ : ∃ R : Int, (if ws.all okV = true then (sumV ws ws.length : Int) else 0) = R := ⟨_, rfl⟩
  have HR := Lib.hid hR
  rw [hR]
  clear hS hR
  go_enter Tryd.func36, Tryd.ntmps36
  go_wp2
  go_loopw [4, 9] (fun nv iv wr => ∃ k : Nat, iv = .int .i64 (k : Int) ∧ k ≤ ws.length ∧ nv = .int .i64 (sumV ws k : Int) ∧ Hid ((ws.take k).all okV = true) ∧ w = wr) (fun _ iv _ => ws.length - (intOf iv).toNat)
  case atStart => exact ⟨0, rfl, Nat.zero_le _, rfl, Lib.hid rfl, rfl⟩
  case round =>
    obtain ⟨k, rfl, hk, rfl, hA, rfl⟩ := hrel
    by_cases hlt : k < ws.length
    · obtain ⟨ad, rfl, hc⟩ := rd_int HS.out k hlt
      have hki : (k : Int) < (ws.length : Int) := by omega
      have HN := Lib.hid (all_okV_take ws k hlt)
      have HNO := Lib.hid (all_okV_no hlt)
      have hsl := sumV_le k hk hA.out
      have HSU := Lib.hid (sumV_succ ws k)
      have hwd : widV ws k = (nth 0 ws k).toNat := rfl
      obtain ⟨T, hT⟩ : ∃ T, sumV ws k = T := ⟨_, rfl⟩
      rw [hT] at hsl HSU
      obtain ⟨S, hS2⟩ : ∃ S, sumV ws (k + 1) = S := ⟨_, rfl⟩
      rw [hS2] at HSU
      generalize nth 0 ws k = x at hc HN HNO hwd
      by_cases h1 : x < 1
      · have e1 : decide (x < 1) = true := decide_eq_true h1
        have HQ := Lib.hid (show ws.all okV = false from HNO.out (by unfold okV; rw [decide_eq_false (by omega)]; rfl))
        rw [hT]
        clear h1 hwd hT hS2
        go_wp2
        go_ret2
        exact ⟨ret_two (by rw [← HR.out, if_neg (by rw [HQ.out]; simp)]; rfl) (by rw [HQ.out]; rfl), rfl⟩
      · have e1 : decide (x < 1) = false := decide_eq_false h1
        by_cases h2 : 128 < x
        · have e2 : decide (128 < x) = true := decide_eq_true h2
          have HQ := Lib.hid (show ws.all okV = false from HNO.out (by unfold okV; rw [decide_eq_false (by omega : ¬ x ≤ 128)]; simp))
          rw [hT]
          clear h1 h2 hwd hT hS2
          go_wp2
          go_ret2
          exact ⟨ret_two (by rw [← HR.out, if_neg (by rw [HQ.out]; simp)]; rfl) (by rw [HQ.out]; rfl), rfl⟩
        · have e2 : decide (128 < x) = false := decide_eq_false h2
          have HA2 := Lib.hid (show (ws.take (k + 1)).all okV = true by rw [HN.out, hA.out]; unfold okV; rw [decide_eq_true (by omega), decide_eq_true (by omega)]; rfl)
          have hws : IntKind.i64.wrap ((T : Int) + x) = (S : Int) := by rw [IntWalk.i64_in _ (by omega)]; have := HSU.out; omega
          have HS2 := Lib.hid hS2
          rw [hT]
          clear h1 h2 hwd hT hS2 hsl
          go_wp2
          go_roundw
          case rel => exact ⟨k + 1, by go_num, by omega, by rw [HS2.out], HA2, trivial⟩
          case measure => simp [intOf]; omega
    · obtain rfl : k = ws.length := by omega
      have HALL := Lib.hid (show ws.all okV = true by have := hA.out; rwa [List.take_length] at this)
      by_cases h128 : ws.length ≤ 128
      · have hd : decide ((ws.length : Int) ≤ 128) = true := decide_eq_true (by omega)
        have HD := Lib.hid (show decide (ws.length ≤ 128) = true from decide_eq_true h128)
        clear h128
        go_wp2
        go_ret2
        exact ⟨ret_two (by rw [← HR.out, if_pos HALL.out]; rfl) (by rw [HALL.out, HD.out]; rfl), rfl⟩
      · have hd : decide ((ws.length : Int) ≤ 128) = false := decide_eq_false (by omega)
        have HD := Lib.hid (show decide (ws.length ≤ 128) = false from decide_eq_false h128)
        clear h128
        go_wp2
        go_ret2
        exact ⟨ret_two (by rw [← HR.out, if_pos HALL.out]; rfl) (by rw [HALL.out, HD.out]; rfl), rfl⟩

/-- The error of widths and values. -/
def sureE (ws l : List Int) : Int := if ws.all okV = true ∧ ws.length ≤ 128 ∧ sumV ws ws.length = l.length then (if quantB l = true then 0 else 6) else 1
theorem checked0 (l : List Int) : checkedK 0 l = if quantB l = true then 0 else 6 := by
  unfold checkedK
  rw [if_neg (by omega)]
  cases quantB l <;> simp
set_option maxHeartbeats 1000000 in
theorem checked18_any (A B : Option Addr) (c d : Nat) (ws l : List Int) (w : World) (hS : RI w A c ws) (hT : RI w B d l) (hw : ws.length ≤ 100000) (hG : GF w) :
    Calls Tryd.prog 44 #[.slice A ws.length c, .slice B l.length d] w fun e w' => e = .returned (.int .i64 (sureE ws l)) ∧ Below w.heap.size w w' := by
  have HR := Lib.hid (right18_any A c ws w hS hw)
  have HF := Lib.hid (bfits_any B d 0 l w hT hG)
  rw [checked0] at HF
  generalize fitsV 0 l = F at HF
  by_cases ha : ws.all okV = true ∧ ws.length ≤ 128
  · rw [if_pos ha.1, ha.1, decide_eq_true ha.2] at HR
    by_cases hs : sumV ws ws.length = l.length
    · have HE := Lib.hid (show sureE ws l = if quantB l = true then 0 else 6 by unfold sureE; rw [if_pos ⟨ha.1, ha.2, hs⟩])
      rw [hs] at HR
      clear ha hs
      cases hq : quantB l
      · rw [hq] at HF HE
        clear hq
        go_enter Tryd.func44, Tryd.ntmps44
        go_wp2_with (first
          | (go_at_call 34; refine HR.out.mono ?_; rintro e w2 ⟨rfl, rfl⟩)
          | (go_at_call 70; refine HF.out.mono ?_; rintro e w3 ⟨rfl, b3⟩))
        go_ret
        exact ⟨ret_int (by rw [HE.out]; rfl), b3⟩
      · rw [hq] at HF HE
        clear hq
        go_enter Tryd.func44, Tryd.ntmps44
        go_wp2_with (first
          | (go_at_call 34; refine HR.out.mono ?_; rintro e w2 ⟨rfl, rfl⟩)
          | (go_at_call 70; refine HF.out.mono ?_; rintro e w3 ⟨rfl, b3⟩))
        go_ret
        exact ⟨ret_int (by rw [HE.out]; rfl), b3⟩
    · have HE := Lib.hid (show sureE ws l = 1 by unfold sureE; rw [if_neg (fun h => hs h.2.2)])
      have hne : ((sumV ws ws.length : Int) != (l.length : Int)) = true := by simp; omega
      generalize sumV ws ws.length = S at *
      clear ha hs
      go_enter Tryd.func44, Tryd.ntmps44
      go_wp2_with (go_at_call 34; refine HR.out.mono ?_; rintro e w2 ⟨rfl, rfl⟩)
      go_ret
      exact ⟨ret_int (by rw [HE.out]), Below.refl _ _⟩
  · have HE := Lib.hid (show sureE ws l = 1 by unfold sureE; rw [if_neg (fun h => ha ⟨h.1, h.2.1⟩)])
    have hb : (ws.all okV && decide (ws.length ≤ 128)) = false := by
      rw [Bool.and_eq_false_iff]
      by_cases h1 : ws.all okV = true
      · exact .inr (decide_eq_false fun h2 => ha ⟨h1, h2⟩)
      · exact .inl (by simpa using h1)
    rw [hb] at HR
    generalize (if ws.all okV = true then (sumV ws ws.length : Int) else 0) = S at HR
    clear ha hb
    go_enter Tryd.func44, Tryd.ntmps44
    go_wp2_with (go_at_call 34; refine HR.out.mono ?_; rintro e w2 ⟨rfl, rfl⟩)
    go_ret
    exact ⟨ret_int (by rw [HE.out]), Below.refl _ _⟩
/-- How many bits a gamma code has. -/
def gamN (v : Nat) : Nat := 2 * Nat.log2 v + 1
set_option maxHeartbeats 1000000 in
theorem gamma18_any (v : Nat) (w : World) (hv : v ≤ 1000000) :
    Calls Tryd.prog 51 #[.int .i64 (v : Int)] w fun e w' => e = .returned (.int .i64 (gamN v : Nat)) ∧ w = w' := by
  have HV := Lib.hid hv
  go_enter Tryd.func51, Tryd.ntmps51
  go_wp2
  go_loopw [0, 3] (fun vv nv wr => ∃ x n : Nat, vv = .int .i64 (x : Int) ∧ nv = .int .i64 (n : Int) ∧ x ≤ v ∧ n ≤ 2000000 ∧ Hid (n + 2 * Nat.log2 x = gamN v) ∧ wr = w) (fun vv _ _ => (intOf vv).toNat)
  case atStart => exact ⟨v, 1, rfl, rfl, Nat.le_refl _, by omega, Lib.hid (by unfold gamN; omega), rfl⟩
  case round =>
    obtain ⟨x, n, rfl, rfl, hx, hn, hP, rfl⟩ := hrel
    by_cases h : 1 < x
    · have hd : decide ((1 : Int) < (x : Int)) = true := decide_eq_true (by omega)
      have hl := log2_half (v := x) (by omega)
      have hq : (x : Int).tdiv 2 = ((x / 2 : Nat) : Int) := by rw [Int.tdiv_eq_ediv_of_nonneg (by omega)]; omega
      have hq2 : (x : Int) / 2 = ((x / 2 : Nat) : Int) := by omega
      have hle : x / 2 < x ∧ x / 2 ≤ v := by omega
      have hll : Nat.log2 (x / 2) ≤ 1000000 := Nat.le_trans (log2_le (n := x / 2) (Nat.lt_of_lt_of_le Nat.lt_two_pow_self (Nat.pow_le_pow_right (by decide) (Nat.le_succ _)))) (by have := HV.out; omega)
      have HP2 := Lib.hid (show n + 2 + 2 * Nat.log2 (x / 2) = gamN v by have := hP.out; omega)
      have hn2 : n + 2 ≤ 2000000 := by
        have h1 := hP.out
        have h2 : gamN v ≤ 2000000 := by
          unfold gamN
          have := log2_le (v := v) (n := 20) (Nat.lt_of_le_of_lt HV.out (by decide))
          omega
        omega
      have hzz : 1 < x := h
      generalize x / 2 = y at *
      have hwy : IntKind.i64.wrap (y : Int) = (y : Int) := IntWalk.i64_in _ (by have := HV.out; omega)
      have hwn : IntKind.i64.wrap ((n : Int) + 2) = ((n + 2 : Nat) : Int) := by rw [IntWalk.i64_in _ (by omega)]; omega
      clear hl hll h
      go_wp2
      go_roundw
      case rel => exact ⟨y, n + 2, by first | rfl | go_num, by first | rfl | go_num, hle.2, hn2, HP2, by first | rfl | trivial⟩
      case measure => simp [intOf] <;> omega
    · have hd : decide ((1 : Int) < (x : Int)) = false := decide_eq_false (by omega)
      have HN := Lib.hid (show n = gamN v by have h1 := hP.out; rw [log2_one (by omega)] at h1; omega)
      have hzz : ¬ 1 < x := h
      clear h
      go_wp2
      go_ret
      exact ⟨ret_int (by rw [HN.out]), by first | rfl | trivial⟩
end Go.Proofs.YtmcdgmiheklbeaaDoor
