/- The reference's prefix: Check, Complete, Cost: what each call returns. · The reference's prefix: Cost: what it returns. · The reference's prefix: Codes: what it returns. -/
import Derived.Test.YtlbgkkkcbnagbaaKf
namespace Go.Proofs.Ytlbgkkkcbnagbaa
open Go.RowKit Go.Shelf

theorem share_pos' {n : Nat} (h : 0 < n) : 0 < share n := by rw [share_pos h]; exact Nat.two_pow_pos _
/-- One symbol more. -/
theorem filledK_step (ls : List Int) (k : Nat) : filledK ls (k + 1) = filledK ls k + share (lenOf ls k) := sumTo_succ _ _
theorem filledK_zero (ls : List Int) (k : Nat) (h : nth 0 ls k ≤ 0) : filledK ls (k + 1) = filledK ls k := by
  rw [filledK_step, show lenOf ls k = 0 by unfold lenOf; omega]; rfl

set_option maxHeartbeats 2000000 in
theorem rcheck_any (A : Option Addr) (c : Nat) (ls : List Int) (w : World) (hS : RI w A c ls) :
    Calls Try.prog 20 #[.slice A ls.length c] w fun e w' => e = .returned (.int .i64 (checkN ls)) ∧ w = w' := by
  have hn := hS.len
  by_cases h : 256 < ls.length
  · go_enter Try.func20, Try.ntmps20
    go_wp2
    go_ret
    exact ⟨by simp [checkN, h], rfl⟩
  · have HS := Lib.hid hS
    clear hS
    go_enter Try.func20, Try.ntmps20
    go_wp2
    go_loop [3, 4, 12] (fun b s i => ∃ k : Nat, k ≤ ls.length ∧ i = .int .i64 k ∧ b = .bool (decide (0 < filledK ls k)) ∧ s = .int .i64 (filledK ls k) ∧ Hid (∀ j, j < k → badLen (nth 0 ls j) = false)) (fun _ _ i => ls.length - (intOf i).toNat)
    case atStart => exact ⟨0, Nat.zero_le _, rfl, rfl, rfl, fun j hj => absurd hj (by omega)⟩
    case round =>
      obtain ⟨k, hk, rfl, rfl, rfl, hne⟩ := hrel
      by_cases hlt : k < ls.length
      · obtain ⟨ad, rfl, hc⟩ := rd_int HS.out k hlt
        have hle := filledK_le ls k
        by_cases hb : badLen (nth 0 ls k) = true
        · have HE := Lib.hid (show checkN ls = 1 by
            have : ls.any badLen = true := List.any_eq_true.2 ⟨_, nth_mem 0 ls k hlt, hb⟩
            simp [checkN, this])
          by_cases h0 : nth 0 ls k < 0
          · clear hle
            go_wp2
            go_ret
            exact ⟨ret_int HE.out.symm, rfl⟩
          · have h1 : 16 < nth 0 ls k := by simp [badLen] at hb; omega
            clear hle
            go_wp2
            go_ret
            exact ⟨ret_int HE.out.symm, rfl⟩
        · have hb' := Bool.eq_false_iff.2 hb
          have hne' : Hid (∀ j, j < k + 1 → badLen (nth 0 ls j) = false) := fun j hj => by
            rcases Nat.lt_or_ge j k with h | h
            · exact hne.out j h
            · obtain rfl : j = k := by omega
              exact hb'
          have hr : 0 ≤ nth 0 ls k ∧ nth 0 ls k ≤ 16 := by simp [badLen] at hb'; omega
          clear hb hb'
          obtain ⟨hr0, hr1⟩ := hr
          by_cases hx : 0 < nth 0 ls k
          · have hs := filledK_step ls k
            have hsp := share_pos (n := lenOf ls k) (by unfold lenOf; omega)
            have hsl := share_le (lenOf ls k)
            have hw1 : IntKind.i64.wrap (16 - nth 0 ls k) = 16 - nth 0 ls k := IntWalk.i64_in _ (by omega)
            have hcs : ((1 : Int) * 2 ^ (16 - nth 0 ls k).toNat) = (share (lenOf ls k) : Int) := by
              rw [hsp, Int.one_mul, show (16 - nth 0 ls k).toNat = 16 - lenOf ls k by unfold lenOf; omega]; simp
            have hw2 : IntKind.i64.wrap ((1 : Int) * 2 ^ (16 - nth 0 ls k).toNat) = (share (lenOf ls k) : Int) := by rw [hcs]; exact IntWalk.i64_in _ (by omega)
            have hw2' : IntKind.i64.wrap ((2 : Int) ^ (16 - nth 0 ls k).toNat) = (share (lenOf ls k) : Int) := by rw [Int.one_mul] at hw2; exact hw2
            have hw3 : IntKind.i64.wrap ((filledK ls k : Int) + (share (lenOf ls k) : Int)) = (filledK ls (k + 1) : Int) := by rw [hs, IntWalk.i64_in _ (by omega)]; simp
            have hpos : decide (0 < filledK ls (k + 1)) = true := by rw [hs, hsp]; have := Nat.two_pow_pos (16 - lenOf ls k); simp; omega
            have H := Lib.hid hpos
            clear hs hsp hsl hcs hle hpos
            go_wp2
            go_round
            case rel => exact ⟨k + 1, by omega, by go_num, by rw [H.out], rfl, hne'⟩
            case measure => simp [intOf]; omega
          · have H := Lib.hid (filledK_zero ls k (by omega))
            clear hle
            go_wp2
            go_round
            case rel => exact ⟨k + 1, by omega, by go_num, by rw [H.out], by rw [H.out], hne'⟩
            case measure => simp [intOf]; omega
      · obtain rfl : k = ls.length := by omega
        have ha : ls.any badLen = false := by
          rw [List.any_eq_false]
          intro x hx
          obtain ⟨j, hj, rfl⟩ := List.mem_iff_getElem.1 hx
          have := hne.out j hj
          rw [nth_eq 0 ls j hj] at this
          simp [this]
        have HE := Lib.hid (show checkN ls = if filledN ls = 0 then 5 else if 65536 < filledN ls then 4 else 0 by simp [checkN, h, ha])
        have hf : filledK ls ls.length = filledN ls := rfl
        rw [hf]
        have hle := filledK_le ls ls.length
        rw [hf] at hle
        generalize filledN ls = F at *
        clear ha hf
        by_cases h0 : F = 0
        · subst h0
          clear hle
          go_wp2
          go_ret
          exact ⟨ret_int (by rw [HE.out]; simp), rfl⟩
        · have h0' : 0 < F := by omega
          have hb : decide (0 < F) = true := by simpa using h0'
          by_cases h1 : 65536 < F
          · go_wp2
            go_ret
            exact ⟨ret_int (by rw [HE.out, if_neg h0, if_pos h1]), rfl⟩
          · go_wp2
            go_ret
            exact ⟨ret_int (by rw [HE.out, if_neg h0, if_neg h1]), rfl⟩

set_option maxHeartbeats 2000000 in
theorem rcomplete_any (A : Option Addr) (c : Nat) (ls : List Int) (w : World) (hS : RI w A c ls) :
    Calls Try.prog 16 #[.slice A ls.length c] w fun e w' => e = .returned (.tuple #[.bool (completeB ls), .int .i64 (checkN ls)]) ∧ w = w' := by
  have hn := hS.len
  by_cases h : checkN ls = 0
  · have hr := (checkN_right ls).1 h
    have HL := Lib.hid hr.ok
    have HR := Lib.hid h
    have HS := Lib.hid hS
    clear hr h hS
    go_enter Try.func16, Try.ntmps16
    go_wp2_with (go_at_call 20; refine (rcheck_any _ _ _ _ HS.out).mono ?_; rintro e w2 ⟨rfl, rfl⟩; rw [HR.out])
    go_loop [5, 15] (fun s i => ∃ k : Nat, k ≤ ls.length ∧ i = .int .i64 k ∧ s = .int .i64 (filledK ls k)) (fun _ i => ls.length - (intOf i).toNat)
    case atStart => exact ⟨0, Nat.zero_le _, rfl, rfl⟩
    case round =>
      obtain ⟨k, hk, rfl, rfl⟩ := hrel
      by_cases hlt : k < ls.length
      · obtain ⟨ad, rfl, hc⟩ := rd_int HS.out k hlt
        have hle := filledK_le ls k
        obtain ⟨hr0, hr1⟩ := HL.out.at k
        have h256 := HL.out.1
        by_cases hx : 0 < nth 0 ls k
        · have hs := filledK_step ls k
          have hsp := share_pos (n := lenOf ls k) (by unfold lenOf; omega)
          have hsl := share_le (lenOf ls k)
          have hw1 : IntKind.i64.wrap (16 - nth 0 ls k) = 16 - nth 0 ls k := IntWalk.i64_in _ (by omega)
          have hcs : ((1 : Int) * 2 ^ (16 - nth 0 ls k).toNat) = (share (lenOf ls k) : Int) := by
            rw [hsp, Int.one_mul, show (16 - nth 0 ls k).toNat = 16 - lenOf ls k by unfold lenOf; omega]; simp
          have hw2 : IntKind.i64.wrap ((1 : Int) * 2 ^ (16 - nth 0 ls k).toNat) = (share (lenOf ls k) : Int) := by rw [hcs]; exact IntWalk.i64_in _ (by omega)
          have hw2' : IntKind.i64.wrap ((2 : Int) ^ (16 - nth 0 ls k).toNat) = (share (lenOf ls k) : Int) := by rw [Int.one_mul] at hw2; exact hw2
          have hw3 : IntKind.i64.wrap ((filledK ls k : Int) + (share (lenOf ls k) : Int)) = (filledK ls (k + 1) : Int) := by rw [hs, IntWalk.i64_in _ (by omega)]; simp
          clear hs hsp hsl hcs hle
          go_wp2
          go_round
          case rel => exact ⟨k + 1, by omega, by go_num, rfl⟩
          case measure => simp [intOf]; omega
        · have H := Lib.hid (filledK_zero ls k (by omega))
          clear hle
          go_wp2
          go_round
          case rel => exact ⟨k + 1, by omega, by go_num, by rw [H.out]⟩
          case measure => simp [intOf]; omega
      · obtain rfl : k = ls.length := by omega
        have hf : filledK ls ls.length = filledN ls := rfl
        rw [hf]
        have hle := filledN_le HL.out
        have HE := Lib.hid (show completeB ls = decide (filledN ls = 65536) by simp [completeB, HR.out])
        generalize filledN ls = F at *
        clear hf
        go_wp2
        go_ret2
        refine ⟨ret_two ?_ (by rw [HR.out]; rfl), rfl⟩
        show Value.bool _ = Value.bool _
        rw [HE.out]
        congr 1
        rw [Bool.eq_iff_iff]
        simp; omega
  · have hb : (checkN ls != 0) = true := by simpa using h
    have HF := Lib.hid (show completeB ls = false by simp [completeB, h])
    clear h
    go_enter Try.func16, Try.ntmps16
    go_wp2_with (go_at_call 20; refine (rcheck_any _ _ _ _ hS).mono ?_; rintro e w2 ⟨rfl, rfl⟩)
    go_ret2
    exact ⟨ret_two (by rw [HF.out]; rfl) rfl, rfl⟩
end Go.Proofs.Ytlbgkkkcbnagbaa

namespace Go.Proofs.Ytlbgkkkcbnagbaa
open Go.RowKit Go.Shelf

set_option maxHeartbeats 2000000 in
theorem rcost_any (A B : Option Addr) (c d : Nat) (ls cs : List Int) (w : World) (hS : RI w A c ls) (hT : RI w B d cs) :
    Calls Try.prog 38 #[.slice A ls.length c, .slice B cs.length d] w fun e w' => e = .returned (.tuple #[.int .i64 (costN ls cs).1, .int .i64 (costN ls cs).2]) ∧ w = w' := by
  have hn := hS.len
  have hm := hT.len
  by_cases h : checkN ls = 0
  · have hr := (checkN_right ls).1 h
    by_cases hl : cs.length = ls.length
    · have hb : ((cs.length : Int) != (ls.length : Int)) = false := by simp [hl]
      have h256 := hr.len
      have HO := Lib.hid hr.ok
      have HR := Lib.hid h
      have HLE := Lib.hid hl
      have HS := Lib.hid hS
      have HT := Lib.hid hT
      have HBAD := Lib.hid (show countsB cs = false → costN ls cs = (0, 1) by intro hc; simp [costN, h, hc])
      have HGOOD := Lib.hid (show countsB cs = true → costN ls cs = if noneB ls cs = true then (0, 5) else (costK ls cs cs.length, 0) by intro hc; simp [costN, h, hc, hl])
      clear hr h hl hS hT
      go_enter Try.func38, Try.ntmps38
      go_wp2_with (go_at_call 20; refine (rcheck_any _ _ _ _ HS.out).mono ?_; rintro e w2 ⟨rfl, rfl⟩; rw [HR.out])
      go_loop [24] (fun i => ∃ k : Nat, k ≤ cs.length ∧ i = .int .i64 k ∧ Hid (∀ j, j < k → badCount (nth 0 cs j) = false)) (fun i => cs.length - (intOf i).toNat)
      case atStart => exact ⟨0, Nat.zero_le _, rfl, fun j hj => absurd hj (by omega)⟩
      case round =>
        obtain ⟨k, hk, rfl, hne⟩ := hrel
        by_cases hlt : k < cs.length
        · obtain ⟨ad, rfl, hc⟩ := rd_int HT.out k hlt
          by_cases hbc : badCount (nth 0 cs k) = true
          · have HE := Lib.hid (HBAD.out (by
              have : cs.any badCount = true := List.any_eq_true.2 ⟨_, nth_mem 0 cs k hlt, hbc⟩
              simp [countsB, this]))
            by_cases h0 : nth 0 cs k < 0
            · go_wp2
              go_ret2
              exact ⟨ret_two (by rw [HE.out]; rfl) (by rw [HE.out]; rfl), rfl⟩
            · have h1 : 1073741824 < nth 0 cs k := by simp [badCount] at hbc; omega
              go_wp2
              go_ret2
              exact ⟨ret_two (by rw [HE.out]; rfl) (by rw [HE.out]; rfl), rfl⟩
          · have hb' := Bool.eq_false_iff.2 hbc
            have hne' : Hid (∀ j, j < k + 1 → badCount (nth 0 cs j) = false) := fun j hj => by
              rcases Nat.lt_or_ge j k with h | h
              · exact hne.out j h
              · obtain rfl : j = k := by omega
                exact hb'
            have hr : 0 ≤ nth 0 cs k ∧ nth 0 cs k ≤ 1073741824 := by simp [badCount] at hb'; omega
            clear hbc hb'
            obtain ⟨hr0, hr1⟩ := hr
            go_wp2
            go_round
            case rel => exact ⟨k + 1, by omega, by go_num, hne'⟩
            case measure => simp [intOf]; omega
        · have hca : cs.any badCount = false := by
            rw [List.any_eq_false]
            intro x hx
            obtain ⟨j, hj, rfl⟩ := List.mem_iff_getElem.1 hx
            have := hne.out j (by omega)
            rw [nth_eq 0 cs j hj] at this
            simp [this]
          have hcB : countsB cs = true := by
            have := HLE.out
            simp [countsB, hca]; omega
          have HE := Lib.hid (HGOOD.out hcB)
          have HB := Lib.hid (nth_bound (counts_bound hcB).2 (by decide))
          clear hca hcB hne
          go_wp2
          go_loop [9, 37] (fun s i => ∃ k : Nat, k ≤ cs.length ∧ i = .int .i64 k ∧ s = .int .i64 (costK ls cs k) ∧ Hid (∀ j, j < k → ¬ (0 < nth 0 cs j ∧ nth 0 ls j = 0))) (fun _ i => cs.length - (intOf i).toNat)
          case atStart => exact ⟨0, Nat.zero_le _, rfl, rfl, fun j hj => absurd hj (by omega)⟩
          case round =>
            obtain ⟨k, hk, rfl, rfl, hne⟩ := hrel
            by_cases hlt : k < cs.length
            · obtain ⟨ad, rfl, hc⟩ := rd_int HT.out k hlt
              obtain ⟨ad', rfl, hc'⟩ := rd_int HS.out k (by rw [← HLE.out]; exact hlt)
              have hkl : k < ls.length := by rw [← HLE.out]; exact hlt
              obtain ⟨g0, g1⟩ := HB.out k
              obtain ⟨l0, l1⟩ := HO.out.at k
              have hp := prod_bound g0 g1 l0 l1
              have hsum := sumI_le (n := k) (f := fun i => nth 0 cs i * nth 0 ls i) (lo := 0) (hi := 17179869184) fun j _ => by
                obtain ⟨g0, g1⟩ := HB.out j
                obtain ⟨l0, l1⟩ := HO.out.at j
                exact prod_bound g0 g1 l0 l1
              have hs : costK ls cs (k + 1) = costK ls cs k + nth 0 cs k * nth 0 ls k := sumI_succ _ _
              have hsum2 : 0 ≤ costK ls cs k ∧ costK ls cs k ≤ 17179869184 * k := by simpa [costK] using hsum
              have hcm := Int.mul_comm (nth 0 ls k) (nth 0 cs k)
              have hw1 : IntKind.i64.wrap (nth 0 ls k * nth 0 cs k) = nth 0 cs k * nth 0 ls k := by rw [hcm]; exact IntWalk.i64_in _ (by omega)
              have hw2 : IntKind.i64.wrap (costK ls cs k + nth 0 cs k * nth 0 ls k) = costK ls cs (k + 1) := by rw [hs]; exact IntWalk.i64_in _ (by omega)
              have H := Lib.hid hs
              clear hs hsum hsum2 hp hcm
              by_cases hx : 0 < nth 0 cs k
              · by_cases hz : nth 0 ls k = 0
                · have HN := Lib.hid (show noneB ls cs = true by
                    unfold noneB
                    rw [List.any_eq_true]
                    exact ⟨k, by simpa using hlt, by simp [hx, hz]⟩)
                  have hzb : (nth 0 ls k == 0) = true := by simp [hz]
                  clear hz hw1 hw2
                  go_wp2
                  go_ret2
                  exact ⟨ret_two (by rw [HE.out, if_pos HN.out]; rfl) (by rw [HE.out, if_pos HN.out]; rfl), rfl⟩
                · have hzb : (nth 0 ls k == 0) = false := by simp [hz]
                  have hne' : Hid (∀ j, j < k + 1 → ¬ (0 < nth 0 cs j ∧ nth 0 ls j = 0)) := fun j hj => by
                    rcases Nat.lt_or_ge j k with h | h
                    · exact hne.out j h
                    · obtain rfl : j = k := by omega
                      exact fun h => hz h.2
                  clear hz
                  go_wp2
                  go_round
                  case rel => exact ⟨k + 1, by omega, by go_num, rfl, hne'⟩
                  case measure => simp [intOf]; omega
              · have hne' : Hid (∀ j, j < k + 1 → ¬ (0 < nth 0 cs j ∧ nth 0 ls j = 0)) := fun j hj => by
                  rcases Nat.lt_or_ge j k with h | h
                  · exact hne.out j h
                  · obtain rfl : j = k := by omega
                    exact fun h => hx h.1
                go_wp2
                go_round
                case rel => exact ⟨k + 1, by omega, by go_num, rfl, hne'⟩
                case measure => simp [intOf]; omega
            · obtain rfl : k = cs.length := by omega
              have HN := Lib.hid (show ¬ noneB ls cs = true by
                unfold noneB
                rw [List.any_eq_true]
                rintro ⟨j, hj, hx⟩
                simp only [List.mem_range] at hj
                simp only [Bool.and_eq_true, decide_eq_true_eq] at hx
                exact hne.out j hj hx)
              go_wp2
              go_ret2
              exact ⟨ret_two (by rw [HE.out, if_neg HN.out]; rfl) (by rw [HE.out, if_neg HN.out]; rfl), rfl⟩
    · have hb : ((cs.length : Int) != (ls.length : Int)) = true := by simp; omega
      have HE := Lib.hid (show costN ls cs = (0, 1) by simp [costN, h, hl])
      have HR := Lib.hid h
      clear h hl hr
      go_enter Try.func38, Try.ntmps38
      go_wp2_with (go_at_call 20; refine (rcheck_any _ _ _ _ hS).mono ?_; rintro e w2 ⟨rfl, rfl⟩; rw [HR.out])
      go_ret2
      exact ⟨ret_two (by rw [HE.out]; rfl) (by rw [HE.out]; rfl), rfl⟩
  · have hb : (checkN ls != 0) = true := by simpa using h
    have HE := Lib.hid (show costN ls cs = (0, checkN ls) by simp [costN, h])
    clear h
    go_enter Try.func38, Try.ntmps38
    go_wp2_with (go_at_call 20; refine (rcheck_any _ _ _ _ hS).mono ?_; rintro e w2 ⟨rfl, rfl⟩)
    go_ret2
    exact ⟨ret_two (by rw [HE.out]; rfl) (by rw [HE.out]; rfl), rfl⟩
end Go.Proofs.Ytlbgkkkcbnagbaa

namespace Go.Proofs.Ytlbgkkkcbnagbaa
open Go.RowKit Go.Shelf

theorem flatR_prefix {β : Type} (f : Nat → List β) (n d : Nat) : ∃ B, (List.range (n + d)).flatMap f = (List.range n).flatMap f ++ B := by
  induction d with
  | zero => exact ⟨[], by simp⟩
  | succ d ih =>
    obtain ⟨B, hB⟩ := ih
    exact ⟨B ++ f (n + d), by rw [← Nat.add_assoc, List.range_succ, List.flatMap_append, hB]; simp⟩
theorem filtR_prefix (p : Nat → Bool) (n d : Nat) : ∃ B, (List.range (n + d)).filter p = (List.range n).filter p ++ B := by
  induction d with
  | zero => exact ⟨[], by simp⟩
  | succ d ih =>
    obtain ⟨B, hB⟩ := ih
    exact ⟨B ++ [n + d].filter p, by rw [← Nat.add_assoc, List.range_succ, List.filter_append, hB, List.append_assoc]⟩
/-- The words of lengths up to n, and the first k symbols of length n + 1. -/
def preP (ls : List Int) (n k : Nat) : List Nat := ((List.range n).flatMap fun m => (List.range ls.length).filter fun i => lenOf ls i == m + 1) ++ (List.range k).filter fun i => lenOf ls i == n + 1
theorem preP_zero (ls : List Int) : preP ls 0 0 = [] := by simp [preP]
theorem preP_hit (ls : List Int) (n k : Nat) (h : lenOf ls k = n + 1) : preP ls n (k + 1) = preP ls n k ++ [k] := by
  simp [preP, List.range_succ, List.filter_append, h]
theorem preP_miss (ls : List Int) (n k : Nat) (h : lenOf ls k ≠ n + 1) : preP ls n (k + 1) = preP ls n k := by
  simp [preP, List.range_succ, List.filter_append, h]
theorem preP_next (ls : List Int) (n : Nat) : preP ls n ls.length = preP ls (n + 1) 0 := by
  simp [preP, List.range_succ, List.flatMap_append]
theorem preP_all (ls : List Int) : preP ls 16 0 = ordN ls := by simp [preP, ordN]
theorem preP_prefix (ls : List Int) (n k : Nat) (hn : n < 16) (hk : k ≤ ls.length) : ∃ B, ordN ls = preP ls n k ++ B := by
  obtain ⟨B1, h1⟩ := flatR_prefix (fun m => (List.range ls.length).filter fun i => lenOf ls i == m + 1) (n + 1) (15 - n)
  obtain ⟨B2, h2⟩ := filtR_prefix (fun i => lenOf ls i == n + 1) k (ls.length - k)
  rw [show n + 1 + (15 - n) = 16 by omega] at h1
  rw [show k + (ls.length - k) = ls.length by omega] at h2
  refine ⟨B2 ++ B1, ?_⟩
  unfold ordN preP
  rw [h1, List.range_succ, List.flatMap_append]
  simp only [List.flatMap_cons, List.flatMap_nil, List.append_nil]
  rw [h2]
  simp [List.append_assoc]
/-- At a symbol of length n + 1. -/
theorem preP_here (ls : List Int) (n k : Nat) (hn : n < 16) (hk : k < ls.length) (h : lenOf ls k = n + 1) : ∃ B, ordN ls = preP ls n k ++ k :: B := by
  obtain ⟨B, hB⟩ := preP_prefix ls n (k + 1) hn hk
  exact ⟨B, by rw [hB, preP_hit ls n k h, List.append_assoc]; rfl⟩
def outC (ls : List Int) (pre : List Nat) : List Int := (List.range ls.length).map fun i => if i ∈ pre then (codeN ls i : Int) else 0
theorem outC_length (ls : List Int) (pre : List Nat) : (outC ls pre).length = ls.length := by simp [outC]
theorem outC_nil (ls : List Int) : outC ls [] = List.replicate ls.length 0 := by
  simp only [outC, List.not_mem_nil, if_false]
  rw [List.map_const', List.length_range]
theorem outC_snoc (ls : List Int) (pre : List Nat) (x : Nat) (_ : x < ls.length) : outC ls (pre ++ [x]) = (outC ls pre).set x (codeN ls x : Int) := by
  apply List.ext_getElem
  · simp [outC]
  · intro i h1 h2
    by_cases hi : x = i
    · subst hi
      simp [outC]
    · rw [List.getElem_set_ne hi]
      simp only [outC, List.getElem_map, List.getElem_range, List.mem_append, List.mem_singleton]
      by_cases hm : i ∈ pre
      · simp [hm]
      · rw [if_neg hm, if_neg (by rintro (h | h); exact hm h; exact hi h.symm)]
theorem outC_all {ls : List Int} (h16 : ∀ k, lenOf ls k ≤ 16) : outC ls (ordN ls) = codesL ls := by
  unfold outC codesL
  apply List.map_congr_left
  intro i hi
  split
  · rfl
  · rename_i h
    rw [mem_ordN h16] at h
    have : lenOf ls i = 0 := by
      have hl := List.mem_range.1 hi
      rcases Nat.eq_zero_or_pos (lenOf ls i) with h0 | h0
      · exact h0
      · exact absurd ⟨hl, h0⟩ h
    simp [codeN, this]

set_option maxHeartbeats 4000000 in
set_option maxRecDepth 100000 in
theorem rcodes_any (A : Option Addr) (c : Nat) (ls : List Int) (w : World) (hS : RI w A c ls) :
    Calls Try.prog 18 #[.slice A ls.length c] w fun e w' => ∃ v, e = .returned (.tuple #[v, .int .i64 (checkN ls)]) ∧ OwnI 3 .i64 w.heap.size w' v (codesR ls) ∧ Below w.heap.size w w' := by
  have hn := hS.len
  by_cases h : checkN ls = 0
  · have hr := (checkN_right ls).1 h
    have h256 := hr.len
    have hmk := make_row (P := Try.prog) 22 3 .i64 8 Try.underlying22 infoI (by decide) ls.length (by omega)
    have HX := Lib.hid h
    have HE := Lib.hid (show codesR ls = codesL ls by simp [codesR, h])
    have HR := Lib.hid hr
    have HS := Lib.hid hS
    clear h hr hS
    go_enter Try.func18, Try.ntmps18
    go_wp2_with (go_at_call 20; refine (rcheck_any _ _ _ _ HS.out).mono ?_; rintro e w2 ⟨rfl, rfl⟩; rw [HX.out])
    have hO := own_made w 3 .i64 ls.length (by omega)
    have hB := below_alloc (Below.refl w.heap.size w) (.cells (madeCells #[.int .i64 0] ls.length) 3)
    generalize w.alloc (.cells (madeCells #[.int .i64 0] ls.length) 3) = w1 at hO hB ⊢
    clear hmk
    go_loopw [6, 7, 8] (fun nx la l wr => ∃ n : Nat, n ≤ 16 ∧ l = .int .i64 ((n + 1 : Nat) : Int) ∧ nx = .int .i64 ((wN ls (preP ls n 0)).2 : Int) ∧ la = .int .i64 ((wN ls (preP ls n 0)).1 : Int) ∧ OwnI 3 .i64 w.heap.size wr (.slice (some ⟨w.heap.size, 0, none⟩) ls.length ls.length) (outC ls (preP ls n 0)) ∧ Below w.heap.size w wr) (fun _ _ l _ => 17 - (intOf l).toNat)
    case atStart => exact ⟨0, Nat.zero_le _, rfl, rfl, rfl, by rw [preP_zero, outC_nil]; exact hO, hB⟩
    case round =>
      clear hO hB
      obtain ⟨n, hn16, rfl, rfl, rfl, hO, hB⟩ := hrel
      by_cases hlt : n < 16
      · have hnc : ((n + 1 : Nat) : Int) ≤ 16 := by omega
        have hwr : IntKind.i64.wrap (((n + 1 : Nat) : Int) + 1) = ((n + 1 + 1 : Nat) : Int) := by rw [IntWalk.i64_in _ (by omega)]; omega
        have HO := Lib.hid hO
        clear hO
        go_wp2
        go_loopw [6, 7, 25] (fun nx la i wr2 => ∃ k : Nat, k ≤ ls.length ∧ i = .int .i64 (k : Int) ∧ nx = .int .i64 ((wN ls (preP ls n k)).2 : Int) ∧ la = .int .i64 ((wN ls (preP ls n k)).1 : Int) ∧ OwnI 3 .i64 w.heap.size wr2 (.slice (some ⟨w.heap.size, 0, none⟩) ls.length ls.length) (outC ls (preP ls n k)) ∧ Below w.heap.size w wr2) (fun _ _ i _ => ls.length - (intOf i).toNat)
        case atStart => exact ⟨0, Nat.zero_le _, rfl, rfl, rfl, HO.out, hB⟩
        case round =>
          clear hB HO
          obtain ⟨k, hk, rfl, rfl, rfl, hO, hB⟩ := hrel
          by_cases hkl : k < ls.length
          · obtain ⟨ad, rfl, hc⟩ := rd_int (HS.out.below hB) k hkl
            obtain ⟨l0, l1⟩ := HR.out.ok.at k
            have h16 := HR.out.ok.len16
            by_cases hx : lenOf ls k = n + 1
            · have hxi : nth 0 ls k = ((n + 1 : Nat) : Int) := by unfold lenOf at hx; omega
              rw [hxi] at hc
              obtain ⟨B, hord⟩ := preP_here ls n k hlt hkl hx
              have hcode := wN_code h16 _ B k hord
              have hlast := wN_le h16 _ B k hord
              have hsn := wN_snoc ls (preP ls n k) k
              rw [hcode, hx] at hsn
              rw [hx] at hlast
              have hpos := wN_pos h16 _ B k hord
              have hcl := code_lt h16 HR.out.full hkl
              rw [hx] at hcl
              have h2L : 2 ^ (n + 1) ≤ 65536 := by have := Nat.pow_le_pow_right (n := 2) (by decide) (show n + 1 ≤ 16 by omega); simpa using this
              have HP := Lib.hid (preP_hit ls n k hx)
              have HC := Lib.hid hcode
              have HOS := Lib.hid (outC_snoc ls (preP ls n k) k hkl)
              obtain ⟨ka, kf⟩ := hO.at_ k (by rw [outC_length]; exact hkl)
              have HO := Lib.hid hO
              have HLX := Lib.hid hx
              generalize hW : wN ls (preP ls n k) = W at *
              obtain ⟨a, b⟩ := W
              have HW := Lib.hid hW
              generalize hC : codeN ls k = C at *
              have hki : (k : Int) < (ls.length : Int) := by omega
              clear hO hord hcode hx hxi hW hC l0 l1 h16
              rcases hpos with hz | hz
              · injection hz with hz1 hz2
                subst hz1 hz2
                have hC0 : C = 0 := by unfold stepW at hsn; rw [if_pos rfl] at hsn; injection hsn
                subst hC0
                clear hsn hcl
                go_wp2
                go_roundw
                case rel =>
                  have hs := HO.out.set k (0 : Int)
                  exact ⟨k + 1, by omega, by go_num, by rw [HP.out, HC.out], by rw [HP.out, HC.out, HLX.out], by rw [HP.out, HOS.out]; exact hs.1, below_grown hB hB.size hs.2 (fun r e => by have := Option.some.inj e; omega)⟩
                case measure => simp [intOf]; omega
              · have hz : 0 < a := hz
                have hla : a ≤ n + 1 := hlast
                obtain ⟨d, hd⟩ : ∃ d, n + 1 - a = d := ⟨_, rfl⟩
                have hCb : C = (b + 1) * 2 ^ d := by
                  unfold stepW at hsn
                  rw [if_neg (fun e => by injection e with h1 h2; omega)] at hsn
                  injection hsn with h1 h2
                  rw [← hd, h2, HLX.out]
                have hb16 : b + 1 ≤ 65536 := by
                  have h1 : 1 ≤ 2 ^ d := Nat.one_le_two_pow
                  have h3 : (b + 1) * 1 ≤ (b + 1) * 2 ^ d := Nat.mul_le_mul_left _ h1
                  omega
                have hw1 : IntKind.i64.wrap (((n + 1 : Nat) : Int) - (a : Int)) = (d : Int) := by rw [IntWalk.i64_in _ (by omega)]; omega
                have hw2 : IntKind.i64.wrap (((b : Int) + 1) * 2 ^ d) = (C : Int) := by
                  have e1 : (((b : Int) + 1) * 2 ^ d) = (C : Int) := by rw [hCb]; simp
                  rw [e1]; exact IntWalk.i64_in _ (by omega)
                have HWW := Lib.hid (show wrap64 (((b : Int) + 1) * 2 ^ (n + 1 - a)) = (C : Int) by rw [hd]; rw [IntWalk.wrap64_in _ (by rw [show (((b : Int) + 1) * 2 ^ d) = (C : Int) by rw [hCb]; simp]; omega)]; rw [hCb]; simp)
                have hd16 : d ≤ 64 := by omega
                have hai : (0 : Int) < (a : Int) := by omega
                clear hsn hcl hlast hd hCb h2L
                go_wp2
                go_roundw
                case rel =>
                  rw [HWW.out]
                  have hs := HO.out.set k (C : Int)
                  exact ⟨k + 1, by omega, by go_num, by rw [HP.out, HC.out], by rw [HP.out, HC.out, HLX.out], by rw [HP.out, HOS.out]; exact hs.1, below_grown hB hB.size hs.2 (fun r e => by have := Option.some.inj e; omega)⟩
                case measure => simp [intOf]; omega
            · have HP := Lib.hid (preP_miss ls n k hx)
              have hne : (nth 0 ls k != ((n + 1 : Nat) : Int)) = true := by simp only [bne_iff_ne, ne_eq]; unfold lenOf at hx; omega
              have HO := Lib.hid hO
              clear hO hx
              go_wp2
              go_roundw
              case rel => exact ⟨k + 1, by omega, by go_num, by rw [HP.out], by rw [HP.out], by rw [HP.out]; exact HO.out, hB⟩
              case measure => simp [intOf]; omega
          · obtain rfl : k = ls.length := by omega
            have HP := Lib.hid (preP_next ls n)
            have HO := Lib.hid hO
            clear hO
            go_wp2
            go_roundw
            case rel => exact ⟨n + 1, by omega, by go_num, by rw [HP.out], by rw [HP.out], by rw [← HP.out]; exact HO.out, hB⟩
            case measure => simp [intOf]; omega
      · obtain rfl : n = 16 := by omega
        have HP := Lib.hid (show outC ls (preP ls 16 0) = codesL ls by rw [preP_all, outC_all HR.out.ok.len16])
        rw [HP.out] at hO
        go_wp2
        go_ret2
        exact ⟨_, ret_two rfl (by rw [HX.out]; rfl), by rw [HE.out]; exact hO, hB⟩
  · have hb : (checkN ls != 0) = true := by simpa using h
    have HE := Lib.hid (show codesR ls = [] by simp [codesR, h])
    clear h
    go_enter Try.func18, Try.ntmps18
    go_wp2_with (go_at_call 20; refine (rcheck_any _ _ _ _ hS).mono ?_; rintro e w2 ⟨rfl, rfl⟩)
    go_ret2
    exact ⟨_, ret_two rfl rfl, by rw [HE.out]; exact OwnI.nil _ _ _ _, Below.refl _ _⟩
end Go.Proofs.Ytlbgkkkcbnagbaa
