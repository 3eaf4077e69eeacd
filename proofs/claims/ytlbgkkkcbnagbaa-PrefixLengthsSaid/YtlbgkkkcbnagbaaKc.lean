/- prefix: filled, Check, Complete, isCounts, has, Cost, and slices' IndexFunc and ContainsFunc: what each call returns, for any input and memory. · prefix: filled, Check, Complete, isCounts, has: what each call returns, for any input and memory. · prefix: Cost, ordered: what each call returns, for any input and memory. · prefix: ordered: what it yields, for any lengths and memory. -/
import Derived.Test.YtlbgkkkcbnagbaaKa
import Derived.Test.YtlbgkkkcbnagbaaKb
import Derived.Shelf.Abstract
import Derived.RangeFuncLeaves
import Derived.RangeFuncCalls
import Derived.RangeFuncBound
import Derived.WalkKit
import Derived.OwnWalkIn
import Derived.TacticsInMore
import Derived.LoopNIn
import Derived.LoopIn
namespace Go.Proofs.Ytlbgkkkcbnagbaa
open Go.RowKit Go.Shelf

/-! ### A predicate that is handed in -/
/-- The place of the first element of which a predicate holds, or -1. -/
def idxP (p : Int → Bool) (xs : List Int) : Int := if xs.any p then ((xs.findIdx p : Nat) : Int) else -1
theorem idxP_hit {p : Int → Bool} {xs : List Int} {k : Nat} (h : k < xs.length) (hx : p (nth 0 xs k) = true) (hne : ∀ j, j < k → p (nth 0 xs j) = false) : idxP p xs = (k : Int) := by
  have h1 : xs.any p = true := List.any_eq_true.2 ⟨_, nth_mem 0 xs k h, hx⟩
  have h2 : xs.findIdx p = k := by
    rw [List.findIdx_eq h]
    refine ⟨by rw [← nth_eq 0 xs k h]; exact hx, fun j hj => ?_⟩
    have := hne j hj
    rw [nth_eq 0 xs j (by omega)] at this
    exact this
  unfold idxP
  rw [if_pos h1, h2]
theorem idxP_miss {p : Int → Bool} {xs : List Int} (hne : ∀ j, j < xs.length → p (nth 0 xs j) = false) : idxP p xs = -1 := by
  have h1 : xs.any p = false := by
    rw [List.any_eq_false]
    intro x hx
    obtain ⟨j, hj, rfl⟩ := List.mem_iff_getElem.1 hx
    have := hne j hj
    rw [nth_eq 0 xs j hj] at this
    simp [this]
  unfold idxP
  rw [if_neg (by rw [h1]; simp)]
theorem idxP_any (p : Int → Bool) (xs : List Int) : decide (0 ≤ idxP p xs) = xs.any p := by
  unfold idxP
  by_cases h : xs.any p = true
  · rw [if_pos h, h]; simp
  · rw [if_neg h, Bool.eq_false_iff.2 h]; rfl
/-- What a predicate promises: it tells of each number, and turns nothing that lay. -/
def Pred (P : Program) (g : Nat) (cb : Array Value) (p : Int → Bool) (w : World) : Prop :=
  ∀ W, Below w.heap.size w W → ∀ x, Calls P g (#[.int .i64 x] ++ cb) W fun e W' => e = .returned (.bool (p x)) ∧ Below W.heap.size W W'

set_option maxHeartbeats 1000000 in
theorem indexFunc_any (A : Option Addr) (c : Nat) (xs : List Int) (g : Nat) (cb : Array Value) (p : Int → Bool) (w : World) (hS : RI w A c xs) (eg : ∀ args w, (callFunc g args).run Try.prog w = .ok (.enter g args) w) (hp : Pred Try.prog g cb p w) :
    Calls Try.prog 76 #[.slice A xs.length c, .func (.func g) #[] cb] w fun e w' => e = .returned (.int .i64 (idxP p xs)) ∧ Below w.heap.size w w' := by
  have hn := hS.len
  have HP := Lib.hid hp
  clear hp
  go_enter Try.func76, Try.ntmps76
  go_wp2
  go_loopw [8] (fun i wr => ∃ k : Nat, k ≤ xs.length ∧ i = .int .i64 k ∧ Hid (∀ j, j < k → p (nth 0 xs j) = false) ∧ Below w.heap.size w wr) (fun i _ => xs.length - (intOf i).toNat)
  case atStart => exact ⟨0, Nat.zero_le _, rfl, fun j hj => absurd hj (by omega), Below.refl _ _⟩
  case round =>
    obtain ⟨k, hk, rfl, hne, hB⟩ := hrel
    by_cases hlt : k < xs.length
    · obtain ⟨ad, rfl, hc⟩ := rd_int (hS.below hB) k hlt
      by_cases hx : p (nth 0 xs k) = true
      · have H := Lib.hid (idxP_hit hlt hx hne.out)
        have HX := Lib.hid hx
        clear hx
        go_wp2_with (go_at_fn g; refine (HP.out _ hB _).mono ?_; rintro e w2 ⟨rfl, b2⟩; rw [HX.out])
        go_ret
        exact ⟨ret_int H.out.symm, below2 hB b2⟩
      · have HX := Lib.hid (Bool.eq_false_iff.2 hx)
        have hne' : Hid (∀ j, j < k + 1 → p (nth 0 xs j) = false) := fun j hj => by
          rcases Nat.lt_or_ge j k with h | h
          · exact hne.out j h
          · obtain rfl : j = k := by omega
            exact HX.out
        clear hx
        go_wp2_with (go_at_fn g; refine (HP.out _ hB _).mono ?_; rintro e w2 ⟨rfl, b2⟩; rw [HX.out])
        go_roundw
        case rel => exact ⟨k + 1, by omega, by go_num, hne', below2 hB b2⟩
        case measure => simp [intOf]; omega
    · have H := Lib.hid (idxP_miss (p := p) (xs := xs) (fun j hj => hne.out j (by omega)))
      go_wp2
      go_ret
      exact ⟨ret_int H.out.symm, hB⟩
set_option maxHeartbeats 400000 in
theorem containsFunc_any (A : Option Addr) (c : Nat) (xs : List Int) (g : Nat) (cb : Array Value) (p : Int → Bool) (w : World) (hS : RI w A c xs) (eg : ∀ args w, (callFunc g args).run Try.prog w = .ok (.enter g args) w) (hp : Pred Try.prog g cb p w) :
    Calls Try.prog 51 #[.slice A xs.length c, .func (.func g) #[] cb] w fun e w' => e = .returned (.bool (xs.any p)) ∧ Below w.heap.size w w' := by
  have H := Lib.hid (idxP_any p xs)
  have HI := Lib.hid (indexFunc_any A c xs g cb p w hS eg hp)
  clear hp eg
  go_enter Try.func51, Try.ntmps51
  go_wp2_with (go_at_call 76; refine HI.out.mono ?_; rintro e w' ⟨rfl, b2⟩)
  go_ret
  exact ⟨ret_bool H.out, b2⟩
end Go.Proofs.Ytlbgkkkcbnagbaa

namespace Go.Proofs.Ytlbgkkkcbnagbaa
open Go.RowKit Go.Shelf

def badLen (n : Int) : Bool := decide (n < 0) || decide (16 < n)
def LensOk (ls : List Int) : Prop := ls.length ≤ 256 ∧ ∀ x ∈ ls, 0 ≤ x ∧ x ≤ 16
def checkN (ls : List Int) : Int := if decide (256 < ls.length) || ls.any badLen then 1 else if filledN ls = 0 then 5 else if 65536 < filledN ls then 4 else 0
theorem nth_bound {ls : List Int} {lo hi : Int} (h : ∀ x ∈ ls, lo ≤ x ∧ x ≤ hi) (h0 : lo ≤ 0 ∧ 0 ≤ hi) (k : Nat) : lo ≤ nth 0 ls k ∧ nth 0 ls k ≤ hi := by
  rcases Nat.lt_or_ge k ls.length with hk | hk
  · exact h _ (nth_mem 0 ls k hk)
  · have : nth 0 ls k = 0 := by simp [nth, List.getD_eq_getElem?_getD, List.getElem?_eq_none hk]
    rw [this]; exact h0
theorem LensOk.at {ls : List Int} (h : LensOk ls) (k : Nat) : 0 ≤ nth 0 ls k ∧ nth 0 ls k ≤ 16 := nth_bound h.2 (by decide) k
theorem LensOk.len16 {ls : List Int} (h : LensOk ls) (k : Nat) : lenOf ls k ≤ 16 := by have := h.at k; unfold lenOf; omega
theorem lensOk_iff (ls : List Int) : LensOk ls ↔ (decide (256 < ls.length) || ls.any badLen) = false := by
  unfold LensOk
  rw [Bool.or_eq_false_iff, decide_eq_false_iff_not, List.any_eq_false]
  constructor
  · rintro ⟨h1, h2⟩
    refine ⟨by omega, fun x hx => ?_⟩
    have := h2 x hx
    simp [badLen]; omega
  · rintro ⟨h1, h2⟩
    refine ⟨by omega, fun x hx => ?_⟩
    have := h2 x hx
    simp [badLen] at this; omega
theorem share_le (n : Nat) : share n ≤ 32768 := by
  unfold share
  split
  · omega
  · have := Nat.pow_le_pow_right (n := 2) (by decide) (show 16 - n ≤ 15 by omega)
    omega
/-- How much the first symbols take. -/
def filledK (ls : List Int) (k : Nat) : Nat := sumTo k fun k => share (lenOf ls k)
theorem filledK_le (ls : List Int) (k : Nat) : filledK ls k ≤ k * 32768 := by
  induction k with
  | zero => exact Nat.zero_le _
  | succ k ih =>
    have := share_le (lenOf ls k)
    unfold filledK at *
    rw [sumTo_succ]; omega
theorem shr16 (n : Nat) (h : n ≤ 16) : 65536 / 2 ^ n = 2 ^ (16 - n) := by
  have : 2 ^ (16 - n) * 2 ^ n = 65536 := by rw [← Nat.pow_add, show 16 - n + n = 16 by omega]
  rw [← this, Nat.mul_div_cancel _ (Nat.two_pow_pos n)]

set_option maxHeartbeats 400000 in
theorem filled_any (A : Option Addr) (c : Nat) (ls : List Int) (w : World) (hS : RI w A c ls) (hl : LensOk ls) :
    Calls Try.prog 49 #[.slice A ls.length c] w fun e w' => e = .returned (.int .i64 (filledN ls)) ∧ w = w' := by
  have hn := hS.len
  have h256 := hl.1
  have HL := Lib.hid hl
  clear hl
  go_enter Try.func49, Try.ntmps49
  go_wp2
  go_loop [3, 8] (fun s i => ∃ k : Nat, k ≤ ls.length ∧ i = .int .i64 k ∧ s = .int .i64 (filledK ls k)) (fun _ i => ls.length - (intOf i).toNat)
  case atStart => exact ⟨0, Nat.zero_le _, rfl, rfl⟩
  case round =>
    obtain ⟨k, hk, rfl, rfl⟩ := hrel
    by_cases hlt : k < ls.length
    · obtain ⟨ad, rfl, hc⟩ := rd_int hS k hlt
      obtain ⟨h0, h1⟩ := HL.out.at k
      have hle := filledK_le ls k
      by_cases hx : 0 < nth 0 ls k
      · have hq : (65536 : Int) / 2 ^ (nth 0 ls k).toNat = (share (lenOf ls k) : Nat) := by
          rw [share_pos (show 0 < lenOf ls k by unfold lenOf; omega), ← shr16 _ (show lenOf ls k ≤ 16 by unfold lenOf; omega), Int.natCast_ediv, Int.natCast_pow]
          rfl
        have hs : (filledK ls (k + 1) : Nat) = filledK ls k + share (lenOf ls k) := sumTo_succ _ _
        have hsl := share_le (lenOf ls k)
        have H := Lib.hid hs
        have HQ := Lib.hid hq
        have HS := Lib.hid hsl
        have HLE := Lib.hid hle
        clear hs hq hsl hle
        go_wp2
        go_round
        case rel => exact ⟨k + 1, by omega, by go_num, by have := HS.out; have := HLE.out; rw [H.out, HQ.out, IntWalk.wrap64_in _ (by omega)]; go_num⟩
        case measure => simp [intOf]; omega
      · have hs : (filledK ls (k + 1) : Nat) = filledK ls k := by
          show sumTo (k + 1) _ = _
          rw [sumTo_succ, show lenOf ls k = 0 by unfold lenOf; omega]; rfl
        have H := Lib.hid hs
        clear hs hle
        go_wp2
        go_round
        case rel => exact ⟨k + 1, by omega, by go_num, by rw [H.out]⟩
        case measure => simp [intOf]; omega
    · obtain rfl : k = ls.length := by omega
      go_wp2
      go_ret
      exact ⟨rfl, rfl⟩
theorem filledN_le {ls : List Int} (h : LensOk ls) : filledN ls ≤ 8388608 := by
  have h1 : filledN ls = filledK ls ls.length := rfl
  have := filledK_le ls ls.length
  have := h.1
  omega

set_option maxHeartbeats 400000 in
theorem check1_any (n : Int) (w : World) : Calls Try.prog 52 #[.int .i64 n] w fun e w' => e = .returned (.bool (badLen n)) ∧ w = w' := by
  by_cases h1 : n < 0
  · go_enter Try.func52, Try.ntmps52
    go_wp2
    go_ret
    exact ⟨by simp [badLen, h1], rfl⟩
  · go_enter Try.func52, Try.ntmps52
    go_wp2
    go_ret
    exact ⟨by simp [badLen]; omega, rfl⟩
theorem pred_check1 (w : World) : Pred Try.prog 52 #[] badLen w := fun W _ x => (check1_any x W).mono fun _ _ ⟨h1, h2⟩ => ⟨h1, h2 ▸ Below.refl _ _⟩
def badCount (n : Int) : Bool := decide (n < 0) || decide (1073741824 < n)
set_option maxHeartbeats 400000 in
theorem isCounts1_any (n : Int) (w : World) : Calls Try.prog 77 #[.int .i64 n] w fun e w' => e = .returned (.bool (badCount n)) ∧ w = w' := by
  by_cases h1 : n < 0
  · go_enter Try.func77, Try.ntmps77
    go_wp2
    go_ret
    exact ⟨by simp [badCount, h1], rfl⟩
  · go_enter Try.func77, Try.ntmps77
    go_wp2
    go_ret
    exact ⟨by simp [badCount]; omega, rfl⟩
theorem pred_isCounts1 (w : World) : Pred Try.prog 77 #[] badCount w := fun W _ x => (isCounts1_any x W).mono fun _ _ ⟨h1, h2⟩ => ⟨h1, h2 ▸ Below.refl _ _⟩
def countsB (cs : List Int) : Bool := decide (cs.length ≤ 256) && !cs.any badCount

set_option maxHeartbeats 1000000 in
theorem isCounts_any (A : Option Addr) (c : Nat) (cs : List Int) (w : World) (hS : RI w A c cs) :
    Calls Try.prog 53 #[.slice A cs.length c] w fun e w' => e = .returned (.bool (countsB cs)) ∧ Below w.heap.size w w' := by
  have hn := hS.len
  have HC := Lib.hid (containsFunc_any A c cs 77 #[] badCount w hS (enters_of Try.func77 (by kernel_rfl) rfl) (pred_isCounts1 w))
  by_cases h : cs.length ≤ 256
  · go_enter Try.func53, Try.ntmps53
    go_wp2_with (go_at_call 51; refine HC.out.mono ?_; rintro e w2 ⟨rfl, b2⟩)
    go_ret
    exact ⟨by simp [countsB, h], b2⟩
  · go_enter Try.func53, Try.ntmps53
    go_wp2
    go_ret
    exact ⟨by simp [countsB, h], Below.refl _ _⟩

set_option maxHeartbeats 1000000 in
theorem check_any (A : Option Addr) (c : Nat) (ls : List Int) (w : World) (hS : RI w A c ls) :
    Calls Try.prog 19 #[.slice A ls.length c] w fun e w' => e = .returned (.int .i64 (checkN ls)) ∧ Below w.heap.size w w' := by
  have hn := hS.len
  have HC := Lib.hid (containsFunc_any A c ls 52 #[] badLen w hS (enters_of Try.func52 (by kernel_rfl) rfl) (pred_check1 w))
  by_cases h : 256 < ls.length
  · go_enter Try.func19, Try.ntmps19
    go_wp2
    go_ret
    exact ⟨by simp [checkN, h], Below.refl _ _⟩
  · cases hx : ls.any badLen
    · have hl : LensOk ls := (lensOk_iff ls).2 (by simp [h, hx])
      have hf := filledN_le hl
      have HS := Lib.hid hS
      rw [hx] at HC
      have HE := Lib.hid (show checkN ls = if filledN ls = 0 then 5 else if 65536 < filledN ls then 4 else 0 by simp [checkN, h, hx])
      have HL := Lib.hid hl
      clear hx hl
      by_cases h0 : filledN ls = 0
      · go_enter Try.func19, Try.ntmps19
        go_wp2_with (first | (go_at_call 51; refine HC.out.mono ?_; rintro e w2 ⟨rfl, b2⟩) | (go_at_call 49; refine (filled_any _ _ _ _ (HS.out.below b2) HL.out).mono ?_; rintro e w3 ⟨rfl, rfl⟩))
        go_ret
        exact ⟨ret_int (by rw [HE.out, if_pos h0]), b2⟩
      · by_cases h1 : 65536 < filledN ls
        · go_enter Try.func19, Try.ntmps19
          go_wp2_with (first | (go_at_call 51; refine HC.out.mono ?_; rintro e w2 ⟨rfl, b2⟩) | (go_at_call 49; refine (filled_any _ _ _ _ (HS.out.below b2) HL.out).mono ?_; rintro e w3 ⟨rfl, rfl⟩))
          go_ret
          exact ⟨ret_int (by rw [HE.out, if_neg h0, if_pos h1]), b2⟩
        · go_enter Try.func19, Try.ntmps19
          go_wp2_with (first | (go_at_call 51; refine HC.out.mono ?_; rintro e w2 ⟨rfl, b2⟩) | (go_at_call 49; refine (filled_any _ _ _ _ (HS.out.below b2) HL.out).mono ?_; rintro e w3 ⟨rfl, rfl⟩))
          go_ret
          exact ⟨ret_int (by rw [HE.out, if_neg h0, if_neg h1]), b2⟩
    · have HE := Lib.hid (show checkN ls = 1 by simp [checkN, hx])
      rw [hx] at HC
      clear hx
      go_enter Try.func19, Try.ntmps19
      go_wp2_with (go_at_call 51; refine HC.out.mono ?_; rintro e w2 ⟨rfl, b2⟩)
      go_ret
      exact ⟨ret_int HE.out.symm, b2⟩
/-- A right code. -/
structure Right (ls : List Int) : Prop where
  ok : LensOk ls
  some : 0 < filledN ls
  full : filledN ls ≤ 65536
theorem checkN_right (ls : List Int) : checkN ls = 0 ↔ Right ls := by
  unfold checkN
  constructor
  · intro h
    split at h
    · cases h
    · rename_i h1
      split at h
      · cases h
      · split at h
        · cases h
        · exact ⟨(lensOk_iff ls).2 (Bool.eq_false_iff.2 h1), by omega, by omega⟩
  · rintro ⟨h1, h2, h3⟩
    rw [(lensOk_iff ls).1 h1]
    simp; omega
theorem Right.len {ls : List Int} (h : Right ls) : ls.length ≤ 256 := h.ok.1
def completeB (ls : List Int) : Bool := decide (checkN ls = 0) && decide (filledN ls = 65536)

set_option maxHeartbeats 1000000 in
theorem complete_any (A : Option Addr) (c : Nat) (ls : List Int) (w : World) (hS : RI w A c ls) :
    Calls Try.prog 15 #[.slice A ls.length c] w fun e w' => e = .returned (.tuple #[.bool (completeB ls), .int .i64 (checkN ls)]) ∧ Below w.heap.size w w' := by
  have hn := hS.len
  by_cases h : checkN ls = 0
  · have hr := (checkN_right ls).1 h
    have hf := filledN_le hr.ok
    have HL := Lib.hid hr.ok
    have HR := Lib.hid h
    clear hr h
    go_enter Try.func15, Try.ntmps15
    go_wp2_with (first | (go_at_call 19; refine (check_any _ _ _ _ hS).mono ?_; rintro e w2 ⟨rfl, b2⟩; rw [HR.out]) | (go_at_call 49; refine (filled_any _ _ _ _ (hS.below b2) HL.out).mono ?_; rintro e w3 ⟨rfl, rfl⟩))
    go_ret2
    refine ⟨ret_two ?_ (by rw [HR.out]; rfl), b2⟩
    show Value.bool _ = Value.bool _
    rw [show completeB ls = decide (filledN ls = 65536) by simp [completeB, HR.out]]
    congr 1
    rw [Bool.eq_iff_iff]
    simp; omega
  · have hb : (checkN ls == 0) = false := by simpa using h
    have HF := Lib.hid (show completeB ls = false by simp [completeB, h])
    clear h
    go_enter Try.func15, Try.ntmps15
    go_wp2_with (go_at_call 19; refine (check_any _ _ _ _ hS).mono ?_; rintro e w2 ⟨rfl, b2⟩)
    go_ret2
    exact ⟨ret_two (by rw [HF.out]; rfl) rfl, b2⟩
def hasB (ls : List Int) (s : Int) : Bool := decide (0 ≤ s) && (decide (s < ls.length) && decide (0 < nth 0 ls s.toNat))
set_option maxHeartbeats 1000000 in
theorem has_any (A : Option Addr) (c : Nat) (ls : List Int) (s : Int) (w : World) (hS : RI w A c ls) :
    Calls Try.prog 62 #[.slice A ls.length c, .int .i64 s] w fun e w' => e = .returned (.bool (hasB ls s)) ∧ w = w' := by
  have hn := hS.len
  by_cases h0 : 0 ≤ s
  · by_cases h1 : s < ls.length
    · obtain ⟨k, rfl⟩ := Int.eq_ofNat_of_zero_le h0
      obtain ⟨ad, rfl, hc⟩ := rd_int hS k (by omega)
      have HE := Lib.hid (show hasB ls (k : Int) = decide (0 < nth 0 ls k) by simp [hasB]; intro _; omega)
      go_enter Try.func62, Try.ntmps62
      go_wp2
      go_ret
      exact ⟨ret_bool HE.out.symm, rfl⟩
    · go_enter Try.func62, Try.ntmps62
      go_wp2
      go_ret
      exact ⟨by simp [hasB]; omega, rfl⟩
  · go_enter Try.func62, Try.ntmps62
    go_wp2
    go_ret
    exact ⟨by simp [hasB]; omega, rfl⟩
end Go.Proofs.Ytlbgkkkcbnagbaa

namespace Go.Proofs.Ytlbgkkkcbnagbaa
open Go.RowKit Go.Shelf

/-- Sums of numbers over the first places. -/
def sumI (n : Nat) (f : Nat → Int) : Int := ((List.range n).map f).sum
theorem sumI_succ (n : Nat) (f : Nat → Int) : sumI (n + 1) f = sumI n f + f n := by
  simp [sumI, List.range_succ]
theorem sumI_le {n : Nat} {f : Nat → Int} {lo hi : Int} (h : ∀ k, k < n → lo ≤ f k ∧ f k ≤ hi) : lo * n ≤ sumI n f ∧ sumI n f ≤ hi * n := by
  induction n with
  | zero => simp [sumI]
  | succ n ih =>
    obtain ⟨h1, h2⟩ := ih fun k hk => h k (by omega)
    obtain ⟨h3, h4⟩ := h n (by omega)
    rw [sumI_succ, Int.natCast_add, Int.mul_add, Int.mul_add]
    constructor <;> · simp; omega
def costK (ls cs : List Int) (k : Nat) : Int := sumI k fun i => nth 0 cs i * nth 0 ls i
def noneB (ls cs : List Int) : Bool := (List.range cs.length).any fun i => decide (0 < nth 0 cs i) && decide (nth 0 ls i = 0)
def costN (ls cs : List Int) : Int × Int :=
  if checkN ls ≠ 0 then (0, checkN ls) else if cs.length ≠ ls.length ∨ countsB cs = false then (0, 1) else if noneB ls cs = true then (0, 5) else (costK ls cs cs.length, 0)
theorem counts_bound {cs : List Int} (h : countsB cs = true) : cs.length ≤ 256 ∧ ∀ x ∈ cs, 0 ≤ x ∧ x ≤ 1073741824 := by
  simp only [countsB, Bool.and_eq_true, decide_eq_true_eq, Bool.not_eq_true', List.any_eq_false] at h
  refine ⟨h.1, fun x hx => ?_⟩
  have := h.2 x hx
  simp [badCount] at this; omega
theorem prod_bound {a b : Int} (h0 : 0 ≤ a) (h1 : a ≤ 1073741824) (h2 : 0 ≤ b) (h3 : b ≤ 16) : 0 ≤ a * b ∧ a * b ≤ 17179869184 :=
  ⟨Int.mul_nonneg h0 h2, by
    have := Int.mul_le_mul h1 h3 h2 (by omega : (0:Int) ≤ 1073741824)
    omega⟩

set_option maxHeartbeats 1000000 in
theorem cost_any (A B : Option Addr) (c d : Nat) (ls cs : List Int) (w : World) (hS : RI w A c ls) (hT : RI w B d cs) :
    Calls Try.prog 37 #[.slice A ls.length c, .slice B cs.length d] w fun e w' => e = .returned (.tuple #[.int .i64 (costN ls cs).1, .int .i64 (costN ls cs).2]) ∧ Below w.heap.size w w' := by
  have hn := hS.len
  have hm := hT.len
  by_cases h : checkN ls = 0
  · have hr := (checkN_right ls).1 h
    by_cases hl : cs.length = ls.length
    · cases hc : countsB cs
      · have HE := Lib.hid (show costN ls cs = (0, 1) by simp [costN, h, hc])
        have HR := Lib.hid h
        have HCB := Lib.hid hc
        have HLE := Lib.hid hl
        have hb : ((cs.length : Int) != (ls.length : Int)) = false := by simp [hl]
        clear hr h hc hl
        go_enter Try.func37, Try.ntmps37
        go_wp2_with (first | (go_at_call 19; refine (check_any _ _ _ _ hS).mono ?_; rintro e w2 ⟨rfl, b2⟩; rw [HR.out]) | (go_at_call 53; refine (isCounts_any _ _ _ _ (hT.below b2)).mono ?_; rintro e w3 ⟨rfl, b3⟩; rw [HCB.out]; replace b2 := below2 b2 b3))
        go_ret2
        exact ⟨ret_two (by rw [HE.out]; rfl) (by rw [HE.out]; rfl), b2⟩
      · obtain ⟨hc1, hc2⟩ := counts_bound hc
        have HB := Lib.hid (nth_bound hc2 (by decide))
        have HO := Lib.hid hr.ok
        have HE := Lib.hid (show costN ls cs = if noneB ls cs = true then (0, 5) else (costK ls cs cs.length, 0) by simp [costN, h, hc, hl])
        have HR := Lib.hid h
        have HCB := Lib.hid hc
        have HLE := Lib.hid hl
        have hb : ((cs.length : Int) != (ls.length : Int)) = false := by simp [hl]
        clear hr h hc hl hc2
        go_enter Try.func37, Try.ntmps37
        go_wp2_with (first | (go_at_call 19; refine (check_any _ _ _ _ hS).mono ?_; rintro e w2 ⟨rfl, b2⟩; rw [HR.out]) | (go_at_call 53; refine (isCounts_any _ _ _ _ (hT.below b2)).mono ?_; rintro e w3 ⟨rfl, b3⟩; rw [HCB.out]; replace b2 := below2 b2 b3))
        go_loop [7, 27] (fun s i => ∃ k : Nat, k ≤ cs.length ∧ i = .int .i64 k ∧ s = .int .i64 (costK ls cs k) ∧ Hid (∀ j, j < k → ¬ (0 < nth 0 cs j ∧ nth 0 ls j = 0))) (fun _ i => cs.length - (intOf i).toNat)
        case atStart => exact ⟨0, Nat.zero_le _, rfl, rfl, fun j hj => absurd hj (by omega)⟩
        case round =>
          obtain ⟨k, hk, rfl, rfl, hne⟩ := hrel
          by_cases hlt : k < cs.length
          · obtain ⟨ad, rfl, hc⟩ := rd_int (hT.below b2) k hlt
            obtain ⟨ad', rfl, hc'⟩ := rd_int (hS.below b2) k (by rw [← HLE.out]; exact hlt)
            have hkl : k < ls.length := by rw [← HLE.out]; exact hlt
            obtain ⟨g0, g1⟩ := HB.out k
            obtain ⟨l0, l1⟩ := HO.out.at k
            have hp := prod_bound g0 g1 l0 l1
            have hsum := sumI_le (n := k) (f := fun i => nth 0 cs i * nth 0 ls i) (lo := 0) (hi := 17179869184) fun j _ => by
              obtain ⟨g0, g1⟩ := HB.out j
              obtain ⟨l0, l1⟩ := HO.out.at j
              exact prod_bound g0 g1 l0 l1
            have hs : costK ls cs (k + 1) = costK ls cs k + nth 0 cs k * nth 0 ls k := sumI_succ _ _
            have hsum2 : 0 ≤ costK ls cs k ∧ costK ls cs k ≤ 17179869184 * k := by simpa [costK] using hsum
            have hw1 : IntKind.i64.wrap (nth 0 cs k * nth 0 ls k) = nth 0 cs k * nth 0 ls k := IntWalk.i64_in _ (by omega)
            have hw2 : IntKind.i64.wrap (costK ls cs k + nth 0 cs k * nth 0 ls k) = costK ls cs k + nth 0 cs k * nth 0 ls k := IntWalk.i64_in _ (by omega)
            have H := Lib.hid hs
            have HP := Lib.hid hp
            clear hs hsum hsum2 hp
            by_cases hx : 0 < nth 0 cs k
            · by_cases hz : nth 0 ls k = 0
              · have HN := Lib.hid (show noneB ls cs = true by
                  unfold noneB
                  rw [List.any_eq_true]
                  exact ⟨k, by simpa using hlt, by simp [hx, hz]⟩)
                have hzb : (nth 0 ls k == 0) = true := by simp [hz]
                clear hz hw1 hw2
                go_wp2
                go_ret2
                exact ⟨ret_two (by rw [HE.out, if_pos HN.out]; rfl) (by rw [HE.out, if_pos HN.out]; rfl), b2⟩
              · have hzb : (nth 0 ls k == 0) = false := by simp [hz]
                have hne' : Hid (∀ j, j < k + 1 → ¬ (0 < nth 0 cs j ∧ nth 0 ls j = 0)) := fun j hj => by
                  rcases Nat.lt_or_ge j k with h | h
                  · exact hne.out j h
                  · obtain rfl : j = k := by omega
                    exact fun h => hz h.2
                clear hz
                go_wp2
                go_round
                case rel => exact ⟨k + 1, by omega, by go_num, by rw [H.out], hne'⟩
                case measure => simp [intOf]; omega
            · have hne' : Hid (∀ j, j < k + 1 → ¬ (0 < nth 0 cs j ∧ nth 0 ls j = 0)) := fun j hj => by
                rcases Nat.lt_or_ge j k with h | h
                · exact hne.out j h
                · obtain rfl : j = k := by omega
                  exact fun h => hx h.1
              go_wp2
              go_round
              case rel => exact ⟨k + 1, by omega, by go_num, by rw [H.out], hne'⟩
              case measure => simp [intOf]; omega
          · obtain rfl : k = cs.length := by omega
            have HN := Lib.hid (show ¬ noneB ls cs = true by
              unfold noneB
              rw [List.any_eq_true]
              rintro ⟨j, hj, hx⟩
              simp only [Bool.and_eq_true, decide_eq_true_eq] at hx
              exact hne.out j (by simpa using hj) hx)
            go_wp2
            go_ret2
            exact ⟨ret_two (by rw [HE.out, if_neg HN.out]; rfl) (by rw [HE.out, if_neg HN.out]; rfl), b2⟩
    · have HE := Lib.hid (show costN ls cs = (0, 1) by simp [costN, h, hl])
      have HR := Lib.hid h
      have hb : ((cs.length : Int) != (ls.length : Int)) = true := by simp; omega
      clear hr h hl
      go_enter Try.func37, Try.ntmps37
      go_wp2_with (go_at_call 19; refine (check_any _ _ _ _ hS).mono ?_; rintro e w2 ⟨rfl, b2⟩; rw [HR.out])
      go_ret2
      exact ⟨ret_two (by rw [HE.out]; rfl) (by rw [HE.out]; rfl), b2⟩
  · have hb : (checkN ls == 0) = false := by simpa using h
    have HE := Lib.hid (show costN ls cs = (0, checkN ls) by simp [costN, h])
    clear h
    go_enter Try.func37, Try.ntmps37
    go_wp2_with (go_at_call 19; refine (check_any _ _ _ _ hS).mono ?_; rintro e w2 ⟨rfl, b2⟩)
    go_ret2
    exact ⟨ret_two (by rw [HE.out]; rfl) (by rw [HE.out]; rfl), b2⟩
end Go.Proofs.Ytlbgkkkcbnagbaa

namespace Go.Proofs.Ytlbgkkkcbnagbaa
open Go.RowKit Go.Shelf
attribute [local go_sem] Oper.semAt_some

/-! ### The symbols that have come -/
def ordRow (ls : List Int) (m i : Nat) : List Nat := (List.range i).filter fun i => lenOf ls i == m + 1
def ordAt (ls : List Int) (n i : Nat) : List Nat := ((List.range n).flatMap fun m => ordRow ls m ls.length) ++ ordRow ls n i
theorem ordAt_next (ls : List Int) (n : Nat) : ordAt ls (n + 1) 0 = ordAt ls n ls.length := by
  unfold ordAt
  rw [List.range_succ, List.flatMap_append]
  simp [ordRow]
theorem ordAt_end (ls : List Int) : ordAt ls 16 0 = ordN ls := by
  unfold ordAt ordN
  simp [ordRow]
theorem ordAt_hit {ls : List Int} {n i : Nat} (h : lenOf ls i = n + 1) : ordAt ls n (i + 1) = ordAt ls n i ++ [i] := by
  unfold ordAt ordRow
  rw [List.range_succ, List.filter_append, List.append_assoc]
  simp [h]
theorem ordAt_miss {ls : List Int} {n i : Nat} (h : lenOf ls i ≠ n + 1) : ordAt ls n (i + 1) = ordAt ls n i := by
  unfold ordAt ordRow
  rw [List.range_succ, List.filter_append]
  simp [h]
theorem ordAt_grow (ls : List Int) (n : Nat) {i j : Nat} (h : i ≤ j) : ordAt ls n i <+: ordAt ls n j := by
  unfold ordAt ordRow
  refine List.prefix_append_right_inj _ |>.2 (List.IsPrefix.filter _ ?_)
  obtain ⟨d, rfl⟩ : ∃ d, j = i + d := ⟨j - i, by omega⟩
  rw [List.range_add]
  exact List.prefix_append _ _
theorem ordAt_up (ls : List Int) (n d : Nat) : ordAt ls n 0 <+: ordAt ls (n + d) 0 := by
  induction d with
  | zero => exact List.prefix_refl _
  | succ d ih =>
    refine ih.trans ?_
    rw [← Nat.add_assoc, ordAt_next]
    exact ordAt_grow ls _ (Nat.zero_le _)
theorem ordAt_prefix {ls : List Int} {n i : Nat} (hn : n < 16) (hi : i ≤ ls.length) : ordAt ls n i <+: ordN ls := by
  rw [← ordAt_end]
  refine (ordAt_grow ls n hi).trans ?_
  rw [← ordAt_next]
  obtain ⟨d, hd⟩ : ∃ d, 16 = n + 1 + d := ⟨15 - n, by omega⟩
  rw [hd]
  exact ordAt_up ls _ d

set_option maxHeartbeats 1000000 in
theorem ordered_any (A : Option Addr) (c : Nat) (ls : List Int) (w : World) :
    Calls Try.prog 75 #[.slice A ls.length c] w fun e w' => ∃ g, e = .returned (.func (.func 86) #[] #[.pointer (some ⟨g, 0, none⟩)]) ∧ Hid (g = w.heap.size) ∧ Hid (w'.heap.size = g + 1) ∧ Blk w' g #[.slice A ls.length c] 22 ∧ Below w.heap.size w w' := by
  go_enter Try.func75, Try.ntmps75
  go_wp2
  go_ret
  exact ⟨_, rfl, Lib.hid rfl, Lib.hid (World.size_alloc _ _), heap_alloc_new w _, (Below.refl _ _).alloc (Nat.le_refl _) _⟩

set_option maxHeartbeats 2000000 in
set_option maxRecDepth 100000 in
theorem ordered1_yields (g : Nat) (A : Option Addr) (c : Nat) (ls : List Int) (w : World) (ok : Nat → Prop) (hR : Sl (kInt .i64) ok w A c ls) (hB : Blk w g #[.slice A ls.length c] 22) (hg : ok g) (n : Nat) (hn : 1 ≤ n) :
    YieldsN Fence.wide n Try.prog 86 #[.pointer (some ⟨g, 0, none⟩)] (fun i : Nat => #[.int .i64 (i : Int)]) ok (fun _ => False) (fun xs => xs = ordN ls) (fun _ => True) (fun pre x => (pre ++ [x]) <+: ordN ls) w := by
  intro l J Jx W hW hJ hJx hY h0
  have hBW := hB.below hW
  have hRW := hR.below hW
  have hlen := hR.len
  clear hR hB hW
  refine callsIn_of_wp Try.func86 rfl trivial ?_ rfl
  simp only [Try.ntmps86, List.size_toArray, List.length_cons, List.length_nil, Nat.reduceAdd, Nat.reduceSub, Array.replicate_succ, Array.replicate_zero, List.push_toArray, List.append_toArray, List.nil_append, List.cons_append]
  gi_wp2
  have H0 : Hid (J (ordAt ls 0 0) W) := Lib.hid (by simpa [ordAt, ordRow] using h0)
  have HY := Lib.hid hY
  clear h0 hY
  gi_loopw [3] (fun v wr => ∃ n : Nat, n ≤ 16 ∧ v = .int .i64 ((n : Int) + 1) ∧ Hid (J (ordAt ls n 0) wr) ∧ Keep ok W wr) (fun v _ => 17 - (intOf v).toNat)
  case atStart => exact ⟨0, by omega, by go_num, H0, Keep.refl _ _⟩
  case round =>
    clear H0
    obtain ⟨n, hn16, rfl, HJ, hk⟩ := hrel
    by_cases hlt : n < 16
    · have kb := (hBW.keep hk hg).cell 0 rfl
      have hd : decide ((n : Int) + 1 ≤ 16) = true := decide_eq_true (by omega)
      gi_wp2
      gi_loopw [12] (fun v wr => ∃ i : Nat, i ≤ ls.length ∧ v = .int .i64 (i : Int) ∧ Hid (J (ordAt ls n i) wr) ∧ Keep ok W wr) (fun v _ => ls.length - (intOf v).toNat)
      case atStart => exact ⟨0, by omega, by go_num, HJ, hk⟩
      case round =>
        clear HJ hk kb
        obtain ⟨i, hi, rfl, HJ, hk⟩ := hrel
        by_cases hil : i < ls.length
        · obtain ⟨ad, hA, hc⟩ := rd_int (hRW.keep hk) i hil
          subst hA
          by_cases hx : nth 0 ls i = (n : Int) + 1
          · have hxb : (nth 0 ls i == (n : Int) + 1) = true := by simp [hx]
            have hlo : lenOf ls i = n + 1 := by unfold lenOf; omega
            have HN := Lib.hid (ordAt_hit hlo)
            obtain ⟨fn, tmps, assign, body, hy, hRd⟩ := HY.out (ordAt ls n i) i _ HJ.out (by rw [← ordAt_hit hlo]; exact ordAt_prefix hlt (by omega))
            replace hy : (Instr.yield l #[.int .i64 (i : Int)]).run Try.prog wr = .ok (.round l fn tmps assign body) wr := hy
            clear hx hlo
            gi_wp2
            refine hRd.mono ?_
            rintro e W3 (⟨rfl, hJ3, hk3⟩ | ⟨rfl, hJx3⟩)
            · gi_wp2
              go_roundw
              case rel => exact ⟨i + 1, by omega, by go_num, by rw [HN.out]; exact Lib.hid hJ3, hk.trans hk3⟩
              case measure => simp [intOf]; omega
            · gi_wp2
              refine bodyPost_ret (results_none rfl _ _ _) rfl ?_
              exact ⟨⟨_, rfl⟩, .inr ⟨_, trivial, hJx3⟩⟩
          · have hxb : (nth 0 ls i == (n : Int) + 1) = false := by simp [hx]
            have hlo : lenOf ls i ≠ n + 1 := by unfold lenOf; omega
            have HN := Lib.hid (ordAt_miss hlo)
            clear hx hlo
            gi_wp2
            refine ⟨fun _ h => (by cases h), ?_⟩
            gi_wp2
            go_roundw
            case rel => exact ⟨i + 1, by omega, by go_num, by rw [HN.out]; exact HJ, hk⟩
            case measure => simp [intOf]; omega
        · obtain rfl : i = ls.length := by omega
          have HN := Lib.hid (ordAt_next ls n)
          gi_wp2
          go_roundw
          case rel => exact ⟨n + 1, by omega, by go_num, by rw [HN.out]; exact HJ, hk⟩
          case measure => simp [intOf]; omega
    · obtain rfl : n = 16 := by omega
      gi_wp2
      go_end0
      exact ⟨⟨_, rfl⟩, .inl ⟨_, ordAt_end ls, HJ.out⟩⟩
end Go.Proofs.Ytlbgkkkcbnagbaa
