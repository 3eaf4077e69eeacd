/- book: there, size, are, gamma: what each call returns. · book: the forms and the tables at rest; Shape, checked, fits, Fits: what each call returns. · book: Fits, symbol, beside, lengths: what each call returns. · book: beside, digits, symbolOf: what each call returns. · book: symbolOf: what it returns. · Parts of slices, as rules for the walk and as what they read as. · book: groups: what it yields, for any list and memory. · What the arguments of a law read as: []int, []byte. · book: the tables at rest; lengths, Lengths: what each call returns. · The reference's books: Is, abs, Values, Has, symbols, sum, count: what each call returns. · The reference's books: symbols, sum, count, symbol: what each call returns. · The reference's books: sum, symbol: what each call returns. · prefix: the numbers of awake's examples. Plain; no program is named. · prefix: Lengths in general; awake's examples hold. · scale: length, Lengths, is: what each call returns. · scale: checked: what it returns. · scale: walk: what it yields, for any bands and memory. · scale: Cost: what it returns. · The reference's Lengths: order by insertion; what is taken of each level. Plain; no program is named. · append to a full slice: a new row; slices 'xs[m:]' and 'xs[:m:m]'. · The reference's Lengths: its first errors. · The reference's Lengths: what it returns. · The reference's Lengths in general. · The document's rows of bits: Put; the document's scale: Lengths, Ranged, taken, right. · Gamma codes: the reference's zeros and Gamma, and the writer's Gamma: what each call returns. · bits: the writer's Gamma: what it returns. · book: Lengths: what it returns. · Plain laws of layer 17 (book): what a gamma code is read as. No program is named. · The document's tape of bits: OK, Left, Fail, Get: what each call returns, and where the tape is then. · The reference's tape: Unary: what it returns. · The reference's tape: Get of a tape with an error, Gamma: what each call returns. · bits: zeros of a reader: what it returns, and where the reader is then. · The document's rows of bits: Bytes; the statements' SameBytes: what each call returns. · The laws of layer 17: Same: what it returns. · A drawn region in a function that ranges over an iterator, outside its rounds, walked by explicit steps (XHeld). -/
import Derived.Test.YtmcdgmiheklbeaaDoorKc
import Derived.OwnWalk
import Derived.Test.YtmcdgmiheklbeaaDoorKa
import Derived.Laws.BytesArg
import Derived.Lib.SmallJoins
import Derived.LaidMore
import Derived.Stop.Joined
import Derived.Lib.ConvBytes
import Derived.Test.YtmcdgmiheklbeaaDoorKb
import Derived.ArgAppend
namespace Go.Proofs.YtmcdgmiheklbeaaDoor
open Go.RowKit

def thereB (n : Int) : Bool := decide (0 ≤ n) && decide (n < 8)
theorem there_any (n : Int) (w : World) : Calls Tryd.prog 84 #[.int .i64 n] w fun e w' => e = .returned (.bool (thereB n)) ∧ w = w' := by
  by_cases h : 0 ≤ n
  · have h1 : decide (0 ≤ n) = true := decide_eq_true h
    have HB := Lib.hid (show thereB n = decide (n < 8) by unfold thereB; rw [h1]; rfl)
    clear h
    go_enter Tryd.func84, Tryd.ntmps84
    go_wp2
    go_ret
    exact ⟨ret_bool HB.out.symm, rfl⟩
  · have h1 : decide (0 ≤ n) = false := decide_eq_false h
    have HB := Lib.hid (show thereB n = false by unfold thereB; rw [h1]; rfl)
    clear h
    go_enter Tryd.func84, Tryd.ntmps84
    go_wp2
    go_ret
    exact ⟨ret_bool HB.out.symm, rfl⟩
theorem size_any (v : Int) (w : World) (hv : -1000000 ≤ v ∧ v ≤ 1000000) : Calls Tryd.prog 78 #[.int .i64 v] w fun e w' => e = .returned (.int .i64 (v.natAbs : Int)) ∧ w = w' := by
  have hw : IntKind.i64.wrap (-v) = -v := IntWalk.i64_in _ (by omega)
  go_enter Tryd.func78, Tryd.ntmps78
  go_wp2
  all_goals
    go_ret
    exact ⟨ret_int (by omega), rfl⟩
theorem size_same (v : Int) (w : World) (hv : -1000000 ≤ v ∧ v ≤ 1000000) : Calls Tryd.prog 78 #[.int .i64 v] w fun e w' => e = .returned (.int .i64 (v.natAbs : Int)) ∧ w' = w :=
  (size_any v w hv).mono fun _ _ ⟨h1, h2⟩ => ⟨h1, h2.symm⟩
theorem all_take_q (l : List Int) (p : Int → Bool) (k : Nat) (h : k < l.length) : (l.take (k + 1)).all p = ((l.take k).all p && p (nth 0 l k)) := by
  rw [take_succ_nth 0 l k h, List.all_append]; simp
theorem all_no_q {l : List Int} {p : Int → Bool} {k : Nat} (h : k < l.length) (hk : p (nth 0 l k) = false) : l.all p = false := by
  cases he : l.all p
  · rfl
  · have := List.all_eq_true.1 he _ (nth_mem 0 l k h)
    rw [hk] at this; cases this
def isQ (v : Int) : Bool := decide (-1023 ≤ v) && decide (v ≤ 1023)
theorem quantB_all (l : List Int) : quantB l = l.all isQ := rfl

set_option maxHeartbeats 1000000 in
theorem are_any (A : Option Addr) (c : Nat) (l : List Int) (w : World) (hS : RI w A c l) :
    Calls Tryd.prog 55 #[.slice A l.length c] w fun e w' => e = .returned (.bool (quantB l)) ∧ w = w' := by
  have hn := hS.len
  have HQ := Lib.hid (quantB_all l)
  go_enter Tryd.func55, Tryd.ntmps55
  go_wp2
  go_loopw [7] (fun iv wr => ∃ k : Nat, k ≤ l.length ∧ iv = .int .i64 (k : Int) ∧ w = wr ∧ Hid ((l.take k).all isQ = true)) (fun iv _ => l.length - (intOf iv).toNat)
  case atStart => exact ⟨0, Nat.zero_le _, rfl, rfl, Lib.hid rfl⟩
  case round =>
    obtain ⟨k, hk, rfl, rfl, hA⟩ := hrel
    by_cases hlt : k < l.length
    · obtain ⟨ad, rfl, hc⟩ := rd_int hS k hlt
      have hki : (k : Int) < (l.length : Int) := by omega
      have HN := Lib.hid (all_take_q l isQ k hlt)
      have HNO := Lib.hid (all_no_q (p := isQ) hlt)
      generalize nth 0 l k = x at hc HN HNO
      have hwk : IntKind.i64.wrap ((k : Int) + 1) = (k : Int) + 1 := IntWalk.i64_in _ (by omega)
      by_cases h1 : x < -1023
      · have HX := Lib.hid (show isQ x = false by simp [isQ]; omega)
        go_wp2
        go_ret
        exact ⟨ret_bool (by rw [HQ.out, HNO.out HX.out]), rfl⟩
      · have d1 : decide (x < -1023) = false := decide_eq_false h1
        by_cases h2 : 1023 < x
        · have HX := Lib.hid (show isQ x = false by simp [isQ]; omega)
          have d2 : decide (1023 < x) = true := decide_eq_true h2
          clear h1 h2
          go_wp2
          go_ret
          exact ⟨ret_bool (by rw [HQ.out, HNO.out HX.out]), rfl⟩
        · have HX := Lib.hid (show isQ x = true by simp [isQ]; omega)
          have d2 : decide (1023 < x) = false := decide_eq_false h2
          clear h1 h2
          go_wp2
          go_roundw
          case rel => exact ⟨k + 1, by omega, by go_num, trivial, Lib.hid (by rw [HN.out, hA.out, HX.out]; rfl)⟩
          case measure => simp [intOf]; omega
    · obtain rfl : k = l.length := by omega
      have HT := Lib.hid (show l.all isQ = true by have := hA.out; rwa [List.take_length] at this)
      go_wp2
      go_ret
      exact ⟨ret_bool (by rw [HQ.out, HT.out]), rfl⟩

theorem log2_at {v k : Nat} (h1 : 2 ^ k ≤ v) (h2 : v < 2 ^ (k + 1)) : Nat.log2 v = k := by
  have := Nat.two_pow_pos k
  exact (Nat.log2_eq_iff (by omega)).2 ⟨h1, h2⟩
theorem log2_half {v : Nat} (h : 2 ≤ v) : Nat.log2 v = Nat.log2 (v / 2) + 1 := by
  rw [Nat.log2_def, if_pos h]
theorem log2_one {v : Nat} (h : v < 2) : Nat.log2 v = 0 := by
  rw [Nat.log2_def, if_neg (by omega)]

set_option maxHeartbeats 1000000 in
theorem gamma_any (v : Nat) (w : World) (hv : v ≤ 1000000) :
    Calls Tryd.prog 105 #[.int .i64 (v : Int)] w fun e w' => e = .returned (.int .i64 ((2 * Nat.log2 v + 1 : Nat) : Int)) ∧ w = w' := by
  go_enter Tryd.func105, Tryd.ntmps105
  go_wp2
  go_loopw [0, 3] (fun xv nv wr => ∃ x n : Nat, x ≤ v ∧ n + 2 * Nat.log2 x = 2 * Nat.log2 v + 1 ∧ n ≤ 100 ∧ xv = .int .i64 (x : Int) ∧ nv = .int .i64 (n : Int) ∧ w = wr) (fun xv _ _ => (intOf xv).toNat)
  case atStart => exact ⟨v, 1, Nat.le_refl _, by omega, by omega, rfl, rfl, rfl⟩
  case round =>
    obtain ⟨x, n, hx, hs, hn, rfl, rfl, rfl⟩ := hrel
    have hb := log2_le (v := v) (n := 20) (by omega)
    by_cases h : 1 < x
    · have HL := Lib.hid (log2_half (v := x) (by omega))
      have hwn : IntKind.i64.wrap ((n : Int) + 2) = (n : Int) + 2 := IntWalk.i64_in _ (by omega)
      have hq : (x : Int).tdiv 2 = ((x / 2 : Nat) : Int) := by rw [Int.tdiv_eq_ediv_of_nonneg (by omega)]; omega
      have hwq : IntKind.i64.wrap ((x / 2 : Nat) : Int) = ((x / 2 : Nat) : Int) := IntWalk.i64_in _ (by omega)
      have hx1 : (1 : Int) < (x : Int) := by omega
      go_wp2
      go_roundw
      case rel => exact ⟨x / 2, n + 2, by omega, by have := HL.out; omega, by have := HL.out; omega, by go_num, by go_num, trivial⟩
      case measure => simp [intOf]; omega
    · have HL := Lib.hid (log2_one (v := x) (by omega))
      have hx1 : ¬ (1 : Int) < (x : Int) := by omega
      go_wp2
      go_ret
      exact ⟨ret_int (by have := HL.out; omega), rfl⟩
end Go.Proofs.YtmcdgmiheklbeaaDoor

namespace Go.Proofs.YtmcdgmiheklbeaaDoor
open Go.RowKit

/-- The forms at rest. -/
structure GF (w : World) : Prop where
  dim : ∀ b, b < 8 → w.cell? ⟨0, b * 3, none⟩ = some (.int .i64 (dimB b))
  most : ∀ b, b < 8 → w.cell? ⟨0, b * 3 + 1, none⟩ = some (.int .i64 (mostB b))
  esc : ∀ b, b < 8 → w.cell? ⟨0, b * 3 + 2, none⟩ = some (.bool (escB b))
theorem GF.below {w w' : World} (h : GF w) (hb : Below w.heap.size w w') : GF w' :=
  ⟨fun b h8 => cell_below hb (h.dim b h8), fun b h8 => cell_below hb (h.most b h8), fun b h8 => cell_below hb (h.esc b h8)⟩
set_option maxHeartbeats 1000000 in
theorem checked17_any (A : Option Addr) (c : Nat) (n : Int) (l : List Int) (w : World) (hS : RI w A c l) :
    Calls Tryd.prog 95 #[.int .i64 n, .slice A l.length c] w fun e w' => e = .returned (.int .i64 (checkedK n l)) ∧ w = w' := by
  by_cases h : n < 0 ∨ 8 ≤ n
  · have hT : thereB n = false := by simp [thereB]; omega
    have HT := Lib.hid (there_any n w)
    rw [hT] at HT
    have HX := Lib.hid (show checkedK n l = 5 by unfold checkedK; rw [if_pos h])
    clear h hT
    go_enter Tryd.func95, Tryd.ntmps95
    go_wp2_with (go_at_call 84; refine HT.out.mono ?_; rintro e w2 ⟨rfl, rfl⟩)
    go_ret
    exact ⟨ret_int HX.out.symm, rfl⟩
  · have hT : thereB n = true := by simp [thereB]; omega
    have HT := Lib.hid (there_any n w)
    rw [hT] at HT
    have HA := Lib.hid (are_any A c l w hS)
    have hx : checkedK n l = if quantB l = false then 6 else 0 := by unfold checkedK; rw [if_neg h]
    clear h hT
    cases hq : quantB l
    · rw [hq] at HA hx
      have HX := Lib.hid hx
      go_enter Tryd.func95, Tryd.ntmps95
      go_wp2_with (first | (go_at_call 84; refine HT.out.mono ?_; rintro e w2 ⟨rfl, rfl⟩) | (go_at_call 55; refine HA.out.mono ?_; rintro e w3 ⟨rfl, rfl⟩))
      go_ret
      exact ⟨ret_int (by rw [HX.out]; rfl), rfl⟩
    · rw [hq] at HA hx
      have HX := Lib.hid hx
      go_enter Tryd.func95, Tryd.ntmps95
      go_wp2_with (first | (go_at_call 84; refine HT.out.mono ?_; rintro e w2 ⟨rfl, rfl⟩) | (go_at_call 55; refine HA.out.mono ?_; rintro e w3 ⟨rfl, rfl⟩))
      go_ret
      exact ⟨ret_int (by rw [HX.out]; rfl), rfl⟩

/-- A form as a value, and as cells. -/
abbrev formC (b : Nat) : Array Value := #[.int .i64 (dimB b), .int .i64 (mostB b), .bool (escB b)]
theorem quantB_nth {l : List Int} (h : quantB l = true) (k : Nat) : -1023 ≤ nth 0 l k ∧ nth 0 l k ≤ 1023 :=
  nth_bound (fun x hx => by have := List.all_eq_true.1 h x hx; simpa using this) (by decide) k
set_option maxHeartbeats 2000000 in
set_option maxRecDepth 100000 in
theorem fits_any (A : Option Addr) (c b : Nat) (l : List Int) (w : World) (hS : RI w A c l) (hq : quantB l = true) :
    Calls Tryd.prog 56 #[.agg (formC b), .slice A l.length c] w fun e w' => e = .returned (.bool (fitB b l)) ∧ Below w.heap.size w w' := by
  have hn := hS.len
  have hd := dimB_pos b
  have hm := mostB_le b
  have HQ := Lib.hid (quantB_nth hq)
  obtain ⟨R, hR⟩ : ∃ R, l.length % dimB b = R := ⟨_, rfl⟩
  have HF := Lib.hid (show fitB b l = (l.all (inB b) && decide (R = 0)) by rw [← hR]; rfl)
  have HI := Lib.hid (show ∀ v, inB b v = (decide (v.natAbs ≤ mostB b) || escB b) from fun _ => rfl)
  have hrem : IntKind.i64.wrap ((l.length : Int).tmod (dimB b : Int)) = (R : Int) := by
    rw [Int.tmod_eq_emod_of_nonneg (by omega)]
    have h2 : l.length % dimB b < dimB b := Nat.mod_lt _ (by omega)
    rw [← Int.natCast_emod, hR]
    exact IntWalk.i64_in _ (by omega)
  have HR := Lib.hid (show (((l.length : Int) % (dimB b : Int)) == 0) = decide (R = 0) by rw [← Int.natCast_emod, hR]; exact Bool.eq_iff_iff.2 (by rw [beq_iff_eq, decide_eq_true_iff]; omega))
  have hd0 : ((dimB b : Int) == 0) = false := by simp; omega
  have hba := below_alloc (Below.refl w.heap.size w) (.cells (formC b) 109)
  unfold formC at hba ⊢
  generalize hD : dimB b = D at *
  generalize hM : mostB b = M at *
  generalize hE : escB b = E at *
  clear hq hD hM hE hR
  have HS := Lib.hid hS
  obtain ⟨g, hg⟩ : ∃ g, w.heap.size = g := ⟨_, rfl⟩
  have hB0 : Blk (w.alloc (.cells (#[.int .i64 (D : Int), .int .i64 (M : Int), .bool E]) 109)) g #[.int .i64 (D : Int), .int .i64 (M : Int), .bool E] 109 := by rw [← hg]; exact heap_alloc_new w _
  go_enter Tryd.func56, Tryd.ntmps56
  go_wp2
  go_loopw [9] (fun iv wr => ∃ k : Nat, k ≤ l.length ∧ iv = .int .i64 (k : Int) ∧ Hid (Below w.heap.size w wr) ∧ Blk wr g #[.int .i64 (D : Int), .int .i64 (M : Int), .bool E] 109 ∧ Hid ((l.take k).all (inB b) = true)) (fun iv _ => l.length - (intOf iv).toNat)
  case atStart => exact ⟨0, Nat.zero_le _, rfl, Lib.hid hba, hB0, Lib.hid rfl⟩
  case round =>
    clear hba hB0
    obtain ⟨k, hk, rfl, hB, hK, hA⟩ := hrel
    have k0 := hK.cell 0 rfl
    have k1 := hK.cell 1 rfl
    have k2 := hK.cell 2 rfl
    by_cases hlt : k < l.length
    · obtain ⟨ad, rfl, hc⟩ := rd_int (HS.out.below hB.out) k hlt
      have hki : (k : Int) < (l.length : Int) := by omega
      have HN := Lib.hid (all_take_q l (inB b) k hlt)
      have HNO := Lib.hid (all_no_q (p := inB b) hlt)
      have HX := Lib.hid (HI.out (nth 0 l k))
      have HZ := Lib.hid (HQ.out k)
      generalize nth 0 l k = x at hc HN HNO HX HZ
      have hwk : IntKind.i64.wrap ((k : Int) + 1) = (k : Int) + 1 := IntWalk.i64_in _ (by omega)
      have HC := Lib.hid (fun W => size_same x W (by have := HZ.out; omega))
      obtain ⟨z, hz⟩ : ∃ z, x.natAbs = z := ⟨_, rfl⟩
      rw [hz] at HC HX
      by_cases h1 : M < z
      · have h1i : (M : Int) < (z : Int) := by omega
        have HX2 := Lib.hid (show inB b x = E by rw [HX.out, decide_eq_false (by omega)]; rfl)
        clear h1
        cases E
        · go_wp2
          go_quiet ((go_at_call 78; exact Calls.quiet_of_same (HC.out _)))
          go_wp2
          go_ret
          exact ⟨ret_bool (by rw [HF.out, HNO.out HX2.out]; rfl), below_drewN hB.out _⟩
        · go_wp2
          go_quiet ((go_at_call 78; exact Calls.quiet_of_same (HC.out _)))
          go_wp2
          go_roundw
          case rel => exact ⟨k + 1, by omega, by go_num, Lib.hid (below_drewN hB.out _), hK, Lib.hid (by rw [HN.out, hA.out, HX2.out]; rfl)⟩
          case measure => simp [intOf]; omega
      · have h1i : ¬ (M : Int) < (z : Int) := by omega
        have d1 : decide (M < z) = false := decide_eq_false h1
        have HX2 := Lib.hid (show inB b x = true by rw [HX.out, decide_eq_true (by omega)]; rfl)
        clear h1
        go_wp2
        go_quiet ((go_at_call 78; exact Calls.quiet_of_same (HC.out _)))
        go_wp2
        go_roundw
        case rel => exact ⟨k + 1, by omega, by go_num, Lib.hid (below_drewN hB.out _), hK, Lib.hid (by rw [HN.out, hA.out, HX2.out]; rfl)⟩
        case measure => simp [intOf]; omega
    · obtain rfl : k = l.length := by omega
      have HT := Lib.hid (show l.all (inB b) = true by have := hA.out; rwa [List.take_length] at this)
      go_wp2
      go_ret
      exact ⟨ret_bool (by rw [HF.out, HT.out, HR.out]; rfl), hB.out⟩
end Go.Proofs.YtmcdgmiheklbeaaDoor

namespace Go.Proofs.YtmcdgmiheklbeaaDoor
open Go.RowKit

def fitsV (n : Int) (l : List Int) : Bool := if checkedK n l ≠ 0 then false else fitB n.toNat l
theorem checkedK_ok {n : Int} {l : List Int} (h : checkedK n l = 0) : ∃ b : Nat, n = (b : Int) ∧ b < 8 ∧ quantB l = true := by
  unfold checkedK at h
  split at h
  · cases h
  · split at h
    · cases h
    · exact ⟨n.toNat, by omega, by omega, by simpa using ‹¬ quantB l = false›⟩

set_option maxHeartbeats 1000000 in
theorem bfits_any (A : Option Addr) (c : Nat) (n : Int) (l : List Int) (w : World) (hS : RI w A c l) (hG : GF w) :
    Calls Tryd.prog 70 #[.int .i64 n, .slice A l.length c] w fun e w' => e = .returned (.tuple #[.bool (fitsV n l), .int .i64 (checkedK n l)]) ∧ Below w.heap.size w w' := by
  have HC := Lib.hid (checked17_any A c n l w hS)
  by_cases h : checkedK n l = 0
  · obtain ⟨b, rfl, h8, hq⟩ := checkedK_ok h
    have HV := Lib.hid (show fitsV (b : Int) l = fitB b l by unfold fitsV; rw [if_neg (by simp [h])]; rfl)
    rw [h] at HC ⊢
    have c0 := hG.dim b h8
    have c1 := hG.most b h8
    have c2 := hG.esc b h8
    have hb8 : (b : Int) < 8 := by omega
    have HF := Lib.hid (fun W (hW : RI W A c l) => fits_any A c b l W hW hq)
    have HS := Lib.hid hS
    clear h hq hS hG
    go_enter Tryd.func70, Tryd.ntmps70
    go_wp2_with (first | (go_at_call 95; refine HC.out.mono ?_; rintro e w2 ⟨rfl, rfl⟩) | (go_at_call 56; refine (HF.out _ HS.out).mono ?_; rintro e w3 ⟨rfl, b3⟩))
    go_ret2
    exact ⟨by rw [HV.out]; rfl, b3⟩
  · have HV := Lib.hid (show fitsV n l = false by unfold fitsV; rw [if_pos h])
    have hne : (checkedK n l == 0) = false := by simp [h]
    generalize checkedK n l = E at *
    clear h
    go_enter Tryd.func70, Tryd.ntmps70
    go_wp2_with (first | (go_at_call 95; refine HC.out.mono ?_; rintro e w2 ⟨rfl, rfl⟩))
    go_ret2
    exact ⟨by rw [HV.out]; rfl, Below.refl _ _⟩

/-- The symbol of digits. -/
def symD (m : Nat) (ds : List Int) : Nat := ds.foldl (fun s d => s * (m + 1) + d.toNat) 0
theorem symD_take (m : Nat) (ds : List Int) (k : Nat) (h : k < ds.length) : symD m (ds.take (k + 1)) = symD m (ds.take k) * (m + 1) + (nth 0 ds k).toNat := by
  rw [take_succ_nth 0 ds k h]; simp [symD]
theorem symD_from (m : Nat) : ∀ (ds : List Int) (s : Nat), (∀ d ∈ ds, 0 ≤ d ∧ d ≤ m) → ds.foldl (fun s d => s * (m + 1) + d.toNat) s + 1 ≤ (s + 1) * (m + 1) ^ ds.length
  | [], s, _ => by simp
  | d :: ds, s, h => by
    have h1 := h d List.mem_cons_self
    have ih := symD_from m ds (s * (m + 1) + d.toNat) (fun x hx => h x (List.mem_cons_of_mem _ hx))
    have h2 : s * (m + 1) + d.toNat + 1 ≤ (s + 1) * (m + 1) := by rw [Nat.add_mul, Nat.one_mul]; omega
    have h3 := Nat.mul_le_mul_right ((m + 1) ^ ds.length) h2
    rw [List.foldl_cons, List.length_cons, Nat.pow_succ, Nat.mul_comm ((m + 1) ^ ds.length), ← Nat.mul_assoc]
    omega
theorem symD_lt {m : Nat} {ds : List Int} (h : ∀ d ∈ ds, 0 ≤ d ∧ d ≤ m) : symD m ds < (m + 1) ^ ds.length := by
  have := symD_from m ds 0 h
  unfold symD
  omega
theorem symD_bd {m : Nat} {ds : List Int} (h : ∀ d ∈ ds, 0 ≤ d ∧ d ≤ m) (hm : m ≤ 31) (hl : ds.length ≤ 4) (k : Nat) : symD m (ds.take k) ≤ 1048576 := by
  have h1 := symD_lt (m := m) (ds := ds.take k) (fun d hd => h d (List.mem_of_mem_take hd))
  have h2 : (m + 1) ^ (ds.take k).length ≤ 32 ^ (ds.take k).length := Nat.pow_le_pow_left (by omega) _
  have h3 : 32 ^ (ds.take k).length ≤ 32 ^ 4 := Nat.pow_le_pow_right (by decide) (by rw [List.length_take]; omega)
  have h4 : 32 ^ 4 = 1048576 := by decide
  omega

set_option maxHeartbeats 1000000 in
theorem symbol_any (A : Option Addr) (c b : Nat) (ds : List Int) (w : World) (hS : RI w A c ds) (hd : ∀ d ∈ ds, 0 ≤ d ∧ d ≤ (mostB b : Int)) (hl : ds.length ≤ 4) :
    Calls Tryd.prog 102 #[.agg (formC b), .slice A ds.length c] w fun e w' => e = .returned (.int .i64 (symD (mostB b) ds)) ∧ Below w.heap.size w w' := by
  have hn := hS.len
  have hm := mostB_le b
  have HB := Lib.hid (symD_bd hd hm hl)
  have HT := Lib.hid (symD_take (mostB b) ds)
  have HX := Lib.hid (fun k => nth_bound hd (by omega) k)
  have hba := below_alloc (Below.refl w.heap.size w) (.cells (formC b) 109)
  unfold formC at hba ⊢
  generalize hD : dimB b = D at *
  generalize hM : mostB b = M at *
  generalize hE : escB b = E at *
  have HS := Lib.hid hS
  obtain ⟨g, hg⟩ : ∃ g, w.heap.size = g := ⟨_, rfl⟩
  have hB0 : Blk (w.alloc (.cells (#[.int .i64 (D : Int), .int .i64 (M : Int), .bool E]) 109)) g #[.int .i64 (D : Int), .int .i64 (M : Int), .bool E] 109 := by rw [← hg]; exact heap_alloc_new w _
  clear hD hM hE hd
  go_enter Tryd.func102, Tryd.ntmps102
  go_wp2
  go_loopw [5, 10] (fun sv iv wr => ∃ k : Nat, k ≤ ds.length ∧ iv = .int .i64 (k : Int) ∧ sv = .int .i64 (symD M (ds.take k) : Nat) ∧ Hid (Below w.heap.size w wr) ∧ Blk wr g #[.int .i64 (D : Int), .int .i64 (M : Int), .bool E] 109) (fun _ iv _ => ds.length - (intOf iv).toNat)
  case atStart => exact ⟨0, Nat.zero_le _, rfl, rfl, Lib.hid hba, hB0⟩
  case round =>
    clear hba hB0
    obtain ⟨k, hk, rfl, rfl, hB, hK⟩ := hrel
    have k1 := hK.cell 1 rfl
    by_cases hlt : k < ds.length
    · obtain ⟨ad, rfl, hc⟩ := rd_int (HS.out.below hB.out) k hlt
      have hki : (k : Int) < (ds.length : Int) := by omega
      have HN := Lib.hid (HT.out k hlt)
      have hx := HX.out k
      have hb1 := HB.out k
      generalize nth 0 ds k = x at hc HN hx
      generalize symD M (ds.take k) = s at HN hb1
      obtain ⟨y, rfl⟩ : ∃ y : Nat, x = (y : Int) := ⟨x.toNat, by omega⟩
      have hwk : IntKind.i64.wrap ((k : Int) + 1) = (k : Int) + 1 := IntWalk.i64_in _ (by omega)
      have hw1 : IntKind.i64.wrap ((M : Int) + 1) = (M : Int) + 1 := IntWalk.i64_in _ (by omega)
      obtain ⟨q, hq⟩ : ∃ q, s * (M + 1) = q := ⟨_, rfl⟩
      have hqi : (s : Int) * ((M : Int) + 1) = (q : Int) := by rw [← hq]; simp
      have hqb : q ≤ 1048576 * 32 := by rw [← hq]; exact Nat.mul_le_mul hb1 (by omega)
      have hw2 : IntKind.i64.wrap ((s : Int) * ((M : Int) + 1)) = (q : Int) := by rw [hqi]; exact IntWalk.i64_in _ (by omega)
      have hw3 : IntKind.i64.wrap ((q : Int) + (y : Int)) = (q : Int) + (y : Int) := IntWalk.i64_in _ (by omega)
      have HQ := Lib.hid hq
      clear hq hqi
      go_wp2
      go_roundw
      case rel => exact ⟨k + 1, by omega, by go_num, by rw [HN.out, HQ.out]; simp, hB, hK⟩
      case measure => simp [intOf]; omega
    · obtain rfl : k = ds.length := by omega
      go_wp2
      go_ret
      exact ⟨ret_int (by rw [List.take_length]), hB.out⟩
end Go.Proofs.YtmcdgmiheklbeaaDoor

namespace Go.Proofs.YtmcdgmiheklbeaaDoor
open Go.RowKit

theorem gamma_same (v : Nat) (w : World) (hv : v ≤ 1000000) :
    Calls Tryd.prog 105 #[.int .i64 (v : Int)] w fun e w' => e = .returned (.int .i64 ((2 * Nat.log2 v + 1 : Nat) : Int)) ∧ w' = w :=
  (gamma_any v w hv).mono fun _ _ ⟨h1, h2⟩ => ⟨h1, h2.symm⟩
theorem besB_length (b : Nat) (v : Int) : (besB b v).length = if v = 0 then 0 else if escpB b v = true then 1 + (2 * Nat.log2 (v.natAbs - mostB b + 1) + 1) else 1 := by
  unfold besB
  split
  · rfl
  · split
    · rw [List.length_cons, gamB_length]; omega
    · rfl

set_option maxHeartbeats 2000000 in
theorem beside_any (b : Nat) (v : Int) (w : World) (hv : -1023 ≤ v ∧ v ≤ 1023) :
    Calls Tryd.prog 81 #[.agg (formC b), .int .i64 v] w fun e w' => e = .returned (.int .i64 ((besB b v).length : Int)) ∧ Below w.heap.size w w' := by
  have hm := mostB_le b
  have HL := Lib.hid (besB_length b v)
  have HP := Lib.hid (show escpB b v = (escB b && decide (mostB b ≤ v.natAbs)) from rfl)
  have hba := Lib.hid (below_alloc (Below.refl w.heap.size w) (.cells (formC b) 109))
  have HZ := Lib.hid (fun W => size_same v W (by omega))
  have hzb : v.natAbs ≤ 1023 := by omega
  have h00 : v.natAbs = 0 → v = 0 := fun h => by omega
  unfold formC at hba ⊢
  generalize (besB b v).length = L at *
  generalize escpB b v = P at *
  generalize hD : dimB b = D at *
  generalize hM : mostB b = M at *
  generalize hE : escB b = E at *
  generalize hz : v.natAbs = z at *
  obtain ⟨g, hg⟩ : ∃ g, w.heap.size = g := ⟨_, rfl⟩
  have hB0 : Blk (w.alloc (.cells (#[.int .i64 (D : Int), .int .i64 (M : Int), .bool E]) 109)) g #[.int .i64 (D : Int), .int .i64 (M : Int), .bool E] 109 := by rw [← hg]; exact heap_alloc_new w _
  have k1 := hB0.cell 1 rfl
  have k2 := hB0.cell 2 rfl
  clear hD hM hE hB0
  by_cases h0 : v = 0
  · have HX := Lib.hid (show L = 0 by rw [HL.out, if_pos h0])
    subst h0
    go_enter Tryd.func81, Tryd.ntmps81
    go_wp2
    go_ret
    exact ⟨ret_int (by rw [HX.out]; rfl), hg ▸ hba.out⟩
  · have hx0 : L = if P = true then 1 + (2 * Nat.log2 (z - M + 1) + 1) else 1 := by rw [HL.out, if_neg h0]
    have hv0 : (v == 0) = false := by simp [h0]
    clear h0 h00 hz
    rw [HP.out] at hx0
    cases E
    · have HX := Lib.hid (show L = 1 by rw [hx0]; rfl)
      clear hx0
      go_enter Tryd.func81, Tryd.ntmps81
      go_wp2
      go_quiet ((go_at_call 78; exact Calls.quiet_of_same (HZ.out _)))
      go_wp2
      go_ret
      exact ⟨ret_int (by rw [HX.out]; rfl), below_drewN hba.out _⟩
    · by_cases h1 : M ≤ z
      · have d1 : decide (M ≤ z) = true := decide_eq_true h1
        have HX := Lib.hid (show L = 1 + (2 * Nat.log2 (z - M + 1) + 1) by rw [hx0, d1]; rfl)
        have hw1 : IntKind.i64.wrap ((z : Int) - (M : Int)) = ((z - M : Nat) : Int) := by rw [Int.ofNat_sub h1]; exact IntWalk.i64_in _ (by omega)
        have hw2 : IntKind.i64.wrap (((z - M : Nat) : Int) + 1) = ((z - M + 1 : Nat) : Int) := by rw [Int.natCast_succ]; exact IntWalk.i64_in _ (by omega)
        have HG := Lib.hid (fun W => gamma_same (z - M + 1) W (by omega))
        have hlb := log2_le (v := z - M + 1) (n := 20) (by omega)
        generalize Nat.log2 (z - M + 1) = y at HX HG hlb
        obtain ⟨q, hq⟩ : ∃ q, z - M = q := ⟨_, rfl⟩
        rw [hq] at hw1 hw2 HG
        obtain ⟨q1, hq1⟩ : ∃ q1, q + 1 = q1 := ⟨_, rfl⟩
        rw [hq1] at hw2 HG
        obtain ⟨y1, hy1⟩ : ∃ y1, 2 * y + 1 = y1 := ⟨_, rfl⟩
        rw [hy1] at HG HX
        have hw3 : IntKind.i64.wrap (1 + (y1 : Int)) = ((1 + y1 : Nat) : Int) := by rw [Int.natCast_add]; exact IntWalk.i64_in _ (by omega)
        clear hx0 hq hq1 hy1
        go_enter Tryd.func81, Tryd.ntmps81
        go_wp2
        go_quiet ((go_at_call 78; exact Calls.quiet_of_same (HZ.out _)))
        go_wp2
        obtain ⟨W1, hW1⟩ : ∃ W1, (w.alloc (.cells (#[.int .i64 (D : Int), .int .i64 (M : Int), .bool true]) 109)).drewN nq = W1 := ⟨_, rfl⟩
        have k1' : W1.cell? ⟨g, 1, none⟩ = some (.int .i64 M) := by rw [← hW1]; exact k1
        have hb1 : Below w.heap.size w W1 := by rw [← hW1]; exact below_drewN hba.out _
        simp only [hW1]
        clear hW1 k1 k2 hba
        go_quiet ((first | (go_at_call 78; exact Calls.quiet_of_same (HZ.out _)) | (go_at_call 105; exact Calls.quiet_of_same (HG.out _))))
        go_wp2
        go_ret
        exact ⟨ret_int (by rw [HX.out]; omega), below_drewN hb1 _⟩
      · have d1 : decide (M ≤ z) = false := decide_eq_false h1
        have HX := Lib.hid (show L = 1 by rw [hx0, d1]; rfl)
        clear hx0
        go_enter Tryd.func81, Tryd.ntmps81
        go_wp2
        go_quiet ((go_at_call 78; exact Calls.quiet_of_same (HZ.out _)))
        go_wp2
        go_ret
        exact ⟨ret_int (by rw [HX.out]; rfl), below_drewN hba.out _⟩

/-- What digits returns: the closure over a form. -/
theorem digits_any (b : Nat) (w : World) :
    Calls Tryd.prog 101 #[.agg (formC b)] w fun e w' => e = .returned (.func (.func 120) #[] #[.pointer (some ⟨w.heap.size, 0, none⟩)]) ∧ Blk w' w.heap.size (formC b) 109 ∧ Below w.heap.size w w' := by
  unfold formC
  go_enter Tryd.func101, Tryd.ntmps101
  go_wp2
  go_ret
  exact ⟨rfl, heap_alloc_new w _, below_alloc (Below.refl _ _) _⟩
set_option maxHeartbeats 1000000 in
theorem digits1_any (b g : Nat) (v : Int) (w : World) (hB : Blk w g (formC b) 109) (hv : -1023 ≤ v ∧ v ≤ 1023) :
    Calls Tryd.prog 120 #[.int .i64 v, .pointer (some ⟨g, 0, none⟩)] w fun e w' => e = .returned (.int .i64 (digB b v : Int)) ∧ Below w.heap.size w w' := by
  have hm := mostB_le b
  have k1 : w.cell? ⟨g, 1, none⟩ = some (.int .i64 (mostB b : Int)) := hB.cell 1 rfl
  have HD := Lib.hid (show digB b v = min v.natAbs (mostB b) from rfl)
  have HZ := Lib.hid (fun W => size_same v W (by omega))
  generalize digB b v = d at *
  generalize mostB b = M at *
  generalize v.natAbs = z at *
  go_enter Tryd.func120, Tryd.ntmps120
  go_wp2
  go_quiet ((go_at_call 78; exact Calls.quiet_of_same (HZ.out _)))
  go_wp2
  all_goals
    go_ret
    exact ⟨ret_int (by rw [HD.out]; omega), below_drewN (Below.refl _ _) _⟩
end Go.Proofs.YtmcdgmiheklbeaaDoor

namespace Go.Proofs.YtmcdgmiheklbeaaDoor
open Go.RowKit

def digsB (b : Nat) (g : List Int) : List Int := g.map fun v => (digB b v : Int)
theorem symG_symD (b : Nat) (g : List Int) : symG b g = symD (mostB b) (digsB b g) := by
  unfold symG symD digsB
  rw [List.foldl_map]
  simp
theorem digsB_length (b : Nat) (g : List Int) : (digsB b g).length = g.length := by simp [digsB]
theorem digsB_in (b : Nat) (g : List Int) : ∀ d ∈ digsB b g, 0 ≤ d ∧ d ≤ (mostB b : Int) := by
  intro d hd
  obtain ⟨v, _, rfl⟩ := List.mem_map.1 hd
  have : digB b v ≤ mostB b := Nat.min_le_right _ _
  omega
theorem digsB_take (b : Nat) (g : List Int) (k : Nat) (h : k < g.length) : (digsB b g).take (k + 1) = (digsB b g).take k ++ [(digB b (nth 0 g k) : Int)] := by
  have e : nth 0 (digsB b g) k = (digB b (nth 0 g k) : Int) := by
    rw [nth_eq 0 _ k (by rw [digsB_length]; exact h), nth_eq 0 g k h]; simp [digsB]
  rw [take_succ_nth 0 _ k (by rw [digsB_length]; exact h), e]

set_option maxHeartbeats 2000000 in
set_option maxRecDepth 100000 in
theorem symbolOf_any (A : Option Addr) (c b : Nat) (l : List Int) (w : World) (hS : RI w A c l) (hq : ∀ v ∈ l, -1023 ≤ v ∧ v ≤ 1023) (h4 : l.length ≤ 4) :
    Calls Tryd.prog 77 #[.agg (formC b), .slice A l.length c] w fun e w' => e = .returned (.int .i64 (symG b l)) ∧ Below w.heap.size w w' := by
  have hn := hS.len
  have HS := Lib.hid hS
  have HQ := Lib.hid (fun k => nth_bound hq (by decide) k)
  have HG := Lib.hid (symG_symD b l)
  have HT := Lib.hid (digsB_take b l)
  have HD := Lib.hid (fun W => (digits_any b W).mono (R' := fun e w' => ∃ g2, e = .returned (.func (.func 120) #[] #[.pointer (some ⟨g2, 0, none⟩)]) ∧ Blk w' g2 (formC b) 109 ∧ Below W.heap.size W w') fun _ _ h => ⟨_, h⟩)
  have HY := Lib.hid (fun A' c' W (hW : RI W A' c' (digsB b l)) => symbol_any A' c' b (digsB b l) W hW (digsB_in b l) (by rw [digsB_length]; exact h4))
  have HL := Lib.hid (digsB_length b l)
  have HM := Lib.hid (fun g v W (hB : Blk W g (formC b) 109) (hv : -1023 ≤ v ∧ v ≤ 1023) => digits1_any b g v W hB hv)
  have hba := below_alloc (Below.refl w.heap.size w) (.cells (formC b) 109)
  obtain ⟨g, hg⟩ : ∃ g, w.heap.size = g := ⟨_, rfl⟩
  have hB0 : Blk (w.alloc (.cells (formC b) 109)) g (formC b) 109 := by rw [← hg]; exact heap_alloc_new w _
  have k0 : (w.alloc (.cells (formC b) 109)).cell? ⟨g, 0, none⟩ = some (.int .i64 (dimB b : Int)) := hB0.cell 0 rfl
  have k1 : (w.alloc (.cells (formC b) 109)).cell? ⟨g, 1, none⟩ = some (.int .i64 (mostB b : Int)) := hB0.cell 1 rfl
  have k2 : (w.alloc (.cells (formC b) 109)).cell? ⟨g, 2, none⟩ = some (.bool (escB b)) := hB0.cell 2 rfl
  clear hq
  go_enter Tryd.func77, Tryd.ntmps77
  go_wp2_with (first | (go_at_call 101; refine (HD.out _).mono ?_; rintro e W1 ⟨g2, rfl, hB1, b1⟩))
  have hBf := hB0.below b1
  have HW := Lib.hid (show Below w.heap.size w W1 from below2 hba b1)
  have HF := Lib.hid (show Blk W1 g2 (formC b) 109 ∧ Blk W1 g (formC b) 109 from ⟨hB1, hBf⟩)
  clear k0 k1 k2 hB0 hba HD b1 hB1 hBf
  go_loopw [6, 13] (fun sv iv wr => ∃ k : Nat, k ≤ l.length ∧ iv = .int .i64 (k : Int) ∧ Hid (OwnI 3 .i64 W1.heap.size wr sv ((digsB b l).take k)) ∧ Below W1.heap.size W1 wr) (fun _ iv _ => l.length - (intOf iv).toNat)
  case atStart => exact ⟨0, Nat.zero_le _, rfl, Lib.hid (OwnI.nil _ _ _ _), Below.refl _ _⟩
  case round =>
    obtain ⟨k, hk, rfl, hO, hB⟩ := hrel
    by_cases hlt : k < l.length
    · obtain ⟨ad, rfl, hc⟩ := rd_int ((HS.out.below HW.out).below hB) k hlt
      have hki : (k : Int) < (l.length : Int) := by omega
      have HN := Lib.hid (HT.out k hlt)
      have HX := Lib.hid (HQ.out k)
      generalize nth 0 l k = x at hc HN HX
      have hwk : IntKind.i64.wrap ((k : Int) + 1) = (k : Int) + 1 := IntWalk.i64_in _ (by omega)
      have hlk : ((digsB b l).take k).length ≤ 4 := by rw [List.length_take]; have := HL.out; omega
      go_wp2_with (first
        | (go_at_call 120; refine (HM.out g2 x _ (HF.out.1.below hB) HX.out).mono ?_; rintro e w2 ⟨rfl, b2⟩)
        | (at_builtin; (refine append_one (w0 := W1) W1.heap.size rfl (.tmp 17) (.tmp 21) 25 3 .i64 8 rfl Tryd.underlying25 infoI (by decide) _ ((digsB b l).take k) (digB b x : Int) rfl rfl (hO.out.below b2) (below2 hB b2) (Nat.le_trans hB.size b2.size) (by omega) ?_); intro v1 w4 hO4 hB4 _ _; have HO4 := Lib.hid hO4; clear hO4))
      go_roundw
      case rel => exact ⟨k + 1, by omega, by go_num, by rw [HN.out]; exact HO4, hB4⟩
      case measure => simp [intOf]; omega
    · obtain rfl : k = l.length := by omega
      have HT2 := Lib.hid (show (digsB b l).take l.length = digsB b l from List.take_of_length_le (by rw [HL.out]; exact Nat.le_refl _))
      rw [HT2.out] at hO
      obtain ⟨A2, c2, rfl⟩ := hO.out.slice
      have hR := own_sl hO.out
      have hf := HF.out.2.below hB
      have k0 : wr.cell? ⟨g, 0, none⟩ = some (.int .i64 (dimB b : Int)) := hf.cell 0 rfl
      have k1 : wr.cell? ⟨g, 1, none⟩ = some (.int .i64 (mostB b : Int)) := hf.cell 1 rfl
      have k2 : wr.cell? ⟨g, 2, none⟩ = some (.bool (escB b)) := hf.cell 2 rfl
      go_wp2_with (first | (go_at_call 102; refine (HY.out A2 c2 _ hR).mono ?_; rintro e w3 ⟨rfl, b3⟩))
      go_ret
      exact ⟨ret_int (by rw [HG.out]), below2 (below2 HW.out hB) b3⟩
end Go.Proofs.YtmcdgmiheklbeaaDoor

namespace Go.Proofs.YtmcdgmiheklbeaaDoor
open Go.RowKit
section
variable {P : Program} (t e : TypeId) {i : TypeInfo} (ht : P.underlying t = some (.slice e)) (hi : P.info? e = some i) (A : Option Addr) (n c : Nat)
include ht hi
end
end Go.Proofs.YtmcdgmiheklbeaaDoor

namespace Go.Proofs.YtmcdgmiheklbeaaDoor
open Go.RowKit
attribute [local go_sem] Oper.semAt_some

/-- 'xs[lo:hi:hi]' of a part that is not empty, with its address. -/
theorem cut_grp (lo d n c : Nat) (ad : Addr) (hd : 1 ≤ d) (h2 : lo + d ≤ n) (hnc : n ≤ c) (W : World) :
    (Instr.slice 25 (.slice (some ad) n c) (some (.int .i64 (lo : Int))) (some (.int .i64 ((lo + d : Nat) : Int))) (some (.int .i64 ((lo + d : Nat) : Int)))).run Tryd.prog W = .ok (.slice (some (ad.add lo)) d d) W := by
  obtain ⟨i, hi, hz⟩ := Option.map_eq_some_iff.1 infoI
  have hel : Tryd.prog.elem 25 = 3 := by simp [Program.elem, Tryd.underlying25]
  have hu : Tryd.prog.underlying 25 = some (.slice (Tryd.prog.elem 25)) := by rw [hel]; exact Tryd.underlying25
  have h1 : i.size = 1 := by simp at hz; exact hz.2.1
  rw [run_slice_lhm W 25 (some ad) n c hu .i64 .i64 .i64 (lo : Int) ((lo + d : Nat) : Int) ((lo + d : Nat) : Int) (Int.natCast_nonneg _) (by omega) (Int.le_refl _) (by omega), hel]
  have e1 : ¬ (lo + d = lo) := by omega
  have e2 : lo + d - lo = d := by omega
  simp [sizeOf, typeInfo, hi, sliced, Result.andThen, h1]
  omega
theorem grp_sl {α : Type} {k : Kd α} {ok : Nat → Prop} {w : World} {ad : Addr} {c : Nat} {xs : List α} (h : Sl k ok w (some ad) c xs) (lo d : Nat) (h2 : lo + d ≤ xs.length) : Sl k ok w (some (ad.add (lo * k.size))) d ((xs.take (lo + d)).drop lo) := by
  refine ⟨by rw [List.length_drop, List.length_take]; omega, by have := h.cap; have := h.le; omega, ?_⟩
  exact (h.rd.take (lo + d)).drop lo

set_option maxHeartbeats 1000000 in
theorem groups_any (A : Option Addr) (c n b : Nat) (w : World) :
    Calls Tryd.prog 76 #[.agg (formC b), .slice A n c] w fun e w' => ∃ g1 g2, e = .returned (.func (.func 100) #[] #[.pointer (some ⟨g1, 0, none⟩), .pointer (some ⟨g2, 0, none⟩)]) ∧ Hid (g1 = w.heap.size) ∧ Hid (g2 = g1 + 1) ∧ Hid (w'.heap.size = g2 + 1) ∧ Blk w' g1 (formC b) 109 ∧ Blk w' g2 #[.slice A n c] 25 ∧ Below w.heap.size w w' := by
  have h1 : Blk (w.alloc (.cells (formC b) 109)) w.heap.size (formC b) 109 := heap_alloc_new w _
  have h2 := h1.below (below_alloc (Below.refl _ _) (.cells #[.slice A n c] 25))
  have h3 : Blk ((w.alloc (.cells (formC b) 109)).alloc (.cells #[.slice A n c] 25)) (w.alloc (.cells (formC b) 109)).heap.size #[.slice A n c] 25 := heap_alloc_new _ _
  have h4 := below_alloc (below_alloc (Below.refl w.heap.size w) (.cells (formC b) 109)) (.cells #[.slice A n c] 25)
  have h5 : (w.alloc (.cells (formC b) 109)).heap.size = w.heap.size + 1 := by simp
  rw [h5] at h3
  go_enter Tryd.func76, Tryd.ntmps76
  go_wp2
  go_ret
  exact ⟨_, _, rfl, Lib.hid rfl, Lib.hid (by simp), Lib.hid (by simp), h2, h3, h4⟩

/-- What comes next. -/
def NextG (q : Nat) (pre : List Nat) (x : Nat) : Prop := x < q ∧ pre = List.range x
/-- A group as a value. -/
def grpV (A : Option Addr) (d j : Nat) : Value := .slice (A.map fun ad => ad.add (j * d)) d d

set_option maxHeartbeats 2000000 in
set_option maxRecDepth 100000 in
theorem groups1_yields (g1 g2 b : Nat) (A : Option Addr) (c : Nat) (l : List Int) (w : World) (ok : Nat → Prop) (hS : RI w A c l) (hF : Blk w g1 (formC b) 109) (hB : Blk w g2 #[.slice A l.length c] 25) (ok1 : ok g1) (ok2 : ok g2) (n : Nat) (hn : 1 ≤ n) (hlm : l.length ≤ 100000000) :
    YieldsN Fence.wide n Tryd.prog 100 #[.pointer (some ⟨g1, 0, none⟩), .pointer (some ⟨g2, 0, none⟩)] (fun x : Nat => #[grpV A (dimB b) x]) ok (fun _ => False) (fun xs => xs = List.range (l.length / dimB b)) (fun _ => True) (NextG (l.length / dimB b)) w := by
  intro y J Jx W hW hJ hJx hY h0
  have hBW := hB.below hW
  have hFW := hF.below hW
  have hlen := hS.len
  have hle := hS.le
  have hd := dimB_pos b
  have HA : Hid (0 < l.length → ∃ ad, A = some ad) := Lib.hid fun h => by
    obtain ⟨ad, h1, _⟩ := rd_int hS 0 h
    exact ⟨ad, h1⟩
  refine callsIn_of_wp Tryd.func100 rfl trivial ?_ rfl
  simp only [Tryd.ntmps100, List.size_toArray, List.length_cons, List.length_nil, Nat.reduceAdd, Nat.reduceSub, Array.replicate_succ, Array.replicate_zero, List.push_toArray, List.append_toArray, List.nil_append, List.cons_append]
  gi_wp2
  have H0 : Hid (J (List.range 0) W) := Lib.hid h0
  have HY := Lib.hid hY
  clear h0 hY
  have HD := Lib.hid hd
  obtain ⟨D, hD⟩ : ∃ D, dimB b = D := ⟨_, rfl⟩
  obtain ⟨q, hq⟩ : ∃ q, l.length / dimB b = q := ⟨_, rfl⟩
  simp only [hD] at hd
  rw [hq] at HY
  rw [hD] at HY
  have HQ : Hid (∀ j, j < q → j * D + D ≤ l.length) := Lib.hid fun j h => by rw [← hD]; exact grp_in (by rw [hq]; exact h)
  have HQ2 : Hid (∀ j, ¬ j < q → j * D + D > l.length) := Lib.hid fun j h => by
    have h1 : q + 1 ≤ j + 1 := by omega
    have h2 := Nat.mul_le_mul_right D h1
    have h3 : l.length < (q + 1) * D := by rw [← hq, ← hD, Nat.add_mul, Nat.one_mul, Nat.mul_comm]; have := Nat.div_add_mod l.length (dimB b); have := Nat.mod_lt l.length (show 0 < dimB b by omega); omega
    simp only [Nat.add_mul, Nat.one_mul] at h2 h3
    omega
  have HQ3 : Hid (q ≤ l.length) := Lib.hid (by rw [← hq]; exact Nat.div_le_self _ _)
  gi_loopw [4] (fun iv wr => ∃ j : Nat, j ≤ q ∧ iv = .int .i64 ((j * D : Nat) : Int) ∧ Hid (J (List.range j) wr) ∧ Keep ok W wr) (fun iv _ => l.length + 4 - (intOf iv).toNat)
  case atStart => exact ⟨0, Nat.zero_le _, by simp, H0, Keep.refl _ _⟩
  case round =>
    clear H0
    obtain ⟨j, hj, rfl, HJ, hkp⟩ := hrel
    have kf : wr.cell? ⟨g1, 0, none⟩ = some (.int .i64 (D : Int)) := by rw [← hD]; exact (hFW.keep hkp ok1).cell 0 rfl
    have kb : wr.cell? ⟨g2, 0, none⟩ = some (.slice A l.length c) := (hBW.keep hkp ok2).cell 0 rfl
    have HM : Hid ((j + 1) * D = j * D + D) := Lib.hid (by rw [Nat.add_mul, Nat.one_mul])
    by_cases hlt : j < q
    · have hle2 := HQ.out j hlt
      obtain ⟨ad, rfl⟩ := HA.out (by omega)
      obtain ⟨fn, tmps, assign, body, hy, hRd⟩ := HY.out (List.range j) j _ HJ.out ⟨hlt, rfl⟩
      replace hy : (Instr.yield y #[.slice (some (ad.add (j * D))) D D]).run Tryd.prog wr = .ok (.round y fn tmps assign body) wr := hy
      obtain ⟨p, hp⟩ : ∃ p, j * D = p := ⟨_, rfl⟩
      rw [hp] at hle2 hy HM ⊢
      have hcut := fun W => cut_grp p D l.length c ad (by omega) hle2 hle W
      have hwp : IntKind.i64.wrap ((p : Int) + (D : Int)) = ((p + D : Nat) : Int) := by rw [Int.natCast_add]; exact IntWalk.i64_in _ (by omega)
      obtain ⟨s, hs⟩ : ∃ s, p + D = s := ⟨_, rfl⟩
      rw [hs] at hcut hwp hle2 HM
      have hsi : (s : Int) ≤ (l.length : Int) := by omega
      have HS' := Lib.hid (show p + D = s from hs)
      clear hs hp
      gi_wp2
      refine hRd.mono ?_
      rintro e W3 (⟨rfl, hJ3, hk3⟩ | ⟨rfl, hJx3⟩)
      · have kf3 : W3.cell? ⟨g1, 0, none⟩ = some (.int .i64 (D : Int)) := by rw [← hD]; exact (hFW.keep (hkp.trans hk3) ok1).cell 0 rfl
        gi_wp2
        go_roundw
        case rel => exact ⟨j + 1, by omega, by rw [HM.out], by rw [List.range_succ]; exact Lib.hid hJ3, hkp.trans hk3⟩
        case measure => have := HS'.out; simp [intOf]; omega
      · gi_wp2
        refine bodyPost_ret (results_none rfl _ _ _) rfl ?_
        exact ⟨⟨_, rfl⟩, .inr ⟨_, trivial, hJx3⟩⟩
    · obtain rfl : j = q := by omega
      have h2 := HQ2.out j hlt
      have h3 := HQ3.out
      have h4 : j * D ≤ l.length := by rw [← hq, ← hD]; exact Nat.div_mul_le_self _ _
      obtain ⟨p, hp⟩ : ∃ p, j * D = p := ⟨_, rfl⟩
      rw [hp] at h2 h4 ⊢
      have hwp : IntKind.i64.wrap ((p : Int) + (D : Int)) = ((p + D : Nat) : Int) := by rw [Int.natCast_add]; exact IntWalk.i64_in _ (by omega)
      obtain ⟨s, hs⟩ : ∃ s, p + D = s := ⟨_, rfl⟩
      rw [hs] at hwp
      have hsi : ¬ (s : Int) ≤ (l.length : Int) := by omega
      clear hs hp
      gi_wp2
      go_end0
      exact ⟨⟨_, rfl⟩, .inl (by rw [← hD, hq]; exact HJ.out)⟩
end Go.Proofs.YtmcdgmiheklbeaaDoor

namespace Go.Proofs.YtmcdgmiheklbeaaDoor
open Go.ChangeShapes Go.WideShapes Go.ChangeAt Go.WideMaps Go.WideElems Go.RowKit Go.Deep

theorem own : ownKnob Tryd.prog.godebug = none := by kernel_rfl
theorem sl_cells {α : Type} (k : Kd α) (h1 : k.size = 1) {w : World} {a : Addr} {c : Nat} {xs : List α} (V : Nat → Value) (hle : xs.length ≤ c) (hc : c ≤ maxLen) (hcell : ∀ i, i < xs.length → w.cell? (a.add i) = some (V i)) (hK : ∀ i, i < xs.length → k.K AnyB w (nth k.dflt xs i) [V i]) :
    Sl k AnyB w (some a) c xs := by
  refine ⟨hle, by simpa [maxLen] using hc, fun j hj => ?_⟩
  have hcj := hcell j hj
  refine ⟨a, [V j], rfl, trivial, by have := World.block_lt_of_cell? w _ hcj; rwa [add_block] at this, hK j hj, fun i v hv => ?_⟩
  have hi : i = 0 := by
    rcases Nat.eq_zero_or_pos i with h | h
    · exact h
    · rw [List.getElem?_eq_none (by simp; omega)] at hv; cases hv
  subst hi
  injection hv with hv
  rw [h1, Nat.mul_one, Nat.add_zero, ← hv]
  exact hcj

section
variable {H : Type} {enc : TypeId × Value → H} {W : World}
/-- A []int. -/
theorem open_I {fuel : Nat} {v : Value} {x : DataW H × List MemPlace} (h : DataW.trod enc Tryd.prog W 0 (fun _ => true) true fuel 25 [v] = some x) :
    ∃ A c xs, v = .slice A xs.length c ∧ RI W A c xs ∧ ((∀ n ∈ x.1.weights Tryd.prog 25, n ≤ reachBytes) → xs.length ≤ 140737488355328) := by
  rcases open_ints Tryd.underlying25 Tryd.underlying3 (by kernel_rfl) h with ⟨hcs, _⟩ | ⟨a, len, cap, zs, hcs, _, hl, hm, hz, hx, hcell, _⟩
  · injection hcs with hv _
    exact ⟨none, 0, [], hv, ⟨Nat.le_refl _, by omega, Kd.Rd.nil _ _ _ _⟩, fun _ => by simp⟩
  · injection hcs with hv _
    have hz' : zs.length = cap := by simpa using hz
    have hlen : (zs.take len).length = len := by rw [List.length_take]; omega
    refine ⟨some a, cap, zs.take len, by rw [hlen]; exact hv, sl_cells (kInt .i64) rfl (fun i => .int .i64 (nth 0 zs i)) (by rw [hlen]; exact hl) hm (fun i hi => ?_) (fun i hi => ?_), fun hw => ?_⟩
    · rw [hlen] at hi
      rw [hcell i (by omega)]
      rfl
    · rw [hlen] at hi
      show [Value.int .i64 (nth 0 zs i)] = [.int .i64 (nth 0 (zs.take len) i)]
      rw [nth_take _ _ _ _ hi]
    · rw [hlen]
      have hb : Tryd.prog.bytesOf 3 = 8 := by kernel_rfl
      have := hw ((zs.take len).length * 8 + (zs.drop len).length * 8) (by rw [hx]; simp [DataW.weights, Tryd.underlying25, hb, lits, Nat.add_mul])
      have hr : reachBytes = 140737488351232 := rfl
      rw [hlen] at this
      omega

end
end Go.Proofs.YtmcdgmiheklbeaaDoor

namespace Go.Proofs.YtmcdgmiheklbeaaDoor
open Go.RowKit

/-- A table as text. -/
def txtK (b : Nat) : ByteArray := ⟨((tabK b).map fun k => UInt8.ofNat (k + 96)).toArray⟩
structure GT (w : World) : Prop where
  txt : ∀ b, b < 8 → w.cell? ⟨1, b, none⟩ = some (.string (txtK b))
theorem GT.below {w w' : World} (h : GT w) (hb : Below w.heap.size w w') : GT w' := ⟨fun b h8 => cell_below hb (h.txt b h8)⟩
theorem tabK_le (b k : Nat) (h8 : b < 8) (h : k < (tabK b).length) : 1 ≤ nth 0 (tabK b) k ∧ nth 0 (tabK b) k ≤ 16 := by
  rcases Nat.eq_zero_or_pos b with rfl | h1
  · exact absurd h (by simp [tabK])
  · exact tab_bound b h1 h8 (by rw [← tabK_length b h1 h8]; exact h)
theorem txtK_size (b : Nat) : (txtK b).size = (tabK b).length := by simp [txtK, ByteArray.size]
theorem txtK_at (b j : Nat) (h8 : b < 8) (h : j < (tabK b).length) : ((txtK b).data.toList.getD j 0).toNat = nth 0 (tabK b) j + 96 := by
  have h1 := tabK_le b j h8 h
  rw [nth_eq 0 _ j h] at h1 ⊢
  have e : (txtK b).data.toList = (tabK b).map fun k => UInt8.ofNat (k + 96) := by simp [txtK]
  rw [e, List.getD_eq_getElem?_getD, List.getElem?_eq_getElem (by rw [List.length_map]; exact h)]
  simp
  omega
def bytK (b : Nat) : List Int := (tabK b).map fun k => ((k + 96 : Nat) : Int)
theorem bytK_length (b : Nat) : (bytK b).length = (tabK b).length := by simp [bytK]
theorem bytK_nth (b j : Nat) (h : j < (tabK b).length) : nth 0 (bytK b) j = ((nth 0 (tabK b) j + 96 : Nat) : Int) := by
  rw [nth_eq 0 _ j (by rw [bytK_length]; exact h), nth_eq 0 _ j h]; simp [bytK]
theorem tabK_len256 (b : Nat) : (tabK b).length ≤ 256 := by
  rcases Nat.lt_or_ge b 8 with h | h
  · have : b = 0 ∨ b = 1 ∨ b = 2 ∨ b = 3 ∨ b = 4 ∨ b = 5 ∨ b = 6 ∨ b = 7 := by omega
    rcases this with rfl | rfl | rfl | rfl | rfl | rfl | rfl | rfl <;> decide +kernel
  · have e : tabK b = tabK 7 := by
      match b, h with
      | n + 8, _ => rfl
    rw [e]; decide +kernel
/-- []byte of a table. -/
theorem conv_tab (b : Nat) (h8 : b < 8) (w : World) : ∃ A c W, (convert 9 22 (.string (txtK b))).run Tryd.prog w = .ok (.slice A (tabK b).length c) W ∧ RY W A c (bytK b) ∧ Below w.heap.size w W := by
  have h := Go.Lib.run_convert_string_bytes (P := Tryd.prog) w 9 22 5 (txtK b) Tryd.underlying9 Tryd.underlying22 Tryd.underlying5
  rw [txtK_size] at h
  have hl := tabK_len256 b
  refine ⟨_, _, _, h, sl_cells (kInt .u8) rfl (fun i => .int .u8 (nth 0 (bytK b) i)) (by rw [bytK_length]; exact grownCap_ge _ _ _ _) (grownCap_le_maxLen _ _ _ _ (by simp [maxLen]; omega)) (fun i hi => ?_) (fun i hi => rfl), rfl, rfl, rfl, ?_, fun k hk => ?_⟩
  · rw [bytK_length] at hi
    have h1 := Go.Lib.bytesWorld_cell w 5 (txtK b) i (by rw [txtK_size]; exact hi)
    rw [txtK_at b i h8 hi] at h1
    rw [bytK_nth b i hi, add_plain]
    exact h1
  · rw [Go.Lib.bytesWorld_size]; omega
  · exact Go.Lib.bytesWorld_at_old w _ _ k hk

set_option maxHeartbeats 1000000 in
set_option maxRecDepth 100000 in
theorem lengths17_any (b : Nat) (w : World) (hG : GT w) (h8 : b < 8) :
    Calls Tryd.prog 74 #[.int .i64 (b : Int)] w fun e w' => ∃ v, e = .returned v ∧ OwnI 3 .i64 w.heap.size w' v (tabKI b) ∧ Below w.heap.size w w' := by
  have c0 := hG.txt b h8
  have hb8 : (b : Int) < 8 := by omega
  obtain ⟨A, c, W, hcv, hRY, hB0⟩ := conv_tab b h8 w
  have hl := tabK_len256 b
  have HB := Lib.hid (bytK_nth b)
  have HBL := Lib.hid (bytK_length b)
  have HL := Lib.hid (tabK_le b)
  have HT := Lib.hid (show ∀ k, k < (tabK b).length → (tabKI b).take (k + 1) = (tabKI b).take k ++ [((nth 0 (tabK b) k : Nat) : Int)] from fun k h => by rw [take_succ_nth 0 _ k (by unfold tabKI; rw [List.length_map]; exact h), tabKI_nth b k h])
  have HTL := Lib.hid (show (tabKI b).length = (tabK b).length by unfold tabKI; rw [List.length_map])
  have HBB := Lib.hid hB0
  have HRY := Lib.hid hRY
  clear hRY hB0
  go_enter Tryd.func74, Tryd.ntmps74
  go_wp2
  go_loopw [3, 11] (fun v i wr => ∃ k : Nat, k ≤ (tabK b).length ∧ i = .int .i64 (k : Int) ∧ Hid (OwnI 3 .i64 W.heap.size wr v ((tabKI b).take k)) ∧ Below W.heap.size W wr) (fun _ i _ => (tabK b).length - (intOf i).toNat)
  case atStart => exact ⟨0, Nat.zero_le _, rfl, Lib.hid (OwnI.nil _ _ _ _), Below.refl _ _⟩
  case round =>
    obtain ⟨k, hk, rfl, hO, hB⟩ := hrel
    by_cases hlt : k < (tabK b).length
    · obtain ⟨ad, rfl, hc⟩ := rd_int (HRY.out.below hB) k (by rw [HBL.out]; exact hlt)
      rw [HB.out k hlt] at hc
      have hki : (k : Int) < ((tabK b).length : Int) := by omega
      have HN := Lib.hid (HT.out k hlt)
      have hy := HL.out k h8 hlt
      generalize nth 0 (tabK b) k = y at hc HN hy
      have hw0 : IntKind.u8.wrap (((y + 96 : Nat) : Int) - 97) = ((y - 1 : Nat) : Int) := by
        have e : ((y + 96 : Nat) : Int) - 97 = ((y - 1 : Nat) : Int) := by omega
        rw [e]
        show ((y - 1 : Nat) : Int) % 256 = _
        omega
      obtain ⟨z, hz⟩ : ∃ z, y - 1 = z := ⟨_, rfl⟩
      obtain ⟨y2, hy2⟩ : ∃ y2, y + 96 = y2 := ⟨_, rfl⟩
      rw [hz, hy2] at hw0
      rw [hy2] at hc
      have hw1 : IntKind.i64.wrap (z : Int) = (z : Int) := IntWalk.i64_in _ (by omega)
      have ez : (z : Int) + 1 = (y : Int) := by omega
      have hw2 : IntKind.i64.wrap ((z : Int) + 1) = (y : Int) := by rw [ez]; exact IntWalk.i64_in _ (by omega)
      clear ez
      have hwk : IntKind.i64.wrap ((k : Int) + 1) = (k : Int) + 1 := IntWalk.i64_in _ (by omega)
      have hlk : ((tabKI b).take k).length ≤ 256 := by rw [List.length_take]; have := HTL.out; omega
      clear hz hy2
      go_wp2_with (at_builtin; (refine append_one (w0 := W) W.heap.size rfl (.tmp 15) (.tmp 20) 25 3 .i64 8 rfl Tryd.underlying25 infoI (by decide) _ ((tabKI b).take k) (y : Int) rfl rfl hO.out hB hB.size (by omega) ?_); intro v1 w4 hO4 hB4 _ _; have HO4 := Lib.hid hO4; clear hO4)
      go_roundw
      case rel => exact ⟨k + 1, by omega, by go_num, by rw [HN.out]; exact HO4, hB4⟩
      case measure => simp [intOf]; omega
    · obtain rfl : k = (tabK b).length := by omega
      have HT2 := Lib.hid (show (tabKI b).take (tabK b).length = tabKI b from List.take_of_length_le (by rw [HTL.out]; exact Nat.le_refl _))
      go_wp2
      go_ret
      exact ⟨_, rfl, by rw [← HT2.out]; exact hO.out.mono HBB.out.size, below2 HBB.out hB⟩
end Go.Proofs.YtmcdgmiheklbeaaDoor

namespace Go.Proofs.YtmcdgmiheklbeaaDoor
open Go.RowKit

end Go.Proofs.YtmcdgmiheklbeaaDoor

namespace Go.Proofs.YtmcdgmiheklbeaaDoor
open Go.RowKit

end Go.Proofs.YtmcdgmiheklbeaaDoor

namespace Go.Proofs.YtmcdgmiheklbeaaDoor
open Go.RowKit

end Go.Proofs.YtmcdgmiheklbeaaDoor

namespace Go.Proofs.YtmcdgmiheklbeaaDoor
open Go.RowKit

end Go.Proofs.YtmcdgmiheklbeaaDoor

namespace Go.Proofs.YtmcdgmiheklbeaaDoor
open Go.RowKit

theorem sameL_refl (xs : List Int) : sameL xs xs = true := by simp [sameL]
/-- A row of the call's own, as it is read. -/
theorem own_ri {e : TypeId} {ik : IntKind} {base : Nat} {w : World} {v : Value} {xs : List Int} (h : OwnI e ik base w v xs) : ∃ A c, v = .slice A xs.length c ∧ Sl (kInt ik) AnyB w A c xs := by
  obtain ⟨A, c, e, hs⟩ := h.rd
  exact ⟨A, c, e, hs.any⟩

theorem lit_ri (W : World) (e : TypeId) (k : IntKind) (xs : List Int) (hm : xs.length ≤ 9223372036854775807) :
    Sl (kInt k) AnyB (W.alloc (.cells (nums k xs).toArray e)) (some ⟨W.heap.size, 0, none⟩) xs.length xs := by
  obtain ⟨A, c, e1, h⟩ := own_ri (own_lit W e k xs hm)
  injection e1 with e1 e2 e3
  subst e1 e3
  exact h
/-- A literal's block is new. -/
theorem lit_be (W : World) (e : TypeId) (k : IntKind) (xs : List Int) : Below W.heap.size W (W.alloc (.cells (nums k xs).toArray e)) := below_alloc (Below.refl _ _) _
end Go.Proofs.YtmcdgmiheklbeaaDoor

namespace Go.Proofs.YtmcdgmiheklbeaaDoor
open Go.RowKit

/-- The lengths of the words of all steps. -/
def tabS : List Nat := [15, 15, 15, 15, 15, 15, 14, 14, 14, 14, 14, 14, 14, 14, 14, 14, 14, 14, 14, 14, 14, 14, 14, 14, 14, 14, 14, 14, 14, 14, 14, 14, 14, 14, 13, 13, 13, 13, 13, 13, 13, 13, 13, 13, 13, 13, 13, 13, 13, 13, 13, 13, 12, 12, 12, 12, 12, 12, 12, 12, 12, 12, 12, 12, 12, 11, 11, 11, 11, 11, 11, 11, 11, 11, 10, 10, 10, 10, 10, 10, 9, 9, 9, 9, 9, 8, 8, 8, 7, 7, 7, 6, 6, 5, 3, 1, 3, 5, 6, 6, 7, 7, 7, 8, 8, 8, 9, 9, 9, 9, 9, 10, 10, 10, 10, 10, 10, 11, 11, 11, 11, 11, 11, 11, 11, 11, 12, 12, 12, 12, 12, 12, 12, 12, 12, 12, 12, 12, 12, 13, 13, 13, 13, 13, 13, 13, 13, 13, 13, 13, 13, 13, 13, 13, 13, 13, 13, 13, 13, 14, 14, 14, 14, 14, 14, 14, 14, 14, 14, 14, 14, 14, 14, 14, 14, 14, 14, 14, 14, 14, 14, 14, 14, 14, 14, 15, 15, 15, 15, 15, 15]
/-- The length of a step's word. -/
def stepL (d : Int) : Nat := nth 0 tabS (d + 95).toNat

end Go.Proofs.YtmcdgmiheklbeaaDoor

namespace Go.Proofs.YtmcdgmiheklbeaaDoor
open Go.RowKit

end Go.Proofs.YtmcdgmiheklbeaaDoor

namespace Go.Proofs.YtmcdgmiheklbeaaDoor
open Go.RowKit
attribute [local go_sem] Oper.semAt_some

end Go.Proofs.YtmcdgmiheklbeaaDoor

namespace Go.Proofs.YtmcdgmiheklbeaaDoor
open Go.RowKit
attribute [local go_sem] Oper.semAt_some

/-- What bands cost. -/
def stepC (ss : List Int) (x : Nat × Int) : Nat := if x.2 < 0 then 7 else stepL (nth 0 ss x.1 - nth 0 ss x.2.toNat)
def costP (ss : List Int) (pre : List (Nat × Int)) : Nat := (pre.map (stepC ss)).sum
theorem costP_snoc (ss : List Int) (pre : List (Nat × Int)) (x : Nat × Int) : costP ss (pre ++ [x]) = costP ss pre + stepC ss x := by simp [costP]
structure CoI (w : World) (ss : List Int) (A : Option Addr) (c n g1 g7 : Nat) (pre : List (Nat × Int)) (W : World) : Prop where
  box : Blk W g1 #[.slice A n c] 25
  cnt : Blk W g7 #[.int .i64 (costP ss pre : Int)] 3
  low : Below w.heap.size w W

theorem keepsU {B : Nat} {W W' : World} {o : Nat → Prop} (hu : Upd o W W') (hg : ∀ b, b < W.heap.size → o b → b < B) : KeepsFrom B W W' :=
  ⟨hu.size, fun k x hB hx _ => (hu.blk k (Array.getElem?_eq_some_iff.1 hx).1 (fun e => by have := hg k (Array.getElem?_eq_some_iff.1 hx).1 e; omega)).trans hx⟩
theorem CoI.below {w W W' : World} {ss : List Int} {A : Option Addr} {c n g1 g7 : Nat} {pre : List (Nat × Int)} (h : CoI w ss A c n g1 g7 pre W) (hb : Below W.heap.size W W') : CoI w ss A c n g1 g7 pre W' :=
  ⟨h.box.below hb, h.cnt.below hb, below2 h.low hb⟩
theorem CoI.round {w W W' : World} {ss : List Int} {A : Option Addr} {c n g1 g7 : Nat} {pre : List (Nat × Int)} {x : Nat × Int} {V : Int} (h : CoI w ss A c n g1 g7 pre W) (h17 : g1 < g7) (hw : w.heap.size ≤ g7)
    (e : W' = W.setCell ⟨g7, 0, none⟩ (.int .i64 V)) (hV : V = (costP ss pre : Int) + (stepC ss x : Int)) : CoI w ss A c n g1 g7 (pre ++ [x]) W' ∧ Upd (fun b => b = g7) W W' := by
  subst e
  have hu : Upd (fun b => b = g7) W (W.setCell ⟨g7, 0, none⟩ (.int .i64 V)) := Upd.setCell (fun b => b = g7) _ g7 0 _ rfl
  refine ⟨⟨h.box.keep (hu.keep (ok := fun b => b ≠ g7) fun b h => h) (by omega), ?_, h.low.grown (grown_setCell W g7 0 _) h.low.size (fun r e => by cases e; exact hw)⟩, hu⟩
  have := h.cnt.set 0 (.int .i64 V)
  rw [hV] at this
  rw [costP_snoc]
  rw [hV]
  have e2 : (((costP ss pre + stepC ss x : Nat)) : Int) = (costP ss pre : Int) + (stepC ss x : Int) := by omega
  rw [e2]
  exact this

end Go.Proofs.YtmcdgmiheklbeaaDoor

namespace Go.Proofs.YtmcdgmiheklbeaaDoor
open Go.RowKit

/-! ### The order -/
/-! ### What is taken of a level -/
end Go.Proofs.YtmcdgmiheklbeaaDoor

namespace Go.Proofs.YtmcdgmiheklbeaaDoor
open Go.RowKit

end Go.Proofs.YtmcdgmiheklbeaaDoor

namespace Go.Proofs.YtmcdgmiheklbeaaDoor
open Go.RowKit

end Go.Proofs.YtmcdgmiheklbeaaDoor

namespace Go.Proofs.YtmcdgmiheklbeaaDoor
open Go.RowKit

end Go.Proofs.YtmcdgmiheklbeaaDoor

namespace Go.Proofs.YtmcdgmiheklbeaaDoor
open Go.RowKit

end Go.Proofs.YtmcdgmiheklbeaaDoor

namespace Go.Proofs.YtmcdgmiheklbeaaDoor
open Go.RowKit

end Go.Proofs.YtmcdgmiheklbeaaDoor

namespace Go.Proofs.YtmcdgmiheklbeaaDoor
open Go.RowKit

theorem div_pos_iff (v K : Nat) : 0 < v / 2 ^ K ↔ 2 ^ K ≤ v := by
  have := Nat.two_pow_pos K
  constructor
  · intro h
    exact Decidable.byContradiction fun h2 => by rw [Nat.div_eq_of_lt (by omega)] at h; omega
  · intro h; exact Nat.div_pos h this
theorem numB_zeros : ∀ n, numB 0 n = List.replicate n false
  | 0 => rfl
  | n + 1 => by rw [numB_succ, Nat.zero_div, numB_zeros n, List.replicate_succ']; rfl
theorem gamB_num (v : Nat) : gamB v = numB 0 (Nat.log2 v) ++ numB v (Nat.log2 v + 1) := by unfold gamB; rw [numB_zeros]
end Go.Proofs.YtmcdgmiheklbeaaDoor

namespace Go.Proofs.YtmcdgmiheklbeaaDoor
open Go.RowKit

theorem lit_field2 {o : Nat → Prop} (W : World) (e : TypeId) (v n v2 n2 : Int) (ho : ¬ o W.heap.size) :
    Sl kField (fun b => ¬ o b) (W.alloc (.cells #[.int .i64 v, .int .i64 n, .int .i64 v2, .int .i64 n2] e)) (some ⟨W.heap.size, 0, none⟩) 2 [(v, n), (v2, n2)] := by
  refine ⟨Nat.le_refl _, by omega, fun j hj => ?_⟩
  have hj2 : j = 0 ∨ j = 1 := by simp at hj; omega
  rcases hj2 with rfl | rfl
  · refine ⟨_, _, rfl, ho, by simp, ⟨_, _, rfl, rfl, rfl⟩, fun i x hx => ?_⟩
    match i, hx with
    | 0, hx => simp at hx; subst hx; simp [kPair, kInt, Addr.add, nth]
    | 1, hx => simp at hx; subst hx; simp [kPair, kInt, Addr.add, nth]
  · refine ⟨_, _, rfl, ho, by simp, ⟨_, _, rfl, rfl, rfl⟩, fun i x hx => ?_⟩
    match i, hx with
    | 0, hx => simp at hx; subst hx; simp [kPair, kInt, Addr.add, nth]
    | 1, hx => simp at hx; subst hx; simp [kPair, kInt, Addr.add, nth]
theorem putB_gam (v k : Nat) : putB [((0 : Int), (k : Int)), ((v : Int), ((k + 1 : Nat) : Int))] = numB 0 k ++ numB v (k + 1) := by simp [putB]
theorem putN_gam (v k : Nat) : putN [((0 : Int), (k : Int)), ((v : Int), ((k + 1 : Nat) : Int))] = 2 * k + 1 := by simp [putN]; omega

set_option maxHeartbeats 1000000 in
set_option maxRecDepth 100000 in
theorem wgamma_any (o : Nat → Prop) (g v : Nat) (bs : List Bool) (w : World) (h : Wr o w g bs) (hl : bs.length ≤ 1048576) (h1 : 1 ≤ v) (hv : v < 2097152) :
    Calls Tryd.prog 47 #[.pointer (some ⟨g, 0, none⟩), .int .i64 (v : Int)] w
      fun e w' => e = .returned (.int .i64 (fullE bs.length (2 * Nat.log2 v + 1))) ∧ Wr (fun b => o b ∨ w.heap.size ≤ b) w' g (fullB bs (gamB v)) ∧ Upd o w w' := by
  have HP := Lib.hid (fun K => div_pos_iff v K)
  have HA := Lib.hid (fun k (a : 2 ^ k ≤ v) (b : v < 2 ^ (k + 1)) => log2_at a b)
  have HG := Lib.hid (gamB_num v)
  have hd1 : ¬ (v : Int) < 1 := by omega
  have hd2 : ¬ (2097152 : Int) ≤ (v : Int) := by omega
  have HC := Lib.hid (fun (k : Nat) (hk : k ≤ 20) => put_any (fun b => o b ∧ b < w.heap.size) g _ 2 [((0 : Int), (k : Int)), ((v : Int), ((k + 1 : Nat) : Int))] bs _ (h.cut.below (below_alloc (Below.refl w.heap.size w) (.cells #[.int .i64 0, .int .i64 (k : Int), .int .i64 (v : Int), .int .i64 ((k + 1 : Nat) : Int)] 135))) (lit_field2 w 135 0 k v ((k + 1 : Nat) : Int) (fun h => by have := h.2; omega)) (by
    intro f hf
    rcases List.mem_cons.1 hf with rfl | hf
    · exact ⟨Int.le_refl _, by show (0 : Int) < _; omega, Int.natCast_nonneg _, by show (k : Int) ≤ _; omega⟩
    · rw [List.mem_singleton] at hf
      subst hf
      exact ⟨Int.natCast_nonneg _, by show (v : Int) < _; omega, Int.natCast_nonneg _, by show ((k + 1 : Nat) : Int) ≤ _; omega⟩) (by simp) hl)
  have H := Lib.hid h
  clear h
  go_enter Tryd.func47, Tryd.ntmps47
  go_wp2
  clear hd1 hd2
  go_loopw [5] (fun iv wr => ∃ k : Nat, k ≤ 20 ∧ iv = .int .i64 (k : Int) ∧ Hid (2 ^ k ≤ v) ∧ w = wr) (fun iv _ => 64 - (intOf iv).toNat)
  case atStart => exact ⟨0, by omega, rfl, Lib.hid (by simpa using h1), rfl⟩
  case round =>
    obtain ⟨k, hk, rfl, hP, rfl⟩ := hrel
    obtain ⟨K, hK⟩ : ∃ K, k + 1 = K := ⟨_, rfl⟩
    have hwk : IntKind.i64.wrap ((k : Int) + 1) = (K : Int) := by rw [← hK, Int.natCast_succ]; exact IntWalk.i64_in _ (by omega)
    obtain ⟨y, hy⟩ : ∃ y, v / 2 ^ K = y := ⟨_, rfl⟩
    have hyi : (v : Int) / 2 ^ K = (y : Int) := by rw [← hy]; simp
    have hlt := HP.out K
    rw [hy] at hlt
    have HK := Lib.hid hK
    have hk64 : K ≤ 64 := by omega
    by_cases h : 0 < y
    · have H2 := Lib.hid (hlt.1 h)
      have hb : k < 20 := Decidable.byContradiction fun hn => by
        have h3 : 2 ^ 21 ≤ 2 ^ K := Nat.pow_le_pow_right (by decide) (by omega)
        have h4 := H2.out
        have h5 : 2 ^ 21 = 2097152 := by decide
        omega
      have hyp : (0 : Int) < (y : Int) := by omega
      clear hlt hy hK h
      go_wp2
      go_roundw
      case rel => exact ⟨k + 1, by omega, by rw [HK.out], by rw [HK.out]; exact H2, trivial⟩
      case measure => have := HK.out; simp [intOf]; omega
    · have H2 := Lib.hid (show v < 2 ^ (k + 1) by rw [hK]; exact Nat.lt_of_not_le fun hn => h (hlt.2 hn))
      have hyp : ¬ (0 : Int) < (y : Int) := by omega
      have HL := Lib.hid (HA.out k hP.out H2.out)
      have HC2 := Lib.hid (HC.out k hk)
      rw [putB_gam, putN_gam, hK] at HC2
      have HG2 := Lib.hid (show gamB v = numB 0 k ++ numB v K by rw [HG.out, HL.out, hK])
      clear hlt hy hK h
      go_wp2_with (go_at_call 72; refine HC2.out.mono ?_; rintro e w2 ⟨rfl, hw2, hu2⟩)
      go_ret
      rw [HL.out, HG2.out]
      refine ⟨rfl, hw2.weak fun b _ h => ?_, (Upd.alloc (fun b => o b) w _).trans (hu2.weak (o' := o) fun b _ h => h.1) fun _ _ h => h⟩
      rcases h with h | h
      · exact .inl h.1
      · exact .inr (by simp at h; omega)
end Go.Proofs.YtmcdgmiheklbeaaDoor

namespace Go.Proofs.YtmcdgmiheklbeaaDoor
open Go.RowKit

end Go.Proofs.YtmcdgmiheklbeaaDoor

namespace Go.Proofs.YtmcdgmiheklbeaaDoor
open Go.RowKit

/-- Zeros ahead of a one (at most 20): how many, and the error. -/
def zerF : List Bool → Nat → Nat × Int
  | [], _ => (0, 3)
  | true :: _, n => (n, 0)
  | false :: D, n => if 20 < n + 1 then (0, 4) else zerF D (n + 1)
theorem drop_cons_nth {l : List Bool} {i : Nat} (h : i < l.length) : l.drop i = nth false l i :: l.drop (i + 1) := by
  rw [nth_eq false l i h]; exact List.drop_eq_getElem_cons h
theorem zer_end {l : List Bool} {i : Nat} (h : l.length ≤ i) (n : Nat) : zerF (l.drop i) n = (0, 3) := by
  rw [List.drop_of_length_le h]; rfl
theorem zer_hit {l : List Bool} {i : Nat} (h : i < l.length) (hb : nth false l i = true) (n : Nat) : zerF (l.drop i) n = (n, 0) := by
  rw [drop_cons_nth h, hb]; rfl
theorem zer_miss {l : List Bool} {i : Nat} (h : i < l.length) (hb : nth false l i = false) (n : Nat) : zerF (l.drop i) n = if 20 < n + 1 then (0, 4) else zerF (l.drop (i + 1)) (n + 1) := by
  rw [drop_cons_nth h, hb]; rfl
/-- A gamma code: the number, the error, and how many bits it has. -/
def gamF (D : List Bool) : Nat × Int × Nat :=
  if (zerF D 0).2 ≠ 0 then (0, (zerF D 0).2, 0)
  else if D.length < 2 * (zerF D 0).1 + 1 then (0, 3, 0)
  else (2 ^ (zerF D 0).1 + valB ((D.drop ((zerF D 0).1 + 1)).take (zerF D 0).1), 0, 2 * (zerF D 0).1 + 1)
/-- A value out of its digit: the value, the error, and how many bits. -/
def valF (b d : Nat) (D : List Bool) : Int × Int × Nat :=
  if d = 0 then (0, 0, 0)
  else if D.length = 0 then (0, 3, 0)
  else if (escB b && decide (d = mostB b)) = true then
    if (gamF (D.drop 1)).2.1 ≠ 0 then (0, (gamF (D.drop 1)).2.1, 0)
    else if 1023 < mostB b + (gamF (D.drop 1)).1 - 1 then (0, 6, 0)
    else ((if nth false D 0 = true then -1 else 1) * ((mostB b + (gamF (D.drop 1)).1 - 1 : Nat) : Int), 0, 1 + (gamF (D.drop 1)).2.2)
  else ((if nth false D 0 = true then -1 else 1) * (d : Int), 0, 1)
end Go.Proofs.YtmcdgmiheklbeaaDoor

namespace Go.Proofs.YtmcdgmiheklbeaaDoor
open Go.RowKit

/-- A tape over these bits, at a place, with an error; o: its blocks. -/
def Tr (o : Nat → Prop) (w : World) (g : Nat) (l : List Bool) (at_ : Nat) (e : Int) : Prop :=
  ∃ A c, Blk w g #[.slice A l.length c, .int .i64 at_, .int .i64 e] 41 ∧ Sl (kInt .u8) (fun b => o b ∧ b ≠ g) w A c (bitsI l) ∧ at_ ≤ l.length ∧ l.length ≤ 1048576 ∧ o g
section
variable {o o' : Nat → Prop} {w w' : World} {g : Nat} {l : List Bool} {at_ : Nat} {e : Int}
theorem Tr.lt (h : Tr o w g l at_ e) : g < w.heap.size := let ⟨_, _, h, _⟩ := h; h.lt
theorem Tr.og (h : Tr o w g l at_ e) : o g := let ⟨_, _, _, _, _, _, h⟩ := h; h
theorem Tr.le (h : Tr o w g l at_ e) : at_ ≤ l.length := let ⟨_, _, _, _, h, _⟩ := h; h
theorem Tr.bound (h : Tr o w g l at_ e) : l.length ≤ 1048576 := let ⟨_, _, _, _, _, h, _⟩ := h; h
theorem Tr.weak (h : Tr o w g l at_ e) (ho : ∀ b, b < w.heap.size → o b → o' b) : Tr o' w g l at_ e := by
  obtain ⟨A, c, h1, h2, h3, h4, h5⟩ := h
  exact ⟨A, c, h1, h2.weak fun b hb h => ⟨ho b hb h.1, h.2⟩, h3, h4, ho g h1.lt h5⟩
theorem Tr.keep (h : Tr o w g l at_ e) {ok : Nat → Prop} (hk : Keep ok w w') (ho : ∀ b, o b → ok b) : Tr o w' g l at_ e := by
  obtain ⟨A, c, h1, h2, h3, h4, h5⟩ := h
  exact ⟨A, c, h1.keep hk (ho g h5), (h2.keep (hk.weak fun b hb => ho b hb.1)), h3, h4, h5⟩
theorem Tr.cut (h : Tr o w g l at_ e) : Tr (fun b => o b ∧ b < w.heap.size) w g l at_ e := h.weak fun _ hb ho => ⟨ho, hb⟩
theorem Tr.upd {o2 : Nat → Prop} (h : Tr o w g l at_ e) (hu : Upd o2 w w') (ho : ∀ b, b < w.heap.size → o b → ¬ o2 b) : Tr o w' g l at_ e := by
  have h1 : Tr (fun b => o b ∧ b < w.heap.size) w' g l at_ e := h.cut.keep (hu.keep (ok := fun b => ¬ o2 b) fun _ hb => hb) (fun b e => ho b e.2 e.1)
  exact h1.weak (fun b _ e => e.1)
theorem Tr.below (h : Tr o w g l at_ e) (hb : Below w.heap.size w w') : Tr o w' g l at_ e := h.upd (o2 := fun _ => False) (Upd.of_below hb _) (fun _ _ _ h => h)
theorem Tr.cells (h : Tr o w g l at_ e) : ∃ A c, w.cell? ⟨g, 0, none⟩ = some (.slice A l.length c) ∧ w.cell? ⟨g, 1, none⟩ = some (.int .i64 at_) ∧ w.cell? ⟨g, 2, none⟩ = some (.int .i64 e) ∧ w.frozen? ⟨g, 1, none⟩ = false ∧ w.frozen? ⟨g, 2, none⟩ = false ∧ Sl (kInt .u8) (fun b => o b ∧ b ≠ g) w A c (bitsI l) := by
  obtain ⟨A, c, h1, h2, _⟩ := h
  exact ⟨A, c, h1.cell 0 rfl, h1.cell 1 rfl, h1.cell 2 rfl, h1.free 1, h1.free 2, h2⟩
end

end Go.Proofs.YtmcdgmiheklbeaaDoor

namespace Go.Proofs.YtmcdgmiheklbeaaDoor
open Go.RowKit

end Go.Proofs.YtmcdgmiheklbeaaDoor

namespace Go.Proofs.YtmcdgmiheklbeaaDoor
open Go.RowKit

theorem zerF_le : ∀ (D : List Bool) (n : Nat), n ≤ 20 → (zerF D n).1 ≤ 20
  | [], _, _ => Nat.zero_le _
  | true :: _, _, h => h
  | false :: D, n, h => by
    show (if 20 < n + 1 then ((0, 4) : Nat × Int) else zerF D (n + 1)).1 ≤ 20
    split
    · exact Nat.zero_le _
    · exact zerF_le D (n + 1) (by omega)

end Go.Proofs.YtmcdgmiheklbeaaDoor

namespace Go.Proofs.YtmcdgmiheklbeaaDoor
open Go.RowKit

/-- Where a reader is behind zeros and a one; it stays with an error. -/
def zerI (i : Nat) (R : Nat × Int) : Nat := if R.2 = 0 then i + R.1 + 1 else i
set_option maxHeartbeats 2000000 in
set_option maxRecDepth 100000 in
theorem rdzeros_any (o : Nat → Prop) (g i : Nat) (l : List Bool) (w : World) (h : Rr o w g l i) :
    Calls Tryd.prog 107 #[.pointer (some ⟨g, 0, none⟩), .int .i64 20] w
      fun e w' => e = .returned (.tuple #[.int .i64 ((zerF (l.drop i) 0).1 : Nat), .int .i64 (zerF (l.drop i) 0).2]) ∧ Rr o w' g l (zerI i (zerF (l.drop i) 0)) ∧ Upd (fun b => b = g) w w' := by
  obtain ⟨R, hR⟩ : ∃ R, zerF (l.drop i) 0 = R := ⟨_, rfl⟩
  rw [hR]
  have HR := Lib.hid hR
  have H := Lib.hid h
  have hlb := h.bound
  have hle := h.le
  obtain ⟨A, c, bb, h1, h2, h3, h4, h5, h6, h7, h8⟩ := h
  have k0 := h1.cell 0 rfl
  have k1 := h1.cell 1 rfl
  have k2 := h1.cell 2 rfl
  have f2 := h1.free 2
  have HB := Lib.hid (fun j (hj : j < l.length) => bit_any A c bb j w h2.any h3 (by omega))
  have HBB := Lib.hid (show ∀ j, j < l.length → bitB bb j = nth false l j from fun j hj => by rw [h5]; exact (ofB_nth _ _ _ hj).symm)
  clear hR h1 h2 h3 h4 h5 h6 h7 h8
  go_enter Tryd.func107, Tryd.ntmps107
  go_wp2
  go_loopw [6, 7] (fun nv iv wr => ∃ n j : Nat, nv = .int .i64 (n : Int) ∧ iv = .int .i64 (j : Int) ∧ n ≤ 20 ∧ j ≤ l.length ∧ Hid (j = i + n ∧ zerF (l.drop j) n = R) ∧ w = wr) (fun _ iv _ => l.length - (intOf iv).toNat)
  case atStart => exact ⟨0, i, rfl, rfl, by omega, hle, Lib.hid ⟨rfl, HR.out⟩, rfl⟩
  case round =>
    obtain ⟨n, j, rfl, rfl, hn, hj, hz, rfl⟩ := hrel
    have hwn : IntKind.i64.wrap ((n : Int) + 1) = (n : Int) + 1 := IntWalk.i64_in _ (by omega)
    have hwj : IntKind.i64.wrap ((j : Int) + 1) = (j : Int) + 1 := IntWalk.i64_in _ (by omega)
    by_cases hlt : j < l.length
    · have hji : (j : Int) < (l.length : Int) := by omega
      have HC := Lib.hid (HB.out j hlt)
      rw [HBB.out j hlt] at HC
      cases hb : nth false l j
      · rw [hb] at HC
        have HM := Lib.hid (zer_miss hlt hb n)
        by_cases h20 : n = 20
        · subst h20
          have HM2 := Lib.hid (show R = (0, 4) by rw [← hz.out.2, HM.out]; rfl)
          clear hb hz
          go_wp2_with (go_at_call 69; refine HC.out.mono ?_; rintro e w2 ⟨rfl, rfl⟩)
          go_ret2
          exact ⟨by rw [HM2.out]; rfl, by rw [HM2.out]; exact H.out, Upd.refl _ _⟩
        · have HM2 := Lib.hid (show zerF (l.drop (j + 1)) (n + 1) = R by rw [← hz.out.2, HM.out, if_neg (by omega)])
          have hne : ¬ (20 : Int) < (n : Int) + 1 := by omega
          clear hb
          go_wp2_with (go_at_call 69; refine HC.out.mono ?_; rintro e w2 ⟨rfl, rfl⟩)
          go_roundw
          case rel => exact ⟨n + 1, j + 1, by go_num, by go_num, by omega, by omega, Lib.hid ⟨by rw [hz.out.1]; omega, HM2.out⟩, trivial⟩
          case measure => simp [intOf]; omega
      · rw [hb] at HC
        have HM := Lib.hid (show R = (n, 0) by rw [← hz.out.2]; exact zer_hit hlt hb n)
        have HV := Lib.hid (H.out.move (j + 1) 0 (by omega))
        have e1 : ((j + 1 : Nat) : Int) = (j : Int) + 1 := by omega
        rw [e1] at HV
        clear e1
        clear hb
        go_wp2_with (go_at_call 69; refine HC.out.mono ?_; rintro e w2 ⟨rfl, rfl⟩)
        go_ret2
        refine ⟨by rw [HM.out]; rfl, ?_, HV.out.2⟩
        rw [HM.out, show zerI i (n, 0) = j + 1 by rw [hz.out.1]; rfl]
        exact HV.out.1
    · have hji : ¬ (j : Int) < (l.length : Int) := by omega
      have HM2 := Lib.hid (show R = (0, 3) by rw [← hz.out.2]; exact zer_end (by omega) n)
      go_wp2
      go_ret2
      exact ⟨by rw [HM2.out]; rfl, by rw [HM2.out]; exact H.out, Upd.refl _ _⟩
end Go.Proofs.YtmcdgmiheklbeaaDoor

namespace Go.Proofs.YtmcdgmiheklbeaaDoor
open Go.RowKit

end Go.Proofs.YtmcdgmiheklbeaaDoor

namespace Go.Proofs.YtmcdgmiheklbeaaDoor
open Go.RowKit

end Go.Proofs.YtmcdgmiheklbeaaDoor

namespace Go.Proofs.YtmcdgmiheklbeaaDoor
open Go Go.RowKit

theorem wpIn_region_W {P : Program} {ops : Array Oper} {n : Nat} {K : Act → World → Prop} {Q : Exit → Act → World → Prop} {id : Nat} {a : Act} {w : World} (N : Nat) (S : World → Prop) (hm : P.follows .mixedOrders = true) (hS : S w.drew)
    (h : S w.drew → wpAnyG P .any ops (Exit.then K fun _ _ _ => False) S N ops.size (Array.replicate ops.size false) a w.drew) : (Code.region id ops true).wpIn Fence.wide n P (Exit.then K Q) a w :=
  wpIn_wide.2 (wp_mono (wp_region_G N S hm hS h) fun e a w hq => by cases e <;> first | exact hq | exact hq.elim)
/-- A variable of some cells is written, as one step of a drawn region. -/
theorem step_putN {P : Program} {ops : Array Oper} {Q : Exit → Act → World → Prop} {E : Prop} {K : Act → World → Prop} {o : Oper} {a : Act} {W : World} (vs : Array Value) (hgd : o.guard = none) (ty : TypeId) (x y : Operand) (ho : o.op = .store ty x y) (g : Nat) (t : TypeId) (old : Array Value)
    (hx : a.eval x = .pointer (some ⟨g, 0, none⟩)) (hy : a.eval y = .agg vs) (hk : Blk W g old t) (hi : (P.info? ty).map (·.size) = some vs.size) (hold : old.size = vs.size) (h1 : vs.all (·.oneCell') = true)
    (h : ∀ w1, Blk w1 g vs t → W.grownBy w1 (some g) → Hid (w1.heap.size = W.heap.size) → K (a.put o.dst undef) w1) :
    if Region.wanted o (yielded ops a.tmps) = true then Oper.wp P o a W K Q else E := by
  rw [if_pos (by simp [Region.wanted, hgd])]
  exact wp_store_row ty x y ho g vs hx hy t old hk hi hold h1 (h _ (setRow_heap W g old _ t _ hk) (grown_setRow W g _) (Lib.hid (by simp)))
end Go.Proofs.YtmcdgmiheklbeaaDoor
