/- The reference's rows: merged: what it returns. · Plain laws: the reference's rows are the program's, each element with its symbol, or the mark of a package. · Plain laws: how heavy and how long what lies in a row is. · Lengths: its coins. (Under way.) · Lengths: what it returns, and how the sum over the rows grows. Plain; no program is named. · prefix: the numbers of awake's examples. Plain; no program is named. · prefix: Lengths in general; awake's examples hold. · What the arguments of a law read as: []int, []byte. · Lengths: what its answer is: the rank of each symbol, the sums. Plain; no program is named. · Lengths: its answer is a right code, ordered, and no other code costs less. Plain; no program is named. · The reference's Lengths: order by insertion; what is taken of each level. Plain; no program is named. · append to a full slice: a new row; slices 'xs[m:]' and 'xs[:m:m]'. · The reference's Lengths: its first errors. -/
import Derived.Test.YtkfgomhhenmmeaaKc
import Derived.Test.YtkfgomhhenmmeaaKb
import Derived.Test.YtkfgomhhenmmeaaKa
import Derived.Lib.SmallJoins
import Derived.LaidMore
import Derived.Stop.Joined
import Derived.ArgAppend
namespace Go.Proofs.Ytkfgomhhenmmeaa
open Go.RowKit

theorem mergeR_cons (x y : Int × Int) (a b : List (Int × Int)) : mergeR (x :: a) (y :: b) = if y.1 < x.1 then y :: mergeR (x :: a) b else x :: mergeR a (y :: b) := by rw [mergeR]
theorem mergeR_right (a : List (Int × Int)) : mergeR a [] = a := by cases a <;> simp [mergeR]
theorem mergeR_left (b : List (Int × Int)) : mergeR [] b = b := by simp [mergeR]
theorem Sl.cutF {ok : Nat → Prop} {w : World} {ad : Addr} {c : Nat} {x : Int × Int} {xs : List (Int × Int)} (h : Sl kField ok w (some ad) c (x :: xs)) {A : Option Addr} (hA : (if c = 1 then some ad else some ⟨ad.block, ad.off + 2, Option.none⟩) = A) : Sl kField ok w A (c - 1) xs := by
  have hr := h.rd.drop 1
  by_cases h1 : c = 1
  · have h0 : xs = [] := List.eq_nil_of_length_eq_zero (by have := h.le; simp at this; omega)
    subst h0
    exact ⟨Nat.zero_le _, by have := h.cap; omega, Kd.Rd.nil _ _ _ _⟩
  · rw [if_neg h1] at hA
    subst hA
    exact ⟨by have := h.le; simp at this; omega, by have := h.cap; omega, hr⟩
/-- So far. -/
structure MrI (w : World) (a b : List (Int × Int)) (Aa : Option Addr) (ca : Nat) (a1 : List (Int × Int)) (Ab : Option Addr) (cb : Nat) (b1 : List (Int × Int)) (v : Value) (o : List (Int × Int)) (W : World) : Prop where
  own : OwnK kField 108 w.heap.size (fun b => b < w.heap.size) W v o
  low : Below w.heap.size w W
  ra : Sl kField (fun b => b < w.heap.size) W Aa ca a1
  rb : Sl kField (fun b => b < w.heap.size) W Ab cb b1
  run : o ++ mergeR a1 b1 = mergeR a b
  len : o.length + a1.length + b1.length = a.length + b.length

set_option maxHeartbeats 4000000 in
set_option maxRecDepth 100000 in
theorem rmerged_any (Aa Ab : Option Addr) (ca cb : Nat) (a b : List (Int × Int)) (w : World) (ha : Sl kField AnyB w Aa ca a) (hb : Sl kField AnyB w Ab cb b) (hl : a.length + b.length ≤ 100000) :
    Calls Try.prog 67 #[.slice Aa a.length ca, .slice Ab b.length cb] w
      fun e w' => ∃ v, e = .returned v ∧ OwnK kField 108 w.heap.size (fun _ => True) w' v (mergeR a b) ∧ Below w.heap.size w w' := by
  have hI0 : MrI w a b Aa ca a Ab cb b (.slice none 0 0) [] w := ⟨OwnK.nil _ _ _ _ _, Below.refl _ _, ha.weak fun b hb _ => hb, hb.weak fun b hb _ => hb, rfl, by simp⟩
  have HI0 := Lib.hid hI0
  clear ha hb hI0
  go_enter Try.func67, Try.ntmps67
  go_wp2
  go_loopw [0, 1, 5] (fun sa sb so wr => ∃ (Aa : Option Addr) (ca : Nat) (a1 : List (Int × Int)) (Ab : Option Addr) (cb : Nat) (b1 o : List (Int × Int)), sa = .slice Aa a1.length ca ∧ sb = .slice Ab b1.length cb ∧ Hid (MrI w a b Aa ca a1 Ab cb b1 so o wr)) (fun sa sb _ _ => lenV sa + lenV sb)
  case atStart => exact ⟨_, _, a, _, _, b, [], rfl, rfl, HI0⟩
  case round =>
    clear HI0
    obtain ⟨Aa, ca, a1, Ab, cb, b1, o, rfl, rfl, hI⟩ := hrel
    have hlen0 := hI.out.len
    have hbz := hI.out.low.size
    cases a1 with
    | nil =>
      cases b1 with
      | nil =>
        have HF := Lib.hid (show OwnK kField 108 w.heap.size (fun _ => True) wr u5 (mergeR a b) ∧ Below w.heap.size w wr by
          have h := hI.out
          rw [← h.run]
          exact ⟨by simpa [mergeR] using h.own.weak fun _ _ _ => trivial, h.low⟩)
        clear hlen0
        go_wp2
        go_ret
        exact ⟨_, rfl, HF.out.1, HF.out.2⟩
      | cons y b1 =>
        simp only [List.length_cons, List.length_nil] at hlen0 ⊢
        obtain ⟨adb, rfl, y0, y1⟩ := rd_field hI.out.rb 0 (by simp)
        simp only [Nat.zero_mul, add_zero] at y0 y1
        obtain ⟨yw, ys⟩ := y
        rw [show nth ((0, 0) : Int × Int) ((yw, ys) :: b1) 0 = (yw, ys) from rfl] at y0 y1
        have hlb : ((yw, ys) :: b1).length ≤ cb := hI.out.rb.le
        simp only [List.length_cons] at hlb
        have hww : IntKind.i64.wrap (0 + ((b1.length : Int) + 1)) = (b1.length : Int) + 1 := by rw [IntWalk.i64_in _ (by omega)]; omega
        have hww2 : IntKind.i64.wrap ((b1.length : Int) + 1) = (b1.length : Int) + 1 := IntWalk.i64_in _ (by omega)
        have hq0 : (((b1.length : Int) + 1) == 0) = false := by rw [beq_eq_false_iff_ne]; omega
        obtain ⟨At, hAt⟩ : ∃ A, (if cb = 1 then some adb else some (⟨adb.block, adb.off + 2, none⟩ : Addr)) = A := ⟨_, rfl⟩
        have HAT := Lib.hid hAt
        have h1le : (1 : Int) ≤ (b1.length : Int) + 1 := by omega
        have HLN := Lib.hid hlen0
        clear hlen0
        go_wp2
        go_quiet (fail)
        go_wp2_with (at_builtin; (refine append_k (W := wr.drewN nq) (k := kField) w.heap.size rfl (.tmp 39) (.tmp 43) 106 108 (.agg #[.int .i64 0, .int .i64 0]) 16 (fun b => b < w.heap.size) rfl Try.underlying106 infoRi rfl (by decide) (by decide) u5 o (yw, ys) [.int .i64 yw, .int .i64 ys] rfl rfl rfl (hI.out.own.below (below_drewN (Below.refl _ _) nq)) ⟨_, _, rfl, rfl, rfl⟩ hbz (by have := HLN.out; omega) ?_); intro g9 cap9 w9 hO9 hg9 hb9 ha9; have HO9 := Lib.hid hO9; have HK9 := Lib.hid ((Keep.of_grown hg9).weak (ok' := fun b => b < w.heap.size) fun b hb e => by have := hI.out.own.base_le b e.symm; omega); have HB9 := Lib.hid ((below_drewN hI.out.low nq).grown hg9 hbz hI.out.own.base_le); clear hO9 hg9 ha9)
        go_roundw
        case rel =>
          have hi := hI.out
          have hra := (hi.ra.below (below_drewN (Below.refl _ _) nq)).keep HK9.out
          have hrb := (hi.rb.below (below_drewN (Below.refl _ _) nq)).keep HK9.out
          have hrun := hi.run
          have hlen := hi.len
          rw [mergeR_left] at hrun
          exact ⟨_, _, [], At, cb - 1, b1, o ++ [(yw, ys)], rfl, rfl, Lib.hid ⟨by simpa using HO9.out, HB9.out, hra, hrb.cutF HAT.out, by rw [← hrun]; simp [mergeR_left], by simp at hlen ⊢; omega⟩⟩
        case measure => show _ < _; simp [lenV]
    | cons x a1 =>
      cases b1 with
      | nil =>
        simp only [List.length_cons, List.length_nil] at hlen0 ⊢
        obtain ⟨ada, rfl, x0, x1⟩ := rd_field hI.out.ra 0 (by simp)
        simp only [Nat.zero_mul, add_zero] at x0 x1
        obtain ⟨xw, xs⟩ := x
        rw [show nth ((0, 0) : Int × Int) ((xw, xs) :: a1) 0 = (xw, xs) from rfl] at x0 x1
        have hla : ((xw, xs) :: a1).length ≤ ca := hI.out.ra.le
        simp only [List.length_cons] at hla
        have hww : IntKind.i64.wrap ((a1.length : Int) + 1 + 0) = (a1.length : Int) + 1 := by rw [IntWalk.i64_in _ (by omega)]; omega
        have hww2 : IntKind.i64.wrap ((a1.length : Int) + 1) = (a1.length : Int) + 1 := IntWalk.i64_in _ (by omega)
        obtain ⟨At, hAt⟩ : ∃ A, (if ca = 1 then some ada else some (⟨ada.block, ada.off + 2, none⟩ : Addr)) = A := ⟨_, rfl⟩
        have HAT := Lib.hid hAt
        have h1le : (1 : Int) ≤ (a1.length : Int) + 1 := by omega
        have HLN := Lib.hid hlen0
        clear hlen0
        go_wp2
        go_quiet (fail)
        go_wp2_with (at_builtin; (refine append_k (W := wr.drewN nq) (k := kField) w.heap.size rfl (.tmp 31) (.tmp 35) 106 108 (.agg #[.int .i64 0, .int .i64 0]) 16 (fun b => b < w.heap.size) rfl Try.underlying106 infoRi rfl (by decide) (by decide) u5 o (xw, xs) [.int .i64 xw, .int .i64 xs] rfl rfl rfl (hI.out.own.below (below_drewN (Below.refl _ _) nq)) ⟨_, _, rfl, rfl, rfl⟩ hbz (by have := HLN.out; omega) ?_); intro g9 cap9 w9 hO9 hg9 hb9 ha9; have HO9 := Lib.hid hO9; have HK9 := Lib.hid ((Keep.of_grown hg9).weak (ok' := fun b => b < w.heap.size) fun b hb e => by have := hI.out.own.base_le b e.symm; omega); have HB9 := Lib.hid ((below_drewN hI.out.low nq).grown hg9 hbz hI.out.own.base_le); clear hO9 hg9 ha9)
        go_roundw
        case rel =>
          have hi := hI.out
          have hra := (hi.ra.below (below_drewN (Below.refl _ _) nq)).keep HK9.out
          have hrb := (hi.rb.below (below_drewN (Below.refl _ _) nq)).keep HK9.out
          have hrun := hi.run
          have hlen := hi.len
          rw [mergeR_right] at hrun
          exact ⟨At, ca - 1, a1, _, _, [], o ++ [(xw, xs)], rfl, rfl, Lib.hid ⟨by simpa using HO9.out, HB9.out, hra.cutF HAT.out, hrb, by rw [← hrun]; simp [mergeR_right], by simp at hlen ⊢; omega⟩⟩
        case measure => show _ < _; simp [lenV]
      | cons y b1 =>
        by_cases hlt : y.1 < x.1
        · have HLT := Lib.hid hlt
          simp only [List.length_cons] at hlen0 ⊢
          obtain ⟨ada, rfl, x0, x1⟩ := rd_field hI.out.ra 0 (by simp)
          simp only [Nat.zero_mul, add_zero] at x0 x1
          obtain ⟨xw, xs⟩ := x
          rw [show nth ((0, 0) : Int × Int) ((xw, xs) :: a1) 0 = (xw, xs) from rfl] at x0 x1
          have hla : ((xw, xs) :: a1).length ≤ ca := hI.out.ra.le
          simp only [List.length_cons] at hla
          obtain ⟨adb, rfl, y0, y1⟩ := rd_field hI.out.rb 0 (by simp)
          simp only [Nat.zero_mul, add_zero] at y0 y1
          obtain ⟨yw, ys⟩ := y
          rw [show nth ((0, 0) : Int × Int) ((yw, ys) :: b1) 0 = (yw, ys) from rfl] at y0 y1
          have hlb : ((yw, ys) :: b1).length ≤ cb := hI.out.rb.le
          simp only [List.length_cons] at hlb
          have hww : IntKind.i64.wrap ((a1.length : Int) + 1 + ((b1.length : Int) + 1)) = (a1.length : Int) + 1 + ((b1.length : Int) + 1) := IntWalk.i64_in _ (by omega)
          have hlt2 := HLT.out
          have hdc : decide (xw ≤ yw) = false := decide_eq_false (by omega)
          clear hlt2 hlt
          have hq0 : (((b1.length : Int) + 1) == 0) = false := by rw [beq_eq_false_iff_ne]; omega
          have hq1 : decide ((0 : Int) < (a1.length : Int) + 1) = true := decide_eq_true (by omega)
          have hq2 : decide (0 < a1.length + 1) = true := decide_eq_true (by omega)
          obtain ⟨At, hAt⟩ : ∃ A, (if cb = 1 then some adb else some (⟨adb.block, adb.off + 2, none⟩ : Addr)) = A := ⟨_, rfl⟩
          have HAT := Lib.hid hAt
          have h1le : (1 : Int) ≤ (b1.length : Int) + 1 := by omega
          have HLN := Lib.hid hlen0
          clear hlen0
          go_wp2
          go_quiet (fail)
          go_wp2_with (at_builtin; (refine append_k (W := wr.drewN nq) (k := kField) w.heap.size rfl (.tmp 39) (.tmp 43) 106 108 (.agg #[.int .i64 0, .int .i64 0]) 16 (fun b => b < w.heap.size) rfl Try.underlying106 infoRi rfl (by decide) (by decide) u5 o (yw, ys) [.int .i64 yw, .int .i64 ys] rfl rfl rfl (hI.out.own.below (below_drewN (Below.refl _ _) nq)) ⟨_, _, rfl, rfl, rfl⟩ hbz (by have := HLN.out; omega) ?_); intro g9 cap9 w9 hO9 hg9 hb9 ha9; have HO9 := Lib.hid hO9; have HK9 := Lib.hid ((Keep.of_grown hg9).weak (ok' := fun b => b < w.heap.size) fun b hb e => by have := hI.out.own.base_le b e.symm; omega); have HB9 := Lib.hid ((below_drewN hI.out.low nq).grown hg9 hbz hI.out.own.base_le); clear hO9 hg9 ha9)
          go_roundw
          case rel =>
            have hi := hI.out
            have hra := (hi.ra.below (below_drewN (Below.refl _ _) nq)).keep HK9.out
            have hrb := (hi.rb.below (below_drewN (Below.refl _ _) nq)).keep HK9.out
            have hrun := hi.run
            have hlen := hi.len
            rw [mergeR_cons, if_pos HLT.out] at hrun
            exact ⟨_, _, (xw, xs) :: a1, At, cb - 1, b1, o ++ [(yw, ys)], rfl, rfl, Lib.hid ⟨by simpa using HO9.out, HB9.out, hra, hrb.cutF HAT.out, by rw [← hrun]; simp, by simp at hlen ⊢; omega⟩⟩
          case measure => show _ < _; simp [lenV]
        · have HLT := Lib.hid hlt
          simp only [List.length_cons] at hlen0 ⊢
          obtain ⟨ada, rfl, x0, x1⟩ := rd_field hI.out.ra 0 (by simp)
          simp only [Nat.zero_mul, add_zero] at x0 x1
          obtain ⟨xw, xs⟩ := x
          rw [show nth ((0, 0) : Int × Int) ((xw, xs) :: a1) 0 = (xw, xs) from rfl] at x0 x1
          have hla : ((xw, xs) :: a1).length ≤ ca := hI.out.ra.le
          simp only [List.length_cons] at hla
          obtain ⟨adb, rfl, y0, y1⟩ := rd_field hI.out.rb 0 (by simp)
          simp only [Nat.zero_mul, add_zero] at y0 y1
          obtain ⟨yw, ys⟩ := y
          rw [show nth ((0, 0) : Int × Int) ((yw, ys) :: b1) 0 = (yw, ys) from rfl] at y0 y1
          have hlb : ((yw, ys) :: b1).length ≤ cb := hI.out.rb.le
          simp only [List.length_cons] at hlb
          have hww : IntKind.i64.wrap ((a1.length : Int) + 1 + ((b1.length : Int) + 1)) = (a1.length : Int) + 1 + ((b1.length : Int) + 1) := IntWalk.i64_in _ (by omega)
          have hlt2 := HLT.out
          have hdc : decide (xw ≤ yw) = true := decide_eq_true (by omega)
          clear hlt2 hlt
          have hq0 : (((b1.length : Int) + 1) == 0) = false := by rw [beq_eq_false_iff_ne]; omega
          have hq1 : decide ((0 : Int) < (a1.length : Int) + 1) = true := decide_eq_true (by omega)
          have hq2 : decide (0 < a1.length + 1) = true := decide_eq_true (by omega)
          obtain ⟨At, hAt⟩ : ∃ A, (if ca = 1 then some ada else some (⟨ada.block, ada.off + 2, none⟩ : Addr)) = A := ⟨_, rfl⟩
          have HAT := Lib.hid hAt
          have h1le : (1 : Int) ≤ (a1.length : Int) + 1 := by omega
          have HLN := Lib.hid hlen0
          clear hlen0
          go_wp2
          go_quiet (fail)
          go_wp2_with (at_builtin; (refine append_k (W := wr.drewN nq) (k := kField) w.heap.size rfl (.tmp 31) (.tmp 35) 106 108 (.agg #[.int .i64 0, .int .i64 0]) 16 (fun b => b < w.heap.size) rfl Try.underlying106 infoRi rfl (by decide) (by decide) u5 o (xw, xs) [.int .i64 xw, .int .i64 xs] rfl rfl rfl (hI.out.own.below (below_drewN (Below.refl _ _) nq)) ⟨_, _, rfl, rfl, rfl⟩ hbz (by have := HLN.out; omega) ?_); intro g9 cap9 w9 hO9 hg9 hb9 ha9; have HO9 := Lib.hid hO9; have HK9 := Lib.hid ((Keep.of_grown hg9).weak (ok' := fun b => b < w.heap.size) fun b hb e => by have := hI.out.own.base_le b e.symm; omega); have HB9 := Lib.hid ((below_drewN hI.out.low nq).grown hg9 hbz hI.out.own.base_le); clear hO9 hg9 ha9)
          go_roundw
          case rel =>
            have hi := hI.out
            have hra := (hi.ra.below (below_drewN (Below.refl _ _) nq)).keep HK9.out
            have hrb := (hi.rb.below (below_drewN (Below.refl _ _) nq)).keep HK9.out
            have hrun := hi.run
            have hlen := hi.len
            rw [mergeR_cons, if_neg (show ¬ yw < xw by have := HLT.out; omega)] at hrun
            exact ⟨At, ca - 1, a1, _, _, (yw, ys) :: b1, o ++ [(xw, xs)], rfl, rfl, Lib.hid ⟨by simpa using HO9.out, HB9.out, hra.cutF HAT.out, hrb, by rw [← hrun]; simp, by simp at hlen ⊢; omega⟩⟩
          case measure => show _ < _; simp [lenV]
end Go.Proofs.Ytkfgomhhenmmeaa

namespace Go.Proofs.Ytkfgomhhenmmeaa

def tag (x : It) : Int × Int := (x.1, if x.2.length = 1 then ((nth 0 x.2 0 : Nat) : Int) else -1)
def rowR (coins : List (Int × Int)) : Nat → List (Int × Int)
  | 0 => coins
  | k + 1 => mergeR coins (pairsR (rowR coins k))
theorem tag_merge : ∀ a b : List It, (mergeI a b).map tag = mergeR (a.map tag) (b.map tag)
  | [], b => by rw [List.map_nil, mergeR_left]; cases b <;> simp [mergeI]
  | x :: a, [] => by rw [mergeI_nil_right, List.map_nil, mergeR_right]
  | x :: a, y :: b => by
    rw [mergeI_cons, List.map_cons, List.map_cons, mergeR_cons]
    by_cases h : y.1 < x.1
    · rw [if_pos h, if_pos (show (tag y).1 < (tag x).1 from h), List.map_cons, tag_merge (x :: a) b, List.map_cons]
    · rw [if_neg h, if_neg (show ¬ (tag y).1 < (tag x).1 from h), List.map_cons, tag_merge a (y :: b), List.map_cons]
termination_by a b => a.length + b.length
theorem tag_pairs : ∀ {l : List It}, (∀ x ∈ l, 1 ≤ x.2.length) → (pairsI l).map tag = pairsR (l.map tag)
  | [], _ => rfl
  | [x], _ => rfl
  | x :: y :: r, h => by
    have hx := h x (by simp)
    have hy := h y (by simp)
    rw [pairsI, List.map_cons, List.map_cons, List.map_cons, pairsR, tag_pairs fun z hz => h z (by simp [hz])]
    congr 1
    unfold tag
    rw [if_neg (by rw [List.length_append]; omega)]
theorem pairsI_coins : ∀ {l : List It}, (∀ x ∈ l, 1 ≤ x.2.length) → ∀ z ∈ pairsI l, 2 ≤ z.2.length
  | [], _, z, hz => by simp [pairsI] at hz
  | [x], _, z, hz => by simp [pairsI] at hz
  | x :: y :: r, h, z, hz => by
    rw [pairsI, List.mem_cons] at hz
    rcases hz with rfl | hz
    · have hx := h x (by simp)
      have hy := h y (by simp)
      simp; omega
    · exact pairsI_coins (fun q hq => h q (by simp [hq])) z hz
theorem rowI_coins {coins : List It} (h : ∀ x ∈ coins, x.2.length = 1) : ∀ k, ∀ z ∈ rowI coins k, 1 ≤ z.2.length
  | 0, z, hz => by have := h z hz; omega
  | k + 1, z, hz => by
    rcases (mergeI_mem _ _ _).1 hz with h1 | h1
    · have := h z h1; omega
    · have := pairsI_coins (rowI_coins h k) z h1; omega
theorem tag_row {coins : List It} (h : ∀ x ∈ coins, x.2.length = 1) : ∀ k, (rowI coins k).map tag = rowR (coins.map tag) k
  | 0 => rfl
  | k + 1 => by
    show (mergeI coins (pairsI (rowI coins k))).map tag = mergeR (coins.map tag) (pairsR (rowR (coins.map tag) k))
    rw [tag_merge, tag_pairs (rowI_coins h k), tag_row h k]
end Go.Proofs.Ytkfgomhhenmmeaa

namespace Go.Proofs.Ytkfgomhhenmmeaa

/-- Weights up to M, no more than C coins. -/
def within (M : Int) (C : Nat) (l : List It) : Prop := ∀ z ∈ l, 0 ≤ z.1 ∧ z.1 ≤ M ∧ z.2.length ≤ C
theorem within.mono {M M' : Int} {C C' : Nat} {l : List It} (h : within M C l) (h1 : M ≤ M') (h2 : C ≤ C') : within M' C' l := fun z hz => by
  have := h z hz
  omega
theorem pairsI_within {M : Int} {C : Nat} : ∀ {l : List It}, within M C l → within (2 * M) (2 * C) (pairsI l)
  | [], _ => fun z hz => by simp [pairsI] at hz
  | [x], _ => fun z hz => by simp [pairsI] at hz
  | x :: y :: r, h => fun z hz => by
    rw [pairsI, List.mem_cons] at hz
    rcases hz with rfl | hz
    · have hx := h x (by simp)
      have hy := h y (by simp)
      refine ⟨?_, ?_, ?_⟩
      · show 0 ≤ x.1 + y.1; omega
      · show x.1 + y.1 ≤ 2 * M; omega
      · show (x.2 ++ y.2).length ≤ 2 * C; rw [List.length_append]; omega
    · exact pairsI_within (fun q hq => h q (by simp [hq])) z hz
theorem rowI_within {coins : List It} {M : Int} {C : Nat} (h : within M C coins) (hM : 0 ≤ M) : ∀ k, within (2 ^ k * M) (2 ^ k * C) (rowI coins k)
  | 0 => by show within (2 ^ 0 * M) (2 ^ 0 * C) coins; simpa using h
  | k + 1 => fun z hz => by
    have hp : (1 : Int) ≤ 2 ^ (k + 1) := by have := Nat.one_le_two_pow (n := k + 1); exact_mod_cast this
    have hpn : 1 ≤ 2 ^ (k + 1) := Nat.one_le_two_pow
    rcases (mergeI_mem _ _ _).1 hz with h1 | h1
    · have h2 := h z h1
      have e1 : M ≤ 2 ^ (k + 1) * M := by have := Int.mul_le_mul_of_nonneg_right hp hM; omega
      have e2 : C ≤ 2 ^ (k + 1) * C := by have := Nat.mul_le_mul_right C hpn; omega
      omega
    · have h2 := pairsI_within (rowI_within h hM k) z h1
      have e1 : 2 * (2 ^ k * M) = 2 ^ (k + 1) * M := by rw [← Int.mul_assoc, Int.pow_succ, Int.mul_comm 2]
      have e2 : 2 * (2 ^ k * C) = 2 ^ (k + 1) * C := by rw [← Nat.mul_assoc, Nat.pow_succ, Nat.mul_comm 2]
      omega
theorem rowI_ok {coins : List It} (h : within 1073741824 1 coins) {k : Nat} (hk : k ≤ 15) : okRow (rowI coins k) := fun z hz => by
  have h1 := rowI_within h (by decide) k z hz
  have h2 : 2 ^ k ≤ 2 ^ 15 := Nat.pow_le_pow_right (by decide) hk
  have h3 : ((2 : Int) ^ k) ≤ 32768 := by have : ((2 ^ k : Nat) : Int) ≤ ((2 ^ 15 : Nat) : Int) := Int.ofNat_le.2 h2; simpa using this
  have h4 : (2 : Int) ^ k * 1073741824 ≤ 32768 * 1073741824 := Int.mul_le_mul_of_nonneg_right h3 (by decide)
  refine ⟨h1.1, by omega, by have := h1.2.2; omega⟩
theorem rowI_length_le (coins : List It) : ∀ k, (rowI coins k).length ≤ 2 * coins.length
  | 0 => by show coins.length ≤ _; omega
  | k + 1 => by rw [rowI_length]; have := rowI_length_le coins k; omega
end Go.Proofs.Ytkfgomhhenmmeaa

namespace Go.Proofs.Ytkfgomhhenmmeaa
open Go.RowKit

/-- The coins of the first counts. -/
def coinsK (cs : List Int) : Nat → List It
  | 0 => []
  | k + 1 => if 0 < nth 0 cs k then coinsK cs k ++ [(nth 0 cs k, [k])] else coinsK cs k
theorem coinsK_len (cs : List Int) : ∀ k, (coinsK cs k).length ≤ k
  | 0 => Nat.le_refl _
  | k + 1 => by
    have := coinsK_len cs k
    unfold coinsK
    split
    · simp; omega
    · omega
/-- What Lengths answers as its error. -/
def lengthsE (cs : List Int) (most : Int) : Int :=
  if countsB cs = false ∨ most < 1 ∨ 16 < most then 1 else if (coinsK cs cs.length).length = 0 then 5 else if 2 ^ most.toNat < (coinsK cs cs.length).length then 2 else 0

end Go.Proofs.Ytkfgomhhenmmeaa

namespace Go.Proofs.Ytkfgomhhenmmeaa
open Go.RowKit

theorem pairsI_syms {m : Nat} : ∀ {l : List It}, (∀ x ∈ l, ∀ s ∈ x.2, s < m) → ∀ z ∈ pairsI l, ∀ s ∈ z.2, s < m
  | [], _, z, hz => by simp [pairsI] at hz
  | [x], _, z, hz => by simp [pairsI] at hz
  | x :: y :: r, h, z, hz => by
    rw [pairsI, List.mem_cons] at hz
    rcases hz with rfl | hz
    · intro s hs
      rcases List.mem_append.1 hs with hs | hs
      · exact h x (by simp) s hs
      · exact h y (by simp) s hs
    · exact pairsI_syms (fun q hq => h q (by simp [hq])) z hz
theorem rowI_syms {m : Nat} {coins : List It} (h : ∀ x ∈ coins, ∀ s ∈ x.2, s < m) : ∀ k, ∀ z ∈ rowI coins k, ∀ s ∈ z.2, s < m
  | 0, z, hz => h z hz
  | k + 1, z, hz => by
    rcases (mergeI_mem _ _ _).1 hz with h1 | h1
    · exact h z h1
    · exact pairsI_syms (rowI_syms h k) z h1
theorem coinsK_mem {cs : List Int} : ∀ {k : Nat} {z : It}, z ∈ coinsK cs k → ∃ s, s < k ∧ z = (nth 0 cs s, [s]) ∧ 0 < nth 0 cs s
  | 0, z, h => by simp [coinsK] at h
  | k + 1, z, h => by
    unfold coinsK at h
    split at h
    · rename_i hp
      rcases List.mem_append.1 h with h | h
      · obtain ⟨s, h1, h2⟩ := coinsK_mem h
        exact ⟨s, by omega, h2⟩
      · simp at h
        exact ⟨k, by omega, h, hp⟩
    · obtain ⟨s, h1, h2⟩ := coinsK_mem h
      exact ⟨s, by omega, h2⟩
/-- How often each symbol lies in some items. -/
def outQ (m : Nat) (l : List It) : List Int := (List.range m).map fun s => ((occ s l : Nat) : Int)
def outZ (m : Nat) (l : List It) (p : List Nat) : List Int := (List.range m).map fun s => ((occ s l + p.count s : Nat) : Int)
theorem outQ_length (m : Nat) (l : List It) : (outQ m l).length = m := by simp [outQ]
theorem outZ_length (m : Nat) (l : List It) (p : List Nat) : (outZ m l p).length = m := by simp [outZ]
theorem outQ_nth {m s : Nat} (l : List It) (h : s < m) : nth 0 (outQ m l) s = (occ s l : Int) := by
  rw [nth_eq 0 _ s (by rw [outQ_length]; exact h)]; simp [outQ]
theorem outZ_nth {m s : Nat} (l : List It) (p : List Nat) (h : s < m) : nth 0 (outZ m l p) s = ((occ s l + p.count s : Nat) : Int) := by
  rw [nth_eq 0 _ s (by rw [outZ_length]; exact h)]; simp [outZ]
theorem outQ_nil (m : Nat) : outQ m [] = List.replicate m 0 := by
  apply List.ext_getElem
  · simp [outQ]
  · intro i h1 h2; simp [outQ, occ, sumF]
theorem outZ_nil (m : Nat) (l : List It) : outZ m l [] = outQ m l := by simp [outZ, outQ]
theorem occ_append (s : Nat) (a b : List It) : occ s (a ++ b) = occ s a + occ s b := by simp [occ, sumF]
theorem outZ_full (m : Nat) (l : List It) (x : It) : outZ m l x.2 = outQ m (l ++ [x]) := by
  unfold outZ outQ
  apply List.map_congr_left
  intro s _
  rw [occ_append]
  simp [occ, sumF]
theorem outZ_snoc {m s : Nat} (l : List It) (p : List Nat) (h : s < m) : (outZ m l p).set s (nth 0 (outZ m l p) s + 1) = outZ m l (p ++ [s]) := by
  apply List.ext_getElem
  · simp [outZ]
  · intro i h1 h2
    rw [List.getElem_set]
    split
    · rename_i e
      subst e
      rw [outZ_nth l p h]
      simp [outZ]; omega
    · rename_i e
      have e2 : [s].count i = 0 := List.count_eq_zero.2 (by simp; omega)
      simp [outZ, List.count_append, e2]
theorem occ_le {C : Nat} (s : Nat) : ∀ {l : List It}, (∀ z ∈ l, z.2.length ≤ C) → occ s l ≤ l.length * C
  | [], _ => by simp [occ, sumF]
  | x :: l, h => by
    have h1 := occ_le s (l := l) fun z hz => h z (by simp [hz])
    have h2 := h x (by simp)
    have h3 : x.2.count s ≤ x.2.length := List.count_le_length
    have e : occ s (x :: l) = x.2.count s + occ s l := by unfold occ; rw [sumF_cons]
    rw [e, List.length_cons, Nat.succ_mul]
    omega
theorem insF_perm {α : Type} (f : α → Int) (x : α) : ∀ l : List α, (insF f x l).Perm (x :: l)
  | [] => .refl _
  | y :: l => by
    unfold insF
    split
    · exact .refl _
    · exact ((insF_perm f x l).cons y).trans (.swap x y l)
theorem foldF_perm {α : Type} (f : α → Int) : ∀ (l a : List α), (l.foldl (fun a x => insF f x a) a).Perm (a ++ l)
  | [], a => by simp
  | x :: l, a => by
    rw [List.foldl_cons]
    refine (foldF_perm f l _).trans ?_
    exact ((insF_perm f x a).append_right l).trans (List.perm_middle.symm)
theorem isortF_perm {α : Type} (f : α → Int) (l : List α) : (isortF f l).Perm l := by
  have := foldF_perm f l []
  simpa [isortF] using this
/-- What Lengths returns. -/
def sortedC (cs : List Int) : List It := isortF (·.1) (coinsK cs cs.length)
def lengthsV (cs : List Int) (most : Int) : List Int :=
  if lengthsE cs most ≠ 0 then [] else
  if (coinsK cs cs.length).length = 1 then outQ cs.length (coinsK cs cs.length) else
  outQ cs.length ((rowI (sortedC cs) (most.toNat - 1)).take (2 * (coinsK cs cs.length).length - 2))
theorem sortedC_length (cs : List Int) : (sortedC cs).length = (coinsK cs cs.length).length := (isortF_perm _ _).length_eq
theorem sortedC_mem {cs : List Int} {z : It} (h : z ∈ sortedC cs) : z ∈ coinsK cs cs.length := (isortF_mem _ _).1 h
theorem coins_within {cs : List Int} (h : countsB cs = true) : within 1073741824 1 (coinsK cs cs.length) := fun z hz => by
  obtain ⟨s, hs, rfl, hp⟩ := coinsK_mem hz
  have := (nth_bound (counts_bound h).2 (by decide) s).2
  exact ⟨by show 0 ≤ nth 0 cs s; omega, this, Nat.le_refl _⟩
theorem sorted_within {cs : List Int} (h : countsB cs = true) : within 1073741824 1 (sortedC cs) := fun z hz => coins_within h z (sortedC_mem hz)
theorem sorted_syms (cs : List Int) : ∀ x ∈ sortedC cs, ∀ s ∈ x.2, s < cs.length := fun x hx s hs => by
  obtain ⟨t, ht, rfl, _⟩ := coinsK_mem (sortedC_mem hx)
  simp at hs; omega
end Go.Proofs.Ytkfgomhhenmmeaa

namespace Go.Proofs.Ytkfgomhhenmmeaa
open Go.RowKit

theorem ex_check : checkN [2, 1, 3, 3] = 0 := by decide
theorem ex_codes : codesR [2, 1, 3, 3] = [2, 0, 6, 7] := by decide
theorem ex_complete : completeB [2, 1, 3, 3] = true := by decide
theorem ex_lenE : lengthsE [5, 1, 1, 1] 16 = 0 := by decide
theorem ex_lenE2 : lengthsE [5, 1, 1, 1] 2 = 0 := by decide
theorem ex_counts : countsB [5, 1, 1, 1] = true := by decide
theorem ex_sorted : sortedC [5, 1, 1, 1] = [(1, [1]), (1, [2]), (1, [3]), (5, [0])] := by decide
theorem ex_row1 : rowI [(1, [1]), (1, [2]), (1, [3]), (5, [0])] 1 = [(1, [1]), (1, [2]), (1, [3]), (2, [1, 2]), (5, [0]), (6, [3, 0])] := by
  simp [rowI, mergeI, pairsI]
theorem ex_row2 : rowI [(1, [1]), (1, [2]), (1, [3]), (5, [0])] 2 = [(1, [1]), (1, [2]), (1, [3]), (2, [1, 2]), (3, [3, 1, 2]), (5, [0]), (11, [0, 3, 0])] := by
  rw [rowI, ex_row1]; simp [mergeI, pairsI]
theorem ex_row3 : rowI [(1, [1]), (1, [2]), (1, [3]), (5, [0])] 3 = [(1, [1]), (1, [2]), (1, [3]), (2, [1, 2]), (3, [3, 1, 2]), (5, [0]), (8, [3, 1, 2, 0])] := by
  rw [rowI, ex_row2]; simp [mergeI, pairsI]
theorem ex_rows : ∀ k, rowI [(1, [1]), (1, [2]), (1, [3]), (5, [0])] (k + 3) = [(1, [1]), (1, [2]), (1, [3]), (2, [1, 2]), (3, [3, 1, 2]), (5, [0]), (8, [3, 1, 2, 0])]
  | 0 => ex_row3
  | k + 1 => by
    rw [show k + 1 + 3 = (k + 3) + 1 by omega, rowI, ex_rows k]; simp [mergeI, pairsI]
theorem ex_coins : (coinsK [5, 1, 1, 1] 4).length = 4 := by decide
theorem ex_lenV : lengthsV [5, 1, 1, 1] 16 = [1, 3, 3, 2] := by
  unfold lengthsV
  rw [if_neg (by rw [ex_lenE]; decide), ex_sorted, show [(5 : Int), 1, 1, 1].length = 4 from rfl, ex_coins, if_neg (by decide), show (16 : Int).toNat - 1 = 12 + 3 by decide, ex_rows]
  decide
theorem ex_lenV2 : lengthsV [5, 1, 1, 1] 2 = [2, 2, 2, 2] := by
  unfold lengthsV
  rw [if_neg (by rw [ex_lenE2]; decide), ex_sorted, show [(5 : Int), 1, 1, 1].length = 4 from rfl, ex_coins, if_neg (by decide), show (2 : Int).toNat - 1 = 1 by decide, ex_row1]
  decide
theorem ex_enc : encodeR [2, 1, 3, 3] [0, 1, 3] = ([true, false, false, true, true, true], 0) := by decide
theorem ex_pack : packB [true, false, false, true, true, true] = [156] := by decide
theorem ex_dec : decodeR [2, 1, 3, 3] [156] 6 3 = ([0, 1, 3], 0) := by decide
theorem ex_over : checkN [1, 1, 1] = 4 := by decide
end Go.Proofs.Ytkfgomhhenmmeaa

namespace Go.Proofs.Ytkfgomhhenmmeaa
open Go.RowKit

theorem sameL_refl (xs : List Int) : sameL xs xs = true := by simp [sameL]
/-- A row of the call's own, as it is read. -/
theorem own_ri {e : TypeId} {ik : IntKind} {base : Nat} {w : World} {v : Value} {xs : List Int} (h : OwnI e ik base w v xs) : ∃ A c, v = .slice A xs.length c ∧ Sl (kInt ik) AnyB w A c xs := by
  obtain ⟨A, c, e, hs⟩ := h.rd
  exact ⟨A, c, e, hs.any⟩

theorem lit_ri (W : World) (e : TypeId) (k : IntKind) (xs : List Int) (hm : xs.length ≤ 9223372036854775807) :
    Sl (kInt k) AnyB (W.alloc (.cells (nums k xs).toArray e)) (some ⟨W.heap.size, 0, none⟩) xs.length xs := by
  obtain ⟨A, c, e1, h⟩ := own_ri (own_lit W e k xs hm)
  injection e1 with e1 e2 e3
  subst e1 e3
  exact h
/-- A literal's block is new. -/
theorem lit_be (W : World) (e : TypeId) (k : IntKind) (xs : List Int) : Below W.heap.size W (W.alloc (.cells (nums k xs).toArray e)) := below_alloc (Below.refl _ _) _
theorem codes_ex (w : World) : Calls Try.prog 58 #[.slice (some ⟨w.heap.size, 0, none⟩) 4 4] (w.alloc (.cells #[.int .i64 2, .int .i64 1, .int .i64 3, .int .i64 3] 3)) fun e w' => ∃ A c, e = .returned (.tuple #[.slice A 4 c, .int .i64 0]) ∧ RI w' A c [2, 0, 6, 7] ∧ Below w.heap.size w w' := by
  refine (codes_any _ 4 [2, 1, 3, 3] _ (lit_ri w 3 .i64 [2, 1, 3, 3] (by decide))).mono ?_
  rintro e w' ⟨v, rfl, hO, hb⟩
  obtain ⟨A, c, rfl, h⟩ := own_ri hO
  rw [ex_codes] at h ⊢
  rw [ex_check]
  exact ⟨A, c, rfl, h, below2 (lit_be ..) hb⟩
theorem check_ex (w : World) : Calls Try.prog 76 #[.slice (some ⟨w.heap.size, 0, none⟩) 3 3] (w.alloc (.cells #[.int .i64 1, .int .i64 1, .int .i64 1] 3)) fun e w' => e = .returned (.int .i64 4) ∧ Below w.heap.size w w' := by
  refine (check_any _ 3 [1, 1, 1] _ (lit_ri w 3 .i64 [1, 1, 1] (by decide))).mono ?_
  rintro e w' ⟨rfl, hb⟩
  rw [ex_over]
  exact ⟨rfl, below2 (lit_be ..) hb⟩
theorem ints_ex (A : Option Addr) (c : Nat) (xs : List Int) (m : Nat) (hm : xs.length = m) (hl : m ≤ 100) (w : World) (hA : RI w A c xs) : Calls Try.prog 15 #[.slice A m c, .slice (some ⟨w.heap.size, 0, none⟩) m m] (w.alloc (.cells (nums .i64 xs).toArray 3)) fun e w' => e = .returned (.bool true) ∧ Below w.heap.size w w' := by
  subst hm
  refine (ints_ref A _ c xs.length xs xs _ (hA.below (lit_be ..)) (lit_ri w 3 .i64 xs (by omega))).mono ?_
  rintro e w' ⟨rfl, hb⟩
  exact ⟨by rw [show sameL xs xs = true by simp [sameL]], below2 (lit_be ..) hb⟩

theorem ints_e4 (x y z u : Int) (A : Option Addr) (c : Nat) (w : World) (hA : RI w A c [x, y, z, u]) : Calls Try.prog 15 #[.slice A 4 c, .slice (some ⟨w.heap.size, 0, none⟩) 4 4] (w.alloc (.cells #[.int .i64 x, .int .i64 y, .int .i64 z, .int .i64 u] 3)) fun e w' => e = .returned (.bool true) ∧ Below w.heap.size w w' :=
  ints_ex A c [x, y, z, u] 4 rfl (by decide) w hA
theorem ints_e3 (x y z : Int) (A : Option Addr) (c : Nat) (w : World) (hA : RI w A c [x, y, z]) : Calls Try.prog 15 #[.slice A 3 c, .slice (some ⟨w.heap.size, 0, none⟩) 3 3] (w.alloc (.cells #[.int .i64 x, .int .i64 y, .int .i64 z] 3)) fun e w' => e = .returned (.bool true) ∧ Below w.heap.size w w' :=
  ints_ex A c [x, y, z] 3 rfl (by decide) w hA

end Go.Proofs.Ytkfgomhhenmmeaa

namespace Go.Proofs.Ytkfgomhhenmmeaa
open Go.ChangeShapes Go.WideShapes Go.ChangeAt Go.WideMaps Go.WideElems Go.RowKit Go.Deep

theorem own : ownKnob Try.prog.godebug = none := by kernel_rfl
theorem sl_cells {α : Type} (k : Kd α) (h1 : k.size = 1) {w : World} {a : Addr} {c : Nat} {xs : List α} (V : Nat → Value) (hle : xs.length ≤ c) (hc : c ≤ maxLen) (hcell : ∀ i, i < xs.length → w.cell? (a.add i) = some (V i)) (hK : ∀ i, i < xs.length → k.K AnyB w (nth k.dflt xs i) [V i]) :
    Sl k AnyB w (some a) c xs := by
  refine ⟨hle, by simpa [maxLen] using hc, fun j hj => ?_⟩
  have hcj := hcell j hj
  refine ⟨a, [V j], rfl, trivial, by have := World.block_lt_of_cell? w _ hcj; rwa [add_block] at this, hK j hj, fun i v hv => ?_⟩
  have hi : i = 0 := by
    rcases Nat.eq_zero_or_pos i with h | h
    · exact h
    · rw [List.getElem?_eq_none (by simp; omega)] at hv; cases hv
  subst hi
  injection hv with hv
  rw [h1, Nat.mul_one, Nat.add_zero, ← hv]
  exact hcj

section
variable {H : Type} {enc : TypeId × Value → H} {W : World}
/-- A []int. -/
theorem open_I {fuel : Nat} {v : Value} {x : DataW H × List MemPlace} (h : DataW.trod enc Try.prog W 0 (fun _ => true) true fuel 22 [v] = some x) :
    ∃ A c xs, v = .slice A xs.length c ∧ RI W A c xs ∧ ((∀ n ∈ x.1.weights Try.prog 22, n ≤ reachBytes) → xs.length ≤ 140737488355328) := by
  rcases open_ints Try.underlying22 Try.underlying3 (by kernel_rfl) h with ⟨hcs, _⟩ | ⟨a, len, cap, zs, hcs, _, hl, hm, hz, hx, hcell, _⟩
  · injection hcs with hv _
    exact ⟨none, 0, [], hv, ⟨Nat.le_refl _, by omega, Kd.Rd.nil _ _ _ _⟩, fun _ => by simp⟩
  · injection hcs with hv _
    have hz' : zs.length = cap := by simpa using hz
    have hlen : (zs.take len).length = len := by rw [List.length_take]; omega
    refine ⟨some a, cap, zs.take len, by rw [hlen]; exact hv, sl_cells (kInt .i64) rfl (fun i => .int .i64 (nth 0 zs i)) (by rw [hlen]; exact hl) hm (fun i hi => ?_) (fun i hi => ?_), fun hw => ?_⟩
    · rw [hlen] at hi
      rw [hcell i (by omega)]
      rfl
    · rw [hlen] at hi
      show [Value.int .i64 (nth 0 zs i)] = [.int .i64 (nth 0 (zs.take len) i)]
      rw [nth_take _ _ _ _ hi]
    · rw [hlen]
      have hb : Try.prog.bytesOf 3 = 8 := by kernel_rfl
      have := hw ((zs.take len).length * 8 + (zs.drop len).length * 8) (by rw [hx]; simp [DataW.weights, Try.underlying22, hb, lits, Nat.add_mul])
      have hr : reachBytes = 140737488351232 := rfl
      rw [hlen] at this
      omega

/-- A []byte. -/
theorem open_Y {fuel : Nat} {v : Value} {x : DataW H × List MemPlace} (h : DataW.trod enc Try.prog W 0 (fun _ => true) true fuel 32 [v] = some x) :
    ∃ A c xs, v = .slice A xs.length c ∧ RY W A c xs ∧ (∀ x ∈ xs, 0 ≤ x ∧ x < 256) ∧ ((∀ n ∈ x.1.weights Try.prog 32, n ≤ reachBytes) → xs.length ≤ 140737488355328) := by
  rcases open_ints Try.underlying32 Try.underlying5 (by kernel_rfl) h with ⟨hcs, _⟩ | ⟨a, len, cap, zs, hcs, _, hl, hm, hz, hx, hcell, hwf⟩
  · injection hcs with hv _
    exact ⟨none, 0, [], hv, ⟨Nat.le_refl _, by omega, Kd.Rd.nil _ _ _ _⟩, (fun x hx => by cases hx), fun _ => by simp⟩
  · injection hcs with hv _
    have hz' : zs.length = cap := by simpa using hz
    have hlen : (zs.take len).length = len := by rw [List.length_take]; omega
    refine ⟨some a, cap, zs.take len, by rw [hlen]; exact hv, sl_cells (kInt .u8) rfl (fun i => .int .u8 (nth 0 zs i)) (by rw [hlen]; exact hl) hm (fun i hi => ?_) (fun i hi => ?_), fun y hy => ?_, fun hw => ?_⟩
    · rw [hlen] at hi
      rw [hcell i (by omega)]
      rfl
    · rw [hlen] at hi
      show [Value.int .u8 (nth 0 zs i)] = [.int .u8 (nth 0 (zs.take len) i)]
      rw [nth_take _ _ _ _ hi]
    · have := hwf y (List.mem_of_mem_take hy)
      simp [Lit.wf, IntKind.min, IntKind.max, IntKind.signed, IntKind.bits] at this
      omega
    · rw [hlen]
      have hb : Try.prog.bytesOf 5 = 1 := by kernel_rfl
      have := hw ((zs.take len).length * 1 + (zs.drop len).length * 1) (by rw [hx]; simp [DataW.weights, Try.underlying32, hb, lits])
      have hr : reachBytes = 140737488351232 := rfl
      rw [hlen] at this
      omega
end
end Go.Proofs.Ytkfgomhhenmmeaa

namespace Go.Proofs.Ytkfgomhhenmmeaa
open Go.RowKit

def sym (x : It) : Nat := nth 0 x.2 0
theorem coin_sym {cs : List Int} {k : Nat} {z : It} (h : z ∈ coinsK cs k) : z = (nth 0 cs (sym z), [sym z]) ∧ sym z < k ∧ 0 < nth 0 cs (sym z) := by
  obtain ⟨s, h1, rfl, h2⟩ := coinsK_mem h
  exact ⟨rfl, h1, h2⟩
theorem coins_nodup (cs : List Int) : ∀ k, ((coinsK cs k).map sym).Nodup
  | 0 => by simp [coinsK]
  | k + 1 => by
    unfold coinsK
    split
    · rw [List.map_append, List.nodup_append]
      refine ⟨coins_nodup cs k, by simp, fun a ha b hb => ?_⟩
      obtain ⟨z, hz, rfl⟩ := List.mem_map.1 ha
      have h1 := (coin_sym hz).2.1
      have h2 : b = k := by simpa [sym, nth] using hb
      omega
    · exact coins_nodup cs k
theorem sorted_nodup (cs : List Int) : ((sortedC cs).map sym).Nodup := (((isortF_perm _ _).map sym).nodup_iff).2 (coins_nodup cs cs.length)
theorem sorted_sym {cs : List Int} {z : It} (h : z ∈ sortedC cs) : z = (nth 0 cs (sym z), [sym z]) ∧ sym z < cs.length ∧ 0 < nth 0 cs (sym z) := coin_sym (sortedC_mem h)
theorem sorted_I (cs : List Int) : SortedI (sortedC cs) := by
  have h : SortedF (fun z : It => z.1) (sortedC cs) := (isortF_ok _).1
  intro i j hij hj
  rcases Nat.lt_or_ge i j with h1 | h1
  · have := List.pairwise_iff_getElem.1 h i j (by omega) hj h1
    rw [nth_eq _ _ i (by omega), nth_eq _ _ j hj]
    exact this
  · obtain rfl : i = j := by omega
    exact Int.le_refl _
theorem sorted_pos (cs : List Int) : ∀ z ∈ sortedC cs, 0 ≤ z.1 := fun z hz => by
  have h := sorted_sym hz
  rw [h.1]; show 0 ≤ nth 0 cs (sym z); have := h.2.2; omega
/-! ### Sums over the coins -/
theorem perm_sumN {α : Type} (f : α → Nat) {l m : List α} (h : l.Perm m) : (l.map f).sum = (m.map f).sum := by
  induction h with
  | nil => rfl
  | cons x _ ih => simp [ih]
  | swap x y l => simp; omega
  | trans _ _ h1 h2 => exact h1.trans h2
theorem perm_sumZ {α : Type} (f : α → Int) {l m : List α} (h : l.Perm m) : (l.map f).sum = (m.map f).sum := by
  induction h with
  | nil => rfl
  | cons x _ ih => simp [ih]
  | swap x y l => simp; omega
  | trans _ _ h1 h2 => exact h1.trans h2
theorem coins_sumN (cs : List Int) (h : Nat → Nat) (h0 : ∀ s, ¬ 0 < nth 0 cs s → h s = 0) : ∀ k, ((coinsK cs k).map fun x => h (sym x)).sum = sumTo k h
  | 0 => by simp [coinsK, sumTo]
  | k + 1 => by
    rw [sumTo_succ, ← coins_sumN cs h h0 k, coinsK]
    split
    · simp [sym, nth]
    · rename_i hk; rw [h0 k hk]; omega
theorem coins_sumZ (cs : List Int) (h : Nat → Int) (h0 : ∀ s, ¬ 0 < nth 0 cs s → h s = 0) : ∀ k, ((coinsK cs k).map fun x => h (sym x)).sum = sumI k h
  | 0 => by simp [coinsK, sumI]
  | k + 1 => by
    rw [sumI_succ, ← coins_sumZ cs h h0 k, coinsK]
    split
    · simp [sym, nth]
    · rename_i hk; rw [h0 k hk]; omega
theorem sorted_sumN (cs : List Int) (h : Nat → Nat) (h0 : ∀ s, ¬ 0 < nth 0 cs s → h s = 0) : ((sortedC cs).map fun x => h (sym x)).sum = sumTo cs.length h :=
  (perm_sumN _ (isortF_perm _ _)).trans (coins_sumN cs h h0 cs.length)
theorem sorted_sumZ (cs : List Int) (h : Nat → Int) (h0 : ∀ s, ¬ 0 < nth 0 cs s → h s = 0) : ((sortedC cs).map fun x => h (sym x)).sum = sumI cs.length h :=
  (perm_sumZ _ (isortF_perm _ _)).trans (coins_sumZ cs h h0 cs.length)
theorem sum_ranks (f : It → Nat) : ∀ l : List It, (l.map f).sum = sumTo l.length fun r => f (nth (0, []) l r)
  | [] => rfl
  | x :: l => by
    have h := sum_ranks f l
    rw [List.map_cons, List.sum_cons, h]
    unfold sumTo
    rw [List.length_cons, List.range_succ_eq_map, List.map_cons, List.sum_cons, List.map_map]
    rfl
theorem sum_ranksZ (f : It → Int) : ∀ l : List It, (l.map f).sum = ((List.range l.length).map fun r => f (nth (0, []) l r)).sum
  | [] => rfl
  | x :: l => by
    have h := sum_ranksZ f l
    rw [List.map_cons, List.sum_cons, h]
    rw [List.length_cons, List.range_succ_eq_map, List.map_cons, List.sum_cons, List.map_map]
    rfl
/-! ### Each symbol's length is its rank's depth -/
theorem occ_syms (s : Nat) : ∀ {l : List It}, (∀ z ∈ l, z.2 = [sym z]) → occ s l = (l.map sym).count s
  | [], _ => rfl
  | x :: l, h => by
    have e : occ s (x :: l) = x.2.count s + occ s l := by unfold occ; rw [sumF_cons]
    have h2 : x.2.count s = [sym x].count s := by rw [← h x (by simp)]
    rw [e, occ_syms s fun z hz => h z (by simp [hz]), List.map_cons, List.count_cons, h2, List.count_singleton]
    omega
theorem count_take : ∀ {l : List Nat} {r p : Nat}, l.Nodup → r < l.length → (l.take p).count (nth 0 l r) = if r < p then 1 else 0
  | [], r, p, _, h => by simp at h
  | a :: t, r, 0, _, _ => by simp
  | a :: t, 0, p + 1, hn, _ => by
    have h1 : (t.take p).count a = 0 := List.count_eq_zero.2 fun h => (List.nodup_cons.1 hn).1 (List.mem_of_mem_take h)
    have e : nth 0 (a :: t) 0 = a := rfl
    rw [e, List.take_succ_cons, List.count_cons_self, h1]; simp
  | a :: t, r + 1, p + 1, hn, h => by
    have hr : r < t.length := by simpa using h
    have e : nth 0 (a :: t) (r + 1) = nth 0 t r := by simp [nth]
    have hne : a ≠ nth 0 t r := fun e => (List.nodup_cons.1 hn).1 (by rw [e]; exact nth_mem 0 t r hr)
    rw [e, List.take_succ_cons, List.count_cons_of_ne hne, count_take (List.nodup_cons.1 hn).2 hr]
    by_cases h1 : r < p
    · rw [if_pos h1, if_pos (by omega)]
    · rw [if_neg h1, if_neg (by omega)]
theorem dep_sum (ps : List Nat) (r : Nat) : (ps.map fun p => if r < p then 1 else 0).sum = dep ps r := by
  induction ps with
  | nil => rfl
  | cons p ps ih => rw [List.map_cons, List.sum_cons, ih, dep_cons]
/-- How long the word of a symbol is. -/
def lenN (cs : List Int) (most s : Nat) : Nat := if (sortedC cs).length = 1 then occ s (sortedC cs) else occ s ((rowI (sortedC cs) (most - 1)).take (2 * (sortedC cs).length - 2))
theorem occ_perm (s : Nat) {l m : List It} (h : l.Perm m) : occ s l = occ s m := perm_sumN _ h
theorem lengthsV_nth {cs : List Int} {most : Nat} (hE : lengthsE cs most = 0) : lengthsV cs most = (List.range cs.length).map fun s => ((lenN cs most s : Nat) : Int) := by
  unfold lengthsV lenN outQ
  rw [if_neg (by rw [hE]; decide), sortedC_length, Int.toNat_natCast]
  by_cases h1 : (coinsK cs cs.length).length = 1
  · simp only [if_pos h1]
    apply List.map_congr_left
    intro s _
    have e : occ s (sortedC cs) = occ s (coinsK cs cs.length) := occ_perm s (isortF_perm _ _)
    rw [e]
  · simp only [if_neg h1]
theorem lengthsV_length {cs : List Int} {most : Nat} (hE : lengthsE cs most = 0) : (lengthsV cs most).length = cs.length := by rw [lengthsV_nth hE]; simp
theorem lengthsV_at {cs : List Int} {most s : Nat} (hE : lengthsE cs most = 0) (hs : s < cs.length) : nth 0 (lengthsV cs most) s = ((lenN cs most s : Nat) : Int) := by
  rw [nth_eq 0 _ s (by rw [lengthsV_length hE]; exact hs)]
  simp [lengthsV_nth hE]
/-- The counts and the greatest length are right. -/
structure LenIn (cs : List Int) (most : Nat) : Prop where
  cnt : countsB cs = true
  lo : 1 ≤ most
  hi : most ≤ 16
  some : 1 ≤ (sortedC cs).length
  fit : (sortedC cs).length ≤ 2 ^ most
theorem lengthsE_in {cs : List Int} {most : Int} (h : lengthsE cs most = 0) : ∃ m : Nat, most = (m : Int) ∧ LenIn cs m := by
  unfold lengthsE at h
  split at h
  · cases h
  · rename_i h1
    split at h
    · cases h
    · rename_i h2
      split at h
      · cases h
      · rename_i h3
        have hc : countsB cs = true := by
          cases hc : countsB cs
          · exact absurd (.inl hc) h1
          · rfl
        exact ⟨most.toNat, by omega, hc, by omega, by omega, by rw [sortedC_length]; omega, by rw [sortedC_length]; omega⟩
/-- Of what is taken of each row. -/
def psL (cs : List Int) (most : Nat) : List Nat := if (sortedC cs).length = 1 then [1] else lens (sortedC cs) (most - 1) (2 * (sortedC cs).length - 2)
theorem sorted_syms1 (cs : List Int) : ∀ z ∈ sortedC cs, z.2 = [sym z] := fun z hz => by
  have h := (sorted_sym hz).1
  have : z.2 = (nth 0 cs (sym z), [sym z]).2 := congrArg Prod.snd h
  exact this
theorem lenN_sum {cs : List Int} {most : Nat} (h : LenIn cs most) (s : Nat) : lenN cs most s = ((psL cs most).map fun p => (((sortedC cs).take p).map sym).count s).sum := by
  have hz : ∀ p, occ s ((sortedC cs).take p) = (((sortedC cs).take p).map sym).count s := fun p => occ_syms s fun z hz => sorted_syms1 cs z (List.mem_of_mem_take hz)
  unfold lenN psL
  by_cases h1 : (sortedC cs).length = 1
  · rw [if_pos h1, if_pos h1]
    have := hz 1
    rw [show (sortedC cs).take 1 = sortedC cs from List.take_of_length_le (by omega)] at this
    rw [this]
    have e1 : (sortedC cs).take 1 = sortedC cs := List.take_of_length_le (by omega)
    show _ = ([1].map fun p => (((sortedC cs).take p).map sym).count s).sum
    rw [List.map_cons, List.map_nil, List.sum_cons, List.sum_nil, e1]; rfl
  · rw [if_neg h1, if_neg h1]
    have hf := row_fits (coins := sortedC cs) (k := most - 1) (by rw [show most - 1 + 1 = most by have := h.lo; omega]; exact h.fit)
    show sumF _ _ = _
    rw [lens_sumF (f := fun x => x.2.count s) (fun x y => by simp) _ _ _ hf]
    congr 1
    apply List.map_congr_left
    intro p _
    exact hz p
theorem lenN_rank {cs : List Int} {most : Nat} (h : LenIn cs most) {r : Nat} (hr : r < (sortedC cs).length) : lenN cs most (sym (nth (0, []) (sortedC cs) r)) = dep (psL cs most) r := by
  rw [lenN_sum h, ← dep_sum]
  congr 1
  apply List.map_congr_left
  intro p _
  have e : sym (nth (0, []) (sortedC cs) r) = nth 0 ((sortedC cs).map sym) r := by
    rw [nth_eq _ _ r hr, nth_eq 0 _ r (by simpa using hr)]; simp
  rw [e, List.map_take, count_take (sorted_nodup cs) (by simpa using hr)]
theorem lenN_none {cs : List Int} {most s : Nat} (h : LenIn cs most) (hs : ¬ 0 < nth 0 cs s) : lenN cs most s = 0 := by
  rw [lenN_sum h]
  have : ∀ p, (((sortedC cs).take p).map sym).count s = 0 := fun p => List.count_eq_zero.2 fun hm => by
    obtain ⟨z, hz, rfl⟩ := List.mem_map.1 hm
    exact hs (sorted_sym (List.mem_of_mem_take hz)).2.2
  induction psL cs most with
  | nil => rfl
  | cons p ps ih => rw [List.map_cons, List.sum_cons, this p, ih]
theorem rank_of {cs : List Int} {s : Nat} (hs : 0 < nth 0 cs s) : ∃ r, r < (sortedC cs).length ∧ nth (0, []) (sortedC cs) r = (nth 0 cs s, [s]) ∧ sym (nth (0, []) (sortedC cs) r) = s := by
  have hl : s < cs.length := by
    rcases Nat.lt_or_ge s cs.length with h | h
    · exact h
    · rw [nth_none 0 cs s h] at hs; omega
  have hm : ∀ k, s < k → (nth 0 cs s, [s]) ∈ coinsK cs k := by
    intro k
    induction k with
    | zero => intro h; omega
    | succ k ih =>
      intro h
      unfold coinsK
      by_cases e : s = k
      · subst e; rw [if_pos hs]; simp
      · split
        · exact List.mem_append_left _ (ih (by omega))
        · exact ih (by omega)
  have hms : (nth 0 cs s, [s]) ∈ sortedC cs := (isortF_mem (f := fun z : It => z.1) _ _).2 (hm cs.length hl)
  obtain ⟨r, hr, e⟩ := List.mem_iff_getElem.1 hms
  exact ⟨r, hr, by rw [nth_eq _ _ r hr]; exact e, by rw [nth_eq _ _ r hr]; exact (congrArg sym e).trans rfl⟩
end Go.Proofs.Ytkfgomhhenmmeaa

namespace Go.Proofs.Ytkfgomhhenmmeaa
open Go.RowKit

theorem psL_length {cs : List Int} {most : Nat} (h : LenIn cs most) : (psL cs most).length ≤ most := by
  have := h.lo
  unfold psL
  split
  · simpa using this
  · rw [lens_length]; omega
theorem lenN_le {cs : List Int} {most : Nat} (h : LenIn cs most) (s : Nat) : lenN cs most s ≤ most := by
  by_cases hs : 0 < nth 0 cs s
  · obtain ⟨r, hr, _, e⟩ := rank_of hs
    rw [← e, lenN_rank h hr]
    exact Nat.le_trans (dep_le _ _) (psL_length h)
  · rw [lenN_none h hs]; exact Nat.zero_le _
theorem dep_pos {cs : List Int} {most : Nat} (h : LenIn cs most) {r : Nat} (hr : r < (sortedC cs).length) : 0 < dep (psL cs most) r := by
  unfold psL
  split
  · rename_i h1
    obtain rfl : r = 0 := by omega
    decide
  · rename_i h1
    have := h.some
    exact lens_all (sorted_I cs) (sorted_pos cs) (by omega) (by rw [show most - 1 + 1 = most by have := h.lo; omega]; exact h.fit) hr
theorem lenN_pos {cs : List Int} {most s : Nat} (h : LenIn cs most) (hs : 0 < nth 0 cs s) : 0 < lenN cs most s := by
  obtain ⟨r, hr, _, e⟩ := rank_of hs
  rw [← e, lenN_rank h hr]
  exact dep_pos h hr
theorem lenN_pos_iff {cs : List Int} {most s : Nat} (h : LenIn cs most) : 0 < lenN cs most s ↔ 0 < nth 0 cs s := by
  constructor
  · intro hl
    refine Decidable.byContradiction fun hs => ?_
    rw [lenN_none h hs] at hl; omega
  · exact lenN_pos h
theorem lenN_order {cs : List Int} {most i j : Nat} (h : LenIn cs most) (hj : 0 < nth 0 cs j) (hij : nth 0 cs j < nth 0 cs i) : lenN cs most i ≤ lenN cs most j := by
  obtain ⟨r, hr, er, es⟩ := rank_of (cs := cs) (s := i) (by omega)
  obtain ⟨q, hq, eq, et⟩ := rank_of hj
  have h1 : q ≤ r := by
    refine Decidable.byContradiction fun hn => ?_
    have := sorted_I cs r q (by omega) hq
    rw [er, eq] at this
    have this : nth 0 cs i ≤ nth 0 cs j := this
    omega
  have e1 := lenN_rank h hr
  have e2 := lenN_rank h hq
  rw [es] at e1
  rw [et] at e2
  rw [e1, e2]
  exact dep_mono _ h1
theorem lenOf_V {cs : List Int} {most s : Nat} (hE : lengthsE cs most = 0) (hs : s < cs.length) : lenOf (lengthsV cs most) s = lenN cs most s := by
  unfold lenOf; rw [lengthsV_at hE hs, Int.toNat_natCast]
theorem share_zero : share 0 = 0 := rfl
theorem filled_V {cs : List Int} {most : Nat} (hE : lengthsE cs most = 0) (h : LenIn cs most) : filledN (lengthsV cs most) = if (sortedC cs).length = 1 then 32768 else 65536 := by
  have e1 : filledN (lengthsV cs most) = sumTo cs.length fun s => share (lenN cs most s) := by
    unfold filledN
    rw [lengthsV_length hE]
    exact sumTo_congr fun s hs => by rw [lenOf_V hE hs]
  rw [e1, ← sorted_sumN cs (fun s => share (lenN cs most s)) (fun s hs => by rw [lenN_none h hs]; rfl), sum_ranks]
  have e2 : (sumTo (sortedC cs).length fun r => share (lenN cs most (sym (nth (0, []) (sortedC cs) r)))) = sumTo (sortedC cs).length fun r => 2 ^ (16 - dep (psL cs most) r) := sumTo_congr fun r hr => by
    rw [lenN_rank h hr, share_pos (dep_pos h hr)]
  rw [e2]
  by_cases h1 : (sortedC cs).length = 1
  · rw [if_pos h1, h1]
    unfold psL
    rw [if_pos h1]; rfl
  · rw [if_neg h1]
    have hlo := h.lo
    have hhi := h.hi
    have hk : most - 1 + 1 = most := by omega
    have hc := lens_complete (sorted_I cs) (sorted_pos cs) (k := most - 1) h.some (by rw [hk]; exact h.fit)
    rw [hk] at hc
    have e3 : (sumTo (sortedC cs).length fun r => 2 ^ (16 - dep (psL cs most) r)) = sumTo (sortedC cs).length fun r => 2 ^ (16 - most) * 2 ^ (most - dep (lens (sortedC cs) (most - 1) (2 * (sortedC cs).length - 2)) r) := sumTo_congr fun r hr => by
      have hd := dep_le (psL cs most) r
      have hp := psL_length h
      unfold psL at hd hp ⊢
      rw [if_neg h1] at hd hp ⊢
      rw [← Nat.pow_add]; congr 1; omega
    rw [e3, sumTo_mul, hc, ← Nat.pow_add, show 16 - most + most = 16 by omega]
theorem lensOk_V {cs : List Int} {most : Nat} (hE : lengthsE cs most = 0) (h : LenIn cs most) : LensOk (lengthsV cs most) := by
  refine ⟨by rw [lengthsV_length hE]; exact (counts_bound h.cnt).1, fun x hx => ?_⟩
  rw [lengthsV_nth hE] at hx
  obtain ⟨s, _, rfl⟩ := List.mem_map.1 hx
  have := lenN_le h s
  have := h.hi
  omega
theorem right_V {cs : List Int} {most : Nat} (hE : lengthsE cs most = 0) (h : LenIn cs most) : Right (lengthsV cs most) := by
  have hf := filled_V hE h
  exact ⟨lensOk_V hE h, by rw [hf]; split <;> omega, by rw [hf]; split <;> omega⟩
theorem check_V {cs : List Int} {most : Nat} (hE : lengthsE cs most = 0) (h : LenIn cs most) : checkN (lengthsV cs most) = 0 := (checkN_right _).2 (right_V hE h)
theorem complete_V {cs : List Int} {most : Nat} (hE : lengthsE cs most = 0) (h : LenIn cs most) : completeB (lengthsV cs most) = decide (1 < (coinsK cs cs.length).length) := by
  have hs := h.some
  unfold completeB
  rw [check_V hE h, filled_V hE h, ← sortedC_length]
  by_cases h1 : (sortedC cs).length = 1
  · rw [if_pos h1, h1]; rfl
  · rw [if_neg h1]
    have : 1 < (sortedC cs).length := by omega
    simp [this]
theorem cost_V {cs : List Int} {most : Nat} (hE : lengthsE cs most = 0) (h : LenIn cs most) : costN (lengthsV cs most) cs = (costK (lengthsV cs most) cs cs.length, 0) := by
  unfold costN
  rw [if_neg (by rw [check_V hE h]; simp), if_neg (by rw [lengthsV_length hE, h.cnt]; simp), if_neg]
  intro hn
  obtain ⟨i, hi, h2⟩ := List.any_eq_true.1 hn
  have hi := List.mem_range.1 hi
  simp only [Bool.and_eq_true, decide_eq_true_eq] at h2
  rw [lengthsV_at hE hi] at h2
  have := lenN_pos h h2.1
  omega
/-- What the answer costs, by ranks. -/
theorem cost_ranks {cs : List Int} {most : Nat} (hE : lengthsE cs most = 0) (h : LenIn cs most) : costK (lengthsV cs most) cs cs.length = ((List.range (sortedC cs).length).map fun r => (nth (0, []) (sortedC cs) r).1 * (dep (psL cs most) r : Int)).sum := by
  have e1 : costK (lengthsV cs most) cs cs.length = sumI cs.length fun s => nth 0 cs s * (lenN cs most s : Int) := by
    unfold costK sumI
    congr 1
    apply List.map_congr_left
    intro s hs
    rw [lengthsV_at hE (List.mem_range.1 hs)]
  rw [e1, ← sorted_sumZ cs (fun s => nth 0 cs s * (lenN cs most s : Int)) (fun s hs => by rw [lenN_none h hs]; simp), sum_ranksZ]
  congr 1
  apply List.map_congr_left
  intro r hr
  have hr := List.mem_range.1 hr
  rw [lenN_rank h hr]
  have hz := (sorted_sym (nth_mem (0, []) (sortedC cs) r hr)).1
  have e2 : (nth (0, []) (sortedC cs) r).1 = nth 0 cs (sym (nth (0, []) (sortedC cs) r)) := by
    conv => lhs; rw [hz]
  rw [e2]
theorem counts_pos {cs : List Int} (h : countsB cs = true) (s : Nat) : 0 ≤ nth 0 cs s := (nth_bound (counts_bound h).2 (by decide) s).1
/-- What another code costs, by the coins. -/
theorem cost_other {cs other : List Int} (h : countsB cs = true) (ho : LensOk other) : costK other cs cs.length = wsum (fun x => lenOf other (sym x)) (sortedC cs) := by
  have e1 : costK other cs cs.length = sumI cs.length fun s => nth 0 cs s * (lenOf other s : Int) := by
    unfold costK sumI
    congr 1
    apply List.map_congr_left
    intro s _
    have := (ho.at s).1
    unfold lenOf
    rw [Int.toNat_of_nonneg this]
  rw [e1, ← sorted_sumZ cs (fun s => nth 0 cs s * (lenOf other s : Int)) (fun s hs => by
    have := counts_pos h s
    have h0 : nth 0 cs s = 0 := by omega
    rw [h0]; simp)]
  unfold wsum
  congr 1
  apply List.map_congr_left
  intro x hx
  have hz := (sorted_sym hx).1
  have e2 : x.1 = nth 0 cs (sym x) := by
    conv => lhs; rw [hz]
  rw [e2]
theorem least_V {cs other : List Int} {most : Nat} (hE : lengthsE cs most = 0) (h : LenIn cs most) (ho : ∀ x ∈ other, x ≤ most) (hc : (costN other cs).2 = 0) : costK (lengthsV cs most) cs cs.length ≤ (costN other cs).1 := by
  unfold costN at hc ⊢
  split at hc
  · rename_i h1; exact absurd hc h1
  · rename_i h1
    rw [if_neg h1]
    have hck : checkN other = 0 := by simpa using h1
    have hr := (checkN_right other).1 hck
    split at hc
    · cases hc
    · rename_i h2
      rw [if_neg h2]
      split at hc
      · cases hc
      · rename_i h3
        rw [if_neg h3]
        show _ ≤ costK other cs cs.length
        have hlen : cs.length = other.length := Decidable.byContradiction fun hn => h2 (.inl hn)
        have hpos : ∀ s, 0 < nth 0 cs s → 0 < lenOf other s := fun s hs => by
          have hsl : s < cs.length := by
            rcases Nat.lt_or_ge s cs.length with hh | hh
            · exact hh
            · rw [nth_none 0 cs s hh] at hs; omega
          have h4 : noneB other cs = false := by simpa using h3
          have h5 := List.any_eq_false.1 h4 s (List.mem_range.2 hsl)
          simp only [Bool.and_eq_true, decide_eq_true_eq] at h5
          have := (hr.ok.at s).1
          unfold lenOf
          have : nth 0 other s ≠ 0 := fun e => h5 ⟨hs, e⟩
          omega
        have hle : ∀ s, lenOf other s ≤ most := fun s => by
          unfold lenOf
          rcases Nat.lt_or_ge s other.length with hh | hh
          · have := ho _ (nth_mem 0 other s hh); omega
          · rw [nth_none 0 other s hh]; simp
        rw [cost_ranks hE h, cost_other h.cnt hr.ok]
        have hlo := h.lo
        have hk : most - 1 + 1 = most := by omega
        by_cases h6 : (sortedC cs).length = 1
        · obtain ⟨z, hz⟩ := List.length_eq_one_iff.1 h6
          have hzs := sorted_sym (show z ∈ sortedC cs by rw [hz]; simp)
          have hzp := hpos _ hzs.2.2
          have hz1 := sorted_pos cs z (by rw [hz]; simp)
          have e5 : psL cs most = [1] := by unfold psL; rw [if_pos h6]
          rw [e5, hz]
          have e6 : ((List.range [z].length).map fun r => (nth (0, []) [z] r).1 * (dep [1] r : Int)).sum = z.1 * 1 := by
            show ([z.1 * (dep [1] 0 : Int)]).sum = _
            have : dep [1] 0 = 1 := rfl
            rw [this]; simp
          rw [e6]
          have e7 : wsum (fun x => lenOf other (sym x)) [z] = z.1 * (lenOf other (sym z) : Int) := by simp [wsum]
          rw [e7]
          exact Int.mul_le_mul_of_nonneg_left (by omega) hz1
        · have e5 : psL cs most = lens (sortedC cs) (most - 1) (2 * (sortedC cs).length - 2) := by unfold psL; rw [if_neg h6]
          rw [e5]
          refine code_least (sorted_I cs) (sorted_pos cs) h.some (by rw [hk]; exact h.fit) (fun x _ => by rw [hk]; exact hle _) ?_
          rw [hk]
          -- Kraft's sum of the other code
          have h7 : 2 ^ (16 - most) * sumF (fun x => 2 ^ (most - lenOf other (sym x))) (sortedC cs) ≤ 65536 := by
            refine Nat.le_trans ?_ hr.full
            have e8 : 2 ^ (16 - most) * sumF (fun x => 2 ^ (most - lenOf other (sym x))) (sortedC cs) = ((sortedC cs).map fun x => (fun s => if 0 < nth 0 cs s then share (lenOf other s) else 0) (sym x)).sum := by
              rw [Nat.mul_comm, sumF_mul]
              unfold sumF
              congr 1
              apply List.map_congr_left
              intro x hx
              have hp := (sorted_sym hx).2.2
              have h16 := h.hi
              have := hle (sym x)
              simp only [if_pos hp]
              rw [share_pos (hpos _ hp), ← Nat.pow_add]
              congr 1; omega
            rw [e8, sorted_sumN cs (fun s => if 0 < nth 0 cs s then share (lenOf other s) else 0) (fun s hs => if_neg hs)]
            unfold filledN
            rw [← hlen]
            exact sumTo_le fun s _ => by split <;> omega
          have h8 : (65536 : Nat) = 2 ^ (16 - most) * 2 ^ most := by
            have := h.hi
            rw [← Nat.pow_add, show 16 - most + most = 16 by omega]
          rw [h8] at h7
          exact Nat.le_of_mul_le_mul_left h7 (Nat.two_pow_pos _)
end Go.Proofs.Ytkfgomhhenmmeaa

namespace Go.Proofs.Ytkfgomhhenmmeaa
open Go.RowKit

/-! ### The order -/
theorem insF_at {α : Type} (f : α → Int) (x : α) : ∀ (l : List α) (p : Nat), (∀ y ∈ l.take p, f y ≤ f x) → (∀ y ∈ l.drop p, f x < f y) → insF f x l = l.take p ++ x :: l.drop p
  | [], p, _, _ => by simp [insF]
  | y :: l, 0, _, h => by
    have := h y (by simp)
    unfold insF
    rw [if_pos this]; rfl
  | y :: l, p + 1, h1, h2 => by
    have h3 := h1 y (by simp)
    unfold insF
    rw [if_neg (by omega), insF_at f x l p (fun z hz => h1 z (by simp [hz])) (fun z hz => h2 z (by simpa using hz))]
    rfl
def sortK (cs : List Int) (k : Nat) : List It := isortF (fun z : It => z.1) (coinsK cs k)
theorem sortK_mem {cs : List Int} {k : Nat} {z : It} (h : z ∈ sortK cs k) : z = (nth 0 cs (sym z), [sym z]) ∧ sym z < k ∧ 0 < nth 0 cs (sym z) := coin_sym ((isortF_mem _ _).1 h)
theorem sortK_length (cs : List Int) (k : Nat) : (sortK cs k).length = (coinsK cs k).length := (isortF_perm _ _).length_eq
/-- The symbols of the first counts, in the order of their counts. -/
def ordI (cs : List Int) (k : Nat) : List Int := (sortK cs k).map fun z => ((sym z : Nat) : Int)
theorem ordI_length (cs : List Int) (k : Nat) : (ordI cs k).length = (coinsK cs k).length := by simp [ordI, sortK_length]
theorem ordI_nth {cs : List Int} {k j : Nat} (h : j < (coinsK cs k).length) : ∃ s : Nat, nth 0 (ordI cs k) j = (s : Int) ∧ s < k ∧ 0 < nth 0 cs s ∧ nth (0, []) (sortK cs k) j = (nth 0 cs s, [s]) := by
  have hl : j < (sortK cs k).length := by rw [sortK_length]; exact h
  have hm := sortK_mem (nth_mem (0, []) _ j hl)
  refine ⟨sym (nth (0, []) (sortK cs k) j), ?_, hm.2.1, hm.2.2, hm.1⟩
  rw [nth_eq 0 _ j (by rw [ordI_length]; exact h)]
  simp [ordI, nth_eq _ _ j hl]
theorem ordI_miss {cs : List Int} {k : Nat} (h : ¬ 0 < nth 0 cs k) : ordI cs (k + 1) = ordI cs k := by
  unfold ordI sortK
  rw [show coinsK cs (k + 1) = coinsK cs k by show (if 0 < nth 0 cs k then _ else _) = _; rw [if_neg h]]
theorem ordI_hit {cs : List Int} {k p : Nat} (h : 0 < nth 0 cs k) (hp : p ≤ (coinsK cs k).length) (h1 : p = 0 ∨ ∃ s : Nat, nth 0 (ordI cs k) (p - 1) = (s : Int) ∧ nth 0 cs s ≤ nth 0 cs k)
    (h2 : ∀ j, p ≤ j → j < (coinsK cs k).length → nth 0 cs k < nth 0 cs (nth 0 (ordI cs k) j).toNat) : ordI cs (k + 1) = (ordI cs k).take p ++ (k : Int) :: (ordI cs k).drop p := by
  have hl := sortK_length cs k
  have hs : SortedF (fun z : It => z.1) (sortK cs k) := (isortF_ok _).1
  have e : sortK cs (k + 1) = (sortK cs k).take p ++ (nth 0 cs k, [k]) :: (sortK cs k).drop p := by
    have e0 : sortK cs (k + 1) = insF (fun z : It => z.1) (nth 0 cs k, [k]) (sortK cs k) := by
      unfold sortK
      rw [show coinsK cs (k + 1) = coinsK cs k ++ [(nth 0 cs k, [k])] by show (if 0 < nth 0 cs k then _ else _) = _; rw [if_pos h]]
      exact isortF_snoc _ _
    rw [e0]
    refine insF_at _ _ _ _ (fun y hy => ?_) (fun y hy => ?_)
    · obtain ⟨i, hi, rfl⟩ := List.mem_iff_getElem.1 hy
      rw [List.length_take] at hi
      rcases h1 with h1 | ⟨s, h1, h3⟩
      · omega
      · obtain ⟨t, e1, _, _, e4⟩ := ordI_nth (cs := cs) (k := k) (j := p - 1) (by omega)
        have hst : s = t := by rw [h1] at e1; omega
        subst hst
        rw [List.getElem_take]
        show ((sortK cs k)[i]).1 ≤ nth 0 cs k
        refine Int.le_trans ?_ h3
        have e5 : (nth (0, []) (sortK cs k) (p - 1)).1 = nth 0 cs s := by rw [e4]
        rw [← e5, nth_eq _ _ (p - 1) (by omega)]
        rcases Nat.lt_or_ge i (p - 1) with h6 | h6
        · exact List.pairwise_iff_getElem.1 hs i (p - 1) (by omega) (by omega) h6
        · have : i = p - 1 := by omega
          subst this
          exact Int.le_refl _
    · obtain ⟨i, hi, rfl⟩ := List.mem_iff_getElem.1 hy
      rw [List.length_drop] at hi
      rw [List.getElem_drop]
      show nth 0 cs k < ((sortK cs k)[p + i]).1
      have h3 := h2 (p + i) (by omega) (by omega)
      obtain ⟨t, e1, _, _, e4⟩ := ordI_nth (cs := cs) (k := k) (j := p + i) (by omega)
      rw [e1, Int.toNat_natCast] at h3
      have e5 : (nth (0, []) (sortK cs k) (p + i)).1 = nth 0 cs t := by rw [e4]
      rw [nth_eq _ _ (p + i) (by omega)] at e5
      rw [e5]; exact h3
  unfold ordI
  rw [e, List.map_append, List.map_cons, List.map_take, List.map_drop]
  rfl
theorem ordI_all (cs : List Int) : ordI cs cs.length = (sortedC cs).map fun z => ((sym z : Nat) : Int) := rfl
/-- The coins, tagged. -/
def tagC (cs : List Int) : List (Int × Int) := (sortedC cs).map tag
theorem tag_coin {cs : List Int} {z : It} (h : z ∈ sortedC cs) : tag z = (z.1, ((sym z : Nat) : Int)) := by
  have h1 := sorted_syms1 cs z h
  unfold tag sym
  rw [if_pos (by rw [h1]; rfl)]
theorem tagC_length (cs : List Int) : (tagC cs).length = (sortedC cs).length := by simp [tagC]
theorem tagC_eq (cs : List Int) : tagC cs = (ordI cs cs.length).map fun s => (nth 0 cs s.toNat, s) := by
  unfold tagC
  rw [ordI_all, List.map_map]
  apply List.map_congr_left
  intro z hz
  rw [tag_coin hz]
  have := (sorted_sym hz).1
  have e : z.1 = nth 0 cs (sym z) := by conv => lhs; rw [this]
  simp [e]
theorem coins1 (cs : List Int) : ∀ x ∈ sortedC cs, x.2.length = 1 := fun x hx => by rw [sorted_syms1 cs x hx]; rfl
theorem rowR_eq (cs : List Int) (k : Nat) : rowR (tagC cs) k = (rowI (sortedC cs) k).map tag := (tag_row (coins1 cs) k).symm
theorem rowR_length (cs : List Int) (k : Nat) : (rowR (tagC cs) k).length = (rowI (sortedC cs) k).length := by rw [rowR_eq]; simp
theorem rowR_bound {cs : List Int} (h : countsB cs = true) {k : Nat} (hk : k ≤ 15) : ∀ z ∈ rowR (tagC cs) k, 0 ≤ z.1 ∧ z.1 ≤ 1125899906842624 := by
  intro z hz
  rw [rowR_eq] at hz
  obtain ⟨y, hy, rfl⟩ := List.mem_map.1 hz
  have := rowI_ok (sorted_within h) hk y hy
  exact ⟨this.1, this.2.1⟩
/-! ### What is taken of a level -/
/-- How many of these items are coins of a symbol. -/
def coinsIn (s : Nat) (l : List (Int × Int)) : Nat := (l.filter fun x => x.2 == (s : Int)).length
def packsIn (l : List (Int × Int)) : Nat := (l.filter fun x => decide (x.2 < 0)).length
theorem coinsIn_snoc (s : Nat) (l : List (Int × Int)) (x : Int × Int) : coinsIn s (l ++ [x]) = coinsIn s l + if x.2 = (s : Int) then 1 else 0 := by
  unfold coinsIn
  rw [List.filter_append, List.length_append]
  by_cases h : x.2 = (s : Int)
  · simp [h]
  · simp [h]
theorem packsIn_snoc (l : List (Int × Int)) (x : Int × Int) : packsIn (l ++ [x]) = packsIn l + if x.2 < 0 then 1 else 0 := by
  unfold packsIn
  rw [List.filter_append, List.length_append]
  by_cases h : x.2 < 0
  · simp [h]
  · simp [h]
theorem filter_len {α : Type} (p : α → Bool) (l : List α) : (l.filter p).length = (l.map fun x => if p x then 1 else 0).sum := by
  induction l with
  | nil => rfl
  | cons x l ih =>
    rw [List.filter_cons, List.map_cons, List.sum_cons, ← ih]
    by_cases h : p x = true
    · rw [if_pos h, if_pos h, List.length_cons]; omega
    · rw [if_neg h, if_neg h]; omega
theorem sumF_zero {f : It → Nat} {l : List It} (h : ∀ x ∈ l, f x = 0) : sumF f l = 0 := by
  rw [sumF_congr (g := fun _ => 0) h, sumF_const]; omega
theorem sumF_ones {f : It → Nat} {l : List It} (h : ∀ x ∈ l, f x = 1) : sumF f l = l.length := by
  rw [sumF_congr (g := fun _ => 1) h, sumF_const]; omega
theorem packs_none {cs : List Int} {k : Nat} {z : It} (h : z ∈ pairsI (rowI (sortedC cs) k)) : (tag z).2 = -1 := by
  have := pairsI_coins (rowI_coins (coins1 cs) k) z h
  unfold tag
  rw [if_neg (by omega)]
theorem tag_sym {cs : List Int} {z : It} (h : z ∈ sortedC cs) : (tag z).2 = ((sym z : Nat) : Int) := by rw [tag_coin h]
theorem coinsIn_coins (cs : List Int) (s p : Nat) : coinsIn s (((sortedC cs).take p).map tag) = (((sortedC cs).take p).map sym).count s := by
  unfold coinsIn
  rw [List.filter_map, List.length_map, List.count_eq_countP, List.countP_map, List.countP_eq_length_filter]
  congr 1
  apply List.filter_congr
  intro z hz
  have h1 := tag_sym (List.mem_of_mem_take hz)
  show ((tag z).2 == (s : Int)) = (sym z == s)
  rw [h1]
  by_cases h : sym z = s
  · rw [h]; simp
  · have h2 : ¬ ((sym z : Nat) : Int) = (s : Int) := by omega
    rw [show (((sym z : Nat) : Int) == (s : Int)) = false by simpa using h2]
    rw [show (sym z == s) = false by simpa using h]
/-- The coins of a level. -/
theorem level_coins (cs : List Int) (s k m : Nat) : coinsIn s ((rowR (tagC cs) (k + 1)).take m) = (((sortedC cs).take (fromA (sortedC cs) (pairsI (rowI (sortedC cs) k)) m)).map sym).count s := by
  rw [rowR_eq, ← List.map_take, ← coinsIn_coins]
  unfold coinsIn
  rw [filter_len, filter_len, List.map_map, List.map_map]
  show sumF (fun x => if ((tag x).2 == (s : Int)) = true then 1 else 0) ((rowI (sortedC cs) (k + 1)).take m) = sumF (fun x => if ((tag x).2 == (s : Int)) = true then 1 else 0) _
  rw [rowI, merge_sumF]
  rw [sumF_zero (l := (pairsI (rowI (sortedC cs) k)).take _) fun x hx => by
    rw [packs_none (List.mem_of_mem_take hx)]
    rw [if_neg]
    simp only [beq_iff_eq]; omega]
  rfl
theorem level_packs {cs : List Int} {k m : Nat} (h : m ≤ (rowI (sortedC cs) (k + 1)).length) : packsIn ((rowR (tagC cs) (k + 1)).take m) = m - fromA (sortedC cs) (pairsI (rowI (sortedC cs) k)) m := by
  rw [rowR_eq, ← List.map_take]
  unfold packsIn
  rw [filter_len, List.map_map]
  show sumF (fun x => if (decide ((tag x).2 < 0)) = true then 1 else 0) ((rowI (sortedC cs) (k + 1)).take m) = _
  rw [rowI, mergeI_length] at h
  have hr := fromA_rest _ _ _ h
  rw [rowI, merge_sumF]
  rw [sumF_zero (l := (sortedC cs).take _) fun x hx => by
    rw [tag_sym (List.mem_of_mem_take hx), if_neg]; simp only [decide_eq_true_eq]; omega]
  rw [sumF_ones (l := (pairsI (rowI (sortedC cs) k)).take _) fun x hx => by
    rw [packs_none (List.mem_of_mem_take hx)]; rfl]
  rw [List.length_take, Nat.min_eq_left hr, Nat.zero_add]
theorem level0_coins (cs : List Int) (s m : Nat) : coinsIn s ((rowR (tagC cs) 0).take m) = (((sortedC cs).take m).map sym).count s := by
  rw [rowR_eq, ← List.map_take]; exact coinsIn_coins cs s m
theorem level0_packs (cs : List Int) (m : Nat) : packsIn ((rowR (tagC cs) 0).take m) = 0 := by
  rw [rowR_eq, ← List.map_take]
  unfold packsIn
  rw [filter_len, List.map_map]
  show sumF (fun x => if (decide ((tag x).2 < 0)) = true then 1 else 0) ((sortedC cs).take m) = _
  exact sumF_zero fun x hx => by rw [tag_sym (List.mem_of_mem_take hx), if_neg]; simp only [decide_eq_true_eq]; omega
/-- The answer so far: of levels that are done. -/
def outT (cs : List Int) (ps : List Nat) : List Int := (List.range cs.length).map fun s => (((ps.map fun p => (((sortedC cs).take p).map sym).count s).sum : Nat) : Int)
/-- Within a level. -/
def outU (cs : List Int) (ps : List Nat) (l : List (Int × Int)) : List Int := (List.range cs.length).map fun s => (((ps.map fun p => (((sortedC cs).take p).map sym).count s).sum + coinsIn s l : Nat) : Int)
theorem outT_length (cs : List Int) (ps : List Nat) : (outT cs ps).length = cs.length := by simp [outT]
theorem outU_length (cs : List Int) (ps : List Nat) (l : List (Int × Int)) : (outU cs ps l).length = cs.length := by simp [outU]
theorem outT_nil (cs : List Int) : outT cs [] = List.replicate cs.length 0 := by
  apply List.ext_getElem
  · simp [outT]
  · intro i h1 h2; simp [outT]
theorem outU_nil (cs : List Int) (ps : List Nat) : outU cs ps [] = outT cs ps := by simp [outU, outT, coinsIn]
theorem outU_nth {cs : List Int} {ps : List Nat} {l : List (Int × Int)} {s : Nat} (h : s < cs.length) : nth 0 (outU cs ps l) s = (((ps.map fun p => (((sortedC cs).take p).map sym).count s).sum + coinsIn s l : Nat) : Int) := by
  rw [nth_eq 0 _ s (by rw [outU_length]; exact h)]; simp [outU]
theorem outU_pack {cs : List Int} {ps : List Nat} {l : List (Int × Int)} {x : Int × Int} (h : x.2 < 0) : outU cs ps (l ++ [x]) = outU cs ps l := by
  unfold outU
  apply List.map_congr_left
  intro s _
  rw [coinsIn_snoc, if_neg (by omega)]; rfl
theorem outU_coin {cs : List Int} {ps : List Nat} {l : List (Int × Int)} {x : Int × Int} {s : Nat} (h : x.2 = (s : Int)) (hs : s < cs.length) : (outU cs ps l).set s (nth 0 (outU cs ps l) s + 1) = outU cs ps (l ++ [x]) := by
  apply List.ext_getElem
  · simp [outU]
  · intro i h1 h2
    rw [List.getElem_set]
    have hx : coinsIn i (l ++ [x]) = coinsIn i l + if x.2 = (i : Int) then 1 else 0 := coinsIn_snoc i l x
    split
    · rename_i e
      subst e
      rw [outU_nth hs]
      simp only [outU, List.getElem_map, List.getElem_range]
      rw [hx, if_pos h]; omega
    · rename_i e
      simp only [outU, List.getElem_map, List.getElem_range]
      rw [hx, if_neg (by rw [h]; omega)]; rfl
theorem outU_done {cs : List Int} {ps : List Nat} {l : List (Int × Int)} {p : Nat} (h : ∀ s, coinsIn s l = (((sortedC cs).take p).map sym).count s) : outU cs ps l = outT cs (ps ++ [p]) := by
  unfold outU outT
  apply List.map_congr_left
  intro s _
  rw [h s, List.map_append, List.sum_append]
  simp
theorem outT_all {cs : List Int} {most : Nat} (hE : lengthsE cs most = 0) (h : LenIn cs most) : outT cs (psL cs most) = lengthsV cs most := by
  rw [lengthsV_nth hE]
  unfold outT
  apply List.map_congr_left
  intro s _
  rw [lenN_sum h]
theorem coinsIn_le (s : Nat) (l : List (Int × Int)) : coinsIn s l ≤ l.length := List.length_filter_le _ _
theorem packsIn_le (l : List (Int × Int)) : packsIn l ≤ l.length := List.length_filter_le _ _
theorem count_sum_le (cs : List Int) (s : Nat) : ∀ ps : List Nat, (ps.map fun p => (((sortedC cs).take p).map sym).count s).sum ≤ ps.length * (sortedC cs).length
  | [] => by simp
  | p :: ps => by
    have := count_sum_le cs s ps
    have h1 : (((sortedC cs).take p).map sym).count s ≤ (((sortedC cs).take p).map sym).length := List.count_le_length
    rw [List.length_map, List.length_take] at h1
    rw [List.map_cons, List.sum_cons, List.length_cons, Nat.succ_mul]; omega
theorem item_sym {cs : List Int} {k : Nat} {z : Int × Int} (h : z ∈ rowR (tagC cs) k) (h0 : ¬ z.2 < 0) : ∃ s : Nat, z.2 = (s : Int) ∧ s < cs.length := by
  rw [rowR_eq] at h
  obtain ⟨y, hy, rfl⟩ := List.mem_map.1 h
  have hs := rowI_syms (sorted_syms cs) k y hy
  unfold tag at h0 ⊢
  split
  · rename_i h1
    refine ⟨nth 0 y.2 0, rfl, hs _ (nth_mem 0 _ 0 (by omega))⟩
  · rename_i h1; rw [if_neg h1] at h0; exact absurd (show (-1 : Int) < 0 by decide) h0
theorem level_step {cs : List Int} {i m : Nat} (h : m ≤ (rowI (sortedC cs) i).length) : ∃ p, (∀ s, coinsIn s ((rowR (tagC cs) i).take m) = (((sortedC cs).take p).map sym).count s) ∧
    lens (sortedC cs) i m = p :: (if i = 0 then [] else lens (sortedC cs) (i - 1) (2 * packsIn ((rowR (tagC cs) i).take m))) ∧ (i ≠ 0 → 2 * packsIn ((rowR (tagC cs) i).take m) ≤ (rowI (sortedC cs) (i - 1)).length) := by
  cases i with
  | zero => exact ⟨m, fun s => level0_coins cs s m, rfl, fun h => absurd rfl h⟩
  | succ i =>
    refine ⟨_, fun s => level_coins cs s i m, ?_, fun _ => ?_⟩
    · rw [level_packs h, if_neg (by omega)]; rfl
    · rw [level_packs h]; exact lens_fit h
/-- One coin. -/
theorem lengthsV_one {cs : List Int} {most : Int} {s : Nat} (hE : lengthsE cs most = 0) (hn : (coinsK cs cs.length).length = 1) (h : nth (0, []) (sortK cs cs.length) 0 = (nth 0 cs s, [s])) : lengthsV cs most = (List.replicate cs.length (0 : Int)).set s 1 := by
  obtain ⟨z, hz⟩ := List.length_eq_one_iff.1 hn
  have hm : nth (0, []) (sortK cs cs.length) 0 ∈ coinsK cs cs.length := (isortF_mem _ _).1 (show nth (0, []) (sortK cs cs.length) 0 ∈ sortK cs cs.length from nth_mem _ _ 0 (by rw [sortK_length, hn]; decide))
  rw [h, hz] at hm
  have hz2 : coinsK cs cs.length = [(nth 0 cs s, [s])] := by rw [hz]; simp at hm; rw [← hm]
  unfold lengthsV
  rw [if_neg (by rw [hE]; decide), if_pos hn, hz2]
  apply List.ext_getElem
  · simp [outQ]
  · intro i h1 h2
    rw [List.getElem_set]
    simp only [outQ, List.getElem_map, List.getElem_range, List.getElem_replicate]
    by_cases e : s = i
    · rw [if_pos e]; subst e; simp [occ, sumF]
    · rw [if_neg e]; simp [occ, sumF, e]
/-- The rows so far. -/
def rowsL (cs : List Int) (i : Nat) : List (List (Int × Int)) := (List.range (i + 1)).map (rowR (tagC cs))
theorem rowsL_length (cs : List Int) (i : Nat) : (rowsL cs i).length = i + 1 := by simp [rowsL]
theorem rowsL_nth {cs : List Int} {i j : Nat} (h : j ≤ i) : nth [] (rowsL cs i) j = rowR (tagC cs) j := by
  rw [nth_eq [] _ j (by rw [rowsL_length]; omega)]; simp [rowsL]
theorem rowsL_zero (cs : List Int) : rowsL cs 0 = [tagC cs] := rfl
theorem rowsL_succ (cs : List Int) (i : Nat) : rowsL cs (i + 1) = rowsL cs i ++ [mergeR (tagC cs) (pairsR (rowR (tagC cs) i))] := by
  unfold rowsL
  rw [List.range_succ, List.map_append]; rfl
theorem tagC_nth {cs : List Int} {j : Nat} (h : j < (coinsK cs cs.length).length) : nth (0, 0) (tagC cs) j = (nth 0 cs (nth 0 (ordI cs cs.length) j).toNat, nth 0 (ordI cs cs.length) j) := by
  have hl : j < (ordI cs cs.length).length := by rw [ordI_length]; exact h
  rw [tagC_eq, nth_eq _ _ j (by simpa using hl), nth_eq 0 _ j hl]
  simp
theorem rowR_len {cs : List Int} (h : cs.length ≤ 256) (k : Nat) : (rowR (tagC cs) k).length ≤ 512 := by
  rw [rowR_length]
  have h1 := rowI_length_le (sortedC cs) k
  rw [sortedC_length] at h1
  have := coinsK_len cs cs.length
  omega
end Go.Proofs.Ytkfgomhhenmmeaa

namespace Go.Proofs.Ytkfgomhhenmmeaa
open Go.RowKit

/-- 'xs[m:]'. -/
theorem cut_tail {P : Program} (t e : TypeId) {i : TypeInfo} (ht : P.underlying t = some (.slice e)) (hi : P.info? e = some i) (A : Option Addr) (n c m : Nat) (hm : m ≤ n) :
    ∃ A' : Option Addr, (∀ W : World, (Instr.slice t (.slice A n c) (some (.int .i64 (m : Int))) none none).run P W = .ok (.slice A' (n - m) (c - m)) W) ∧
      ∀ {α : Type} (k : Kd α) (ok : Nat → Prop) (w : World) (xs : List α), k.size = i.size → xs.length = n → Sl k ok w A c xs → Sl k ok w A' (c - m) (xs.drop m) := by
  refine ⟨if c = m then A else A.map (·.add (m * i.size)), fun W => ?_, fun k ok w xs hk hx h => ?_⟩
  · have hel : P.elem t = e := by simp [Program.elem, ht]
    have hu : P.underlying t = some (.slice (P.elem t)) := by rw [hel]; exact ht
    rw [run_slice_l W t A n c hu .i64 (m : Int) (Int.natCast_nonneg _) (by omega), hel]
    simp [sizeOf, typeInfo, hi, sliced, Result.andThen]
  · refine ⟨by rw [List.length_drop]; have := h.le; omega, by have := h.cap; omega, ?_⟩
    by_cases hc : c = m
    · have : xs.drop m = [] := List.drop_of_length_le (by have := h.le; omega)
      rw [this]
      exact Kd.Rd.nil _ _ _ _
    · rw [if_neg hc, ← hk]
      exact h.rd.drop m
/-- 'xs[:m:m]'. -/
theorem cut_full {P : Program} (t e : TypeId) {i : TypeInfo} (ht : P.underlying t = some (.slice e)) (hi : P.info? e = some i) (A : Option Addr) (n c m : Nat) (hm : m ≤ n) (hnc : n ≤ c) :
    ∃ A' : Option Addr, (∀ W : World, (Instr.slice t (.slice A n c) none (some (.int .i64 (m : Int))) (some (.int .i64 (m : Int)))).run P W = .ok (.slice A' m m) W) ∧
      ∀ {α : Type} (k : Kd α) (ok : Nat → Prop) (w : World) (xs : List α), k.size = i.size → xs.length = n → Sl k ok w A c xs → Sl k ok w A' m (xs.take m) := by
  refine ⟨if m = 0 then A else A.map (·.add (0 * i.size)), fun W => ?_, fun k ok w xs hk hx h => ?_⟩
  · have hel : P.elem t = e := by simp [Program.elem, ht]
    have hu : P.underlying t = some (.slice (P.elem t)) := by rw [hel]; exact ht
    rw [run_slice_hm W t A n c hu .i64 .i64 (m : Int) (m : Int) (Int.natCast_nonneg _) (Int.le_refl _) (by omega), hel]
    simp [sizeOf, typeInfo, hi, sliced, Result.andThen]
  · refine ⟨by rw [List.length_take]; omega, by have := h.cap; omega, ?_⟩
    by_cases hc : m = 0
    · subst hc
      exact Kd.Rd.nil _ _ _ _
    · rw [if_neg hc, ← hk]
      have := (h.rd.take m).drop 0
      rwa [List.drop_zero] at this
theorem run_append_full {P : Program} {W : World} (t ty e : TypeId) (k : IntKind) (bytes : Nat)
    (ht : P.underlying t = some (.slice e)) (hinfo : (P.info? e).map (fun i => (i.zero, i.size, i.bytes)) = some (some (.int k 0), 1, bytes)) (hb0 : 0 < bytes)
    (A : Option Addr) (xs : List Int) (A2 : Option Addr) (c2 : Nat) (ys : List Int) {ok ok2 : Nat → Prop}
    (HR : Sl (kInt k) ok W A xs.length xs) (HR2 : Sl (kInt k) ok2 W A2 c2 ys) (hy : 0 < ys.length) (hl : (xs.length + ys.length) * bytes ≤ 140737488355328) :
    ∃ v1 w1, (Builtin.append_ #[t, t] ty #[.slice A xs.length xs.length, .slice A2 ys.length c2]).run P W = .ok v1 w1 ∧ OwnI e k W.heap.size w1 v1 (xs ++ ys) ∧ Below W.heap.size W w1 := by
  obtain ⟨i0, hi, hzz⟩ := Option.map_eq_some_iff.1 hinfo
  simp only [Prod.mk.injEq] at hzz
  obtain ⟨hz0, hz1, hz2⟩ := hzz
  have hlen : xs.length + ys.length ≤ 140737488355328 := Nat.le_trans (Nat.le_mul_of_pos_right _ hb0) hl
  rcases A with _ | ad
  · have h0 : xs = [] := by
      rcases Nat.eq_zero_or_pos xs.length with h0 | h0
      · exact List.eq_nil_of_length_eq_zero h0
      · obtain ⟨ad, h, _⟩ := rd_int HR 0 h0
        cases h
    subst h0
    obtain ⟨v1, w1, hr, hown, hg, _⟩ := run_append_row (P := P) W.heap.size t ty e k bytes ht hinfo hb0 (.slice none 0 0) [] ys A2 c2 (OwnI.nil _ _ _ _) HR2 (Nat.le_refl _) hl
    exact ⟨v1, w1, hr, hown, ((Below.refl W.heap.size W).grown hg (Nat.le_refl _) (fun k e => by cases e))⟩
  · obtain ⟨ad2, rfl, _⟩ := rd_int HR2 0 hy
    obtain ⟨v1, w1, hr, hown, hg⟩ := run_append_arg_grows (P := P) (w := W) t ty e i0 (.int k 0) 1 bytes ht hi hz0 hz1 hz2 rfl (by decide) ad xs.length xs.length (nums k xs) (by simp [nums]) (fun j u hu => by
        have hj : j < xs.length := by
          rcases Nat.lt_or_ge j xs.length with h | h
          · exact h
          · simp [nums, List.getElem?_eq_none h] at hu
        obtain ⟨ad', h', hc⟩ := rd_int HR j hj
        injection h' with h'
        subst h'
        rw [nums_get k xs j hj] at hu
        injection hu with hu
        rw [hc, hu]) ad2 ys.length c2 (nums k ys) (by simp [nums]) (fun j u hu => by
        have hj : j < ys.length := by
          rcases Nat.lt_or_ge j ys.length with h | h
          · exact h
          · simp [nums, List.getElem?_eq_none h] at hu
        obtain ⟨ad', h', hc⟩ := rd_int HR2 j hj
        injection h' with h'
        subst h'
        rw [nums_get k ys j hj] at hu
        injection hu with hu
        rw [hc, hu]) (by omega) (by simp only [maxLen]; omega) hl
    refine ⟨v1, w1, hr, ?_, (Below.refl W.heap.size W).grown hg (Nat.le_refl _) (fun k e => by cases e)⟩
    unfold OwnI
    rw [List.length_append, nums_append]; exact hown
/-- append(xs[:m:m], ys...) as a step of a drawn region. -/
theorem step_append_full {P : Program} {ops : Array Oper} {o : Oper} {a : Act} {Q : Exit → Act → World → Prop} {E : Prop} {K : Act → World → Prop} {W : World} (hgd : o.guard = none) (s x : Operand) (t e : TypeId) (k : IntKind) (bytes : Nat)
    (ho : o.op = .call { callee := .builtin .append, args := #[s, x], argTypes := #[t, t] })
    (ht : P.underlying t = some (.slice e)) (hinfo : (P.info? e).map (fun i => (i.zero, i.size, i.bytes)) = some (some (.int k 0), 1, bytes)) (hb0 : 0 < bytes)
    (A : Option Addr) (xs : List Int) (A2 : Option Addr) (c2 : Nat) (ys : List Int) {ok ok2 : Nat → Prop} (hs : a.eval s = .slice A xs.length xs.length) (hx : a.eval x = .slice A2 ys.length c2)
    (HR : Sl (kInt k) ok W A xs.length xs) (HR2 : Sl (kInt k) ok2 W A2 c2 ys) (hy : 0 < ys.length) (hl : (xs.length + ys.length) * bytes ≤ 140737488355328)
    (h : ∀ v1 w1, OwnI e k W.heap.size w1 v1 (xs ++ ys) → Below W.heap.size W w1 → K (a.put o.dst v1) w1) :
    if Region.wanted o (yielded ops a.tmps) = true then Oper.wp P o a W K Q else E := by
  obtain ⟨v1, w1, hr, hown, hg⟩ := run_append_full (P := P) t o.type e k bytes ht hinfo hb0 A xs A2 c2 ys HR HR2 hy hl
  rw [if_pos (by simp [Region.wanted, hgd])]
  unfold Oper.wp execOp
  simp only [ho, resolve, invoke, builtin, Sem.run_bind, Sem.run_pure, Result.andThen_ok, List.map_toArray, List.map_cons, List.map_nil, hs, hx, hr]
  exact h v1 w1 hown hg
/-- A literal of one element of one cell. -/
theorem own_lit1K {α : Type} {k : Kd α} (W : World) (e : TypeId) (ok : Nat → Prop) (x : α) (v : Value) (h1 : k.size = 1) (hx : k.K (fun b => ok b ∧ b ≠ W.heap.size) W x [v]) :
    OwnK k e W.heap.size ok (W.alloc (.cells #[v] e)) (.slice (some ⟨W.heap.size, 0, none⟩) 1 1) [x] := by
  have h := World.ownsRow_lit (base := W.heap.size) (e := e) (size := 1) W #[v] 1 (Nat.le_refl _) (by simp [maxLen]) (by simp)
  refine ⟨[v], by rw [h1]; exact h, by rw [h1]; rfl, fun j hj => ?_⟩
  obtain rfl : j = 0 := by simp at hj; omega
  rw [h1]
  have hb := k.K_below hx (below_alloc (Below.refl W.heap.size W) (.cells #[v] e))
  exact k.weak (fun b _ hb => ⟨hb.1, fun e => hb.2 (by have := Option.some.inj e; exact this.symm)⟩) hb
/-- A row of numbers or pairs lies in its own block alone. -/
theorem ownF_sl {e : TypeId} {base : Nat} {ok : Nat → Prop} {w : World} {v : Value} {xs : List (Int × Int)} (h : OwnK kField e base ok w v xs) : ∃ A c, v = .slice A xs.length c ∧ Sl kField (fun b => base ≤ b) w A c xs := by
  have h2 : OwnK kField e base (fun b => base ≤ b) w v xs := by
    obtain ⟨cells, ho, hr⟩ := h
    refine ⟨cells, ho, hr.1, fun j hj => ?_⟩
    obtain ⟨c1, c2, e1, e2, e3⟩ := hr.2 j hj
    exact ⟨c1, c2, e1, e2, e3⟩
  obtain ⟨A, c, e, hs⟩ := h2.rd
  exact ⟨A, c, e, hs.weak fun b _ hb => hb.elim id (fun hb => h2.base_le b hb)⟩
end Go.Proofs.Ytkfgomhhenmmeaa

namespace Go.Proofs.Ytkfgomhhenmmeaa
open Go.RowKit

theorem infoRr : (Try.prog.info? 106).map (fun i => (i.zero, i.size, i.bytes)) = some (some (.slice none 0 0), 1, 24) := by kernel_rfl
theorem coinsK_succ_len (cs : List Int) (k : Nat) : (coinsK cs (k + 1)).length = if 0 < nth 0 cs k then (coinsK cs k).length + 1 else (coinsK cs k).length := by
  show (if 0 < nth 0 cs k then _ else _ : List It).length = _
  split <;> simp
theorem countsB_of {cs : List Int} (h : cs.length ≤ 256) (hb : ∀ q, q < cs.length → badCount (nth 0 cs q) = false) : countsB cs = true := by
  unfold countsB
  simp only [Bool.and_eq_true, decide_eq_true_eq, Bool.not_eq_true', List.any_eq_false]
  refine ⟨h, fun x hx => ?_⟩
  obtain ⟨i, hi, rfl⟩ := List.mem_iff_getElem.1 hx
  have := hb i hi
  rw [nth_eq 0 _ i hi] at this
  simp [this]

set_option maxHeartbeats 4000000 in
set_option maxRecDepth 100000 in
theorem rlengths_no (A : Option Addr) (c : Nat) (cs : List Int) (most : Int) (w : World) (hS : RI w A c cs) (he : countsB cs = false ∨ most < 1 ∨ 16 < most) :
    Calls Try.prog 42 #[.slice A cs.length c, .int .i64 most] w fun e w' => e = .returned (.tuple #[.slice none 0 0, .int .i64 1]) ∧ Below w.heap.size w w' := by
  have hn := hS.len
  by_cases hg : (256 : Int) < (cs.length : Int) ∨ most < 1 ∨ 16 < most
  · have hc : (decide ((256 : Int) < (cs.length : Int)) = true) ∨ (decide ((256 : Int) < (cs.length : Int)) = false ∧ decide (most < 1) = true) ∨ (decide ((256 : Int) < (cs.length : Int)) = false ∧ decide (most < 1) = false ∧ decide (16 < most) = true) := by
      simp only [decide_eq_true_eq, decide_eq_false_iff_not]; omega
    clear hg he
    rcases hc with d0 | ⟨d0, d1⟩ | ⟨d0, d1, d2⟩
    all_goals
      go_enter Try.func42, Try.ntmps42
      go_wp2
      go_ret2
      exact ⟨rfl, Below.refl _ _⟩
  · have d0 : decide ((256 : Int) < (cs.length : Int)) = false := decide_eq_false (by omega)
    have d1 : decide (most < 1) = false := decide_eq_false (by omega)
    have d2 : decide (16 < most) = false := decide_eq_false (by omega)
    have hcb : countsB cs = false := by
      rcases he with h | h
      · exact h
      · omega
    have HCB := Lib.hid hcb
    have h256 : cs.length ≤ 256 := by omega
    clear hg he hcb
    go_enter Try.func42, Try.ntmps42
    go_wp2
    go_loopw [6, 37] (fun nv iv wr => ∃ k : Nat, iv = .int .i64 (k : Int) ∧ k ≤ cs.length ∧ nv = .int .i64 ((coinsK cs k).length : Int) ∧ Hid (∀ q, q < k → badCount (nth 0 cs q) = false) ∧ wr = w) (fun _ iv _ => cs.length - (intOf iv).toNat)
    case atStart => exact ⟨0, rfl, Nat.zero_le _, rfl, Lib.hid (fun q h => by omega), rfl⟩
    case round =>
      obtain ⟨k, rfl, hk, rfl, hO, rfl⟩ := hrel
      by_cases hlt : k < cs.length
      · obtain ⟨ad, rfl, hc⟩ := rd_int hS k hlt
        have hki : (k : Int) < (cs.length : Int) := by omega
        have hcl := coinsK_len cs k
        have hck := coinsK_succ_len cs k
        obtain ⟨q, hq⟩ : ∃ q, (coinsK cs k).length = q := ⟨_, rfl⟩
        rw [hq] at hcl hck ⊢
        have hwq : IntKind.i64.wrap ((q : Int) + 1) = (q : Int) + 1 := IntWalk.i64_in _ (by omega)
        by_cases h1 : nth 0 cs k < 0
        · have e1 : decide (nth 0 cs k < 0) = true := decide_eq_true h1
          clear h1 hck
          go_wp2
          go_ret2
          exact ⟨rfl, Below.refl _ _⟩
        · have e1 : decide (nth 0 cs k < 0) = false := decide_eq_false h1
          by_cases h2 : 1073741824 < nth 0 cs k
          · have e2 : decide (1073741824 < nth 0 cs k) = true := decide_eq_true h2
            clear h1 h2 hck
            go_wp2
            go_ret2
            exact ⟨rfl, Below.refl _ _⟩
          · have e2 : decide (1073741824 < nth 0 cs k) = false := decide_eq_false h2
            have HO2 := Lib.hid (show ∀ q, q < k + 1 → badCount (nth 0 cs q) = false from fun q hq => by
              rcases Nat.lt_or_ge q k with h | h
              · exact hO.out q h
              · obtain rfl : q = k := by omega
                simp [badCount, e1, e2])
            by_cases h3 : 0 < nth 0 cs k
            · have e3 : decide (0 < nth 0 cs k) = true := decide_eq_true h3
              rw [if_pos h3] at hck
              have HCK := Lib.hid hck
              clear h1 h2 h3 hck hq hcl
              go_wp2
              go_roundw
              case rel => exact ⟨k + 1, by go_num, by omega, by rw [HCK.out]; go_num, HO2, trivial⟩
              case measure => simp [intOf]; omega
            · have e3 : decide (0 < nth 0 cs k) = false := decide_eq_false h3
              rw [if_neg h3] at hck
              have HCK := Lib.hid hck
              clear h1 h2 h3 hck hq hcl
              go_wp2
              go_roundw
              case rel => exact ⟨k + 1, by go_num, by omega, by rw [HCK.out], HO2, trivial⟩
              case measure => simp [intOf]; omega
      · obtain rfl : k = cs.length := by omega
        have h1 := countsB_of h256 hO.out
        rw [HCB.out] at h1
        cases h1
end Go.Proofs.Ytkfgomhhenmmeaa
