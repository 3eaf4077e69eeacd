/- Plain laws of a stable sort: sorted lists, lists of the same elements in the same order among equals. No program is named. · Plain laws: the stable sort as a function; what lies beside a list is sorted with it. No program is named. · Plain laws of layer 4 (prefix): rows of coins and packages; no choice of coins of the same width weighs less. No program is named. · Items as they read, and merge of two rows of items. · packages of a row of items. · The reference's rows: packages, merged: what each call returns. · The reference's rows: merged: what it returns. · Plain laws: the reference's rows are the program's, each element with its symbol, or the mark of a package. · Plain laws: how heavy and how long what lies in a row is. · Lengths: its coins. (Under way.) · Plain laws of layer 4 (prefix): how many coins of each row are taken; they make a complete code. No program is named. · Plain laws of layer 4 (prefix): no right code weighs less. No program is named. · Lengths: what it returns, and how the sum over the rows grows. Plain; no program is named. · Lengths: what its answer is: the rank of each symbol, the sums. Plain; no program is named. · Lengths: its answer is a right code, ordered, and no other code costs less. Plain; no program is named. · Lengths of closed counts: what is taken of each row, worked out over weights alone. Plain; no program is named. · Plain laws of layer 17 (book): the eight books; their counts and lengths. No program is named. · Plain laws of layer 17 (book): what a list is in bits. No program is named. · A drawn region in a round over an iterator, walked by explicit steps (XHeld). · book: there, size, are, gamma: what each call returns. · book: the forms and the tables at rest; Shape, checked, fits, Fits: what each call returns. · book: Fits, symbol, beside, lengths: what each call returns. -/
import Derived.Test.YtmcdgmiheklbeaaGreatDoorKa
import Derived.Test.YtmcdgmiheklbeaaGreatDoorKc
import Derived.BigRegion
import Derived.StillTailTactics
import Derived.Deep.RegionHeld3
import Derived.Test.YtmcdgmiheklbeaaGreatDoorKb
import Derived.OwnWalk
namespace Go.Proofs.YtmcdgmiheklbeaaGreatDoor

section
variable {α : Type} (f : α → Int)
/-- No element is heavier than a later one. -/
def SortedF (l : List α) : Prop := l.Pairwise fun x y => f x ≤ f y
/-- The same elements, equal ones in the same order. -/
def Same (l m : List α) : Prop := ∀ v : Int, l.filter (fun x => f x == v) = m.filter (fun x => f x == v)
end
section
variable {α : Type} {f : α → Int} {l m k : List α}
theorem Same.refl (l : List α) : Same f l l := fun _ => rfl
theorem Same.trans (h : Same f l m) (h2 : Same f m k) : Same f l k := fun v => (h v).trans (h2 v)
theorem Same.symm (h : Same f l m) : Same f m l := fun v => (h v).symm
theorem Same.append {l' m' : List α} (h : Same f l m) (h2 : Same f l' m') : Same f (l ++ l') (m ++ m') := fun v => by
  rw [List.filter_append, List.filter_append, h v, h2 v]
theorem Same.mem (h : Same f l m) (x : α) : x ∈ l ↔ x ∈ m := by
  have e := h (f x)
  constructor
  · intro hx
    have : x ∈ l.filter (fun y => f y == f x) := List.mem_filter.2 ⟨hx, by simp⟩
    rw [e] at this
    exact (List.mem_filter.1 this).1
  · intro hx
    have : x ∈ m.filter (fun y => f y == f x) := List.mem_filter.2 ⟨hx, by simp⟩
    rw [← e] at this
    exact (List.mem_filter.1 this).1
theorem filt_none {v : Int} (h : ∀ x ∈ l, f x ≠ v) : l.filter (fun x => f x == v) = [] := by
  rw [List.filter_eq_nil_iff]
  intro x hx
  have := h x hx
  simpa using this
/-- Lighter ones may go ahead. -/
theorem Same.swap (h : ∀ x ∈ l, ∀ y ∈ m, f y < f x) : Same f (m ++ l) (l ++ m) := fun v => by
  rw [List.filter_append, List.filter_append]
  by_cases hx : ∃ x ∈ l, f x = v
  · obtain ⟨x, hx, rfl⟩ := hx
    rw [filt_none (l := m) fun y hy e => by have := h x hx y hy; omega]
    simp
  · rw [filt_none (l := l) fun x hx' e => hx ⟨x, hx', e⟩]
    simp
theorem SortedF.append (h1 : SortedF f l) (h2 : SortedF f m) (h : ∀ x ∈ l, ∀ y ∈ m, f x ≤ f y) : SortedF f (l ++ m) := List.pairwise_append.2 ⟨h1, h2, h⟩
theorem SortedF.left (h : SortedF f (l ++ m)) : SortedF f l := (List.pairwise_append.1 h).1
theorem SortedF.right (h : SortedF f (l ++ m)) : SortedF f m := (List.pairwise_append.1 h).2.1
theorem SortedF.cross (h : SortedF f (l ++ m)) : ∀ x ∈ l, ∀ y ∈ m, f x ≤ f y := (List.pairwise_append.1 h).2.2
theorem SortedF.one (x : α) : SortedF f [x] := List.pairwise_singleton _ _
theorem SortedF.nil : SortedF f ([] : List α) := List.Pairwise.nil
/-- One that is lighter than all behind it, and not lighter than those ahead, put into its place. -/
theorem sorted_ins {A B : List α} {x : α} (h : SortedF f (A ++ B)) (h1 : ∀ y ∈ A, f y ≤ f x) (h2 : ∀ y ∈ B, f x < f y) : SortedF f (A ++ x :: B) ∧ Same f (A ++ x :: B) (A ++ B ++ [x]) := by
  refine ⟨SortedF.append h.left (List.pairwise_cons.2 ⟨fun y hy => Int.le_of_lt (h2 y hy), h.right⟩) fun y hy z hz => ?_, ?_⟩
  · rcases List.mem_cons.1 hz with rfl | hz
    · exact h1 y hy
    · exact h.cross y hy z hz
  · rw [List.append_assoc]
    refine (Same.refl A).append ?_
    exact Same.swap (l := B) (m := [x]) fun y hy z hz => by rw [List.mem_singleton.1 hz]; exact h2 y hy
end

/-! ### Two elements change places -/
section
variable {α : Type} {d : α}
end
end Go.Proofs.YtmcdgmiheklbeaaGreatDoor

namespace Go.Proofs.YtmcdgmiheklbeaaGreatDoor

section
variable {α : Type} (f : α → Int)
/-- Behind the elements that are no heavier. -/
def insF (x : α) : List α → List α
  | [] => [x]
  | y :: l => if f x < f y then x :: y :: l else y :: insF x l
def isortF (l : List α) : List α := l.foldl (fun a x => insF f x a) []
end
section
variable {α β : Type} {f : α → Int}
theorem insF_split (x : α) : ∀ {l : List α}, SortedF f l → ∃ A B, l = A ++ B ∧ insF f x l = A ++ x :: B ∧ (∀ y ∈ A, f y ≤ f x) ∧ (∀ y ∈ B, f x < f y)
  | [], _ => ⟨[], [], rfl, rfl, by simp, by simp⟩
  | y :: l, h => by
    unfold insF
    by_cases hlt : f x < f y
    · rw [if_pos hlt]
      refine ⟨[], y :: l, rfl, rfl, by simp, fun z hz => ?_⟩
      rcases List.mem_cons.1 hz with rfl | hz
      · exact hlt
      · have := (List.pairwise_cons.1 h).1 z hz; omega
    · rw [if_neg hlt]
      obtain ⟨A, B, e1, e2, h1, h2⟩ := insF_split x (List.pairwise_cons.1 h).2
      refine ⟨y :: A, B, by rw [e1]; rfl, by rw [e2]; rfl, fun z hz => ?_, h2⟩
      rcases List.mem_cons.1 hz with rfl | hz
      · omega
      · exact h1 z hz
theorem insF_ok (x : α) {l : List α} (h : SortedF f l) : SortedF f (insF f x l) ∧ Same f (insF f x l) (l ++ [x]) := by
  obtain ⟨A, B, e1, e2, h1, h2⟩ := insF_split x h
  rw [e2, e1]
  rw [e1] at h
  exact sorted_ins h h1 h2
theorem isortF_snoc (l : List α) (x : α) : isortF f (l ++ [x]) = insF f x (isortF f l) := by simp [isortF]
theorem isortF_ok (l : List α) : SortedF f (isortF f l) ∧ Same f (isortF f l) l := by
  suffices h : ∀ (l acc m : List α), SortedF f acc → Same f acc m → SortedF f (l.foldl (fun a x => insF f x a) acc) ∧ Same f (l.foldl (fun a x => insF f x a) acc) (m ++ l) by
    have := h l [] [] SortedF.nil (Same.refl _)
    rw [List.nil_append] at this
    exact this
  intro l
  induction l with
  | nil => intro acc m h1 h2; simpa using ⟨h1, h2⟩
  | cons x l ih =>
    intro acc m h1 h2
    obtain ⟨q1, q2⟩ := insF_ok x h1
    have := ih (insF f x acc) (m ++ [x]) q1 (q2.trans (h2.append (Same.refl [x])))
    simpa using this
theorem isortF_mem (l : List α) (x : α) : x ∈ isortF f l ↔ x ∈ l := (isortF_ok l).2.mem x
end
end Go.Proofs.YtmcdgmiheklbeaaGreatDoor

namespace Go.Proofs.YtmcdgmiheklbeaaGreatDoor

/-- An element of a row: its weight, and the symbols of its coins. -/
abbrev It := Int × List Nat
def ws (l : List It) : Int := (l.map (·.1)).sum
/-- Of equal elements those of the first list come first. -/
def mergeI : List It → List It → List It
  | [], b => b
  | x :: a, [] => x :: a
  | x :: a, y :: b => if y.1 < x.1 then y :: mergeI (x :: a) b else x :: mergeI a (y :: b)
termination_by a b => a.length + b.length
def pairsI : List It → List It
  | x :: y :: r => (x.1 + y.1, x.2 ++ y.2) :: pairsI r
  | _ => []
def rowI (coins : List It) : Nat → List It
  | 0 => coins
  | k + 1 => mergeI coins (pairsI (rowI coins k))
def SortedI (l : List It) : Prop := ∀ i j, i ≤ j → j < l.length → (nth (0, []) l i).1 ≤ (nth (0, []) l j).1

theorem mergeI_nil_right (a : List It) : mergeI a [] = a := by cases a <;> simp [mergeI]
theorem mergeI_length : ∀ a b : List It, (mergeI a b).length = a.length + b.length
  | [], b => by simp [mergeI]
  | x :: a, [] => by simp [mergeI]
  | x :: a, y :: b => by
    rw [mergeI]
    split
    · rw [List.length_cons, mergeI_length (x :: a) b]; simp; omega
    · rw [List.length_cons, mergeI_length a (y :: b)]; simp; omega
termination_by a b => a.length + b.length
theorem SortedI.head {x : It} {a : List It} (h : SortedI (x :: a)) (j : Nat) (hj : j < (x :: a).length) : x.1 ≤ (nth (0, []) (x :: a) j).1 := h 0 j (Nat.zero_le _) hj
theorem mergeI_mem : ∀ (a b : List It) (z : It), z ∈ mergeI a b ↔ z ∈ a ∨ z ∈ b
  | [], b, z => by simp [mergeI]
  | x :: a, [], z => by simp [mergeI]
  | x :: a, y :: b, z => by
    rw [mergeI]
    split
    · rw [List.mem_cons, mergeI_mem (x :: a) b z]; simp only [List.mem_cons]
      constructor
      · rintro (h | h | h)
        · exact .inr (.inl h)
        · exact .inl h
        · exact .inr (.inr h)
      · rintro (h | h | h)
        · exact .inr (.inl h)
        · exact .inl h
        · exact .inr (.inr h)
    · rw [List.mem_cons, mergeI_mem a (y :: b) z]; simp only [List.mem_cons]; exact or_assoc.symm
termination_by a b => a.length + b.length
theorem pairsI_length : ∀ l : List It, (pairsI l).length = l.length / 2
  | [] => rfl
  | [x] => by simp [pairsI]
  | x :: y :: r => by rw [pairsI, List.length_cons, pairsI_length r]; simp; omega
theorem rowI_length (coins : List It) (k : Nat) : (rowI coins (k + 1)).length = coins.length + (rowI coins k).length / 2 := by
  rw [rowI, mergeI_length, pairsI_length]
/-! ### The least weight -/
/-- The width of a choice of c 0 coins of the deepest level, c 1 of the next one, and so on, in coins of level k. -/
def wide (c : Nat → Nat) : Nat → Nat
  | 0 => c 0
  | k + 1 => c (k + 1) + wide c k / 2
end Go.Proofs.YtmcdgmiheklbeaaGreatDoor

namespace Go.Proofs.YtmcdgmiheklbeaaGreatDoor
open Go.RowKit

theorem mergeI_cons (x y : It) (a b : List It) : mergeI (x :: a) (y :: b) = if y.1 < x.1 then y :: mergeI (x :: a) b else x :: mergeI a (y :: b) := by rw [mergeI]
def lenV : Value → Nat
  | .slice _ n _ => n
  | _ => 0
end Go.Proofs.YtmcdgmiheklbeaaGreatDoor

namespace Go.Proofs.YtmcdgmiheklbeaaGreatDoor
open Go.RowKit

def okRow (row : List It) : Prop := ∀ z ∈ row, 0 ≤ z.1 ∧ z.1 ≤ 1125899906842624 ∧ z.2.length ≤ 1000000

end Go.Proofs.YtmcdgmiheklbeaaGreatDoor

namespace Go.Proofs.YtmcdgmiheklbeaaGreatDoor
open Go.RowKit

/-- An element of the reference's row: its weight, and its symbol; below 0: a package. -/
def pairsR : List (Int × Int) → List (Int × Int)
  | x :: y :: r => (x.1 + y.1, -1) :: pairsR r
  | _ => []
def mergeR : List (Int × Int) → List (Int × Int) → List (Int × Int)
  | [], b => b
  | x :: a, [] => x :: a
  | x :: a, y :: b => if y.1 < x.1 then y :: mergeR (x :: a) b else x :: mergeR a (y :: b)
termination_by a b => a.length + b.length
theorem pairsR_length : ∀ l : List (Int × Int), (pairsR l).length = l.length / 2
  | [] => rfl
  | [x] => by simp [pairsR]
  | x :: y :: r => by rw [pairsR, List.length_cons, pairsR_length r]; simp; omega
theorem pairsR_get : ∀ (l : List (Int × Int)) (k : Nat), 2 * k + 1 < l.length → nth (0, 0) (pairsR l) k = ((nth (0, 0) l (2 * k)).1 + (nth (0, 0) l (2 * k + 1)).1, -1)
  | [], k, h => by simp at h
  | [x], k, h => by simp at h
  | x :: y :: r, k, h => by
    cases k with
    | zero => rfl
    | succ k =>
      have h1 := pairsR_get r k (by simp at h; omega)
      have e1 : nth (0, 0) (pairsR (x :: y :: r)) (k + 1) = nth (0, 0) (pairsR r) k := by simp [pairsR, nth]
      have e2 : nth (0, 0) (x :: y :: r) (2 * (k + 1)) = nth (0, 0) r (2 * k) := by rw [show 2 * (k + 1) = 2 * k + 1 + 1 by omega]; simp [nth]
      have e3 : nth (0, 0) (x :: y :: r) (2 * (k + 1) + 1) = nth (0, 0) r (2 * k + 1) := by rw [show 2 * (k + 1) + 1 = 2 * k + 1 + 1 + 1 by omega]; simp [nth]
      rw [e1, e2, e3, h1]
theorem pairsR_short {row : List (Int × Int)} {k : Nat} (h : row.length ≤ 2 * k + 1) : (pairsR row).take k = pairsR row := List.take_of_length_le (by rw [pairsR_length]; omega)
theorem infoRi : (Tryz.prog.info? 174).map (fun i => (i.zero, i.size, i.bytes)) = some (some (.agg #[.int .i64 0, .int .i64 0]), 2, 16) := by kernel_rfl

set_option maxHeartbeats 4000000 in
set_option maxRecDepth 100000 in
theorem rpackages_any (A : Option Addr) (c : Nat) (row : List (Int × Int)) (w : World) (hS : Sl kField AnyB w A c row) (hl : row.length ≤ 100000) (hw : ∀ z ∈ row, 0 ≤ z.1 ∧ z.1 ≤ 1125899906842624) :
    Calls Tryz.prog 125 #[.slice A row.length c] w
      fun e w' => ∃ v, e = .returned v ∧ OwnK kField 174 w.heap.size (fun _ => True) w' v (pairsR row) ∧ Below w.heap.size w w' := by
  have HS := Lib.hid (hS.weak (ok' := fun b => b < w.heap.size) fun b hb _ => hb)
  have HW := Lib.hid hw
  clear hS hw
  go_enter Tryz.func125, Tryz.ntmps125
  go_wp2
  go_loopw [3, 4] (fun v iv wr => ∃ (i k : Nat), iv = .int .i64 (i : Int) ∧ Hid (i = 2 * k ∧ i ≤ row.length + 1) ∧ Hid (OwnK kField 174 w.heap.size (fun _ => True) wr v ((pairsR row).take k)) ∧ Below w.heap.size w wr) (fun _ iv _ => row.length + 2 - (intOf iv).toNat)
  case atStart => exact ⟨0, 0, rfl, Lib.hid ⟨rfl, by omega⟩, Lib.hid (OwnK.nil _ _ _ _ _), Below.refl _ _⟩
  case round =>
    obtain ⟨i, k, rfl, hik, hO, hB⟩ := hrel
    have hi := hik.out
    obtain ⟨i1, hi1⟩ : ∃ i1, i + 1 = i1 := ⟨_, rfl⟩
    have hw1 : IntKind.i64.wrap ((i : Int) + 1) = (i1 : Int) := by rw [IntWalk.i64_in _ (by omega)]; omega
    by_cases hlt : i1 < row.length
    · have hd : decide (i1 < row.length) = true := decide_eq_true hlt
      have hil : i < row.length := by omega
      obtain ⟨i2, hi2⟩ : ∃ i2, i + 2 = i2 := ⟨_, rfl⟩
      have hw2 : IntKind.i64.wrap ((i : Int) + 2) = (i2 : Int) := by rw [IntWalk.i64_in _ (by omega)]; omega
      have HSr := Lib.hid ((HS.out.below hB))
      obtain ⟨ad, rfl, x0, _⟩ := rd_field HSr.out i hil
      obtain ⟨ad', e', y0, _⟩ := rd_field HSr.out i1 hlt
      cases e'
      have hbx := HW.out _ (nth_mem (0, 0) row i hil)
      have hby := HW.out _ (nth_mem (0, 0) row i1 hlt)
      have hpg := pairsR_get row k (by omega)
      rw [← hi.1, hi1] at hpg
      have hpt := take_succ_nth (0, 0) (pairsR row) k (by rw [pairsR_length]; omega)
      rw [hpg] at hpt
      obtain ⟨xw, hxe⟩ : ∃ x, (nth (0, 0) row i).1 = x := ⟨_, rfl⟩
      obtain ⟨yw, hye⟩ : ∃ y, (nth (0, 0) row i1).1 = y := ⟨_, rfl⟩
      rw [hxe] at x0 hbx hpt
      rw [hye] at y0 hby hpt
      have hw3 : IntKind.i64.wrap (xw + yw) = xw + yw := IntWalk.i64_in _ (by have := hbx.1; have := hby.1; have := hbx.2; have := hby.2; omega)
      have hsz := hB.size
      have HPT := Lib.hid hpt
      have HII := Lib.hid (show i + 1 = i1 ∧ i + 2 = i2 ∧ i1 < row.length ∧ i = 2 * k from ⟨hi1, hi2, hlt, hi.1⟩)
      have hin : (0 : Int) ≤ (i : Int) := by omega
      have hin1 : (0 : Int) ≤ (i1 : Int) := by omega
      have hinl : (i : Int) < (row.length : Int) := by omega
      have hinl1 : (i1 : Int) < (row.length : Int) := by omega
      have HDR := Lib.hid ((Below.refl wr.heap.size wr).drew)
      have hkl : ((pairsR row).take k).length ≤ 100000 := by rw [List.length_take]; omega
      have HKL := Lib.hid hkl
      have z0 := cell_below HDR.out x0
      have z1 := cell_below HDR.out y0
      clear hi hpg hpt hxe hye hbx hby hi1 hi2 hil hlt hkl
      go_wp2_with fail
      go_region_law ((refine step_append_k (W := wr.drew) (k := kField) w.heap.size ?a1 (.tmp 12) (.tmp 26) 172 174 (.agg #[.int .i64 0, .int .i64 0]) 16 (fun _ => True) ?a2 Tryz.underlying172 infoRi ?a3 ?a4 ?a5 u3 ((pairsR row).take k) (xw + yw, -1) [.int .i64 (xw + yw), .int .i64 (-1)] ?a6 ?a7 ?a8 ?hO ?hx ?hb ?hl ?_); (case a1 => rfl); (case a2 => rfl); (case a3 => rfl); (case a4 => decide); (case a5 => decide); (case a6 => rfl); (case a7 => rfl); (case a8 => rfl); (case hO => exact hO.out.below HDR.out); (case hx => exact ⟨_, _, rfl, rfl, rfl⟩); (case hb => exact hsz); (case hl => have := HKL.out; omega); intro g9 cap9 w9 hO9 hg9 hb9 ha9; have HO9 := Lib.hid hO9; have HB9 := Lib.hid (hB.drew.grown hg9 hsz hO.out.base_le); clear hO9 hg9 ha9)
      all_goals
        (try simp only [Act.put, List.getElem_toArray, List.getElem_cons_succ, List.getElem_cons_zero, List.setIfInBounds_toArray, List.set_cons_succ, List.set_cons_zero])
        go_wp2
        go_roundw
        case rel => have hh := HII.out; exact ⟨i2, k + 1, rfl, Lib.hid ⟨by omega, by omega⟩, Lib.hid (by rw [HPT.out]; have := HO9.out; simpa using this), HB9.out⟩
        case measure => have hh := HII.out; simp [intOf]; omega
    · have hd : decide (i1 < row.length) = false := decide_eq_false hlt
      have HF := Lib.hid (show OwnK kField 174 w.heap.size (fun _ => True) wr u3 (pairsR row) by
        have h := hO.out
        rwa [pairsR_short (by omega)] at h)
      clear hi hi1 hlt
      go_wp2
      go_ret
      exact ⟨_, rfl, HF.out, hB⟩
end Go.Proofs.YtmcdgmiheklbeaaGreatDoor

namespace Go.Proofs.YtmcdgmiheklbeaaGreatDoor
open Go.RowKit

theorem mergeR_cons (x y : Int × Int) (a b : List (Int × Int)) : mergeR (x :: a) (y :: b) = if y.1 < x.1 then y :: mergeR (x :: a) b else x :: mergeR a (y :: b) := by rw [mergeR]
theorem mergeR_right (a : List (Int × Int)) : mergeR a [] = a := by cases a <;> simp [mergeR]
theorem mergeR_left (b : List (Int × Int)) : mergeR [] b = b := by simp [mergeR]
theorem Sl.cutF {ok : Nat → Prop} {w : World} {ad : Addr} {c : Nat} {x : Int × Int} {xs : List (Int × Int)} (h : Sl kField ok w (some ad) c (x :: xs)) {A : Option Addr} (hA : (if c = 1 then some ad else some ⟨ad.block, ad.off + 2, Option.none⟩) = A) : Sl kField ok w A (c - 1) xs := by
  have hr := h.rd.drop 1
  by_cases h1 : c = 1
  · have h0 : xs = [] := List.eq_nil_of_length_eq_zero (by have := h.le; simp at this; omega)
    subst h0
    exact ⟨Nat.zero_le _, by have := h.cap; omega, Kd.Rd.nil _ _ _ _⟩
  · rw [if_neg h1] at hA
    subst hA
    exact ⟨by have := h.le; simp at this; omega, by have := h.cap; omega, hr⟩
/-- So far. -/
structure MrI (w : World) (a b : List (Int × Int)) (Aa : Option Addr) (ca : Nat) (a1 : List (Int × Int)) (Ab : Option Addr) (cb : Nat) (b1 : List (Int × Int)) (v : Value) (o : List (Int × Int)) (W : World) : Prop where
  own : OwnK kField 174 w.heap.size (fun b => b < w.heap.size) W v o
  low : Below w.heap.size w W
  ra : Sl kField (fun b => b < w.heap.size) W Aa ca a1
  rb : Sl kField (fun b => b < w.heap.size) W Ab cb b1
  run : o ++ mergeR a1 b1 = mergeR a b
  len : o.length + a1.length + b1.length = a.length + b.length

set_option maxHeartbeats 4000000 in
set_option maxRecDepth 100000 in
theorem rmerged_any (Aa Ab : Option Addr) (ca cb : Nat) (a b : List (Int × Int)) (w : World) (ha : Sl kField AnyB w Aa ca a) (hb : Sl kField AnyB w Ab cb b) (hl : a.length + b.length ≤ 100000) :
    Calls Tryz.prog 124 #[.slice Aa a.length ca, .slice Ab b.length cb] w
      fun e w' => ∃ v, e = .returned v ∧ OwnK kField 174 w.heap.size (fun _ => True) w' v (mergeR a b) ∧ Below w.heap.size w w' := by
  have hI0 : MrI w a b Aa ca a Ab cb b (.slice none 0 0) [] w := ⟨OwnK.nil _ _ _ _ _, Below.refl _ _, ha.weak fun b hb _ => hb, hb.weak fun b hb _ => hb, rfl, by simp⟩
  have HI0 := Lib.hid hI0
  clear ha hb hI0
  go_enter Tryz.func124, Tryz.ntmps124
  go_wp2
  go_loopw [0, 1, 5] (fun sa sb so wr => ∃ (Aa : Option Addr) (ca : Nat) (a1 : List (Int × Int)) (Ab : Option Addr) (cb : Nat) (b1 o : List (Int × Int)), sa = .slice Aa a1.length ca ∧ sb = .slice Ab b1.length cb ∧ Hid (MrI w a b Aa ca a1 Ab cb b1 so o wr)) (fun sa sb _ _ => lenV sa + lenV sb)
  case atStart => exact ⟨_, _, a, _, _, b, [], rfl, rfl, HI0⟩
  case round =>
    clear HI0
    obtain ⟨Aa, ca, a1, Ab, cb, b1, o, rfl, rfl, hI⟩ := hrel
    have hlen0 := hI.out.len
    have hbz := hI.out.low.size
    cases a1 with
    | nil =>
      cases b1 with
      | nil =>
        have HF := Lib.hid (show OwnK kField 174 w.heap.size (fun _ => True) wr u5 (mergeR a b) ∧ Below w.heap.size w wr by
          have h := hI.out
          rw [← h.run]
          exact ⟨by simpa [mergeR] using h.own.weak fun _ _ _ => trivial, h.low⟩)
        clear hlen0
        go_wp2
        go_ret
        exact ⟨_, rfl, HF.out.1, HF.out.2⟩
      | cons y b1 =>
        simp only [List.length_cons, List.length_nil] at hlen0 ⊢
        obtain ⟨adb, rfl, y0, y1⟩ := rd_field hI.out.rb 0 (by simp)
        simp only [Nat.zero_mul, add_zero] at y0 y1
        obtain ⟨yw, ys⟩ := y
        rw [show nth ((0, 0) : Int × Int) ((yw, ys) :: b1) 0 = (yw, ys) from rfl] at y0 y1
        have hlb : ((yw, ys) :: b1).length ≤ cb := hI.out.rb.le
        simp only [List.length_cons] at hlb
        have hww : IntKind.i64.wrap (0 + ((b1.length : Int) + 1)) = (b1.length : Int) + 1 := by rw [IntWalk.i64_in _ (by omega)]; omega
        have hww2 : IntKind.i64.wrap ((b1.length : Int) + 1) = (b1.length : Int) + 1 := IntWalk.i64_in _ (by omega)
        have hq0 : (((b1.length : Int) + 1) == 0) = false := by rw [beq_eq_false_iff_ne]; omega
        obtain ⟨At, hAt⟩ : ∃ A, (if cb = 1 then some adb else some (⟨adb.block, adb.off + 2, none⟩ : Addr)) = A := ⟨_, rfl⟩
        have HAT := Lib.hid hAt
        have h1le : (1 : Int) ≤ (b1.length : Int) + 1 := by omega
        have HLN := Lib.hid hlen0
        clear hlen0
        go_wp2
        go_quiet (fail)
        go_wp2_with (at_builtin; (refine append_k (W := wr.drewN nq) (k := kField) w.heap.size rfl (.tmp 39) (.tmp 43) 172 174 (.agg #[.int .i64 0, .int .i64 0]) 16 (fun b => b < w.heap.size) rfl Tryz.underlying172 infoRi rfl (by decide) (by decide) u5 o (yw, ys) [.int .i64 yw, .int .i64 ys] rfl rfl rfl (hI.out.own.below (below_drewN (Below.refl _ _) nq)) ⟨_, _, rfl, rfl, rfl⟩ hbz (by have := HLN.out; omega) ?_); intro g9 cap9 w9 hO9 hg9 hb9 ha9; have HO9 := Lib.hid hO9; have HK9 := Lib.hid ((Keep.of_grown hg9).weak (ok' := fun b => b < w.heap.size) fun b hb e => by have := hI.out.own.base_le b e.symm; omega); have HB9 := Lib.hid ((below_drewN hI.out.low nq).grown hg9 hbz hI.out.own.base_le); clear hO9 hg9 ha9)
        go_roundw
        case rel =>
          have hi := hI.out
          have hra := (hi.ra.below (below_drewN (Below.refl _ _) nq)).keep HK9.out
          have hrb := (hi.rb.below (below_drewN (Below.refl _ _) nq)).keep HK9.out
          have hrun := hi.run
          have hlen := hi.len
          rw [mergeR_left] at hrun
          exact ⟨_, _, [], At, cb - 1, b1, o ++ [(yw, ys)], rfl, rfl, Lib.hid ⟨by simpa using HO9.out, HB9.out, hra, hrb.cutF HAT.out, by rw [← hrun]; simp [mergeR_left], by simp at hlen ⊢; omega⟩⟩
        case measure => show _ < _; simp [lenV]
    | cons x a1 =>
      cases b1 with
      | nil =>
        simp only [List.length_cons, List.length_nil] at hlen0 ⊢
        obtain ⟨ada, rfl, x0, x1⟩ := rd_field hI.out.ra 0 (by simp)
        simp only [Nat.zero_mul, add_zero] at x0 x1
        obtain ⟨xw, xs⟩ := x
        rw [show nth ((0, 0) : Int × Int) ((xw, xs) :: a1) 0 = (xw, xs) from rfl] at x0 x1
        have hla : ((xw, xs) :: a1).length ≤ ca := hI.out.ra.le
        simp only [List.length_cons] at hla
        have hww : IntKind.i64.wrap ((a1.length : Int) + 1 + 0) = (a1.length : Int) + 1 := by rw [IntWalk.i64_in _ (by omega)]; omega
        have hww2 : IntKind.i64.wrap ((a1.length : Int) + 1) = (a1.length : Int) + 1 := IntWalk.i64_in _ (by omega)
        obtain ⟨At, hAt⟩ : ∃ A, (if ca = 1 then some ada else some (⟨ada.block, ada.off + 2, none⟩ : Addr)) = A := ⟨_, rfl⟩
        have HAT := Lib.hid hAt
        have h1le : (1 : Int) ≤ (a1.length : Int) + 1 := by omega
        have HLN := Lib.hid hlen0
        clear hlen0
        go_wp2
        go_quiet (fail)
        go_wp2_with (at_builtin; (refine append_k (W := wr.drewN nq) (k := kField) w.heap.size rfl (.tmp 31) (.tmp 35) 172 174 (.agg #[.int .i64 0, .int .i64 0]) 16 (fun b => b < w.heap.size) rfl Tryz.underlying172 infoRi rfl (by decide) (by decide) u5 o (xw, xs) [.int .i64 xw, .int .i64 xs] rfl rfl rfl (hI.out.own.below (below_drewN (Below.refl _ _) nq)) ⟨_, _, rfl, rfl, rfl⟩ hbz (by have := HLN.out; omega) ?_); intro g9 cap9 w9 hO9 hg9 hb9 ha9; have HO9 := Lib.hid hO9; have HK9 := Lib.hid ((Keep.of_grown hg9).weak (ok' := fun b => b < w.heap.size) fun b hb e => by have := hI.out.own.base_le b e.symm; omega); have HB9 := Lib.hid ((below_drewN hI.out.low nq).grown hg9 hbz hI.out.own.base_le); clear hO9 hg9 ha9)
        go_roundw
        case rel =>
          have hi := hI.out
          have hra := (hi.ra.below (below_drewN (Below.refl _ _) nq)).keep HK9.out
          have hrb := (hi.rb.below (below_drewN (Below.refl _ _) nq)).keep HK9.out
          have hrun := hi.run
          have hlen := hi.len
          rw [mergeR_right] at hrun
          exact ⟨At, ca - 1, a1, _, _, [], o ++ [(xw, xs)], rfl, rfl, Lib.hid ⟨by simpa using HO9.out, HB9.out, hra.cutF HAT.out, hrb, by rw [← hrun]; simp [mergeR_right], by simp at hlen ⊢; omega⟩⟩
        case measure => show _ < _; simp [lenV]
      | cons y b1 =>
        by_cases hlt : y.1 < x.1
        · have HLT := Lib.hid hlt
          simp only [List.length_cons] at hlen0 ⊢
          obtain ⟨ada, rfl, x0, x1⟩ := rd_field hI.out.ra 0 (by simp)
          simp only [Nat.zero_mul, add_zero] at x0 x1
          obtain ⟨xw, xs⟩ := x
          rw [show nth ((0, 0) : Int × Int) ((xw, xs) :: a1) 0 = (xw, xs) from rfl] at x0 x1
          have hla : ((xw, xs) :: a1).length ≤ ca := hI.out.ra.le
          simp only [List.length_cons] at hla
          obtain ⟨adb, rfl, y0, y1⟩ := rd_field hI.out.rb 0 (by simp)
          simp only [Nat.zero_mul, add_zero] at y0 y1
          obtain ⟨yw, ys⟩ := y
          rw [show nth ((0, 0) : Int × Int) ((yw, ys) :: b1) 0 = (yw, ys) from rfl] at y0 y1
          have hlb : ((yw, ys) :: b1).length ≤ cb := hI.out.rb.le
          simp only [List.length_cons] at hlb
          have hww : IntKind.i64.wrap ((a1.length : Int) + 1 + ((b1.length : Int) + 1)) = (a1.length : Int) + 1 + ((b1.length : Int) + 1) := IntWalk.i64_in _ (by omega)
          have hlt2 := HLT.out
          have hdc : decide (xw ≤ yw) = false := decide_eq_false (by omega)
          clear hlt2 hlt
          have hq0 : (((b1.length : Int) + 1) == 0) = false := by rw [beq_eq_false_iff_ne]; omega
          have hq1 : decide ((0 : Int) < (a1.length : Int) + 1) = true := decide_eq_true (by omega)
          have hq2 : decide (0 < a1.length + 1) = true := decide_eq_true (by omega)
          obtain ⟨At, hAt⟩ : ∃ A, (if cb = 1 then some adb else some (⟨adb.block, adb.off + 2, none⟩ : Addr)) = A := ⟨_, rfl⟩
          have HAT := Lib.hid hAt
          have h1le : (1 : Int) ≤ (b1.length : Int) + 1 := by omega
          have HLN := Lib.hid hlen0
          clear hlen0
          go_wp2
          go_quiet (fail)
          go_wp2_with (at_builtin; (refine append_k (W := wr.drewN nq) (k := kField) w.heap.size rfl (.tmp 39) (.tmp 43) 172 174 (.agg #[.int .i64 0, .int .i64 0]) 16 (fun b => b < w.heap.size) rfl Tryz.underlying172 infoRi rfl (by decide) (by decide) u5 o (yw, ys) [.int .i64 yw, .int .i64 ys] rfl rfl rfl (hI.out.own.below (below_drewN (Below.refl _ _) nq)) ⟨_, _, rfl, rfl, rfl⟩ hbz (by have := HLN.out; omega) ?_); intro g9 cap9 w9 hO9 hg9 hb9 ha9; have HO9 := Lib.hid hO9; have HK9 := Lib.hid ((Keep.of_grown hg9).weak (ok' := fun b => b < w.heap.size) fun b hb e => by have := hI.out.own.base_le b e.symm; omega); have HB9 := Lib.hid ((below_drewN hI.out.low nq).grown hg9 hbz hI.out.own.base_le); clear hO9 hg9 ha9)
          go_roundw
          case rel =>
            have hi := hI.out
            have hra := (hi.ra.below (below_drewN (Below.refl _ _) nq)).keep HK9.out
            have hrb := (hi.rb.below (below_drewN (Below.refl _ _) nq)).keep HK9.out
            have hrun := hi.run
            have hlen := hi.len
            rw [mergeR_cons, if_pos HLT.out] at hrun
            exact ⟨_, _, (xw, xs) :: a1, At, cb - 1, b1, o ++ [(yw, ys)], rfl, rfl, Lib.hid ⟨by simpa using HO9.out, HB9.out, hra, hrb.cutF HAT.out, by rw [← hrun]; simp, by simp at hlen ⊢; omega⟩⟩
          case measure => show _ < _; simp [lenV]
        · have HLT := Lib.hid hlt
          simp only [List.length_cons] at hlen0 ⊢
          obtain ⟨ada, rfl, x0, x1⟩ := rd_field hI.out.ra 0 (by simp)
          simp only [Nat.zero_mul, add_zero] at x0 x1
          obtain ⟨xw, xs⟩ := x
          rw [show nth ((0, 0) : Int × Int) ((xw, xs) :: a1) 0 = (xw, xs) from rfl] at x0 x1
          have hla : ((xw, xs) :: a1).length ≤ ca := hI.out.ra.le
          simp only [List.length_cons] at hla
          obtain ⟨adb, rfl, y0, y1⟩ := rd_field hI.out.rb 0 (by simp)
          simp only [Nat.zero_mul, add_zero] at y0 y1
          obtain ⟨yw, ys⟩ := y
          rw [show nth ((0, 0) : Int × Int) ((yw, ys) :: b1) 0 = (yw, ys) from rfl] at y0 y1
          have hlb : ((yw, ys) :: b1).length ≤ cb := hI.out.rb.le
          simp only [List.length_cons] at hlb
          have hww : IntKind.i64.wrap ((a1.length : Int) + 1 + ((b1.length : Int) + 1)) = (a1.length : Int) + 1 + ((b1.length : Int) + 1) := IntWalk.i64_in _ (by omega)
          have hlt2 := HLT.out
          have hdc : decide (xw ≤ yw) = true := decide_eq_true (by omega)
          clear hlt2 hlt
          have hq0 : (((b1.length : Int) + 1) == 0) = false := by rw [beq_eq_false_iff_ne]; omega
          have hq1 : decide ((0 : Int) < (a1.length : Int) + 1) = true := decide_eq_true (by omega)
          have hq2 : decide (0 < a1.length + 1) = true := decide_eq_true (by omega)
          obtain ⟨At, hAt⟩ : ∃ A, (if ca = 1 then some ada else some (⟨ada.block, ada.off + 2, none⟩ : Addr)) = A := ⟨_, rfl⟩
          have HAT := Lib.hid hAt
          have h1le : (1 : Int) ≤ (a1.length : Int) + 1 := by omega
          have HLN := Lib.hid hlen0
          clear hlen0
          go_wp2
          go_quiet (fail)
          go_wp2_with (at_builtin; (refine append_k (W := wr.drewN nq) (k := kField) w.heap.size rfl (.tmp 31) (.tmp 35) 172 174 (.agg #[.int .i64 0, .int .i64 0]) 16 (fun b => b < w.heap.size) rfl Tryz.underlying172 infoRi rfl (by decide) (by decide) u5 o (xw, xs) [.int .i64 xw, .int .i64 xs] rfl rfl rfl (hI.out.own.below (below_drewN (Below.refl _ _) nq)) ⟨_, _, rfl, rfl, rfl⟩ hbz (by have := HLN.out; omega) ?_); intro g9 cap9 w9 hO9 hg9 hb9 ha9; have HO9 := Lib.hid hO9; have HK9 := Lib.hid ((Keep.of_grown hg9).weak (ok' := fun b => b < w.heap.size) fun b hb e => by have := hI.out.own.base_le b e.symm; omega); have HB9 := Lib.hid ((below_drewN hI.out.low nq).grown hg9 hbz hI.out.own.base_le); clear hO9 hg9 ha9)
          go_roundw
          case rel =>
            have hi := hI.out
            have hra := (hi.ra.below (below_drewN (Below.refl _ _) nq)).keep HK9.out
            have hrb := (hi.rb.below (below_drewN (Below.refl _ _) nq)).keep HK9.out
            have hrun := hi.run
            have hlen := hi.len
            rw [mergeR_cons, if_neg (show ¬ yw < xw by have := HLT.out; omega)] at hrun
            exact ⟨At, ca - 1, a1, _, _, (yw, ys) :: b1, o ++ [(xw, xs)], rfl, rfl, Lib.hid ⟨by simpa using HO9.out, HB9.out, hra.cutF HAT.out, hrb, by rw [← hrun]; simp, by simp at hlen ⊢; omega⟩⟩
          case measure => show _ < _; simp [lenV]
end Go.Proofs.YtmcdgmiheklbeaaGreatDoor

namespace Go.Proofs.YtmcdgmiheklbeaaGreatDoor

def tag (x : It) : Int × Int := (x.1, if x.2.length = 1 then ((nth 0 x.2 0 : Nat) : Int) else -1)
def rowR (coins : List (Int × Int)) : Nat → List (Int × Int)
  | 0 => coins
  | k + 1 => mergeR coins (pairsR (rowR coins k))
theorem tag_merge : ∀ a b : List It, (mergeI a b).map tag = mergeR (a.map tag) (b.map tag)
  | [], b => by rw [List.map_nil, mergeR_left]; cases b <;> simp [mergeI]
  | x :: a, [] => by rw [mergeI_nil_right, List.map_nil, mergeR_right]
  | x :: a, y :: b => by
    rw [mergeI_cons, List.map_cons, List.map_cons, mergeR_cons]
    by_cases h : y.1 < x.1
    · rw [if_pos h, if_pos (show (tag y).1 < (tag x).1 from h), List.map_cons, tag_merge (x :: a) b, List.map_cons]
    · rw [if_neg h, if_neg (show ¬ (tag y).1 < (tag x).1 from h), List.map_cons, tag_merge a (y :: b), List.map_cons]
termination_by a b => a.length + b.length
theorem tag_pairs : ∀ {l : List It}, (∀ x ∈ l, 1 ≤ x.2.length) → (pairsI l).map tag = pairsR (l.map tag)
  | [], _ => rfl
  | [x], _ => rfl
  | x :: y :: r, h => by
    have hx := h x (by simp)
    have hy := h y (by simp)
    rw [pairsI, List.map_cons, List.map_cons, List.map_cons, pairsR, tag_pairs fun z hz => h z (by simp [hz])]
    congr 1
    unfold tag
    rw [if_neg (by rw [List.length_append]; omega)]
theorem pairsI_coins : ∀ {l : List It}, (∀ x ∈ l, 1 ≤ x.2.length) → ∀ z ∈ pairsI l, 2 ≤ z.2.length
  | [], _, z, hz => by simp [pairsI] at hz
  | [x], _, z, hz => by simp [pairsI] at hz
  | x :: y :: r, h, z, hz => by
    rw [pairsI, List.mem_cons] at hz
    rcases hz with rfl | hz
    · have hx := h x (by simp)
      have hy := h y (by simp)
      simp; omega
    · exact pairsI_coins (fun q hq => h q (by simp [hq])) z hz
theorem rowI_coins {coins : List It} (h : ∀ x ∈ coins, x.2.length = 1) : ∀ k, ∀ z ∈ rowI coins k, 1 ≤ z.2.length
  | 0, z, hz => by have := h z hz; omega
  | k + 1, z, hz => by
    rcases (mergeI_mem _ _ _).1 hz with h1 | h1
    · have := h z h1; omega
    · have := pairsI_coins (rowI_coins h k) z h1; omega
theorem tag_row {coins : List It} (h : ∀ x ∈ coins, x.2.length = 1) : ∀ k, (rowI coins k).map tag = rowR (coins.map tag) k
  | 0 => rfl
  | k + 1 => by
    show (mergeI coins (pairsI (rowI coins k))).map tag = mergeR (coins.map tag) (pairsR (rowR (coins.map tag) k))
    rw [tag_merge, tag_pairs (rowI_coins h k), tag_row h k]
end Go.Proofs.YtmcdgmiheklbeaaGreatDoor

namespace Go.Proofs.YtmcdgmiheklbeaaGreatDoor

/-- Weights up to M, no more than C coins. -/
def within (M : Int) (C : Nat) (l : List It) : Prop := ∀ z ∈ l, 0 ≤ z.1 ∧ z.1 ≤ M ∧ z.2.length ≤ C
theorem within.mono {M M' : Int} {C C' : Nat} {l : List It} (h : within M C l) (h1 : M ≤ M') (h2 : C ≤ C') : within M' C' l := fun z hz => by
  have := h z hz
  omega
theorem pairsI_within {M : Int} {C : Nat} : ∀ {l : List It}, within M C l → within (2 * M) (2 * C) (pairsI l)
  | [], _ => fun z hz => by simp [pairsI] at hz
  | [x], _ => fun z hz => by simp [pairsI] at hz
  | x :: y :: r, h => fun z hz => by
    rw [pairsI, List.mem_cons] at hz
    rcases hz with rfl | hz
    · have hx := h x (by simp)
      have hy := h y (by simp)
      refine ⟨?_, ?_, ?_⟩
      · show 0 ≤ x.1 + y.1; omega
      · show x.1 + y.1 ≤ 2 * M; omega
      · show (x.2 ++ y.2).length ≤ 2 * C; rw [List.length_append]; omega
    · exact pairsI_within (fun q hq => h q (by simp [hq])) z hz
theorem rowI_within {coins : List It} {M : Int} {C : Nat} (h : within M C coins) (hM : 0 ≤ M) : ∀ k, within (2 ^ k * M) (2 ^ k * C) (rowI coins k)
  | 0 => by show within (2 ^ 0 * M) (2 ^ 0 * C) coins; simpa using h
  | k + 1 => fun z hz => by
    have hp : (1 : Int) ≤ 2 ^ (k + 1) := by have := Nat.one_le_two_pow (n := k + 1); exact_mod_cast this
    have hpn : 1 ≤ 2 ^ (k + 1) := Nat.one_le_two_pow
    rcases (mergeI_mem _ _ _).1 hz with h1 | h1
    · have h2 := h z h1
      have e1 : M ≤ 2 ^ (k + 1) * M := by have := Int.mul_le_mul_of_nonneg_right hp hM; omega
      have e2 : C ≤ 2 ^ (k + 1) * C := by have := Nat.mul_le_mul_right C hpn; omega
      omega
    · have h2 := pairsI_within (rowI_within h hM k) z h1
      have e1 : 2 * (2 ^ k * M) = 2 ^ (k + 1) * M := by rw [← Int.mul_assoc, Int.pow_succ, Int.mul_comm 2]
      have e2 : 2 * (2 ^ k * C) = 2 ^ (k + 1) * C := by rw [← Nat.mul_assoc, Nat.pow_succ, Nat.mul_comm 2]
      omega
theorem rowI_ok {coins : List It} (h : within 1073741824 1 coins) {k : Nat} (hk : k ≤ 15) : okRow (rowI coins k) := fun z hz => by
  have h1 := rowI_within h (by decide) k z hz
  have h2 : 2 ^ k ≤ 2 ^ 15 := Nat.pow_le_pow_right (by decide) hk
  have h3 : ((2 : Int) ^ k) ≤ 32768 := by have : ((2 ^ k : Nat) : Int) ≤ ((2 ^ 15 : Nat) : Int) := Int.ofNat_le.2 h2; simpa using this
  have h4 : (2 : Int) ^ k * 1073741824 ≤ 32768 * 1073741824 := Int.mul_le_mul_of_nonneg_right h3 (by decide)
  refine ⟨h1.1, by omega, by have := h1.2.2; omega⟩
theorem rowI_length_le (coins : List It) : ∀ k, (rowI coins k).length ≤ 2 * coins.length
  | 0 => by show coins.length ≤ _; omega
  | k + 1 => by rw [rowI_length]; have := rowI_length_le coins k; omega
end Go.Proofs.YtmcdgmiheklbeaaGreatDoor

namespace Go.Proofs.YtmcdgmiheklbeaaGreatDoor
open Go.RowKit

/-- The coins of the first counts. -/
def coinsK (cs : List Int) : Nat → List It
  | 0 => []
  | k + 1 => if 0 < nth 0 cs k then coinsK cs k ++ [(nth 0 cs k, [k])] else coinsK cs k
theorem coinsK_len (cs : List Int) : ∀ k, (coinsK cs k).length ≤ k
  | 0 => Nat.le_refl _
  | k + 1 => by
    have := coinsK_len cs k
    unfold coinsK
    split
    · simp; omega
    · omega
/-- What Lengths answers as its error. -/
def lengthsE (cs : List Int) (most : Int) : Int :=
  if countsB cs = false ∨ most < 1 ∨ 16 < most then 1 else if (coinsK cs cs.length).length = 0 then 5 else if 2 ^ most.toNat < (coinsK cs cs.length).length then 2 else 0

end Go.Proofs.YtmcdgmiheklbeaaGreatDoor

namespace Go.Proofs.YtmcdgmiheklbeaaGreatDoor

/-! ### What is taken of both lists -/
/-- How many of the first elements of a merged row are of the first list. -/
def fromA : List It → List It → Nat → Nat
  | _, _, 0 => 0
  | [], _, _ + 1 => 0
  | _ :: a, [], m + 1 => fromA a [] m + 1
  | x :: a, y :: b, m + 1 => if y.1 < x.1 then fromA (x :: a) b m else fromA a (y :: b) m + 1
termination_by a b _ => a.length + b.length
theorem fromA_nil (b : List It) (m : Nat) : fromA [] b m = 0 := by cases m <;> simp [fromA]
theorem fromA_zero (a b : List It) : fromA a b 0 = 0 := by simp [fromA]
theorem fromA_le : ∀ (a b : List It) (m : Nat), fromA a b m ≤ m ∧ fromA a b m ≤ a.length
  | _, _, 0 => by rw [fromA_zero]; exact ⟨Nat.le_refl _, Nat.zero_le _⟩
  | [], b, m + 1 => by rw [fromA_nil]; exact ⟨Nat.zero_le _, Nat.zero_le _⟩
  | x :: a, [], m + 1 => by
    have := fromA_le a [] m
    rw [fromA]; simp only [List.length_cons]; omega
  | x :: a, y :: b, m + 1 => by
    rw [fromA]
    split
    · have := fromA_le (x :: a) b m
      simp only [List.length_cons] at this ⊢; omega
    · have := fromA_le a (y :: b) m
      simp only [List.length_cons] at this ⊢; omega
termination_by a b _ => a.length + b.length
theorem fromA_rest : ∀ (a b : List It) (m : Nat), m ≤ a.length + b.length → m - fromA a b m ≤ b.length
  | _, _, 0, _ => by simp
  | [], b, m + 1, h => by rw [fromA_nil]; simpa using h
  | x :: a, [], m + 1, h => by
    have := fromA_rest a [] m (by simp at h ⊢; omega)
    rw [fromA]; simp only [List.length_nil] at this ⊢; omega
  | x :: a, y :: b, m + 1, h => by
    rw [fromA]
    simp only [List.length_cons] at h
    split
    · have := fromA_rest (x :: a) b m (by simp only [List.length_cons]; omega)
      have := (fromA_le (x :: a) b m).1
      simp only [List.length_cons]; omega
    · have := fromA_rest a (y :: b) m (by simp only [List.length_cons]; omega)
      simp only [List.length_cons] at this ⊢; omega
termination_by a b _ _ => a.length + b.length
/-- The sum of anything over the first elements. -/
def sumF (f : It → Nat) (l : List It) : Nat := (l.map f).sum
theorem sumF_cons (f : It → Nat) (x : It) (l : List It) : sumF f (x :: l) = f x + sumF f l := by simp [sumF]
theorem merge_sumF (f : It → Nat) : ∀ (a b : List It) (m : Nat), sumF f ((mergeI a b).take m) = sumF f (a.take (fromA a b m)) + sumF f (b.take (m - fromA a b m))
  | _, _, 0 => by rw [fromA_zero]; simp [sumF]
  | [], b, m + 1 => by rw [fromA_nil]; simp [sumF, mergeI]
  | x :: a, [], m + 1 => by
    have h := merge_sumF f a [] m
    rw [mergeI_nil_right] at h ⊢
    rw [fromA, List.take_succ_cons, List.take_succ_cons, sumF_cons, sumF_cons, h]
    simp only [List.take_nil]; omega
  | x :: a, y :: b, m + 1 => by
    rw [mergeI, fromA]
    split
    · have h := merge_sumF f (x :: a) b m
      have := (fromA_le (x :: a) b m).1
      rw [List.take_succ_cons, sumF_cons, h, show m + 1 - fromA (x :: a) b m = (m - fromA (x :: a) b m) + 1 by omega, List.take_succ_cons, sumF_cons]; omega
    · have h := merge_sumF f a (y :: b) m
      rw [List.take_succ_cons, List.take_succ_cons, sumF_cons, sumF_cons, h, show m + 1 - (fromA a (y :: b) m + 1) = m - fromA a (y :: b) m by omega]; omega
termination_by a b _ => a.length + b.length
/-! ### The rows from the top on -/
/-- How many coins are taken of each row, of the top one first. -/
def lens (coins : List It) : Nat → Nat → List Nat
  | 0, m => [m]
  | k + 1, m => fromA coins (pairsI (rowI coins k)) m :: lens coins k (2 * (m - fromA coins (pairsI (rowI coins k)) m))
theorem lens_length (coins : List It) : ∀ k m, (lens coins k m).length = k + 1
  | 0, _ => rfl
  | k + 1, m => by rw [lens, List.length_cons, lens_length coins k]
def occ (s : Nat) (l : List It) : Nat := sumF (fun x => x.2.count s) l
theorem pairsI_sumF {f : It → Nat} (hf : ∀ x y : It, f (x.1 + y.1, x.2 ++ y.2) = f x + f y) : ∀ (l : List It) (k : Nat), 2 * k ≤ l.length → sumF f ((pairsI l).take k) = sumF f (l.take (2 * k))
  | [], k, h => by
    obtain rfl : k = 0 := by simp at h; omega
    rfl
  | [x], k, h => by
    obtain rfl : k = 0 := by simp at h; omega
    rfl
  | x :: y :: r, k, h => by
    cases k with
    | zero => rfl
    | succ k =>
      rw [pairsI, List.take_succ_cons, sumF_cons, pairsI_sumF hf r k (by simp at h; omega), show 2 * (k + 1) = 2 * k + 1 + 1 by omega, List.take_succ_cons, List.take_succ_cons, sumF_cons, sumF_cons, hf]
      omega
theorem lens_fit {coins : List It} {k m : Nat} (h : m ≤ (rowI coins (k + 1)).length) : 2 * (m - fromA coins (pairsI (rowI coins k)) m) ≤ (rowI coins k).length := by
  rw [rowI, mergeI_length] at h
  have := fromA_rest coins (pairsI (rowI coins k)) m h
  rw [pairsI_length] at this
  omega
theorem lens_sumF {f : It → Nat} (hf : ∀ x y : It, f (x.1 + y.1, x.2 ++ y.2) = f x + f y) (coins : List It) : ∀ k m, m ≤ (rowI coins k).length → sumF f ((rowI coins k).take m) = ((lens coins k m).map fun p => sumF f (coins.take p)).sum
  | 0, m, _ => by simp [lens, rowI]
  | k + 1, m, h => by
    have hm := lens_fit h
    rw [rowI, merge_sumF, lens, List.map_cons, List.sum_cons, ← lens_sumF hf coins k _ hm, pairsI_sumF hf _ _ hm]
/-! ### The widths -/
/-- The rows in which the coin of a rank is taken. -/
def dep (ps : List Nat) (r : Nat) : Nat := (ps.filter fun p => decide (r < p)).length
theorem dep_cons (p : Nat) (ps : List Nat) (r : Nat) : dep (p :: ps) r = (if r < p then 1 else 0) + dep ps r := by
  unfold dep
  rw [List.filter_cons]
  by_cases h : r < p
  · simp [h]; omega
  · simp [h]
/-- A row is long enough for a complete code. -/
theorem row_long (coins : List It) : ∀ k, 2 * coins.length ≤ (rowI coins k).length + 1 + (coins.length - 1) / 2 ^ k
  | 0 => by have : (rowI coins 0).length = coins.length := rfl
            rw [this]; simp; omega
  | k + 1 => by
    have ih := row_long coins k
    rw [rowI_length, Nat.pow_succ, ← Nat.div_div_eq_div_mul]
    omega
theorem row_fits {coins : List It} {k : Nat} (h : coins.length ≤ 2 ^ (k + 1)) : 2 * coins.length - 2 ≤ (rowI coins k).length := by
  have h1 := row_long coins k
  have h2 : (coins.length - 1) / 2 ^ k ≤ 1 := by
    have : (coins.length - 1) / 2 ^ k < 2 := by
      rw [Nat.div_lt_iff_lt_mul (Nat.two_pow_pos _)]
      rw [Nat.pow_succ] at h
      have := Nat.two_pow_pos k
      omega
    omega
  omega
end Go.Proofs.YtmcdgmiheklbeaaGreatDoor

namespace Go.Proofs.YtmcdgmiheklbeaaGreatDoor

/-! ### What the lengths weigh -/
theorem sumF_congr {f g : It → Nat} {l : List It} (h : ∀ x ∈ l, f x = g x) : sumF f l = sumF g l := by
  induction l with
  | nil => rfl
  | cons x l ih => rw [sumF_cons, sumF_cons, h x (by simp), ih fun y hy => h y (by simp [hy])]
theorem sumF_const (c : Nat) (l : List It) : sumF (fun _ => c) l = l.length * c := by
  induction l with
  | nil => simp [sumF]
  | cons x l ih => rw [sumF_cons, ih, List.length_cons, Nat.succ_mul]; omega
end Go.Proofs.YtmcdgmiheklbeaaGreatDoor

namespace Go.Proofs.YtmcdgmiheklbeaaGreatDoor
open Go.RowKit

theorem pairsI_syms {m : Nat} : ∀ {l : List It}, (∀ x ∈ l, ∀ s ∈ x.2, s < m) → ∀ z ∈ pairsI l, ∀ s ∈ z.2, s < m
  | [], _, z, hz => by simp [pairsI] at hz
  | [x], _, z, hz => by simp [pairsI] at hz
  | x :: y :: r, h, z, hz => by
    rw [pairsI, List.mem_cons] at hz
    rcases hz with rfl | hz
    · intro s hs
      rcases List.mem_append.1 hs with hs | hs
      · exact h x (by simp) s hs
      · exact h y (by simp) s hs
    · exact pairsI_syms (fun q hq => h q (by simp [hq])) z hz
theorem rowI_syms {m : Nat} {coins : List It} (h : ∀ x ∈ coins, ∀ s ∈ x.2, s < m) : ∀ k, ∀ z ∈ rowI coins k, ∀ s ∈ z.2, s < m
  | 0, z, hz => h z hz
  | k + 1, z, hz => by
    rcases (mergeI_mem _ _ _).1 hz with h1 | h1
    · exact h z h1
    · exact pairsI_syms (rowI_syms h k) z h1
theorem coinsK_mem {cs : List Int} : ∀ {k : Nat} {z : It}, z ∈ coinsK cs k → ∃ s, s < k ∧ z = (nth 0 cs s, [s]) ∧ 0 < nth 0 cs s
  | 0, z, h => by simp [coinsK] at h
  | k + 1, z, h => by
    unfold coinsK at h
    split at h
    · rename_i hp
      rcases List.mem_append.1 h with h | h
      · obtain ⟨s, h1, h2⟩ := coinsK_mem h
        exact ⟨s, by omega, h2⟩
      · simp at h
        exact ⟨k, by omega, h, hp⟩
    · obtain ⟨s, h1, h2⟩ := coinsK_mem h
      exact ⟨s, by omega, h2⟩
/-- How often each symbol lies in some items. -/
def outQ (m : Nat) (l : List It) : List Int := (List.range m).map fun s => ((occ s l : Nat) : Int)
theorem insF_perm {α : Type} (f : α → Int) (x : α) : ∀ l : List α, (insF f x l).Perm (x :: l)
  | [] => .refl _
  | y :: l => by
    unfold insF
    split
    · exact .refl _
    · exact ((insF_perm f x l).cons y).trans (.swap x y l)
theorem foldF_perm {α : Type} (f : α → Int) : ∀ (l a : List α), (l.foldl (fun a x => insF f x a) a).Perm (a ++ l)
  | [], a => by simp
  | x :: l, a => by
    rw [List.foldl_cons]
    refine (foldF_perm f l _).trans ?_
    exact ((insF_perm f x a).append_right l).trans (List.perm_middle.symm)
theorem isortF_perm {α : Type} (f : α → Int) (l : List α) : (isortF f l).Perm l := by
  have := foldF_perm f l []
  simpa [isortF] using this
/-- What Lengths returns. -/
def sortedC (cs : List Int) : List It := isortF (·.1) (coinsK cs cs.length)
def lengthsV (cs : List Int) (most : Int) : List Int :=
  if lengthsE cs most ≠ 0 then [] else
  if (coinsK cs cs.length).length = 1 then outQ cs.length (coinsK cs cs.length) else
  outQ cs.length ((rowI (sortedC cs) (most.toNat - 1)).take (2 * (coinsK cs cs.length).length - 2))
theorem sortedC_length (cs : List Int) : (sortedC cs).length = (coinsK cs cs.length).length := (isortF_perm _ _).length_eq
theorem sortedC_mem {cs : List Int} {z : It} (h : z ∈ sortedC cs) : z ∈ coinsK cs cs.length := (isortF_mem _ _).1 h
theorem coins_within {cs : List Int} (h : countsB cs = true) : within 1073741824 1 (coinsK cs cs.length) := fun z hz => by
  obtain ⟨s, hs, rfl, hp⟩ := coinsK_mem hz
  have := (nth_bound (counts_bound h).2 (by decide) s).2
  exact ⟨by show 0 ≤ nth 0 cs s; omega, this, Nat.le_refl _⟩
theorem sorted_within {cs : List Int} (h : countsB cs = true) : within 1073741824 1 (sortedC cs) := fun z hz => coins_within h z (sortedC_mem hz)
theorem sorted_syms (cs : List Int) : ∀ x ∈ sortedC cs, ∀ s ∈ x.2, s < cs.length := fun x hx s hs => by
  obtain ⟨t, ht, rfl, _⟩ := coinsK_mem (sortedC_mem hx)
  simp at hs; omega
end Go.Proofs.YtmcdgmiheklbeaaGreatDoor

namespace Go.Proofs.YtmcdgmiheklbeaaGreatDoor
open Go.RowKit

def sym (x : It) : Nat := nth 0 x.2 0
theorem coin_sym {cs : List Int} {k : Nat} {z : It} (h : z ∈ coinsK cs k) : z = (nth 0 cs (sym z), [sym z]) ∧ sym z < k ∧ 0 < nth 0 cs (sym z) := by
  obtain ⟨s, h1, rfl, h2⟩ := coinsK_mem h
  exact ⟨rfl, h1, h2⟩
theorem coins_nodup (cs : List Int) : ∀ k, ((coinsK cs k).map sym).Nodup
  | 0 => by simp [coinsK]
  | k + 1 => by
    unfold coinsK
    split
    · rw [List.map_append, List.nodup_append]
      refine ⟨coins_nodup cs k, by simp, fun a ha b hb => ?_⟩
      obtain ⟨z, hz, rfl⟩ := List.mem_map.1 ha
      have h1 := (coin_sym hz).2.1
      have h2 : b = k := by simpa [sym, nth] using hb
      omega
    · exact coins_nodup cs k
theorem sorted_nodup (cs : List Int) : ((sortedC cs).map sym).Nodup := (((isortF_perm _ _).map sym).nodup_iff).2 (coins_nodup cs cs.length)
theorem sorted_sym {cs : List Int} {z : It} (h : z ∈ sortedC cs) : z = (nth 0 cs (sym z), [sym z]) ∧ sym z < cs.length ∧ 0 < nth 0 cs (sym z) := coin_sym (sortedC_mem h)
/-! ### Sums over the coins -/
theorem perm_sumN {α : Type} (f : α → Nat) {l m : List α} (h : l.Perm m) : (l.map f).sum = (m.map f).sum := by
  induction h with
  | nil => rfl
  | cons x _ ih => simp [ih]
  | swap x y l => simp; omega
  | trans _ _ h1 h2 => exact h1.trans h2
/-! ### Each symbol's length is its rank's depth -/
theorem occ_syms (s : Nat) : ∀ {l : List It}, (∀ z ∈ l, z.2 = [sym z]) → occ s l = (l.map sym).count s
  | [], _ => rfl
  | x :: l, h => by
    have e : occ s (x :: l) = x.2.count s + occ s l := by unfold occ; rw [sumF_cons]
    have h2 : x.2.count s = [sym x].count s := by rw [← h x (by simp)]
    rw [e, occ_syms s fun z hz => h z (by simp [hz]), List.map_cons, List.count_cons, h2, List.count_singleton]
    omega
theorem count_take : ∀ {l : List Nat} {r p : Nat}, l.Nodup → r < l.length → (l.take p).count (nth 0 l r) = if r < p then 1 else 0
  | [], r, p, _, h => by simp at h
  | a :: t, r, 0, _, _ => by simp
  | a :: t, 0, p + 1, hn, _ => by
    have h1 : (t.take p).count a = 0 := List.count_eq_zero.2 fun h => (List.nodup_cons.1 hn).1 (List.mem_of_mem_take h)
    have e : nth 0 (a :: t) 0 = a := rfl
    rw [e, List.take_succ_cons, List.count_cons_self, h1]; simp
  | a :: t, r + 1, p + 1, hn, h => by
    have hr : r < t.length := by simpa using h
    have e : nth 0 (a :: t) (r + 1) = nth 0 t r := by simp [nth]
    have hne : a ≠ nth 0 t r := fun e => (List.nodup_cons.1 hn).1 (by rw [e]; exact nth_mem 0 t r hr)
    rw [e, List.take_succ_cons, List.count_cons_of_ne hne, count_take (List.nodup_cons.1 hn).2 hr]
    by_cases h1 : r < p
    · rw [if_pos h1, if_pos (by omega)]
    · rw [if_neg h1, if_neg (by omega)]
theorem dep_sum (ps : List Nat) (r : Nat) : (ps.map fun p => if r < p then 1 else 0).sum = dep ps r := by
  induction ps with
  | nil => rfl
  | cons p ps ih => rw [List.map_cons, List.sum_cons, ih, dep_cons]
/-- How long the word of a symbol is. -/
def lenN (cs : List Int) (most s : Nat) : Nat := if (sortedC cs).length = 1 then occ s (sortedC cs) else occ s ((rowI (sortedC cs) (most - 1)).take (2 * (sortedC cs).length - 2))
theorem occ_perm (s : Nat) {l m : List It} (h : l.Perm m) : occ s l = occ s m := perm_sumN _ h
theorem lengthsV_nth {cs : List Int} {most : Nat} (hE : lengthsE cs most = 0) : lengthsV cs most = (List.range cs.length).map fun s => ((lenN cs most s : Nat) : Int) := by
  unfold lengthsV lenN outQ
  rw [if_neg (by rw [hE]; decide), sortedC_length, Int.toNat_natCast]
  by_cases h1 : (coinsK cs cs.length).length = 1
  · simp only [if_pos h1]
    apply List.map_congr_left
    intro s _
    have e : occ s (sortedC cs) = occ s (coinsK cs cs.length) := occ_perm s (isortF_perm _ _)
    rw [e]
  · simp only [if_neg h1]
theorem lengthsV_length {cs : List Int} {most : Nat} (hE : lengthsE cs most = 0) : (lengthsV cs most).length = cs.length := by rw [lengthsV_nth hE]; simp
theorem lengthsV_at {cs : List Int} {most s : Nat} (hE : lengthsE cs most = 0) (hs : s < cs.length) : nth 0 (lengthsV cs most) s = ((lenN cs most s : Nat) : Int) := by
  rw [nth_eq 0 _ s (by rw [lengthsV_length hE]; exact hs)]
  simp [lengthsV_nth hE]
/-- The counts and the greatest length are right. -/
structure LenIn (cs : List Int) (most : Nat) : Prop where
  cnt : countsB cs = true
  lo : 1 ≤ most
  hi : most ≤ 16
  some : 1 ≤ (sortedC cs).length
  fit : (sortedC cs).length ≤ 2 ^ most
/-- Of what is taken of each row. -/
def psL (cs : List Int) (most : Nat) : List Nat := if (sortedC cs).length = 1 then [1] else lens (sortedC cs) (most - 1) (2 * (sortedC cs).length - 2)
theorem sorted_syms1 (cs : List Int) : ∀ z ∈ sortedC cs, z.2 = [sym z] := fun z hz => by
  have h := (sorted_sym hz).1
  have : z.2 = (nth 0 cs (sym z), [sym z]).2 := congrArg Prod.snd h
  exact this
theorem lenN_sum {cs : List Int} {most : Nat} (h : LenIn cs most) (s : Nat) : lenN cs most s = ((psL cs most).map fun p => (((sortedC cs).take p).map sym).count s).sum := by
  have hz : ∀ p, occ s ((sortedC cs).take p) = (((sortedC cs).take p).map sym).count s := fun p => occ_syms s fun z hz => sorted_syms1 cs z (List.mem_of_mem_take hz)
  unfold lenN psL
  by_cases h1 : (sortedC cs).length = 1
  · rw [if_pos h1, if_pos h1]
    have := hz 1
    rw [show (sortedC cs).take 1 = sortedC cs from List.take_of_length_le (by omega)] at this
    rw [this]
    have e1 : (sortedC cs).take 1 = sortedC cs := List.take_of_length_le (by omega)
    show _ = ([1].map fun p => (((sortedC cs).take p).map sym).count s).sum
    rw [List.map_cons, List.map_nil, List.sum_cons, List.sum_nil, e1]; rfl
  · rw [if_neg h1, if_neg h1]
    have hf := row_fits (coins := sortedC cs) (k := most - 1) (by rw [show most - 1 + 1 = most by have := h.lo; omega]; exact h.fit)
    show sumF _ _ = _
    rw [lens_sumF (f := fun x => x.2.count s) (fun x y => by simp) _ _ _ hf]
    congr 1
    apply List.map_congr_left
    intro p _
    exact hz p
theorem lenN_rank {cs : List Int} {most : Nat} (h : LenIn cs most) {r : Nat} (hr : r < (sortedC cs).length) : lenN cs most (sym (nth (0, []) (sortedC cs) r)) = dep (psL cs most) r := by
  rw [lenN_sum h, ← dep_sum]
  congr 1
  apply List.map_congr_left
  intro p _
  have e : sym (nth (0, []) (sortedC cs) r) = nth 0 ((sortedC cs).map sym) r := by
    rw [nth_eq _ _ r hr, nth_eq 0 _ r (by simpa using hr)]; simp
  rw [e, List.map_take, count_take (sorted_nodup cs) (by simpa using hr)]
theorem rank_of {cs : List Int} {s : Nat} (hs : 0 < nth 0 cs s) : ∃ r, r < (sortedC cs).length ∧ nth (0, []) (sortedC cs) r = (nth 0 cs s, [s]) ∧ sym (nth (0, []) (sortedC cs) r) = s := by
  have hl : s < cs.length := by
    rcases Nat.lt_or_ge s cs.length with h | h
    · exact h
    · rw [nth_none 0 cs s h] at hs; omega
  have hm : ∀ k, s < k → (nth 0 cs s, [s]) ∈ coinsK cs k := by
    intro k
    induction k with
    | zero => intro h; omega
    | succ k ih =>
      intro h
      unfold coinsK
      by_cases e : s = k
      · subst e; rw [if_pos hs]; simp
      · split
        · exact List.mem_append_left _ (ih (by omega))
        · exact ih (by omega)
  have hms : (nth 0 cs s, [s]) ∈ sortedC cs := (isortF_mem (f := fun z : It => z.1) _ _).2 (hm cs.length hl)
  obtain ⟨r, hr, e⟩ := List.mem_iff_getElem.1 hms
  exact ⟨r, hr, by rw [nth_eq _ _ r hr]; exact e, by rw [nth_eq _ _ r hr]; exact (congrArg sym e).trans rfl⟩
end Go.Proofs.YtmcdgmiheklbeaaGreatDoor

namespace Go.Proofs.YtmcdgmiheklbeaaGreatDoor
open Go.RowKit

end Go.Proofs.YtmcdgmiheklbeaaGreatDoor

namespace Go.Proofs.YtmcdgmiheklbeaaGreatDoor
open Go.RowKit

def mergeW : Nat → List Int → List Int → List Int
  | 0, _, _ => []
  | _ + 1, [], b => b
  | _ + 1, x :: a, [] => x :: a
  | f + 1, x :: a, y :: b => if y < x then y :: mergeW f (x :: a) b else x :: mergeW f a (y :: b)
def pairsW : List Int → List Int
  | x :: y :: r => (x + y) :: pairsW r
  | _ => []
def rowW (coins : List Int) : Nat → List Int
  | 0 => coins
  | k + 1 => mergeW (3 * coins.length + 1) coins (pairsW (rowW coins k))
def fromW : Nat → List Int → List Int → Nat → Nat
  | 0, _, _, _ => 0
  | _ + 1, _, _, 0 => 0
  | _ + 1, [], _, _ + 1 => 0
  | f + 1, _ :: a, [], m + 1 => fromW f a [] m + 1
  | f + 1, x :: a, y :: b, m + 1 => if y < x then fromW f (x :: a) b m else fromW f a (y :: b) m + 1
def lensW (coins : List Int) : Nat → Nat → List Nat
  | 0, m => [m]
  | k + 1, m =>
    let p := fromW (3 * coins.length + 1) coins (pairsW (rowW coins k)) m
    p :: lensW coins k (2 * (m - p))
def wtI (l : List It) : List Int := l.map (·.1)
theorem merge_W : ∀ (a b : List It) (f : Nat), a.length + b.length < f → wtI (mergeI a b) = mergeW f (wtI a) (wtI b)
  | _, _, 0, h => by omega
  | [], b, f + 1, _ => by simp [mergeI, wtI, mergeW]
  | x :: a, [], f + 1, _ => by simp [mergeI, wtI, mergeW]
  | x :: a, y :: b, f + 1, h => by
    rw [mergeI]
    show _ = if y.1 < x.1 then y.1 :: mergeW f (x.1 :: wtI a) (wtI b) else x.1 :: mergeW f (wtI a) (y.1 :: wtI b)
    split
    · have := merge_W (x :: a) b f (by simp at h ⊢; omega)
      show y.1 :: wtI (mergeI (x :: a) b) = _
      rw [this]; rfl
    · have := merge_W a (y :: b) f (by simp at h ⊢; omega)
      show x.1 :: wtI (mergeI a (y :: b)) = _
      rw [this]; rfl
termination_by a b _ _ => a.length + b.length
theorem pairs_W : ∀ l : List It, wtI (pairsI l) = pairsW (wtI l)
  | [] => rfl
  | [x] => rfl
  | x :: y :: r => by
    show (x.1 + y.1) :: wtI (pairsI r) = (x.1 + y.1) :: pairsW (wtI r)
    rw [pairs_W r]
theorem wtI_length (l : List It) : (wtI l).length = l.length := by simp [wtI]
theorem row_W (coins : List It) : ∀ k, wtI (rowI coins k) = rowW (wtI coins) k
  | 0 => rfl
  | k + 1 => by
    rw [rowI, merge_W coins (pairsI (rowI coins k)) (3 * coins.length + 1) (by rw [pairsI_length]; have := rowI_length_le coins k; omega), pairs_W, row_W coins k]
    show _ = mergeW (3 * (wtI coins).length + 1) _ _
    rw [wtI_length]
theorem from_W : ∀ (a b : List It) (m f : Nat), a.length + b.length < f → fromA a b m = fromW f (wtI a) (wtI b) m
  | _, _, _, 0, h => by omega
  | a, b, 0, f + 1, _ => by rw [fromA_zero]; cases a <;> cases b <;> rfl
  | [], b, m + 1, f + 1, _ => by rw [fromA_nil]; cases b <;> rfl
  | x :: a, [], m + 1, f + 1, h => by
    rw [fromA, from_W a [] m f (by simp at h ⊢; omega)]; rfl
  | x :: a, y :: b, m + 1, f + 1, h => by
    rw [fromA]
    show _ = if y.1 < x.1 then fromW f (x.1 :: wtI a) (wtI b) m else fromW f (wtI a) (y.1 :: wtI b) m + 1
    split
    · rw [from_W (x :: a) b m f (by simp at h ⊢; omega)]; rfl
    · rw [from_W a (y :: b) m f (by simp at h ⊢; omega)]; rfl
termination_by a b _ _ _ => a.length + b.length
theorem lens_W (coins : List It) : ∀ k m, lens coins k m = lensW (wtI coins) k m
  | 0, _ => rfl
  | k + 1, m => by
    have h := from_W coins (pairsI (rowI coins k)) m (3 * coins.length + 1) (by rw [pairsI_length]; have := rowI_length_le coins k; omega)
    rw [pairs_W, row_W] at h
    show fromA _ _ _ :: lens coins k (2 * (m - fromA _ _ _)) = _
    rw [h, lens_W coins k]
    show _ = fromW (3 * (wtI coins).length + 1) _ _ _ :: lensW _ _ (2 * (m - fromW (3 * (wtI coins).length + 1) _ _ _))
    rw [wtI_length]
/-- The numbers by which a closed answer is checked. -/
def checkW (cs : List Int) (most : Nat) (tab : List Nat) : Bool :=
  let S := sortedC cs
  let ps := lensW (wtI S) (most - 1) (2 * S.length - 2)
  countsB cs && decide (1 ≤ most) && decide (most ≤ 16) && decide (2 ≤ S.length) && decide (S.length ≤ 2 ^ most) && decide (S.length = cs.length) && decide (tab.length = cs.length) && (List.range S.length).all fun r => dep ps r == nth 0 tab (sym (nth (0, []) S r))
theorem lengths_closed {cs : List Int} {most : Nat} {tab : List Nat} (h : checkW cs most tab = true) : lengthsE cs most = 0 ∧ lengthsV cs most = tab.map Int.ofNat := by
  unfold checkW at h
  simp only [Bool.and_eq_true, decide_eq_true_eq] at h
  obtain ⟨⟨⟨⟨⟨⟨⟨h1, h2⟩, h3⟩, h4⟩, h5⟩, h6⟩, h7⟩, h8⟩ := h
  have hE : lengthsE cs most = 0 := by
    unfold lengthsE
    rw [if_neg (by rw [h1]; simp; omega), if_neg (by rw [← sortedC_length]; omega), if_neg (by rw [Int.toNat_natCast, ← sortedC_length]; omega)]
  have hin : LenIn cs most := ⟨h1, h2, h3, by omega, h5⟩
  refine ⟨hE, ?_⟩
  have hps : psL cs most = lensW (wtI (sortedC cs)) (most - 1) (2 * (sortedC cs).length - 2) := by
    unfold psL; rw [if_neg (by omega), lens_W]
  -- every symbol has a rank
  have hall : ∀ s, s < cs.length → 0 < nth 0 cs s := by
    intro s hs
    refine Decidable.byContradiction fun hn => ?_
    have hlt : ∀ k, s < k → (coinsK cs k).length < k := by
      intro k
      induction k with
      | zero => intro h; omega
      | succ k ih =>
        intro h
        have hle := coinsK_len cs k
        unfold coinsK
        by_cases e : s = k
        · subst e; rw [if_neg hn]; omega
        · have := ih (by omega)
          split
          · simp; omega
          · omega
    have := hlt cs.length hs
    rw [← sortedC_length] at this
    omega
  apply List.ext_getElem
  · rw [lengthsV_length hE, List.length_map, h7]
  · intro s hs1 hs2
    rw [lengthsV_length hE] at hs1
    have e1 := lengthsV_at hE hs1
    rw [nth_eq 0 _ s (by rw [lengthsV_length hE]; exact hs1)] at e1
    rw [e1]
    obtain ⟨r, hr, _, e2⟩ := rank_of (hall s hs1)
    have e3 := lenN_rank hin hr
    rw [e2] at e3
    have e4 := List.all_eq_true.1 h8 r (List.mem_range.2 hr)
    rw [e2, beq_iff_eq] at e4
    rw [e3, hps, e4, nth_eq 0 _ s (by omega)]
    simp
end Go.Proofs.YtmcdgmiheklbeaaGreatDoor

namespace Go.Proofs.YtmcdgmiheklbeaaGreatDoor
open Go.RowKit

def dimB : Nat → Nat
  | 0 => 1 | 1 => 4 | 2 => 4 | 3 => 2 | 4 => 2 | 5 => 2 | 6 => 2 | _ => 1
def mostB : Nat → Nat
  | 0 => 0 | 1 => 1 | 2 => 2 | 3 => 4 | 4 => 7 | 5 => 12 | 6 => 15 | _ => 31
def fallB : Nat → Nat
  | 0 => 0 | 1 => 5 | 2 => 7 | 3 => 9 | 4 => 11 | 5 => 13 | 6 => 12 | _ => 14
def escB : Nat → Bool
  | 6 => true | 7 => true | _ => false
def tabK : Nat → List Nat
  | 0 => []
  | 1 => [2, 3, 3, 5, 3, 5, 5, 7, 3, 5, 5, 6, 5, 6, 6, 7]
  | 2 => [3, 4, 5, 4, 5, 7, 5, 7, 8, 4, 5, 7, 5, 7, 8, 7, 8, 9, 5, 7, 8, 7, 8, 9, 8, 9, 10, 4, 5, 6, 5, 6, 8, 6, 8, 9, 5, 6, 8, 6, 8, 9, 8, 9, 10, 6, 8, 9, 8, 9, 10, 9, 10, 12, 5, 6, 8, 6, 8, 9, 8, 9, 10, 6, 8, 9, 8, 9, 10, 9, 10, 11, 8, 9, 10, 9, 10, 11, 10, 11, 12]
  | 3 => [2, 3, 4, 5, 6, 3, 4, 5, 6, 6, 4, 5, 6, 6, 7, 5, 6, 6, 7, 9, 5, 6, 7, 8, 9]
  | 4 => [3, 4, 4, 5, 5, 6, 7, 7, 4, 4, 5, 5, 6, 7, 7, 8, 4, 5, 5, 6, 7, 7, 8, 8, 5, 5, 6, 7, 7, 8, 8, 9, 5, 6, 7, 7, 8, 8, 9, 10, 6, 7, 7, 8, 8, 9, 10, 10, 7, 7, 8, 8, 9, 10, 10, 11, 7, 8, 8, 9, 9, 10, 10, 11]
  | 5 => [5, 5, 5, 6, 6, 6, 6, 7, 7, 7, 8, 8, 8, 5, 5, 6, 6, 6, 6, 7, 7, 7, 8, 8, 8, 9, 5, 6, 6, 6, 6, 7, 7, 7, 8, 8, 8, 9, 9, 6, 6, 6, 6, 7, 7, 7, 8, 8, 8, 9, 9, 9, 6, 6, 6, 7, 7, 7, 8, 8, 8, 9, 9, 9, 9, 6, 6, 7, 7, 7, 8, 8, 8, 9, 9, 9, 9, 10, 6, 7, 7, 7, 8, 8, 8, 9, 9, 9, 9, 10, 10, 7, 7, 7, 8, 8, 8, 9, 9, 9, 9, 10, 10, 10, 7, 7, 8, 8, 8, 9, 9, 9, 9, 10, 10, 10, 11, 7, 8, 8, 8, 8, 9, 9, 9, 10, 10, 10, 11, 11, 8, 8, 8, 8, 9, 9, 9, 10, 10, 10, 11, 11, 11, 8, 8, 8, 9, 9, 9, 10, 10, 10, 11, 11, 11, 12, 8, 8, 9, 9, 9, 10, 10, 10, 11, 11, 11, 11, 12]
  | 6 => [4, 4, 5, 5, 6, 6, 7, 7, 7, 8, 8, 9, 9, 9, 10, 10, 4, 5, 5, 6, 6, 7, 7, 7, 8, 8, 9, 9, 9, 10, 10, 11, 5, 5, 6, 6, 7, 7, 7, 8, 8, 9, 9, 9, 10, 10, 11, 11, 5, 6, 6, 7, 7, 7, 8, 8, 9, 9, 9, 10, 10, 11, 11, 11, 6, 6, 7, 7, 7, 8, 8, 9, 9, 9, 10, 10, 11, 11, 11, 12, 6, 6, 7, 7, 8, 8, 9, 9, 9, 10, 10, 11, 11, 11, 12, 12, 6, 7, 7, 8, 8, 9, 9, 9, 10, 10, 11, 11, 11, 12, 12, 13, 7, 7, 8, 8, 9, 9, 9, 10, 10, 11, 11, 11, 12, 12, 13, 13, 7, 8, 8, 9, 9, 9, 10, 10, 11, 11, 11, 12, 12, 13, 13, 14, 8, 8, 9, 9, 9, 10, 10, 11, 11, 11, 12, 12, 13, 13, 14, 14, 8, 9, 9, 9, 10, 10, 11, 11, 11, 12, 12, 13, 13, 14, 14, 14, 9, 9, 9, 10, 10, 11, 11, 11, 12, 12, 13, 13, 14, 14, 14, 15, 9, 9, 10, 10, 11, 11, 11, 12, 12, 13, 13, 14, 14, 14, 15, 15, 9, 10, 10, 11, 11, 11, 12, 12, 13, 13, 13, 14, 14, 15, 15, 16, 10, 10, 11, 11, 11, 12, 12, 13, 13, 13, 14, 14, 15, 15, 16, 16, 10, 11, 11, 11, 12, 12, 13, 13, 13, 14, 14, 15, 15, 16, 16, 16]
  | _ => [3, 3, 3, 4, 4, 4, 4, 4, 5, 5, 5, 5, 5, 6, 6, 6, 6, 6, 6, 7, 7, 7, 7, 7, 8, 8, 8, 8, 9, 9, 9, 9]
def tabKI (b : Nat) : List Int := (tabK b).map Int.ofNat
/-- How many symbols a book has. -/
def symsB (b : Nat) : Nat := (mostB b + 1) ^ dimB b
/-- The sum of the first k digits (from the last one on). -/
def sumE (m : Nat) : Nat → Nat → Nat
  | 0, _ => 0
  | k + 1, s => s % (m + 1) + sumE m k (s / (m + 1))
/-- The count of a symbol whose digits have a sum. -/
def cntE (fall : Nat) : Nat → Nat
  | 0 => 1048576
  | e + 1 => max 1 (cntE fall e * fall / 16)
def cntsB (b : Nat) : List Int := (List.range (symsB b)).map fun s => ((cntE (fallB b) (sumE (mostB b) (dimB b) s) : Nat) : Int)
theorem tabK_length (b : Nat) (h1 : 1 ≤ b) (h8 : b < 8) : (tabK b).length = symsB b := by
  have : b = 1 ∨ b = 2 ∨ b = 3 ∨ b = 4 ∨ b = 5 ∨ b = 6 ∨ b = 7 := by omega
  rcases this with rfl | rfl | rfl | rfl | rfl | rfl | rfl <;> decide +kernel
set_option maxRecDepth 1000000
theorem cnts_check1 : checkW (cntsB 1) 16 (tabK 1) = true := by decide +kernel
theorem cnts_check2 : checkW (cntsB 2) 16 (tabK 2) = true := by decide +kernel
theorem cnts_check3 : checkW (cntsB 3) 16 (tabK 3) = true := by decide +kernel
theorem cnts_check4 : checkW (cntsB 4) 16 (tabK 4) = true := by decide +kernel
theorem cnts_check5 : checkW (cntsB 5) 16 (tabK 5) = true := by decide +kernel
theorem cnts_check6 : checkW (cntsB 6) 16 (tabK 6) = true := by decide +kernel
theorem cnts_check7 : checkW (cntsB 7) 16 (tabK 7) = true := by decide +kernel
theorem cnts_check (b : Nat) (h1 : 1 ≤ b) (h8 : b < 8) : checkW (cntsB b) 16 (tabK b) = true := by
  have : b = 1 ∨ b = 2 ∨ b = 3 ∨ b = 4 ∨ b = 5 ∨ b = 6 ∨ b = 7 := by omega
  rcases this with rfl | rfl | rfl | rfl | rfl | rfl | rfl
  · exact cnts_check1
  · exact cnts_check2
  · exact cnts_check3
  · exact cnts_check4
  · exact cnts_check5
  · exact cnts_check6
  · exact cnts_check7
theorem cnts_lengths (b : Nat) (h1 : 1 ≤ b) (h8 : b < 8) : lengthsE (cntsB b) 16 = 0 ∧ lengthsV (cntsB b) 16 = tabKI b := lengths_closed (cnts_check b h1 h8)
theorem tabK_facts (b : Nat) (h1 : 1 ≤ b) (h8 : b < 8) : filledN (tabKI b) = 65536 ∧ checkN (tabKI b) = 0 ∧ (tabK b).all (fun x => decide (1 ≤ x ∧ x ≤ 16)) = true := by
  have : b = 1 ∨ b = 2 ∨ b = 3 ∨ b = 4 ∨ b = 5 ∨ b = 6 ∨ b = 7 := by omega
  rcases this with rfl | rfl | rfl | rfl | rfl | rfl | rfl <;> decide +kernel
end Go.Proofs.YtmcdgmiheklbeaaGreatDoor

namespace Go.Proofs.YtmcdgmiheklbeaaGreatDoor
open Go.RowKit

def quantB (l : List Int) : Bool := l.all fun v => decide (-1023 ≤ v) && decide (v ≤ 1023)
def inB (b : Nat) (v : Int) : Bool := decide (v.natAbs ≤ mostB b) || escB b
def fitB (b : Nat) (l : List Int) : Bool := l.all (inB b) && decide (l.length % dimB b = 0)
/-- The error of a book and values. -/
def checkedK (n : Int) (l : List Int) : Int := if n < 0 ∨ 8 ≤ n then 5 else if quantB l = false then 6 else 0
def digB (b : Nat) (v : Int) : Nat := min v.natAbs (mostB b)
/-- The symbol of a group. -/
def symG (b : Nat) (g : List Int) : Nat := g.foldl (fun s v => s * (mostB b + 1) + digB b v) 0
theorem symG_snoc (b : Nat) (g : List Int) (v : Int) : symG b (g ++ [v]) = symG b g * (mostB b + 1) + digB b v := by simp [symG]
theorem symG_from (b : Nat) : ∀ (g : List Int) (s : Nat), g.foldl (fun s v => s * (mostB b + 1) + digB b v) s + 1 ≤ (s + 1) * (mostB b + 1) ^ g.length
  | [], s => by simp
  | v :: g, s => by
    have h1 : digB b v ≤ mostB b := Nat.min_le_right _ _
    have ih := symG_from b g (s * (mostB b + 1) + digB b v)
    have h2 : s * (mostB b + 1) + digB b v + 1 ≤ (s + 1) * (mostB b + 1) := by rw [Nat.add_mul, Nat.one_mul]; omega
    have h3 := Nat.mul_le_mul_right ((mostB b + 1) ^ g.length) h2
    rw [List.foldl_cons, List.length_cons, Nat.pow_succ, Nat.mul_comm ((mostB b + 1) ^ g.length), ← Nat.mul_assoc]
    omega
theorem symG_lt (b : Nat) (g : List Int) : symG b g < (mostB b + 1) ^ g.length := by
  have := symG_from b g 0
  unfold symG
  omega
/-- The gamma code of a number above 0. -/
def gamB (v : Nat) : List Bool := List.replicate (Nat.log2 v) false ++ numB v (Nat.log2 v + 1)
theorem gamB_length (v : Nat) : (gamB v).length = 2 * Nat.log2 v + 1 := by unfold gamB; rw [List.length_append, List.length_replicate, numB_length]; omega
def escpB (b : Nat) (v : Int) : Bool := escB b && decide (mostB b ≤ v.natAbs)
/-- What a value has beside its symbol. -/
def besB (b : Nat) (v : Int) : List Bool := if v = 0 then [] else decide (v < 0) :: if escpB b v then gamB (v.natAbs - mostB b + 1) else []
def wrdB (b : Nat) (g : List Int) : List Bool := if b = 0 then [] else numB (codeN (tabKI b) (symG b g)) (lenOf (tabKI b) (symG b g))
def grpB (b : Nat) (g : List Int) : List Bool := wrdB b g ++ g.flatMap (besB b)
/-- A group of a list. -/
def grpK (d : Nat) (l : List Int) (j : Nat) : List Int := (l.drop (j * d)).take d
def lstB (b : Nat) (l : List Int) (k : Nat) : List Bool := (List.range k).flatMap fun j => grpB b (grpK (dimB b) l j)
theorem lstB_succ (b : Nat) (l : List Int) (k : Nat) : lstB b l (k + 1) = lstB b l k ++ grpB b (grpK (dimB b) l k) := by
  unfold lstB; rw [List.range_succ, List.flatMap_append]; simp
/-- The bits of a list. -/
def rowK (b : Nat) (l : List Int) : List Bool := lstB b l (l.length / dimB b)
theorem grpK_length (d : Nat) (l : List Int) (j : Nat) (h : j * d + d ≤ l.length) : (grpK d l j).length = d := by
  unfold grpK; rw [List.length_take, List.length_drop]; omega
theorem dimB_pos (b : Nat) : 1 ≤ dimB b ∧ dimB b ≤ 4 := by unfold dimB; split <;> omega
theorem mostB_le (b : Nat) : mostB b ≤ 31 := by unfold mostB; split <;> omega
theorem grp_in {d k n : Nat} (h : k < n / d) : k * d + d ≤ n := by
  have h1 : (k + 1) * d ≤ n / d * d := Nat.mul_le_mul_right d h
  have h2 := Nat.div_mul_le_self n d
  rw [Nat.add_mul, Nat.one_mul] at h1
  omega
theorem tabKI_length (b : Nat) (h1 : 1 ≤ b) (h8 : b < 8) : (tabKI b).length = symsB b := by unfold tabKI; rw [List.length_map, tabK_length b h1 h8]
theorem tabKI_nth (b k : Nat) (h : k < (tabK b).length) : nth 0 (tabKI b) k = ((nth 0 (tabK b) k : Nat) : Int) := by
  unfold tabKI
  rw [nth_eq 0 _ k (by rw [List.length_map]; exact h), nth_eq 0 _ k h]; simp
theorem tab_bound (b : Nat) (h1 : 1 ≤ b) (h8 : b < 8) {k : Nat} (h : k < symsB b) : 1 ≤ nth 0 (tabK b) k ∧ nth 0 (tabK b) k ≤ 16 := by
  have h2 := List.all_eq_true.1 (tabK_facts b h1 h8).2.2 _ (nth_mem 0 (tabK b) k (by rw [tabK_length b h1 h8]; exact h))
  exact of_decide_eq_true h2
theorem tabK_lenOf (b : Nat) (h1 : 1 ≤ b) (h8 : b < 8) {k : Nat} (h : k < symsB b) : lenOf (tabKI b) k = nth 0 (tabK b) k := by
  unfold lenOf; rw [tabKI_nth b k (by rw [tabK_length b h1 h8]; exact h), Int.toNat_natCast]
theorem tabK_right (b : Nat) (h1 : 1 ≤ b) (h8 : b < 8) : Right (tabKI b) := (checkN_right _).1 (tabK_facts b h1 h8).2.1
theorem tabK_filled (b : Nat) (h1 : 1 ≤ b) (h8 : b < 8) : filledN (tabKI b) = 65536 := (tabK_facts b h1 h8).1
theorem tabK_len16 (b : Nat) (h1 : 1 ≤ b) (h8 : b < 8) (k : Nat) : lenOf (tabKI b) k ≤ 16 := by
  rcases Nat.lt_or_ge k (symsB b) with h | h
  · rw [tabK_lenOf b h1 h8 h]; exact (tab_bound b h1 h8 h).2
  · unfold lenOf; rw [nth_none 0 _ k (by rw [tabKI_length b h1 h8]; exact h)]; simp
theorem tabK_code_lt (b : Nat) (h1 : 1 ≤ b) (h8 : b < 8) {k : Nat} (h : k < symsB b) : codeN (tabKI b) k < 2 ^ lenOf (tabKI b) k :=
  code_lt (tabK_len16 b h1 h8) (by rw [tabK_filled b h1 h8]; exact Nat.le_refl _) (by rw [tabKI_length b h1 h8]; exact h)
theorem tabK_codes (b : Nat) (h1 : 1 ≤ b) (h8 : b < 8) : codesR (tabKI b) = codesL (tabKI b) := by unfold codesR; rw [if_pos (tabK_facts b h1 h8).2.1]
theorem sym_in (b : Nat) (g : List Int) (h : g.length = dimB b) : symG b g < symsB b := by
  have := symG_lt b g
  rw [h] at this
  exact this
theorem log2_le {v n : Nat} (hv : v < 2 ^ (n + 1)) : Nat.log2 v ≤ n := by
  rcases Nat.eq_zero_or_pos v with rfl | h0
  · simp
  · have := (Nat.log2_lt (by omega : v ≠ 0)).2 hv
    omega
theorem besB_len (b : Nat) (v : Int) (h : v.natAbs ≤ 1023) : (besB b v).length ≤ 22 := by
  unfold besB
  split
  · simp
  · split
    · have := log2_le (v := v.natAbs - mostB b + 1) (n := 10) (by omega)
      rw [List.length_cons, gamB_length]; omega
    · simp
end Go.Proofs.YtmcdgmiheklbeaaGreatDoor

namespace Go.Proofs.YtmcdgmiheklbeaaGreatDoor
open Go

section
variable {P : Program} {ops : Array Oper} {md : Region.Mode} {l m : Nat} {Q : Exit → Act → World → Prop}
theorem wpAny_inRound (hd : plainB ops.toList = true) (hL : LetsOut Q → False) : ∀ (fuel : Nat) (listed : Array Bool) (a : Act) (w : World), wpAny P md ops Q fuel listed a w → wpAnyIn (Fence.wide.inRound l) m P md ops Q fuel listed a w
  | 0, _, _, _, h => h
  | fuel + 1, listed, a, w, h => ⟨h.1, fun i hi => by
    have hh := h.2 i hi
    unfold wpOp at hh
    unfold wpOpIn
    split
    · rename_i ho; simp only [ho] at hh; exact wpAny_inRound hd hL fuel _ _ _ hh
    · rename_i o ho
      simp only [ho] at hh
      have hm : o ∈ ops.toList := by simpa using Array.mem_of_getElem? ho
      split
      · rename_i hw
        simp only [hw, if_true] at hh
        rcases hh with hh | hh
        · exact wp_inRound (plainB_spec hd o hm) (Oper.wp_mono (fun a' w' h' => wpAny_inRound hd hL fuel _ _ _ h') hh)
        · exact (hL hh.2).elim
      · rename_i hw
        simp only [hw] at hh
        exact ⟨fun f _ => trivial, wpAny_inRound hd hL fuel _ _ _ hh⟩⟩
theorem wpIn_region_G {id : Nat} {a : Act} {w : World} (N : Nat) (S : World → Prop) (hm : P.follows .mixedOrders = true) (hd : plainB ops.toList = true) (hL : LetsOut Q → False) (hS : S w.drew)
    (h : S w.drew → wpAnyG P .any ops Q S N ops.size (Array.replicate ops.size false) a w.drew) : (Code.region id ops true).wpIn (Fence.wide.inRound l) m P Q a w :=
  wpIn_region_any hm (wpAny_inRound hd hL _ _ _ _ (wpAny_of_G _ _ _ _ (h hS)))
end
end Go.Proofs.YtmcdgmiheklbeaaGreatDoor

namespace Go.Proofs.YtmcdgmiheklbeaaGreatDoor
open Go.RowKit

def thereB (n : Int) : Bool := decide (0 ≤ n) && decide (n < 8)
theorem there_any (n : Int) (w : World) : Calls Tryz.prog 111 #[.int .i64 n] w fun e w' => e = .returned (.bool (thereB n)) ∧ w = w' := by
  by_cases h : 0 ≤ n
  · have h1 : decide (0 ≤ n) = true := decide_eq_true h
    have HB := Lib.hid (show thereB n = decide (n < 8) by unfold thereB; rw [h1]; rfl)
    clear h
    go_enter Tryz.func111, Tryz.ntmps111
    go_wp2
    go_ret
    exact ⟨ret_bool HB.out.symm, rfl⟩
  · have h1 : decide (0 ≤ n) = false := decide_eq_false h
    have HB := Lib.hid (show thereB n = false by unfold thereB; rw [h1]; rfl)
    clear h
    go_enter Tryz.func111, Tryz.ntmps111
    go_wp2
    go_ret
    exact ⟨ret_bool HB.out.symm, rfl⟩
theorem size_any (v : Int) (w : World) (hv : -1000000 ≤ v ∧ v ≤ 1000000) : Calls Tryz.prog 64 #[.int .i64 v] w fun e w' => e = .returned (.int .i64 (v.natAbs : Int)) ∧ w = w' := by
  have hw : IntKind.i64.wrap (-v) = -v := IntWalk.i64_in _ (by omega)
  go_enter Tryz.func64, Tryz.ntmps64
  go_wp2
  all_goals
    go_ret
    exact ⟨ret_int (by omega), rfl⟩
theorem size_same (v : Int) (w : World) (hv : -1000000 ≤ v ∧ v ≤ 1000000) : Calls Tryz.prog 64 #[.int .i64 v] w fun e w' => e = .returned (.int .i64 (v.natAbs : Int)) ∧ w' = w :=
  (size_any v w hv).mono fun _ _ ⟨h1, h2⟩ => ⟨h1, h2.symm⟩
theorem all_take_q (l : List Int) (p : Int → Bool) (k : Nat) (h : k < l.length) : (l.take (k + 1)).all p = ((l.take k).all p && p (nth 0 l k)) := by
  rw [take_succ_nth 0 l k h, List.all_append]; simp
theorem all_no_q {l : List Int} {p : Int → Bool} {k : Nat} (h : k < l.length) (hk : p (nth 0 l k) = false) : l.all p = false := by
  cases he : l.all p
  · rfl
  · have := List.all_eq_true.1 he _ (nth_mem 0 l k h)
    rw [hk] at this; cases this
def isQ (v : Int) : Bool := decide (-1023 ≤ v) && decide (v ≤ 1023)
theorem quantB_all (l : List Int) : quantB l = l.all isQ := rfl

set_option maxHeartbeats 1000000 in
theorem are_any (A : Option Addr) (c : Nat) (l : List Int) (w : World) (hS : RI w A c l) :
    Calls Tryz.prog 114 #[.slice A l.length c] w fun e w' => e = .returned (.bool (quantB l)) ∧ w = w' := by
  have hn := hS.len
  have HQ := Lib.hid (quantB_all l)
  go_enter Tryz.func114, Tryz.ntmps114
  go_wp2
  go_loopw [7] (fun iv wr => ∃ k : Nat, k ≤ l.length ∧ iv = .int .i64 (k : Int) ∧ w = wr ∧ Hid ((l.take k).all isQ = true)) (fun iv _ => l.length - (intOf iv).toNat)
  case atStart => exact ⟨0, Nat.zero_le _, rfl, rfl, Lib.hid rfl⟩
  case round =>
    obtain ⟨k, hk, rfl, rfl, hA⟩ := hrel
    by_cases hlt : k < l.length
    · obtain ⟨ad, rfl, hc⟩ := rd_int hS k hlt
      have hki : (k : Int) < (l.length : Int) := by omega
      have HN := Lib.hid (all_take_q l isQ k hlt)
      have HNO := Lib.hid (all_no_q (p := isQ) hlt)
      generalize nth 0 l k = x at hc HN HNO
      have hwk : IntKind.i64.wrap ((k : Int) + 1) = (k : Int) + 1 := IntWalk.i64_in _ (by omega)
      by_cases h1 : x < -1023
      · have HX := Lib.hid (show isQ x = false by simp [isQ]; omega)
        go_wp2
        go_ret
        exact ⟨ret_bool (by rw [HQ.out, HNO.out HX.out]), rfl⟩
      · have d1 : decide (x < -1023) = false := decide_eq_false h1
        by_cases h2 : 1023 < x
        · have HX := Lib.hid (show isQ x = false by simp [isQ]; omega)
          have d2 : decide (1023 < x) = true := decide_eq_true h2
          clear h1 h2
          go_wp2
          go_ret
          exact ⟨ret_bool (by rw [HQ.out, HNO.out HX.out]), rfl⟩
        · have HX := Lib.hid (show isQ x = true by simp [isQ]; omega)
          have d2 : decide (1023 < x) = false := decide_eq_false h2
          clear h1 h2
          go_wp2
          go_roundw
          case rel => exact ⟨k + 1, by omega, by go_num, trivial, Lib.hid (by rw [HN.out, hA.out, HX.out]; rfl)⟩
          case measure => simp [intOf]; omega
    · obtain rfl : k = l.length := by omega
      have HT := Lib.hid (show l.all isQ = true by have := hA.out; rwa [List.take_length] at this)
      go_wp2
      go_ret
      exact ⟨ret_bool (by rw [HQ.out, HT.out]), rfl⟩

theorem log2_at {v k : Nat} (h1 : 2 ^ k ≤ v) (h2 : v < 2 ^ (k + 1)) : Nat.log2 v = k := by
  have := Nat.two_pow_pos k
  exact (Nat.log2_eq_iff (by omega)).2 ⟨h1, h2⟩
theorem log2_half {v : Nat} (h : 2 ≤ v) : Nat.log2 v = Nat.log2 (v / 2) + 1 := by
  rw [Nat.log2_def, if_pos h]
theorem log2_one {v : Nat} (h : v < 2) : Nat.log2 v = 0 := by
  rw [Nat.log2_def, if_neg (by omega)]

set_option maxHeartbeats 1000000 in
theorem gamma_any (v : Nat) (w : World) (hv : v ≤ 1000000) :
    Calls Tryz.prog 131 #[.int .i64 (v : Int)] w fun e w' => e = .returned (.int .i64 ((2 * Nat.log2 v + 1 : Nat) : Int)) ∧ w = w' := by
  go_enter Tryz.func131, Tryz.ntmps131
  go_wp2
  go_loopw [0, 3] (fun xv nv wr => ∃ x n : Nat, x ≤ v ∧ n + 2 * Nat.log2 x = 2 * Nat.log2 v + 1 ∧ n ≤ 100 ∧ xv = .int .i64 (x : Int) ∧ nv = .int .i64 (n : Int) ∧ w = wr) (fun xv _ _ => (intOf xv).toNat)
  case atStart => exact ⟨v, 1, Nat.le_refl _, by omega, by omega, rfl, rfl, rfl⟩
  case round =>
    obtain ⟨x, n, hx, hs, hn, rfl, rfl, rfl⟩ := hrel
    have hb := log2_le (v := v) (n := 20) (by omega)
    by_cases h : 1 < x
    · have HL := Lib.hid (log2_half (v := x) (by omega))
      have hwn : IntKind.i64.wrap ((n : Int) + 2) = (n : Int) + 2 := IntWalk.i64_in _ (by omega)
      have hq : (x : Int).tdiv 2 = ((x / 2 : Nat) : Int) := by rw [Int.tdiv_eq_ediv_of_nonneg (by omega)]; omega
      have hwq : IntKind.i64.wrap ((x / 2 : Nat) : Int) = ((x / 2 : Nat) : Int) := IntWalk.i64_in _ (by omega)
      have hx1 : (1 : Int) < (x : Int) := by omega
      go_wp2
      go_roundw
      case rel => exact ⟨x / 2, n + 2, by omega, by have := HL.out; omega, by have := HL.out; omega, by go_num, by go_num, trivial⟩
      case measure => simp [intOf]; omega
    · have HL := Lib.hid (log2_one (v := x) (by omega))
      have hx1 : ¬ (1 : Int) < (x : Int) := by omega
      go_wp2
      go_ret
      exact ⟨ret_int (by have := HL.out; omega), rfl⟩
end Go.Proofs.YtmcdgmiheklbeaaGreatDoor

namespace Go.Proofs.YtmcdgmiheklbeaaGreatDoor
open Go.RowKit

/-- The forms at rest. -/
structure GF (w : World) : Prop where
  dim : ∀ b, b < 8 → w.cell? ⟨0, b * 3, none⟩ = some (.int .i64 (dimB b))
  most : ∀ b, b < 8 → w.cell? ⟨0, b * 3 + 1, none⟩ = some (.int .i64 (mostB b))
  esc : ∀ b, b < 8 → w.cell? ⟨0, b * 3 + 2, none⟩ = some (.bool (escB b))
theorem GF.below {w w' : World} (h : GF w) (hb : Below w.heap.size w w') : GF w' :=
  ⟨fun b h8 => cell_below hb (h.dim b h8), fun b h8 => cell_below hb (h.most b h8), fun b h8 => cell_below hb (h.esc b h8)⟩
set_option maxHeartbeats 1000000 in
theorem checked17_any (A : Option Addr) (c : Nat) (n : Int) (l : List Int) (w : World) (hS : RI w A c l) :
    Calls Tryz.prog 82 #[.int .i64 n, .slice A l.length c] w fun e w' => e = .returned (.int .i64 (checkedK n l)) ∧ w = w' := by
  by_cases h : n < 0 ∨ 8 ≤ n
  · have hT : thereB n = false := by simp [thereB]; omega
    have HT := Lib.hid (there_any n w)
    rw [hT] at HT
    have HX := Lib.hid (show checkedK n l = 5 by unfold checkedK; rw [if_pos h])
    clear h hT
    go_enter Tryz.func82, Tryz.ntmps82
    go_wp2_with (go_at_call 111; refine HT.out.mono ?_; rintro e w2 ⟨rfl, rfl⟩)
    go_ret
    exact ⟨ret_int HX.out.symm, rfl⟩
  · have hT : thereB n = true := by simp [thereB]; omega
    have HT := Lib.hid (there_any n w)
    rw [hT] at HT
    have HA := Lib.hid (are_any A c l w hS)
    have hx : checkedK n l = if quantB l = false then 6 else 0 := by unfold checkedK; rw [if_neg h]
    clear h hT
    cases hq : quantB l
    · rw [hq] at HA hx
      have HX := Lib.hid hx
      go_enter Tryz.func82, Tryz.ntmps82
      go_wp2_with (first | (go_at_call 111; refine HT.out.mono ?_; rintro e w2 ⟨rfl, rfl⟩) | (go_at_call 114; refine HA.out.mono ?_; rintro e w3 ⟨rfl, rfl⟩))
      go_ret
      exact ⟨ret_int (by rw [HX.out]; rfl), rfl⟩
    · rw [hq] at HA hx
      have HX := Lib.hid hx
      go_enter Tryz.func82, Tryz.ntmps82
      go_wp2_with (first | (go_at_call 111; refine HT.out.mono ?_; rintro e w2 ⟨rfl, rfl⟩) | (go_at_call 114; refine HA.out.mono ?_; rintro e w3 ⟨rfl, rfl⟩))
      go_ret
      exact ⟨ret_int (by rw [HX.out]; rfl), rfl⟩

/-- A form as a value, and as cells. -/
abbrev formC (b : Nat) : Array Value := #[.int .i64 (dimB b), .int .i64 (mostB b), .bool (escB b)]
theorem quantB_nth {l : List Int} (h : quantB l = true) (k : Nat) : -1023 ≤ nth 0 l k ∧ nth 0 l k ≤ 1023 :=
  nth_bound (fun x hx => by have := List.all_eq_true.1 h x hx; simpa using this) (by decide) k
set_option maxHeartbeats 2000000 in
set_option maxRecDepth 100000 in
theorem fits_any (A : Option Addr) (c b : Nat) (l : List Int) (w : World) (hS : RI w A c l) (hq : quantB l = true) :
    Calls Tryz.prog 83 #[.agg (formC b), .slice A l.length c] w fun e w' => e = .returned (.bool (fitB b l)) ∧ Below w.heap.size w w' := by
  have hn := hS.len
  have hd := dimB_pos b
  have hm := mostB_le b
  have HQ := Lib.hid (quantB_nth hq)
  obtain ⟨R, hR⟩ : ∃ R, l.length % dimB b = R := ⟨_, rfl⟩
  have HF := Lib.hid (show fitB b l = (l.all (inB b) && decide (R = 0)) by rw [← hR]; rfl)
  have HI := Lib.hid (show ∀ v, inB b v = (decide (v.natAbs ≤ mostB b) || escB b) from fun _ => rfl)
  have hrem : IntKind.i64.wrap ((l.length : Int).tmod (dimB b : Int)) = (R : Int) := by
    rw [Int.tmod_eq_emod_of_nonneg (by omega)]
    have h2 : l.length % dimB b < dimB b := Nat.mod_lt _ (by omega)
    rw [← Int.natCast_emod, hR]
    exact IntWalk.i64_in _ (by omega)
  have HR := Lib.hid (show (((l.length : Int) % (dimB b : Int)) == 0) = decide (R = 0) by rw [← Int.natCast_emod, hR]; exact Bool.eq_iff_iff.2 (by rw [beq_iff_eq, decide_eq_true_iff]; omega))
  have hd0 : ((dimB b : Int) == 0) = false := by simp; omega
  have hba := below_alloc (Below.refl w.heap.size w) (.cells (formC b) 113)
  unfold formC at hba ⊢
  generalize hD : dimB b = D at *
  generalize hM : mostB b = M at *
  generalize hE : escB b = E at *
  clear hq hD hM hE hR
  have HS := Lib.hid hS
  obtain ⟨g, hg⟩ : ∃ g, w.heap.size = g := ⟨_, rfl⟩
  have hB0 : Blk (w.alloc (.cells (#[.int .i64 (D : Int), .int .i64 (M : Int), .bool E]) 113)) g #[.int .i64 (D : Int), .int .i64 (M : Int), .bool E] 113 := by rw [← hg]; exact heap_alloc_new w _
  go_enter Tryz.func83, Tryz.ntmps83
  go_wp2
  go_loopw [9] (fun iv wr => ∃ k : Nat, k ≤ l.length ∧ iv = .int .i64 (k : Int) ∧ Hid (Below w.heap.size w wr) ∧ Blk wr g #[.int .i64 (D : Int), .int .i64 (M : Int), .bool E] 113 ∧ Hid ((l.take k).all (inB b) = true)) (fun iv _ => l.length - (intOf iv).toNat)
  case atStart => exact ⟨0, Nat.zero_le _, rfl, Lib.hid hba, hB0, Lib.hid rfl⟩
  case round =>
    clear hba hB0
    obtain ⟨k, hk, rfl, hB, hK, hA⟩ := hrel
    have k0 := hK.cell 0 rfl
    have k1 := hK.cell 1 rfl
    have k2 := hK.cell 2 rfl
    by_cases hlt : k < l.length
    · obtain ⟨ad, rfl, hc⟩ := rd_int (HS.out.below hB.out) k hlt
      have hki : (k : Int) < (l.length : Int) := by omega
      have HN := Lib.hid (all_take_q l (inB b) k hlt)
      have HNO := Lib.hid (all_no_q (p := inB b) hlt)
      have HX := Lib.hid (HI.out (nth 0 l k))
      have HZ := Lib.hid (HQ.out k)
      generalize nth 0 l k = x at hc HN HNO HX HZ
      have hwk : IntKind.i64.wrap ((k : Int) + 1) = (k : Int) + 1 := IntWalk.i64_in _ (by omega)
      have HC := Lib.hid (fun W => size_same x W (by have := HZ.out; omega))
      obtain ⟨z, hz⟩ : ∃ z, x.natAbs = z := ⟨_, rfl⟩
      rw [hz] at HC HX
      by_cases h1 : M < z
      · have h1i : (M : Int) < (z : Int) := by omega
        have HX2 := Lib.hid (show inB b x = E by rw [HX.out, decide_eq_false (by omega)]; rfl)
        clear h1
        cases E
        · go_wp2
          go_quiet ((go_at_call 64; exact Calls.quiet_of_same (HC.out _)))
          go_wp2
          go_ret
          exact ⟨ret_bool (by rw [HF.out, HNO.out HX2.out]; rfl), below_drewN hB.out _⟩
        · go_wp2
          go_quiet ((go_at_call 64; exact Calls.quiet_of_same (HC.out _)))
          go_wp2
          go_roundw
          case rel => exact ⟨k + 1, by omega, by go_num, Lib.hid (below_drewN hB.out _), hK, Lib.hid (by rw [HN.out, hA.out, HX2.out]; rfl)⟩
          case measure => simp [intOf]; omega
      · have h1i : ¬ (M : Int) < (z : Int) := by omega
        have d1 : decide (M < z) = false := decide_eq_false h1
        have HX2 := Lib.hid (show inB b x = true by rw [HX.out, decide_eq_true (by omega)]; rfl)
        clear h1
        go_wp2
        go_quiet ((go_at_call 64; exact Calls.quiet_of_same (HC.out _)))
        go_wp2
        go_roundw
        case rel => exact ⟨k + 1, by omega, by go_num, Lib.hid (below_drewN hB.out _), hK, Lib.hid (by rw [HN.out, hA.out, HX2.out]; rfl)⟩
        case measure => simp [intOf]; omega
    · obtain rfl : k = l.length := by omega
      have HT := Lib.hid (show l.all (inB b) = true by have := hA.out; rwa [List.take_length] at this)
      go_wp2
      go_ret
      exact ⟨ret_bool (by rw [HF.out, HT.out, HR.out]; rfl), hB.out⟩
end Go.Proofs.YtmcdgmiheklbeaaGreatDoor

namespace Go.Proofs.YtmcdgmiheklbeaaGreatDoor
open Go.RowKit

def fitsV (n : Int) (l : List Int) : Bool := if checkedK n l ≠ 0 then false else fitB n.toNat l
theorem checkedK_ok {n : Int} {l : List Int} (h : checkedK n l = 0) : ∃ b : Nat, n = (b : Int) ∧ b < 8 ∧ quantB l = true := by
  unfold checkedK at h
  split at h
  · cases h
  · split at h
    · cases h
    · exact ⟨n.toNat, by omega, by omega, by simpa using ‹¬ quantB l = false›⟩

set_option maxHeartbeats 1000000 in
theorem bfits_any (A : Option Addr) (c : Nat) (n : Int) (l : List Int) (w : World) (hS : RI w A c l) (hG : GF w) :
    Calls Tryz.prog 53 #[.int .i64 n, .slice A l.length c] w fun e w' => e = .returned (.tuple #[.bool (fitsV n l), .int .i64 (checkedK n l)]) ∧ Below w.heap.size w w' := by
  have HC := Lib.hid (checked17_any A c n l w hS)
  by_cases h : checkedK n l = 0
  · obtain ⟨b, rfl, h8, hq⟩ := checkedK_ok h
    have HV := Lib.hid (show fitsV (b : Int) l = fitB b l by unfold fitsV; rw [if_neg (by simp [h])]; rfl)
    rw [h] at HC ⊢
    have c0 := hG.dim b h8
    have c1 := hG.most b h8
    have c2 := hG.esc b h8
    have hb8 : (b : Int) < 8 := by omega
    have HF := Lib.hid (fun W (hW : RI W A c l) => fits_any A c b l W hW hq)
    have HS := Lib.hid hS
    clear h hq hS hG
    go_enter Tryz.func53, Tryz.ntmps53
    go_wp2_with (first | (go_at_call 82; refine HC.out.mono ?_; rintro e w2 ⟨rfl, rfl⟩) | (go_at_call 83; refine (HF.out _ HS.out).mono ?_; rintro e w3 ⟨rfl, b3⟩))
    go_ret2
    exact ⟨by rw [HV.out]; rfl, b3⟩
  · have HV := Lib.hid (show fitsV n l = false by unfold fitsV; rw [if_pos h])
    have hne : (checkedK n l == 0) = false := by simp [h]
    generalize checkedK n l = E at *
    clear h
    go_enter Tryz.func53, Tryz.ntmps53
    go_wp2_with (first | (go_at_call 82; refine HC.out.mono ?_; rintro e w2 ⟨rfl, rfl⟩))
    go_ret2
    exact ⟨by rw [HV.out]; rfl, Below.refl _ _⟩

/-- The symbol of digits. -/
def symD (m : Nat) (ds : List Int) : Nat := ds.foldl (fun s d => s * (m + 1) + d.toNat) 0
theorem symD_take (m : Nat) (ds : List Int) (k : Nat) (h : k < ds.length) : symD m (ds.take (k + 1)) = symD m (ds.take k) * (m + 1) + (nth 0 ds k).toNat := by
  rw [take_succ_nth 0 ds k h]; simp [symD]
theorem symD_from (m : Nat) : ∀ (ds : List Int) (s : Nat), (∀ d ∈ ds, 0 ≤ d ∧ d ≤ m) → ds.foldl (fun s d => s * (m + 1) + d.toNat) s + 1 ≤ (s + 1) * (m + 1) ^ ds.length
  | [], s, _ => by simp
  | d :: ds, s, h => by
    have h1 := h d List.mem_cons_self
    have ih := symD_from m ds (s * (m + 1) + d.toNat) (fun x hx => h x (List.mem_cons_of_mem _ hx))
    have h2 : s * (m + 1) + d.toNat + 1 ≤ (s + 1) * (m + 1) := by rw [Nat.add_mul, Nat.one_mul]; omega
    have h3 := Nat.mul_le_mul_right ((m + 1) ^ ds.length) h2
    rw [List.foldl_cons, List.length_cons, Nat.pow_succ, Nat.mul_comm ((m + 1) ^ ds.length), ← Nat.mul_assoc]
    omega
theorem symD_lt {m : Nat} {ds : List Int} (h : ∀ d ∈ ds, 0 ≤ d ∧ d ≤ m) : symD m ds < (m + 1) ^ ds.length := by
  have := symD_from m ds 0 h
  unfold symD
  omega
theorem symD_bd {m : Nat} {ds : List Int} (h : ∀ d ∈ ds, 0 ≤ d ∧ d ≤ m) (hm : m ≤ 31) (hl : ds.length ≤ 4) (k : Nat) : symD m (ds.take k) ≤ 1048576 := by
  have h1 := symD_lt (m := m) (ds := ds.take k) (fun d hd => h d (List.mem_of_mem_take hd))
  have h2 : (m + 1) ^ (ds.take k).length ≤ 32 ^ (ds.take k).length := Nat.pow_le_pow_left (by omega) _
  have h3 : 32 ^ (ds.take k).length ≤ 32 ^ 4 := Nat.pow_le_pow_right (by decide) (by rw [List.length_take]; omega)
  have h4 : 32 ^ 4 = 1048576 := by decide
  omega

set_option maxHeartbeats 1000000 in
theorem symbol_any (A : Option Addr) (c b : Nat) (ds : List Int) (w : World) (hS : RI w A c ds) (hd : ∀ d ∈ ds, 0 ≤ d ∧ d ≤ (mostB b : Int)) (hl : ds.length ≤ 4) :
    Calls Tryz.prog 93 #[.agg (formC b), .slice A ds.length c] w fun e w' => e = .returned (.int .i64 (symD (mostB b) ds)) ∧ Below w.heap.size w w' := by
  have hn := hS.len
  have hm := mostB_le b
  have HB := Lib.hid (symD_bd hd hm hl)
  have HT := Lib.hid (symD_take (mostB b) ds)
  have HX := Lib.hid (fun k => nth_bound hd (by omega) k)
  have hba := below_alloc (Below.refl w.heap.size w) (.cells (formC b) 113)
  unfold formC at hba ⊢
  generalize hD : dimB b = D at *
  generalize hM : mostB b = M at *
  generalize hE : escB b = E at *
  have HS := Lib.hid hS
  obtain ⟨g, hg⟩ : ∃ g, w.heap.size = g := ⟨_, rfl⟩
  have hB0 : Blk (w.alloc (.cells (#[.int .i64 (D : Int), .int .i64 (M : Int), .bool E]) 113)) g #[.int .i64 (D : Int), .int .i64 (M : Int), .bool E] 113 := by rw [← hg]; exact heap_alloc_new w _
  clear hD hM hE hd
  go_enter Tryz.func93, Tryz.ntmps93
  go_wp2
  go_loopw [5, 10] (fun sv iv wr => ∃ k : Nat, k ≤ ds.length ∧ iv = .int .i64 (k : Int) ∧ sv = .int .i64 (symD M (ds.take k) : Nat) ∧ Hid (Below w.heap.size w wr) ∧ Blk wr g #[.int .i64 (D : Int), .int .i64 (M : Int), .bool E] 113) (fun _ iv _ => ds.length - (intOf iv).toNat)
  case atStart => exact ⟨0, Nat.zero_le _, rfl, rfl, Lib.hid hba, hB0⟩
  case round =>
    clear hba hB0
    obtain ⟨k, hk, rfl, rfl, hB, hK⟩ := hrel
    have k1 := hK.cell 1 rfl
    by_cases hlt : k < ds.length
    · obtain ⟨ad, rfl, hc⟩ := rd_int (HS.out.below hB.out) k hlt
      have hki : (k : Int) < (ds.length : Int) := by omega
      have HN := Lib.hid (HT.out k hlt)
      have hx := HX.out k
      have hb1 := HB.out k
      generalize nth 0 ds k = x at hc HN hx
      generalize symD M (ds.take k) = s at HN hb1
      obtain ⟨y, rfl⟩ : ∃ y : Nat, x = (y : Int) := ⟨x.toNat, by omega⟩
      have hwk : IntKind.i64.wrap ((k : Int) + 1) = (k : Int) + 1 := IntWalk.i64_in _ (by omega)
      have hw1 : IntKind.i64.wrap ((M : Int) + 1) = (M : Int) + 1 := IntWalk.i64_in _ (by omega)
      obtain ⟨q, hq⟩ : ∃ q, s * (M + 1) = q := ⟨_, rfl⟩
      have hqi : (s : Int) * ((M : Int) + 1) = (q : Int) := by rw [← hq]; simp
      have hqb : q ≤ 1048576 * 32 := by rw [← hq]; exact Nat.mul_le_mul hb1 (by omega)
      have hw2 : IntKind.i64.wrap ((s : Int) * ((M : Int) + 1)) = (q : Int) := by rw [hqi]; exact IntWalk.i64_in _ (by omega)
      have hw3 : IntKind.i64.wrap ((q : Int) + (y : Int)) = (q : Int) + (y : Int) := IntWalk.i64_in _ (by omega)
      have HQ := Lib.hid hq
      clear hq hqi
      go_wp2
      go_roundw
      case rel => exact ⟨k + 1, by omega, by go_num, by rw [HN.out, HQ.out]; simp, hB, hK⟩
      case measure => simp [intOf]; omega
    · obtain rfl : k = ds.length := by omega
      go_wp2
      go_ret
      exact ⟨ret_int (by rw [List.take_length]), hB.out⟩
end Go.Proofs.YtmcdgmiheklbeaaGreatDoor
