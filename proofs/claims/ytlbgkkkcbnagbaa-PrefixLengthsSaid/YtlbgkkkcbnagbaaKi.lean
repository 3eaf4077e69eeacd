/- The reference's Ints: what it returns. · Plain laws of a stable sort: sorted lists, lists of the same elements in the same order among equals. No program is named. · Rows of items: what a row holds, two items that change places, how two items compare, and the insertion sort. · The insertion sort of items. · swapRange and rotate of items. · rotate of items. · symMerge of items: where one of the two lists is one item. · symMerge of items: where the second list is one item. · symMerge of items. Printed by wip/tools/genSym.py. · The stable sort of items. · Plain laws: the stable sort as a function; what lies beside a list is sorted with it. No program is named. · append of a row of elements of any kind to a row of the call's own. -/
import Derived.Test.YtlbgkkkcbnagbaaKh
import Derived.Test.YtlbgkkkcbnagbaaKa
import Derived.Test.YtlbgkkkcbnagbaaKf
import Derived.Test.YtlbgkkkcbnagbaaKe
import Derived.StillTailTactics
import Derived.BigRegion
namespace Go.Proofs.Ytlbgkkkcbnagbaa
open Go.RowKit

set_option maxHeartbeats 1000000 in
set_option maxRecDepth 100000 in
theorem ints_ref (A B : Option Addr) (c d : Nat) (a b : List Int) (w : World) (hS : RI w A c a) (hT : RI w B d b) :
    Calls Try.prog 21 #[.slice A a.length c, .slice B b.length d] w fun e w' => e = .returned (.bool (sameL a b)) ∧ Below w.heap.size w w' := by
  have hn := hS.len
  have hm := hT.len
  by_cases hl : a.length = b.length
  · have hb : ((a.length : Int) != (b.length : Int)) = false := by simp [hl]
    have HL := Lib.hid hl
    clear hl
    go_enter Try.func21, Try.ntmps21
    go_wp2
    go_loopw [13] (fun i wr => ∃ k : Nat, k ≤ a.length ∧ i = .int .i64 k ∧ Hid (∀ j, j < k → nth 0 a j = nth 0 b j) ∧ Below w.heap.size w wr) (fun i _ => a.length - (intOf i).toNat)
    case atStart => exact ⟨0, Nat.zero_le _, rfl, fun j hj => absurd hj (by omega), Below.refl _ _⟩
    case round =>
      obtain ⟨k, hk, rfl, hne, hB⟩ := hrel
      by_cases hlt : k < a.length
      · have hkb : k < b.length := by rw [← HL.out]; exact hlt
        obtain ⟨ad, rfl, hc⟩ := rd_int (hS.below hB) k hlt
        obtain ⟨ad', rfl, hc'⟩ := rd_int (hT.below hB) k hkb
        have hk0 : (0 : Int) ≤ (k : Int) := by omega
        have hka : (k : Int) < (a.length : Int) := by omega
        have hkb' : (k : Int) < (b.length : Int) := by omega
        by_cases hx : nth 0 a k = nth 0 b k
        · have hxb : (nth 0 a k != nth 0 b k) = false := by simp [hx]
          have hne' : Hid (∀ j, j < k + 1 → nth 0 a j = nth 0 b j) := fun j hj => by
            rcases Nat.lt_or_ge j k with h | h
            · exact hne.out j h
            · obtain rfl : j = k := by omega
              exact hx
          clear hx
          go_wp2
          go_quiet (fail)
          go_wp2
          go_roundw
          case rel => exact ⟨k + 1, by omega, by go_num, hne', below_drewN hB _⟩
          case measure => simp [intOf]; omega
        · have hxb : (nth 0 a k != nth 0 b k) = true := by simp [hx]
          have HN := Lib.hid (show sameL a b = false from decide_eq_false fun e => hx (by rw [e]))
          clear hx
          go_wp2
          go_quiet (fail)
          go_wp2
          go_ret
          exact ⟨ret_bool HN.out.symm, below_drewN hB _⟩
      · obtain rfl : k = a.length := by omega
        have HN := Lib.hid (same_end HL.out hne.out)
        go_wp2
        go_ret
        exact ⟨ret_bool HN.out.symm, hB⟩
  · have hb : ((a.length : Int) != (b.length : Int)) = true := by simp; omega
    have HN := Lib.hid (show sameL a b = false from decide_eq_false fun e => hl (by rw [e]))
    clear hl
    go_enter Try.func21, Try.ntmps21
    go_wp2
    go_ret
    exact ⟨ret_bool HN.out.symm, Below.refl _ _⟩
end Go.Proofs.Ytlbgkkkcbnagbaa

namespace Go.Proofs.Ytlbgkkkcbnagbaa

section
variable {α : Type} (f : α → Int)
/-- No element is heavier than a later one. -/
def SortedF (l : List α) : Prop := l.Pairwise fun x y => f x ≤ f y
/-- The same elements, equal ones in the same order. -/
def Same (l m : List α) : Prop := ∀ v : Int, l.filter (fun x => f x == v) = m.filter (fun x => f x == v)
end
section
variable {α : Type} {f : α → Int} {l m k : List α}
theorem Same.refl (l : List α) : Same f l l := fun _ => rfl
theorem Same.trans (h : Same f l m) (h2 : Same f m k) : Same f l k := fun v => (h v).trans (h2 v)
theorem Same.symm (h : Same f l m) : Same f m l := fun v => (h v).symm
theorem Same.append {l' m' : List α} (h : Same f l m) (h2 : Same f l' m') : Same f (l ++ l') (m ++ m') := fun v => by
  rw [List.filter_append, List.filter_append, h v, h2 v]
theorem Same.mem (h : Same f l m) (x : α) : x ∈ l ↔ x ∈ m := by
  have e := h (f x)
  constructor
  · intro hx
    have : x ∈ l.filter (fun y => f y == f x) := List.mem_filter.2 ⟨hx, by simp⟩
    rw [e] at this
    exact (List.mem_filter.1 this).1
  · intro hx
    have : x ∈ m.filter (fun y => f y == f x) := List.mem_filter.2 ⟨hx, by simp⟩
    rw [← e] at this
    exact (List.mem_filter.1 this).1
theorem filt_none {v : Int} (h : ∀ x ∈ l, f x ≠ v) : l.filter (fun x => f x == v) = [] := by
  rw [List.filter_eq_nil_iff]
  intro x hx
  have := h x hx
  simpa using this
/-- Lighter ones may go ahead. -/
theorem Same.swap (h : ∀ x ∈ l, ∀ y ∈ m, f y < f x) : Same f (m ++ l) (l ++ m) := fun v => by
  rw [List.filter_append, List.filter_append]
  by_cases hx : ∃ x ∈ l, f x = v
  · obtain ⟨x, hx, rfl⟩ := hx
    rw [filt_none (l := m) fun y hy e => by have := h x hx y hy; omega]
    simp
  · rw [filt_none (l := l) fun x hx' e => hx ⟨x, hx', e⟩]
    simp
theorem SortedF.append (h1 : SortedF f l) (h2 : SortedF f m) (h : ∀ x ∈ l, ∀ y ∈ m, f x ≤ f y) : SortedF f (l ++ m) := List.pairwise_append.2 ⟨h1, h2, h⟩
theorem SortedF.left (h : SortedF f (l ++ m)) : SortedF f l := (List.pairwise_append.1 h).1
theorem SortedF.right (h : SortedF f (l ++ m)) : SortedF f m := (List.pairwise_append.1 h).2.1
theorem SortedF.cross (h : SortedF f (l ++ m)) : ∀ x ∈ l, ∀ y ∈ m, f x ≤ f y := (List.pairwise_append.1 h).2.2
theorem SortedF.one (x : α) : SortedF f [x] := List.pairwise_singleton _ _
theorem SortedF.nil : SortedF f ([] : List α) := List.Pairwise.nil
/-- Sorted lists of the same elements, equal ones in the same order, are one. -/
theorem sorted_uniq : ∀ {l m : List α}, SortedF f l → SortedF f m → Same f l m → l = m
  | [], m, _, _, h => by
    cases m with
    | nil => rfl
    | cons y m => exact absurd ((h.mem y).2 (List.mem_cons_self ..)) (by simp)
  | x :: l, [], _, _, h => absurd ((h.mem x).1 (List.mem_cons_self ..)) (by simp)
  | x :: l, y :: m, h1, h2, h => by
    have hx : ∀ z ∈ x :: l, f x ≤ f z := fun z hz => by
      rcases List.mem_cons.1 hz with rfl | hz
      · exact Int.le_refl _
      · exact (List.pairwise_cons.1 h1).1 z hz
    have hy : ∀ z ∈ y :: m, f y ≤ f z := fun z hz => by
      rcases List.mem_cons.1 hz with rfl | hz
      · exact Int.le_refl _
      · exact (List.pairwise_cons.1 h2).1 z hz
    have e1 := hx y ((h.mem y).2 (List.mem_cons_self ..))
    have e2 := hy x ((h.mem x).1 (List.mem_cons_self ..))
    have e : f x = f y := by omega
    have hh := h (f x)
    rw [List.filter_cons_of_pos (by simp), List.filter_cons_of_pos (by simp [e])] at hh
    injection hh with hh1 hh2
    subst hh1
    have ht : Same f l m := fun v => by
      by_cases hv : f x = v
      · subst hv; exact hh2
      · have := h v
        rwa [List.filter_cons_of_neg (by simpa using hv), List.filter_cons_of_neg (by simpa using hv)] at this
    rw [sorted_uniq (List.pairwise_cons.1 h1).2 (List.pairwise_cons.1 h2).2 ht]
/-- One that is lighter than all behind it, and not lighter than those ahead, put into its place. -/
theorem sorted_ins {A B : List α} {x : α} (h : SortedF f (A ++ B)) (h1 : ∀ y ∈ A, f y ≤ f x) (h2 : ∀ y ∈ B, f x < f y) : SortedF f (A ++ x :: B) ∧ Same f (A ++ x :: B) (A ++ B ++ [x]) := by
  refine ⟨SortedF.append h.left (List.pairwise_cons.2 ⟨fun y hy => Int.le_of_lt (h2 y hy), h.right⟩) fun y hy z hz => ?_, ?_⟩
  · rcases List.mem_cons.1 hz with rfl | hz
    · exact h1 y hy
    · exact h.cross y hy z hz
  · rw [List.append_assoc]
    refine (Same.refl A).append ?_
    exact Same.swap (l := B) (m := [x]) fun y hy z hz => by rw [List.mem_singleton.1 hz]; exact h2 y hy
/-- Two merged halves. -/
theorem sorted_halves {X1 X2 Y1 Y2 Z1 Z2 : List α} (hX : SortedF f (X1 ++ X2)) (hY : SortedF f (Y1 ++ Y2)) (hxy : ∀ x ∈ X1, ∀ y ∈ Y2, f x ≤ f y) (hyx : ∀ y ∈ Y1, ∀ x ∈ X2, f y < f x)
    (hZ1 : SortedF f Z1) (hZ2 : SortedF f Z2) (s1 : Same f Z1 (X1 ++ Y1)) (s2 : Same f Z2 (X2 ++ Y2)) : SortedF f (Z1 ++ Z2) ∧ Same f (Z1 ++ Z2) (X1 ++ X2 ++ (Y1 ++ Y2)) := by
  refine ⟨hZ1.append hZ2 fun x hx y hy => ?_, ?_⟩
  · have hx := (s1.mem x).1 hx
    have hy := (s2.mem y).1 hy
    rcases List.mem_append.1 hx with hx | hx <;> rcases List.mem_append.1 hy with hy | hy
    · exact hX.cross x hx y hy
    · exact hxy x hx y hy
    · exact Int.le_of_lt (hyx x hx y hy)
    · exact hY.cross x hx y hy
  · refine (s1.append s2).trans ?_
    have e1 : X1 ++ Y1 ++ (X2 ++ Y2) = X1 ++ ((Y1 ++ X2) ++ Y2) := by simp [List.append_assoc]
    have e2 : X1 ++ X2 ++ (Y1 ++ Y2) = X1 ++ ((X2 ++ Y1) ++ Y2) := by simp [List.append_assoc]
    rw [e1, e2]
    exact (Same.refl X1).append ((Same.swap fun x hx y hy => hyx y hy x hx).append (Same.refl Y2))
end

/-! ### Two elements change places -/
section
variable {α : Type} {d : α}
def swp (d : α) (L : List α) (i j : Nat) : List α := (L.set i (nth d L j)).set j (nth d L i)
theorem swp_length (L : List α) (i j : Nat) : (swp d L i j).length = L.length := by simp [swp]
theorem nth_mid (A : List α) (x : α) (B : List α) : nth d (A ++ x :: B) A.length = x := by
  rw [nth_append_right _ _ _ _ (Nat.le_refl _), Nat.sub_self]; rfl
theorem set_mid (A : List α) (x y : α) (B : List α) : (A ++ x :: B).set A.length y = A ++ y :: B := by
  rw [List.set_append_right _ _ (Nat.le_refl _), Nat.sub_self]; rfl
theorem swp_two (A : List α) (x : α) (B : List α) (y : α) (C : List α) (i j : Nat) (hi : i = A.length) (hj : j = A.length + 1 + B.length) : swp d (A ++ x :: (B ++ y :: C)) i j = A ++ y :: (B ++ x :: C) := by
  subst hi hj
  have e1 : nth d (A ++ x :: (B ++ y :: C)) (A.length + 1 + B.length) = y := by
    have := nth_mid (d := d) (A ++ x :: B) y C
    rw [List.length_append, List.length_cons, show A.length + (B.length + 1) = A.length + 1 + B.length by omega] at this
    simpa [List.append_assoc] using this
  unfold swp
  rw [e1, nth_mid, set_mid]
  have := set_mid (A ++ y :: B) y x C
  rw [List.length_append, List.length_cons, show A.length + (B.length + 1) = A.length + 1 + B.length by omega] at this
  simpa [List.append_assoc] using this
theorem swp_comm (L : List α) (i j : Nat) (h : i ≠ j) : swp d L i j = swp d L j i := by
  unfold swp
  exact List.set_comm _ _ h
/-- Neighbours. -/
theorem swp_next (A : List α) (x y : α) (C : List α) (i : Nat) (hi : i = A.length) : swp d (A ++ x :: y :: C) i (i + 1) = A ++ y :: x :: C := by
  have := swp_two (d := d) A x [] y C i (i + 1) hi (by subst hi; simp)
  simpa using this
theorem nth_at (A : List α) (x : α) (B : List α) (i : Nat) (hi : i = A.length) : nth d (A ++ x :: B) i = x := by subst hi; exact nth_mid A x B
theorem split_at (l : List α) (k : Nat) (h : k < l.length) : l = l.take k ++ nth d l k :: l.drop (k + 1) := by
  conv => lhs; rw [← List.take_append_drop k l]
  rw [drop_nth d l k h]
end
end Go.Proofs.Ytlbgkkkcbnagbaa

namespace Go.Proofs.Ytlbgkkkcbnagbaa
open Go.RowKit Go.Shelf

/-- An item as it lies: its weight, and the slice of its coins. -/
abbrev ItV := Int × Option Addr × Nat × Nat
def dV : ItV := (0, none, 0, 0)
def flatV (xs : List ItV) : List Value := xs.flatMap fun p => [.int .i64 p.1, .slice p.2.1 p.2.2.1 p.2.2.2]
theorem flatV_length (xs : List ItV) : (flatV xs).length = xs.length * 2 := by
  induction xs with
  | nil => rfl
  | cons x xs ih => simp only [flatV, List.flatMap_cons, List.length_append, List.length_cons, List.length_nil] at ih ⊢; omega
theorem flatV_append (xs ys : List ItV) : flatV (xs ++ ys) = flatV xs ++ flatV ys := by simp [flatV]
theorem flatV_get (xs : List ItV) (j : Nat) (h : j < xs.length) : (flatV xs)[j * 2]? = some (.int .i64 (nth dV xs j).1) ∧ (flatV xs)[j * 2 + 1]? = some (.slice (nth dV xs j).2.1 (nth dV xs j).2.2.1 (nth dV xs j).2.2.2) := by
  induction xs generalizing j with
  | nil => cases h
  | cons x xs ih =>
    cases j with
    | zero => simp [flatV, nth]
    | succ j =>
      have := ih j (by simpa using h)
      have e : (j + 1) * 2 = j * 2 + 1 + 1 := by omega
      rw [e]
      simpa [flatV, nth] using this
theorem flatV_set (xs : List ItV) (j : Nat) (p : ItV) (h : j < xs.length) : ((flatV xs).set (j * 2) (.int .i64 p.1)).set (j * 2 + 1) (.slice p.2.1 p.2.2.1 p.2.2.2) = flatV (xs.set j p) := by
  induction xs generalizing j with
  | nil => cases h
  | cons x xs ih =>
    cases j with
    | zero => simp [flatV]
    | succ j =>
      have := ih j (by simpa using h)
      have e : (j + 1) * 2 = j * 2 + 1 + 1 := by omega
      rw [e]
      simpa [flatV] using this
/-- Block g holds these items; behind them whatever lies in the room that is left. -/
def Row (w : World) (g : Nat) (L : List ItV) (rest : List Value) : Prop := Blk w g (flatV L ++ rest).toArray 73
section
variable {w w' : World} {g : Nat} {L : List ItV} {rest : List Value}
theorem Row.lt (h : Row w g L rest) : g < w.heap.size := Blk.lt h
theorem Row.keep {ok : Nat → Prop} (h : Row w g L rest) (hk : Keep ok w w') (ho : ok g) : Row w' g L rest := Blk.keep h hk ho
theorem Row.below (h : Row w g L rest) (hb : Below w.heap.size w w') : Row w' g L rest := Blk.below h hb
theorem Row.cell (h : Row w g L rest) (j : Nat) (hj : j < L.length) : w.cell? ⟨g, j * 2, none⟩ = some (.int .i64 (nth dV L j).1) ∧ w.cell? ⟨g, j * 2 + 1, none⟩ = some (.slice (nth dV L j).2.1 (nth dV L j).2.2.1 (nth dV L j).2.2.2) := by
  obtain ⟨h0, h1⟩ := flatV_get L j hj
  have hl := flatV_length L
  exact ⟨Blk.cell h _ (by rw [List.getElem?_toArray, List.getElem?_append_left (by omega)]; exact h0), Blk.cell h _ (by rw [List.getElem?_toArray, List.getElem?_append_left (by omega)]; exact h1)⟩
theorem Row.free (h : Row w g L rest) (i : Nat) : w.frozen? ⟨g, i, none⟩ = false := Blk.free h i
theorem Row.set (h : Row w g L rest) (j : Nat) (p : ItV) (hj : j < L.length) : Row ((w.setCell ⟨g, j * 2, none⟩ (.int .i64 p.1)).setCell ⟨g, j * 2 + 1, none⟩ (.slice p.2.1 p.2.2.1 p.2.2.2)) g (L.set j p) rest := by
  have hl := flatV_length L
  have h2 := (Blk.set h (j * 2) (.int .i64 p.1)).set (j * 2 + 1) (.slice p.2.1 p.2.2.1 p.2.2.2)
  have e : ((((flatV L ++ rest).toArray.setIfInBounds (j * 2) (.int .i64 p.1)).setIfInBounds (j * 2 + 1) (.slice p.2.1 p.2.2.1 p.2.2.2))) = (flatV (L.set j p) ++ rest).toArray := by
    rw [← flatV_set L j p hj]
    simp only [List.setIfInBounds_toArray]
    rw [List.set_append_left _ _ (by omega), List.set_append_left _ _ (by rw [List.length_set]; omega)]
  rw [e] at h2
  exact h2
theorem Row.upd (w : World) (g i : Nat) (a b : Value) : Upd (fun b => b = g) w ((w.setCell ⟨g, i, none⟩ a).setCell ⟨g, i + 1, none⟩ b) :=
  (Upd.setCell (fun b => b = g) w g i a rfl).trans (Upd.setCell (fun b => b = g) _ g (i + 1) b rfl) fun _ _ h => h
theorem Row.swapped (h : Row w g L rest) {i j : Nat} (hi : i < L.length) (hj : j < L.length) {x y : ItV} (ex : nth dV L i = x) (ey : nth dV L j = y) :
    Row ((((w.setCell ⟨g, i * 2, none⟩ (.int .i64 y.1)).setCell ⟨g, i * 2 + 1, none⟩ (.slice y.2.1 y.2.2.1 y.2.2.2)).setCell ⟨g, j * 2, none⟩ (.int .i64 x.1)).setCell ⟨g, j * 2 + 1, none⟩ (.slice x.2.1 x.2.2.1 x.2.2.2)) g (swp dV L i j) rest ∧
    Upd (fun b => b = g) w ((((w.setCell ⟨g, i * 2, none⟩ (.int .i64 y.1)).setCell ⟨g, i * 2 + 1, none⟩ (.slice y.2.1 y.2.2.1 y.2.2.2)).setCell ⟨g, j * 2, none⟩ (.int .i64 x.1)).setCell ⟨g, j * 2 + 1, none⟩ (.slice x.2.1 x.2.2.1 x.2.2.2)) := by
  refine ⟨?_, (Row.upd w g (i * 2) _ _).trans (Row.upd _ g (j * 2) _ _) fun _ _ h => h⟩
  have := (h.set i y hi).set j x (by rw [List.length_set]; exact hj)
  unfold swp
  rw [ex, ey]
  exact this
end

def okW (L : List ItV) : Prop := ∀ p ∈ L, 0 ≤ p.1 ∧ p.1 ≤ 1073741824
abbrev cmpF : Value := .func (.func 56) #[] #[]
theorem cmp_in : ∀ args w, (callFunc 56 args).run Try.prog w = .ok (.enter 56 args) w := enters_of Try.func56 (by kernel_rfl) rfl

set_option maxHeartbeats 400000 in
theorem cmp_any (x y : Int) (A B : Option Addr) (n m c d : Nat) (w : World) (hx : 0 ≤ x ∧ x ≤ 1073741824) (hy : 0 ≤ y ∧ y ≤ 1073741824) :
    Calls Try.prog 56 #[.agg #[.int .i64 x, .slice A n c], .agg #[.int .i64 y, .slice B m d]] w fun e w' => e = .returned (.int .i64 (x - y)) ∧ Below w.heap.size w w' := by
  have hb := below_alloc (below_alloc (Below.refl w.heap.size w) (.cells #[.int .i64 x, .slice A n c] 73)) (.cells #[.int .i64 y, .slice B m d] 73)
  have HB := Lib.hid hb
  have hw1 : IntKind.i64.wrap (x - y) = x - y := IntWalk.i64_in _ (by omega)
  clear hb
  go_enter Try.func56, Try.ntmps56
  go_wp2
  go_ret
  exact ⟨rfl, HB.out⟩
end Go.Proofs.Ytlbgkkkcbnagbaa

namespace Go.Proofs.Ytlbgkkkcbnagbaa
open Go.RowKit Go.Shelf

abbrev wtV (p : ItV) : Int := p.1
abbrev SortedV (L : List ItV) : Prop := SortedF wtV L
abbrev SameV (L M : List ItV) : Prop := Same wtV L M
/-- Between A and post: x behind S1 and ahead of S2. -/
structure InsI (w0 : World) (g : Nat) (pre post : List ItV) (rest : List Value) (a k : Nat) (S R : List ItV) (x : ItV) (j : Nat) (S1 S2 : List ItV) (W : World) : Prop where
  row : Row W g (pre ++ (S1 ++ (x :: (S2 ++ (R ++ post))))) rest
  split : S1 ++ S2 = S
  at_ : j = a + S1.length
  more : ∀ y ∈ S2, x.1 < y.1
  upd : Upd (fun b => b = g) w0 W

set_option maxHeartbeats 4000000 in
set_option maxRecDepth 100000 in
theorem isort_any (g n cap a b : Nat) (pre X post : List ItV) (rest : List Value) (w : World) (h : Row w g (pre ++ (X ++ post)) rest) (ha : a = pre.length) (hb : b = a + X.length) (hn : n = (pre ++ (X ++ post)).length) (hcap : n ≤ cap ∧ n ≤ 1000000) (hw : okW X) :
    Calls Try.prog 87 #[.slice (some ⟨g, 0, none⟩) n cap, .int .i64 (a : Int), .int .i64 (b : Int), cmpF] w
      fun e w' => e = .returned (.tuple #[]) ∧ ∃ Z, Row w' g (pre ++ (Z ++ post)) rest ∧ SortedV Z ∧ SameV Z X ∧ Z.length = X.length ∧ Upd (fun b => b = g) w w' := by
  have hnl : n = pre.length + X.length + post.length := by rw [hn]; simp; omega
  have HL := Lib.hid (show a = pre.length ∧ b = a + X.length ∧ n = pre.length + X.length + post.length ∧ n ≤ 1000000 from ⟨ha, hb, hnl, by omega⟩)
  have hab : a ≤ b := by omega
  have hbn : b ≤ n := by omega
  have hn6 : n ≤ 1000000 := by omega
  have H := Lib.hid h
  have HW := Lib.hid hw
  have hwa : IntKind.i64.wrap ((a : Int) + 1) = (a : Int) + 1 := IntWalk.i64_in _ (by omega)
  clear ha hb hn h hw hnl
  go_enter Try.func87, Try.ntmps87
  go_wp2
  by_cases hX : X = []
  · subst hX
    obtain rfl : b = a := by have := HL.out.2.1; simpa using this
    refine wp_loop_rounds 1 ?_
    rw [rounds_succ]
    go_wp2
    refine bodyPost_end (v := .tuple #[]) (by simp [results, Try.results87, go_sem]) rfl ⟨rfl, [], H.out, SortedF.nil, Same.refl _, rfl, Upd.refl _ _⟩
  go_loopw [8] (fun iv wr => ∃ i k : Nat, iv = .int .i64 (i : Int) ∧ Hid (i = a + k) ∧ 1 ≤ k ∧ k ≤ X.length ∧ ∃ S, Row wr g (pre ++ (S ++ (X.drop k ++ post))) rest ∧ SortedV S ∧ SameV S (X.take k) ∧ S.length = k ∧ Upd (fun b => b = g) w wr) (fun iv _ => b - (intOf iv).toNat)
  case atStart =>
    have hXl : 1 ≤ X.length := by
      rcases Nat.eq_zero_or_pos X.length with h | h
      · exact absurd (List.eq_nil_of_length_eq_zero h) hX
      · exact h
    refine ⟨a + 1, 1, by go_num, Lib.hid rfl, Nat.le_refl _, hXl, X.take 1, ?_, ?_, Same.refl _, by rw [List.length_take]; omega, Upd.refl _ _⟩
    · rw [← List.append_assoc (X.take 1), List.take_append_drop]; exact H.out
    · obtain ⟨x, t, rfl⟩ : ∃ x t, X = x :: t := by cases X with
        | nil => simp at hXl
        | cons x t => exact ⟨x, t, rfl⟩
      exact SortedF.one _
  case round =>
    obtain ⟨i, k, rfl, hik, hk1, hkX, S, hR, hSo, hSa, hSl, hU⟩ := hrel
    have hl := HL.out
    have hik' := hik.out
    have hwi : IntKind.i64.wrap ((i : Int) + 1) = (i : Int) + 1 := IntWalk.i64_in _ (by omega)
    by_cases hlt : k < X.length
    · have hd : decide (i < b) = true := decide_eq_true (by omega)
      have HS := Lib.hid (show SortedV S ∧ SameV S (X.take k) ∧ S.length = k from ⟨hSo, hSa, hSl⟩)
      have hXd : X.drop k = nth dV X k :: X.drop (k + 1) := drop_nth dV X k hlt
      rw [hXd] at hR
      obtain ⟨x, hx⟩ : ∃ x, nth dV X k = x := ⟨_, rfl⟩
      rw [hx] at hR
      have HX := Lib.hid hx
      have hxb := HW.out x (by rw [← hx]; exact nth_mem dV X k hlt)
      obtain ⟨xw, xa, xn, xc⟩ := x
      have hI0 : InsI w g pre post rest a k S (X.drop (k + 1)) (xw, xa, xn, xc) i S [] wr := ⟨hR, by simp, by omega, fun y hy => absurd hy (by simp), hU⟩
      have HI0 := Lib.hid hI0
      clear hR hU hI0 hXd hx hSo hSa hSl hik' hl
      go_wp2
      go_loopw [9] (fun jv wr2 => ∃ (j : Nat) (S1 S2 : List ItV), jv = .int .i64 (j : Int) ∧ InsI w g pre post rest a k S (X.drop (k + 1)) (xw, xa, xn, xc) j S1 S2 wr2) (fun jv _ => (intOf jv).toNat)
      case atStart => exact ⟨i, S, [], rfl, HI0.out⟩
      case round =>
        clear HI0
        obtain ⟨j, S1, S2, rfl, hI⟩ := hrel
        have hl := HL.out
        have hIa := hI.at_
        have hIs := congrArg List.length hI.split
        have hSS := HS.out.2.2
        rw [List.length_append] at hIs
        have hend : ∀ W, Upd (fun b => b = g) wr W → Row W g (pre ++ (S1 ++ ((xw, xa, xn, xc) :: (S2 ++ (X.drop (k + 1) ++ post))))) rest → (∀ y ∈ S1, y.1 ≤ xw) →
            ∃ S', Row W g (pre ++ (S' ++ (X.drop (k + 1) ++ post))) rest ∧ SortedV S' ∧ SameV S' (X.take (k + 1)) ∧ S'.length = k + 1 ∧ Upd (fun b => b = g) w W := fun W hu hr hle => by
          have hs := HS.out.1
          rw [← hI.split] at hs
          obtain ⟨q1, q2⟩ := sorted_ins (x := ((xw, xa, xn, xc) : ItV)) hs hle hI.more
          refine ⟨S1 ++ (xw, xa, xn, xc) :: S2, by simpa [List.append_assoc] using hr, q1, ?_, by simp; omega, hI.upd.trans hu fun _ _ h => h⟩
          rw [take_succ_nth dV X k hlt, HX.out]
          refine q2.trans ?_
          rw [hI.split]
          exact HS.out.2.1.append (Same.refl _)
        have HEND := Lib.hid hend
        clear hend
        have HI := Lib.hid hI
        rcases List.eq_nil_or_concat S1 with hS1 | ⟨S1', y, hS1⟩
        · have hd2 : decide (a < j) = false := decide_eq_false (by rw [hS1] at hIa; simp at hIa; omega)
          clear hI hIs hSS hl hIa
          go_wp2
          go_quiet (fail)
          go_wp2
          go_roundw
          case rel =>
            subst hS1
            obtain ⟨S', r1, r2, r3, r4, r5⟩ := HEND.out _ (Upd.drewN (fun b => b = g) wr _) (HI.out.row.below (below_drewN (Below.refl _ _) _)) (fun y hy => absurd hy (by simp))
            exact ⟨i + 1, k + 1, by go_num, Lib.hid (by have := hik.out; omega), by omega, hlt, S', r1, r2, r3, r4, r5⟩
          case measure => simp [intOf]; have := of_decide_eq_true hd; omega
        · rw [List.concat_eq_append] at hS1
          subst hS1
          obtain ⟨jm, hjm⟩ : ∃ jm, j = jm + 1 := ⟨j - 1, by simp at hIa; omega⟩
          have hjm2 : jm = a + S1'.length := by simp at hIa; omega
          have hd2 : decide (a < j) = true := decide_eq_true (by omega)
          have hw1 : IntKind.i64.wrap ((j : Int) - 1) = (jm : Int) := by rw [IntWalk.i64_in _ (by omega)]; omega
          have hjn : j < n := by simp at hIs; omega
          have hmn : jm < n := by omega
          have hrow : Row wr g ((pre ++ S1') ++ y :: (xw, xa, xn, xc) :: (S2 ++ (X.drop (k + 1) ++ post))) rest := by simpa [List.append_assoc] using hI.row
          obtain ⟨yw, ya, yn, yc⟩ := y
          have hlen : jm + 1 < ((pre ++ S1') ++ (yw, ya, yn, yc) :: (xw, xa, xn, xc) :: (S2 ++ (X.drop (k + 1) ++ post))).length := by simp; omega
          have e1 : nth dV ((pre ++ S1') ++ (yw, ya, yn, yc) :: (xw, xa, xn, xc) :: (S2 ++ (X.drop (k + 1) ++ post))) jm = (yw, ya, yn, yc) := nth_at _ _ _ _ (by simp; omega)
          have e2 : nth dV ((pre ++ S1') ++ (yw, ya, yn, yc) :: (xw, xa, xn, xc) :: (S2 ++ (X.drop (k + 1) ++ post))) (jm + 1) = (xw, xa, xn, xc) := by
            have := nth_at (d := dV) ((pre ++ S1') ++ [(yw, ya, yn, yc)]) (xw, xa, xn, xc) (S2 ++ (X.drop (k + 1) ++ post)) (jm + 1) (by simp; omega)
            simpa [List.append_assoc] using this
          obtain ⟨c0, c1⟩ := hrow.cell jm (by omega)
          obtain ⟨c2, c3⟩ := hrow.cell (jm + 1) hlen
          rw [e1] at c0 c1
          rw [e2, ← hjm] at c2 c3
          rw [← hjm] at e2 hlen
          have hsw : swp dV ((pre ++ S1') ++ (yw, ya, yn, yc) :: (xw, xa, xn, xc) :: (S2 ++ (X.drop (k + 1) ++ post))) j jm = (pre ++ S1') ++ (xw, xa, xn, xc) :: (yw, ya, yn, yc) :: (S2 ++ (X.drop (k + 1) ++ post)) := by
            rw [hjm, swp_comm _ _ _ (by omega)]
            exact swp_next _ _ _ _ _ (by simp; omega)
          have HSW := Lib.hid (fun W (hr : Row W g ((pre ++ S1') ++ (yw, ya, yn, yc) :: (xw, xa, xn, xc) :: (S2 ++ (X.drop (k + 1) ++ post))) rest) => hr.swapped (i := j) (j := jm) (x := (xw, xa, xn, xc)) (y := (yw, ya, yn, yc)) hlen (by omega) e2 e1)
          rw [hsw] at HSW
          have hyb : 0 ≤ yw ∧ yw ≤ 1073741824 := by
            have hm : ((yw, ya, yn, yc) : ItV) ∈ X.take k := (HS.out.2.1.mem _).1 (by rw [← hI.split]; simp)
            exact HW.out _ (List.mem_of_mem_take hm)
          have hsrt : ∀ z ∈ S1', z.1 ≤ yw := fun z hz => by
            have hs := HS.out.1
            rw [← hI.split] at hs
            exact hs.left.cross z hz (yw, ya, yn, yc) (by simp)
          have HSRT := Lib.hid hsrt
          have HC := Lib.hid (fun W => cmp_any xw yw xa ya xn yn xc yc W hxb hyb)
          have HJ := Lib.hid (show j = jm + 1 ∧ jm = a + S1'.length from ⟨hjm, hjm2⟩)
          have HROW := Lib.hid hrow
          clear hI hIs hSS hl hIa hjm2 hjm hlen hrow e1 e2 hsw hsrt
          by_cases hlt2 : xw < yw
          · have hd3 : decide (xw - yw < 0) = true := decide_eq_true (by omega)
            have HLT := Lib.hid hlt2
            clear hlt2
            go_wp2
            go_still_tail 14, (by kernel_rfl)
            change wpList _ _ _ _ _ (World.drew _)
            have HDR := Lib.hid ((Below.refl wr.heap.size wr).drew)
            go_wp2_with (go_at_call 56; refine (HC.out _).mono ?_; rintro e w3 ⟨rfl, b3⟩; have HB3 := Lib.hid (below2 HDR.out b3); clear b3)
            have hk3 := HB3.out
            replace c0 := cell_below hk3 c0
            replace c1 := cell_below hk3 c1
            replace c2 := cell_below hk3 c2
            replace c3 := cell_below hk3 c3
            have hrow3 := HROW.out.below hk3
            have f0 := hrow3.free (jm * 2)
            have f1 := hrow3.free (jm * 2 + 1)
            have f2 := hrow3.free (j * 2)
            have f3 := hrow3.free (j * 2 + 1)
            have hjj : j ≠ jm := by have := HJ.out; omega
            clear hk3 hrow3 hd3
            go_region
            go_wp2
            go_roundw
            case rel =>
              have hj := HJ.out
              obtain ⟨q1, q2⟩ := HSW.out w3 (HROW.out.below HB3.out)
              have q3 := (q2.trans (Upd.drew (fun b => b = g) _)) fun _ _ h => h
              exact ⟨jm, S1', (yw, ya, yn, yc) :: S2, rfl, ⟨by simpa [List.append_assoc] using q1.below (Below.refl _ _).drew, by rw [← HI.out.split]; simp, by omega, fun z hz => by
                rcases List.mem_cons.1 hz with rfl | hz
                · exact HLT.out
                · exact HI.out.more z hz, (HI.out.upd.trans (Upd.of_below HB3.out (fun b => b = g)) fun _ _ h => h).trans q3 fun _ _ h => h⟩⟩
            case measure => have := HJ.out; simp [intOf]; omega
          · have hd3 : decide (xw - yw < 0) = false := decide_eq_false (by omega)
            have HLT := Lib.hid hlt2
            clear hlt2
            go_wp2
            go_still_tail 14, (by kernel_rfl)
            change wpList _ _ _ _ _ (World.drew _)
            have HDR := Lib.hid ((Below.refl wr.heap.size wr).drew)
            go_wp2_with (go_at_call 56; refine (HC.out _).mono ?_; rintro e w3 ⟨rfl, b3⟩; have HB3 := Lib.hid (below2 HDR.out b3); clear b3)
            go_roundw
            case rel =>
              have hle : ∀ z ∈ S1' ++ [((yw, ya, yn, yc) : ItV)], z.1 ≤ xw := fun z hz => by
                have h1 := HLT.out
                rcases List.mem_append.1 hz with hz | hz
                · have := HSRT.out z hz; omega
                · rw [List.mem_singleton.1 hz]; exact h1
              obtain ⟨S', r1, r2, r3, r4, r5⟩ := HEND.out _ (Upd.of_below HB3.out (fun b => b = g)) (HI.out.row.below HB3.out) hle
              exact ⟨i + 1, k + 1, by go_num, Lib.hid (by have := hik.out; omega), by omega, hlt, S', r1, r2, r3, r4, r5⟩
            case measure => simp [intOf]; have := of_decide_eq_true hd; omega
    · obtain rfl : k = X.length := by omega
      have hd : decide (i < b) = false := decide_eq_false (by omega)
      rw [List.take_length] at hSa
      rw [List.drop_length, List.nil_append] at hR
      have HF := Lib.hid (show Row wr g (pre ++ (S ++ post)) rest ∧ SortedV S ∧ SameV S X ∧ S.length = X.length ∧ Upd (fun b => b = g) w wr from ⟨hR, hSo, hSa, hSl, hU⟩)
      clear hR hSo hSa hSl hU hik' hl
      go_wp2
      refine bodyPost_end (v := .tuple #[]) (by simp [results, Try.results87, go_sem]) rfl ⟨rfl, S, HF.out⟩
end Go.Proofs.Ytlbgkkkcbnagbaa

namespace Go.Proofs.Ytlbgkkkcbnagbaa
open Go.RowKit Go.Shelf

theorem swap_step (pre U mid V post : List ItV) (i : Nat) (hi : i < U.length) (hV : V.length = U.length) {x y : ItV} (hx : nth dV U i = x) (hy : nth dV V i = y) (p q : Nat) (hp : p = pre.length + i) (hq : q = pre.length + U.length + mid.length + i) :
    nth dV (pre ++ (V.take i ++ (U.drop i ++ (mid ++ (U.take i ++ (V.drop i ++ post)))))) p = x ∧ nth dV (pre ++ (V.take i ++ (U.drop i ++ (mid ++ (U.take i ++ (V.drop i ++ post)))))) q = y ∧
    p < (pre ++ (V.take i ++ (U.drop i ++ (mid ++ (U.take i ++ (V.drop i ++ post)))))).length ∧ q < (pre ++ (V.take i ++ (U.drop i ++ (mid ++ (U.take i ++ (V.drop i ++ post)))))).length ∧
    swp dV (pre ++ (V.take i ++ (U.drop i ++ (mid ++ (U.take i ++ (V.drop i ++ post)))))) p q = pre ++ (V.take (i + 1) ++ (U.drop (i + 1) ++ (mid ++ (U.take (i + 1) ++ (V.drop (i + 1) ++ post))))) := by
  have hU : U.drop i = x :: U.drop (i + 1) := by rw [drop_nth dV U i hi, hx]
  have hV' : V.drop i = y :: V.drop (i + 1) := by rw [drop_nth dV V i (by omega), hy]
  have hf : pre ++ (V.take i ++ (U.drop i ++ (mid ++ (U.take i ++ (V.drop i ++ post))))) = (pre ++ V.take i) ++ x :: ((U.drop (i + 1) ++ (mid ++ U.take i)) ++ y :: (V.drop (i + 1) ++ post)) := by
    rw [hU, hV']; simp [List.append_assoc]
  have lA : (pre ++ V.take i).length = p := by rw [List.length_append, List.length_take]; omega
  have lB : (U.drop (i + 1) ++ (mid ++ U.take i)).length = q - p - 1 := by simp; omega
  rw [hf]
  refine ⟨nth_at _ _ _ _ lA.symm, ?_, ?_, ?_, ?_⟩
  · have := nth_at (d := dV) ((pre ++ V.take i) ++ x :: (U.drop (i + 1) ++ (mid ++ U.take i))) y (V.drop (i + 1) ++ post) q (by rw [List.length_append, List.length_cons, lA, lB]; omega)
    simpa [List.append_assoc] using this
  · simp only [List.length_append, List.length_cons] at lA ⊢; omega
  · simp only [List.length_append, List.length_cons] at lA lB ⊢; omega
  · rw [swp_two _ _ _ _ _ _ _ lA.symm (by rw [lA, lB]; omega)]
    have e1 : V.take (i + 1) = V.take i ++ [y] := by rw [take_succ_nth dV V i (by omega), hy]
    have e2 : U.take (i + 1) = U.take i ++ [x] := by rw [take_succ_nth dV U i hi, hx]
    rw [e1, e2]
    simp [List.append_assoc]

set_option maxHeartbeats 4000000 in
set_option maxRecDepth 100000 in
theorem swapRange_any (g n cap a b cnt : Nat) (pre U mid V post : List ItV) (rest : List Value) (w : World) (h : Row w g (pre ++ (U ++ (mid ++ (V ++ post)))) rest) (ha : a = pre.length) (hb : b = a + U.length + mid.length) (hU : U.length = cnt) (hV : V.length = cnt)
    (hn : n = (pre ++ (U ++ (mid ++ (V ++ post)))).length) (hcap : n ≤ cap ∧ n ≤ 1000000) :
    Calls Try.prog 95 #[.slice (some ⟨g, 0, none⟩) n cap, .int .i64 (a : Int), .int .i64 (b : Int), .int .i64 (cnt : Int), cmpF] w
      fun e w' => e = .returned (.tuple #[]) ∧ Row w' g (pre ++ (V ++ (mid ++ (U ++ post)))) rest ∧ Upd (fun b => b = g) w w' := by
  have hnl : n = pre.length + cnt + mid.length + cnt + post.length := by rw [hn]; simp; omega
  have HL := Lib.hid (show a = pre.length ∧ b = a + cnt + mid.length ∧ n = pre.length + cnt + mid.length + cnt + post.length ∧ U.length = cnt ∧ V.length = cnt from ⟨ha, by omega, hnl, hU, hV⟩)
  have H := Lib.hid h
  have hc6 : cnt ≤ 1000000 := by omega
  clear h ha hb hU hV hn hnl
  go_enter Try.func95, Try.ntmps95
  go_wp2
  go_loopw [10] (fun iv wr => ∃ i : Nat, iv = .int .i64 (i : Int) ∧ i ≤ cnt ∧ Row wr g (pre ++ (V.take i ++ (U.drop i ++ (mid ++ (U.take i ++ (V.drop i ++ post)))))) rest ∧ Upd (fun b => b = g) w wr) (fun iv _ => cnt - (intOf iv).toNat)
  case atStart => exact ⟨0, rfl, Nat.zero_le _, by simpa using H.out, Upd.refl _ _⟩
  case round =>
    obtain ⟨i, rfl, hi, hR, hu⟩ := hrel
    have hl := HL.out
    have hwi : IntKind.i64.wrap ((i : Int) + 1) = (i : Int) + 1 := IntWalk.i64_in _ (by omega)
    by_cases hlt : i < cnt
    · have hd : decide (i < cnt) = true := decide_eq_true hlt
      obtain ⟨p, hp⟩ : ∃ p, a + i = p := ⟨_, rfl⟩
      obtain ⟨q, hq⟩ : ∃ q, b + i = q := ⟨_, rfl⟩
      have hw1 : IntKind.i64.wrap ((a : Int) + (i : Int)) = (p : Int) := by rw [IntWalk.i64_in _ (by omega)]; omega
      have hw2 : IntKind.i64.wrap ((b : Int) + (i : Int)) = (q : Int) := by rw [IntWalk.i64_in _ (by omega)]; omega
      obtain ⟨⟨xw, xa, xn, xc⟩, hx⟩ : ∃ x, nth dV U i = x := ⟨_, rfl⟩
      obtain ⟨⟨yw, ya, yn, yc⟩, hy⟩ : ∃ y, nth dV V i = y := ⟨_, rfl⟩
      obtain ⟨e1, e2, l1, l2, e3⟩ := swap_step pre U mid V post i (by omega) (by omega) hx hy p q (by omega) (by omega)
      obtain ⟨c0, c1⟩ := hR.cell p l1
      obtain ⟨c2, c3⟩ := hR.cell q l2
      rw [e1] at c0 c1
      rw [e2] at c2 c3
      have f0 := hR.free (p * 2)
      have f1 := hR.free (p * 2 + 1)
      have f2 := hR.free (q * 2)
      have f3 := hR.free (q * 2 + 1)
      obtain ⟨q1, q2⟩ := hR.swapped (i := p) (j := q) l1 l2 e1 e2
      rw [e3] at q1
      have HQ := Lib.hid q1
      have HU := Lib.hid (hu.trans q2 fun _ _ h => h)
      have hpn : p < n := by omega
      have hqn : q < n := by omega
      have hpq : p ≠ q := by omega
      clear hR hu e1 e2 e3 l1 l2 q1 q2 hx hy hp hq hl
      go_wp2
      go_region
      go_wp2
      go_roundw
      case rel => exact ⟨i + 1, by go_num, hlt, HQ.out.below (Below.refl _ _).drew, HU.out.trans (Upd.drew (fun b => b = g) _) fun _ _ h => h⟩
      case measure => simp [intOf]; omega
    · have hd : decide (i < cnt) = false := decide_eq_false hlt
      obtain rfl : i = cnt := by omega
      rw [List.take_of_length_le (by omega), List.drop_of_length_le (by omega), List.take_of_length_le (by omega), List.drop_of_length_le (by omega)] at hR
      have HR := Lib.hid hR
      have HU := Lib.hid hu
      clear hR hu hl
      go_wp2
      refine bodyPost_end (v := .tuple #[]) (by simp [results, Try.results95, go_sem]) rfl ⟨rfl, by simpa using HR.out, HU.out⟩
end Go.Proofs.Ytlbgkkkcbnagbaa

namespace Go.Proofs.Ytlbgkkkcbnagbaa
open Go.RowKit Go.Shelf

structure RotI (w0 : World) (g : Nat) (goal : List ItV) (rest : List Value) (m i j : Nat) (pre U V post : List ItV) (W : World) : Prop where
  row : Row W g (pre ++ (U ++ (V ++ post))) rest
  goes : pre ++ (V ++ (U ++ post)) = goal
  li : U.length = i
  lj : V.length = j
  at_ : pre.length + i = m
  upd : Upd (fun b => b = g) w0 W

set_option maxHeartbeats 4000000 in
set_option maxRecDepth 100000 in
theorem rotate_any (g n cap a m b : Nat) (pre X Y post : List ItV) (rest : List Value) (w : World) (h : Row w g (pre ++ (X ++ (Y ++ post))) rest) (ha : a = pre.length) (hm : m = a + X.length) (hb : b = m + Y.length) (hX : 0 < X.length) (hY : 0 < Y.length)
    (hn : n = (pre ++ (X ++ (Y ++ post))).length) (hcap : n ≤ cap ∧ n ≤ 1000000) :
    Calls Try.prog 93 #[.slice (some ⟨g, 0, none⟩) n cap, .int .i64 (a : Int), .int .i64 (m : Int), .int .i64 (b : Int), cmpF] w
      fun e w' => e = .returned (.tuple #[]) ∧ Row w' g (pre ++ (Y ++ (X ++ post))) rest ∧ Upd (fun b => b = g) w w' := by
  obtain ⟨i0, hi0⟩ : ∃ i0, X.length = i0 := ⟨_, rfl⟩
  obtain ⟨j0, hj0⟩ : ∃ j0, Y.length = j0 := ⟨_, rfl⟩
  have hnl : n = pre.length + i0 + j0 + post.length := by rw [hn]; simp; omega
  have hw1 : IntKind.i64.wrap ((m : Int) - (a : Int)) = (i0 : Int) := by rw [IntWalk.i64_in _ (by omega)]; omega
  have hw2 : IntKind.i64.wrap ((b : Int) - (m : Int)) = (j0 : Int) := by rw [IntWalk.i64_in _ (by omega)]; omega
  have hI0 : RotI w g (pre ++ (Y ++ (X ++ post))) rest m i0 j0 pre X Y post w := ⟨h, rfl, hi0, hj0, by omega, Upd.refl _ _⟩
  have HI0 := Lib.hid hI0
  have HP := Lib.hid (show 0 < i0 ∧ 0 < j0 ∧ n = (pre ++ (Y ++ (X ++ post))).length from ⟨by omega, by omega, by rw [hn]; simp; omega⟩)
  obtain ⟨goal, hg⟩ : ∃ goal, pre ++ (Y ++ (X ++ post)) = goal := ⟨_, rfl⟩
  rw [hg] at HI0 HP
  rw [hg]
  have hm6 : m ≤ 1000000 := by omega
  clear h ha hm hb hX hY hn hnl hi0 hj0 hI0 hg
  go_enter Try.func93, Try.ntmps93
  go_wp2
  clear hw1 hw2
  go_loopw [10, 11] (fun iv jv wr => ∃ (i j : Nat) (pre U V post : List ItV), iv = .int .i64 (i : Int) ∧ jv = .int .i64 (j : Int) ∧ 0 < i ∧ 0 < j ∧ RotI w g goal rest m i j pre U V post wr) (fun iv jv _ => (intOf iv).toNat + (intOf jv).toNat)
  case atStart => exact ⟨i0, j0, pre, X, Y, post, rfl, rfl, HP.out.1, HP.out.2.1, HI0.out⟩
  case round =>
    clear HI0
    obtain ⟨i, j, pre, U, V, post, rfl, rfl, hi, hj, hI⟩ := hrel
    have hgl : n = pre.length + i + j + post.length := by
      have h1 := HP.out.2.2
      rw [← hI.goes] at h1
      simp at h1; have := hI.li; have := hI.lj; omega
    have hat := hI.at_
    have hU := hI.li
    have hV := hI.lj
    obtain ⟨s, hs⟩ : ∃ s, pre.length = s := ⟨_, rfl⟩
    have hw1 : IntKind.i64.wrap ((m : Int) - (i : Int)) = (s : Int) := by rw [IntWalk.i64_in _ (by omega)]; omega
    by_cases hij : i = j
    · subst hij
      have hC := swapRange_any g n cap s m i pre U [] V post rest wr (by simpa using hI.row) hs.symm (by simp; omega) hU hV (by simp; omega) hcap
      have HC := Lib.hid hC
      have HT := Lib.hid hI.goes
      have HU := Lib.hid hI.upd
      clear hC hI hgl hat hU hV hs
      go_wp2_with (go_at_call 95; refine HC.out.mono ?_; rintro e w3 ⟨rfl, hr3, hu3⟩)
      refine bodyPost_end (v := .tuple #[]) (by simp [results, Try.results93, go_sem]) rfl ⟨rfl, ?_, HU.out.trans hu3 fun _ _ h => h⟩
      rw [← HT.out]; simpa using hr3
    · have hne : ((i : Int) != (j : Int)) = true := by simp; omega
      have hne2 : ((i : Int) == (j : Int)) = false := by rw [beq_eq_false_iff_ne]; omega
      by_cases hlt : j < i
      · have hd : decide (j < i) = true := decide_eq_true hlt
        obtain ⟨i', hi'⟩ : ∃ i', i - j = i' := ⟨_, rfl⟩
        have hw2 : IntKind.i64.wrap ((i : Int) - (j : Int)) = (i' : Int) := by rw [IntWalk.i64_in _ (by omega)]; omega
        have hsp : U.take j ++ U.drop j = U := List.take_append_drop j U
        have hC := swapRange_any g n cap s m j pre (U.take j) (U.drop j) V post rest wr (by rw [← List.append_assoc (U.take j), hsp]; exact hI.row) hs.symm (by simp; omega) (by simp; omega) hV (by simp; omega) hcap
        have HC := Lib.hid hC
        have HI := Lib.hid hI
        have HH := Lib.hid (show i' + j = i ∧ U.length = i ∧ V.length = j ∧ pre.length + i = m ∧ U.take j ++ U.drop j = U from ⟨by omega, hU, hV, hat, hsp⟩)
        clear hC hI hgl hat hU hV hs hij hi' hlt hsp
        go_wp2_with (go_at_call 95; refine HC.out.mono ?_; rintro e w3 ⟨rfl, hr3, hu3⟩)
        go_roundw
        case rel =>
          have hh := HH.out
          have hlt := of_decide_eq_true hd
          refine ⟨i', j, pre ++ V, U.drop j, U.take j, post, rfl, rfl, by omega, hj, ⟨by simpa [List.append_assoc] using hr3, ?_, by simp; omega, by simp; omega, by simp; omega, HI.out.upd.trans hu3 fun _ _ h => h⟩⟩
          rw [← HI.out.goes, List.append_assoc, ← List.append_assoc (U.take j), hh.2.2.2.2]
        case measure => have hh := HH.out; simp [intOf]; omega
      · have hd : decide (j < i) = false := decide_eq_false hlt
        obtain ⟨j', hj'⟩ : ∃ j', j - i = j' := ⟨_, rfl⟩
        have hw2 : IntKind.i64.wrap ((j : Int) - (i : Int)) = (j' : Int) := by rw [IntWalk.i64_in _ (by omega)]; omega
        obtain ⟨q, hq⟩ : ∃ q, m + j = q := ⟨_, rfl⟩
        have hw3 : IntKind.i64.wrap ((m : Int) + (j : Int)) = (q : Int) := by rw [IntWalk.i64_in _ (by omega)]; omega
        obtain ⟨q', hq'⟩ : ∃ q', q - i = q' := ⟨_, rfl⟩
        have hw4 : IntKind.i64.wrap ((q : Int) - (i : Int)) = (q' : Int) := by rw [IntWalk.i64_in _ (by omega)]; omega
        have hsp : V.take j' ++ V.drop j' = V := List.take_append_drop j' V
        have hC := swapRange_any g n cap s q' i pre U (V.take j') (V.drop j') post rest wr (by rw [← List.append_assoc (V.take j'), hsp]; exact hI.row) hs.symm (by simp; omega) hU (by simp; omega) (by simp; omega) hcap
        have HC := Lib.hid hC
        have HI := Lib.hid hI
        have HH := Lib.hid (show j' + i = j ∧ U.length = i ∧ V.length = j ∧ pre.length + i = m ∧ V.take j' ++ V.drop j' = V from ⟨by omega, hU, hV, hat, hsp⟩)
        clear hC hI hgl hat hU hV hs hij hj' hlt hsp hq hq'
        go_wp2_with (go_at_call 95; refine HC.out.mono ?_; rintro e w3 ⟨rfl, hr3, hu3⟩)
        go_roundw
        case rel =>
          have hh := HH.out
          have hlt := of_decide_eq_false hd
          have hne := of_eq_true (eq_true hne)
          simp only [bne_iff_ne, ne_eq] at hne
          refine ⟨i, j', pre, V.drop j', V.take j', U ++ post, rfl, rfl, hi, by omega, ⟨by simpa [List.append_assoc] using hr3, ?_, by simp; omega, by simp; omega, by omega, HI.out.upd.trans hu3 fun _ _ h => h⟩⟩
          rw [← HI.out.goes, ← List.append_assoc (V.take j'), hh.2.2.2.2]
        case measure => have hh := HH.out; simp [intOf]; omega
end Go.Proofs.Ytlbgkkkcbnagbaa

namespace Go.Proofs.Ytlbgkkkcbnagbaa
open Go.RowKit Go.Shelf

/-- The halves of a sorted list at a place. -/
theorem sorted_lower {Y : List ItV} (h : SortedV Y) {p : Nat} (hp : p ≤ Y.length) {x : Int} (hlt : p = 0 ∨ (nth dV Y (p - 1)).1 < x) : ∀ y ∈ Y.take p, y.1 < x := fun y hy => by
  rcases hlt with rfl | hlt
  · simp at hy
  · obtain ⟨j, hj, rfl⟩ := List.mem_iff_getElem.1 hy
    rw [List.length_take] at hj
    have hjp : j < p := by omega
    have hjY : j < Y.length := by omega
    have e1 : (Y.take p)[j] = Y[j] := List.getElem_take
    rw [e1]
    rw [nth_eq dV Y (p - 1) (by omega)] at hlt
    rcases Nat.lt_or_ge j (p - 1) with h1 | h1
    · have := (List.pairwise_iff_getElem.1 h) j (p - 1) hjY (by omega) h1
      show Y[j].1 < x
      have h2 : Y[j].1 ≤ Y[p - 1].1 := this
      omega
    · obtain rfl : j = p - 1 := by omega
      exact hlt
theorem sorted_lower' {Y : List ItV} (h : SortedV Y) {p : Nat} (hp : p ≤ Y.length) {x : Int} (hlt : p = 0 ∨ (nth dV Y (p - 1)).1 ≤ x) : ∀ y ∈ Y.take p, y.1 ≤ x := fun y hy => by
  have := sorted_lower h hp (x := x + 1) (hlt.imp_right fun h => by omega) y hy
  omega
theorem sorted_upper {Y : List ItV} (h : SortedV Y) {p : Nat} {x : Int} (hlt : p = Y.length ∨ x ≤ (nth dV Y p).1) (hp : p ≤ Y.length) : ∀ y ∈ Y.drop p, x ≤ y.1 := fun y hy => by
  rcases hlt with rfl | hlt
  · simp at hy
  · obtain ⟨j, hj, rfl⟩ := List.mem_iff_getElem.1 hy
    rw [List.length_drop] at hj
    have e1 : (Y.drop p)[j] = Y[p + j] := List.getElem_drop
    rw [e1]
    rw [nth_eq dV Y p (by omega)] at hlt
    rcases Nat.eq_zero_or_pos j with h1 | h1
    · subst h1; exact hlt
    · have h2 : Y[p].1 ≤ Y[p + j].1 := (List.pairwise_iff_getElem.1 h) p (p + j) (by omega) (by omega) (by omega)
      show x ≤ Y[p + j].1
      omega
theorem sorted_upper' {Y : List ItV} (h : SortedV Y) {p : Nat} {x : Int} (hlt : p = Y.length ∨ x < (nth dV Y p).1) (hp : p ≤ Y.length) : ∀ y ∈ Y.drop p, x < y.1 := fun y hy => by
  have := sorted_upper h (x := x + 1) (hlt.imp_right fun h => by omega) hp y hy
  omega

/-- What symMerge is to do. -/
def SymEnd (g : Nat) (pre X Y post : List ItV) (rest : List Value) (w : World) (e : Ending) (w' : World) : Prop :=
  e = .returned (.tuple #[]) ∧ ∃ Z, Row w' g (pre ++ (Z ++ post)) rest ∧ SortedV Z ∧ SameV Z (X ++ Y) ∧ Z.length = X.length + Y.length ∧ Upd (fun b => b = g) w w'

set_option maxHeartbeats 4000000 in
set_option maxRecDepth 100000 in
theorem sym_left (g n cap a m b : Nat) (pre : List ItV) (x : ItV) (Y post : List ItV) (rest : List Value) (w : World) (h : Row w g (pre ++ (x :: (Y ++ post))) rest) (ha : a = pre.length) (hm : m = a + 1) (hb : b = m + Y.length) (hY : 0 < Y.length)
    (hn : n = (pre ++ (x :: (Y ++ post))).length) (hcap : n ≤ cap ∧ n ≤ 1000000) (hx : 0 ≤ x.1 ∧ x.1 ≤ 1073741824) (hw : okW Y) (hs : SortedV Y) :
    Calls Try.prog 88 #[.slice (some ⟨g, 0, none⟩) n cap, .int .i64 (a : Int), .int .i64 (m : Int), .int .i64 (b : Int), cmpF] w (SymEnd g pre [x] Y post rest w) := by
  obtain ⟨xw, xa, xn, xc⟩ := x
  have hnl : n = pre.length + 1 + Y.length + post.length := by rw [hn]; simp; omega
  have HL := Lib.hid (show a = pre.length ∧ m = a + 1 ∧ b = m + Y.length ∧ n = pre.length + 1 + Y.length + post.length from ⟨ha, hm, hb, hnl⟩)
  have hw1 : IntKind.i64.wrap ((m : Int) - (a : Int)) = 1 := by rw [IntWalk.i64_in _ (by omega)]; omega
  have H := Lib.hid h
  have HW := Lib.hid hw
  have HS := Lib.hid hs
  have hm6 : m ≤ 1000000 ∧ b ≤ 1000000 ∧ n ≤ 1000000 := by omega
  have han : a < n := by omega
  clear h ha hm hb hn hnl hw hs
  go_enter Try.func88, Try.ntmps88
  go_wp2
  go_loopw [10, 11] (fun iv jv wr => ∃ (i j p q : Nat), iv = .int .i64 (i : Int) ∧ jv = .int .i64 (j : Int) ∧ Hid (i = m + p ∧ j = m + q ∧ p ≤ q ∧ q ≤ Y.length ∧ (p = 0 ∨ (nth dV Y (p - 1)).1 < xw) ∧ (q = Y.length ∨ xw ≤ (nth dV Y q).1)) ∧ Row wr g (pre ++ ((xw, xa, xn, xc) :: (Y ++ post))) rest ∧ Upd (fun b => b = g) w wr) (fun iv jv _ => (intOf jv).toNat - (intOf iv).toNat)
  case atStart => exact ⟨m, b, 0, Y.length, rfl, rfl, Lib.hid ⟨rfl, HL.out.2.2.1, Nat.zero_le _, Nat.le_refl _, .inl rfl, .inl rfl⟩, H.out, Upd.refl _ _⟩
  case round =>
    obtain ⟨i, j, p, q, rfl, rfl, hI, hR, hU⟩ := hrel
    have hl := HL.out
    have hi := hI.out
    by_cases hlt : i < j
    · have hd : decide (i < j) = true := decide_eq_true hlt
      obtain ⟨s, hs⟩ : ∃ s, i + j = s := ⟨_, rfl⟩
      obtain ⟨c, hc⟩ : ∃ c, s / 2 = c := ⟨_, rfl⟩
      obtain ⟨t, ht⟩ : ∃ t, c - m = t := ⟨_, rfl⟩
      have hw2 : IntKind.i64.wrap ((i : Int) + (j : Int)) = (s : Int) := by rw [IntWalk.i64_in _ (by omega)]; omega
      have hu1 : IntKind.u64.wrap (s : Int) = (s : Int) := by rw [IntKind.wrap_u64]; omega
      have hu2 : IntKind.u64.wrap (c : Int) = (c : Int) := by rw [IntKind.wrap_u64]; omega
      have hq : (s : Int) / 2 = (c : Int) := by omega
      have hw3 : IntKind.i64.wrap (c : Int) = (c : Int) := IntWalk.i64_in _ (by omega)
      have hw4 : IntKind.i64.wrap ((c : Int) + 1) = (c : Int) + 1 := IntWalk.i64_in _ (by omega)
      have hcn : c < n := by omega
      obtain ⟨⟨yw, ya, yn, yc⟩, hy⟩ : ∃ y, nth dV Y t = y := ⟨_, rfl⟩
      have htY : t < Y.length := by omega
      have e1 : nth dV (pre ++ ((xw, xa, xn, xc) :: (Y ++ post))) a = (xw, xa, xn, xc) := nth_at _ _ _ _ hl.1
      have e2 : nth dV (pre ++ ((xw, xa, xn, xc) :: (Y ++ post))) c = (yw, ya, yn, yc) := by
        have hsp := split_at (d := dV) Y t htY
        rw [hy] at hsp
        have := nth_at (d := dV) (pre ++ (xw, xa, xn, xc) :: Y.take t) (yw, ya, yn, yc) (Y.drop (t + 1) ++ post) c (by simp; omega)
        rw [hsp]
        simpa [List.append_assoc] using this
      obtain ⟨c0, c1⟩ := hR.cell a (by simp; omega)
      obtain ⟨c2, c3⟩ := hR.cell c (by simp; omega)
      rw [e1] at c0 c1
      rw [e2] at c2 c3
      have hyb := HW.out (yw, ya, yn, yc) (by rw [← hy]; exact nth_mem dV Y t htY)
      have HC := Lib.hid (fun W => cmp_any yw xw ya xa yn xn yc xc W hyb hx)
      have HR := Lib.hid hR
      have HU := Lib.hid hU
      have HT := Lib.hid (show i + j = s ∧ s / 2 = c ∧ c - m = t ∧ nth dV Y t = (yw, ya, yn, yc) ∧ i < j from ⟨hs, hc, ht, hy, hlt⟩)
      clear hl hi hs hc ht hR hU e1 e2 hy hlt htY
      by_cases hlt2 : yw < xw
      · have hd3 : decide (yw - xw < 0) = true := decide_eq_true (by omega)
        have HLT := Lib.hid hlt2
        clear hlt2
        go_wp2
        go_still_tail 9, (by kernel_rfl)
        change wpList _ _ _ _ _ (World.drew _)
        have HDR := Lib.hid ((Below.refl wr.heap.size wr).drew)
        go_wp2_with (go_at_call 56; refine (HC.out _).mono ?_; rintro e w3 ⟨rfl, b3⟩; have HB3 := Lib.hid (below2 HDR.out b3); clear b3)
        go_roundw
        case rel =>
          have hh := HT.out
          have hi := hI.out
          refine ⟨c + 1, j, t + 1, q, by go_num, rfl, Lib.hid ⟨by omega, hi.2.1, by omega, hi.2.2.2.1, .inr ?_, hi.2.2.2.2.2⟩, HR.out.below HB3.out, HU.out.trans (Upd.of_below HB3.out (fun b => b = g)) fun _ _ h => h⟩
          rw [Nat.add_sub_cancel, hh.2.2.2.1]; exact HLT.out
        case measure => have hh := HT.out; simp [intOf]; omega
      · have hd3 : decide (yw - xw < 0) = false := decide_eq_false (by omega)
        have HLT := Lib.hid hlt2
        clear hlt2
        go_wp2
        go_still_tail 9, (by kernel_rfl)
        change wpList _ _ _ _ _ (World.drew _)
        have HDR := Lib.hid ((Below.refl wr.heap.size wr).drew)
        go_wp2_with (go_at_call 56; refine (HC.out _).mono ?_; rintro e w3 ⟨rfl, b3⟩; have HB3 := Lib.hid (below2 HDR.out b3); clear b3)
        go_roundw
        case rel =>
          have hh := HT.out
          have hi := hI.out
          refine ⟨i, c, p, t, rfl, rfl, Lib.hid ⟨hi.1, by omega, by omega, by omega, hi.2.2.2.2.1, .inr ?_⟩, HR.out.below HB3.out, HU.out.trans (Upd.of_below HB3.out (fun b => b = g)) fun _ _ h => h⟩
          rw [hh.2.2.2.1]; have := HLT.out; show xw ≤ yw; omega
        case measure => have hh := HT.out; simp [intOf]; omega
    · have hd : decide (i < j) = false := decide_eq_false hlt
      have hpq : p = q := by omega
      have HF := Lib.hid (show i = m + p ∧ p ≤ Y.length ∧ (∀ y ∈ Y.take p, y.1 < xw) ∧ (∀ y ∈ Y.drop p, xw ≤ y.1) from
        ⟨hi.1, by omega, sorted_lower HS.out (by omega) hi.2.2.2.2.1, sorted_upper HS.out (by rw [hpq]; exact hi.2.2.2.2.2) (by omega)⟩)
      have HR := Lib.hid hR
      have HU := Lib.hid hU
      have hwi : IntKind.i64.wrap ((i : Int) - 1) = ((i - 1 : Nat) : Int) := by rw [IntWalk.i64_in _ (by omega)]; omega
      obtain ⟨e, he⟩ : ∃ e, i - 1 = e := ⟨_, rfl⟩
      rw [he] at hwi
      have HEE := Lib.hid (show e = a + p ∧ e ≤ 1000000 from ⟨by omega, by omega⟩)
      clear hl hi hR hU hI hpq hlt he
      go_wp2
      clear hd
      go_loopw [13] (fun kv wr2 => ∃ (k t : Nat), kv = .int .i64 (k : Int) ∧ Hid (k = a + t ∧ t ≤ p) ∧ Row wr2 g (pre ++ (Y.take t ++ ((xw, xa, xn, xc) :: (Y.drop t ++ post)))) rest ∧ Upd (fun b => b = g) w wr2) (fun kv _ => e - (intOf kv).toNat)
      case atStart => exact ⟨a, 0, rfl, Lib.hid ⟨rfl, Nat.zero_le _⟩, by simpa using HR.out, HU.out⟩
      case round =>
        clear HR HU
        obtain ⟨k, t, rfl, hk, hR, hU⟩ := hrel
        have hl := HL.out
        have hf := HF.out
        have hkk := hk.out
        have hee := HEE.out
        by_cases hlt : k < e
        · have hd2 : decide (k < e) = true := decide_eq_true hlt
          obtain ⟨k1, hk1⟩ : ∃ k1, k + 1 = k1 := ⟨_, rfl⟩
          have hw5 : IntKind.i64.wrap ((k : Int) + 1) = (k1 : Int) := by rw [IntWalk.i64_in _ (by omega)]; omega
          have htY : t < Y.length := by omega
          obtain ⟨⟨yw, ya, yn, yc⟩, hy⟩ : ∃ y, nth dV Y t = y := ⟨_, rfl⟩
          have hYd : Y.drop t = (yw, ya, yn, yc) :: Y.drop (t + 1) := by rw [drop_nth dV Y t htY, hy]
          have hYt : Y.take (t + 1) = Y.take t ++ [(yw, ya, yn, yc)] := by rw [take_succ_nth dV Y t htY, hy]
          have hrow : Row wr g ((pre ++ Y.take t) ++ (xw, xa, xn, xc) :: (yw, ya, yn, yc) :: (Y.drop (t + 1) ++ post)) rest := by rw [hYd] at hR; simpa [List.append_assoc] using hR
          have e1 : nth dV ((pre ++ Y.take t) ++ (xw, xa, xn, xc) :: (yw, ya, yn, yc) :: (Y.drop (t + 1) ++ post)) k = (xw, xa, xn, xc) := nth_at _ _ _ _ (by simp; omega)
          have e2 : nth dV ((pre ++ Y.take t) ++ (xw, xa, xn, xc) :: (yw, ya, yn, yc) :: (Y.drop (t + 1) ++ post)) k1 = (yw, ya, yn, yc) := by
            have := nth_at (d := dV) ((pre ++ Y.take t) ++ [(xw, xa, xn, xc)]) (yw, ya, yn, yc) (Y.drop (t + 1) ++ post) k1 (by simp; omega)
            simpa [List.append_assoc] using this
          have hlen : k1 < ((pre ++ Y.take t) ++ (xw, xa, xn, xc) :: (yw, ya, yn, yc) :: (Y.drop (t + 1) ++ post)).length := by simp; omega
          obtain ⟨c0, c1⟩ := hrow.cell k (by omega)
          obtain ⟨c2, c3⟩ := hrow.cell k1 hlen
          rw [e1] at c0 c1
          rw [e2] at c2 c3
          have f0 := hrow.free (k * 2)
          have f1 := hrow.free (k * 2 + 1)
          have f2 := hrow.free (k1 * 2)
          have f3 := hrow.free (k1 * 2 + 1)
          obtain ⟨q1, q2⟩ := hrow.swapped (i := k) (j := k1) (by omega) hlen e1 e2
          have hsw : swp dV ((pre ++ Y.take t) ++ (xw, xa, xn, xc) :: (yw, ya, yn, yc) :: (Y.drop (t + 1) ++ post)) k k1 = pre ++ (Y.take (t + 1) ++ ((xw, xa, xn, xc) :: (Y.drop (t + 1) ++ post))) := by
            rw [← hk1, swp_next _ _ _ _ _ (by simp; omega), hYt]; simp [List.append_assoc]
          rw [hsw] at q1
          have HQ := Lib.hid q1
          have HU := Lib.hid (hU.trans q2 fun _ _ h => h)
          have hkn : k < n := by omega
          have hk1n : k1 < n := by omega
          have hkk1 : k ≠ k1 := by omega
          have HK1 := Lib.hid (show k + 1 = k1 ∧ k < e ∧ k = a + t ∧ t ≤ p ∧ e = a + p from ⟨hk1, hlt, hkk.1, hkk.2, hee.1⟩)
          clear hl hf hkk hee hR hU hrow e1 e2 hlen q1 q2 hsw hYd hYt hy hlt hk1 htY
          go_wp2
          go_region
          go_wp2
          go_roundw
          case rel => have hh := HK1.out; exact ⟨k1, t + 1, rfl, Lib.hid ⟨by omega, by omega⟩, HQ.out.below (Below.refl _ _).drew, HU.out.trans (Upd.drew (fun b => b = g) _) fun _ _ h => h⟩
          case measure => have hh := HK1.out; simp [intOf]; omega
        · have hd2 : decide (k < e) = false := decide_eq_false hlt
          have ht : t = p := by omega
          subst ht
          have HR := Lib.hid hR
          have HU := Lib.hid hU
          clear hl hf hkk hee hR hU hlt
          go_wp2
          refine bodyPost_end (v := .tuple #[]) (by simp [results, Try.results88, go_sem]) rfl ⟨rfl, Y.take t ++ (xw, xa, xn, xc) :: Y.drop t, by simpa [List.append_assoc] using HR.out, ?_, ?_, ?_, HU.out⟩
          · have hs := HS.out
            rw [← List.take_append_drop t Y] at hs
            exact SortedF.append hs.left (List.pairwise_cons.2 ⟨fun y hy => HF.out.2.2.2 y hy, hs.right⟩) fun y hy z hz => by
              have h1 := HF.out.2.2.1 y hy
              rcases List.mem_cons.1 hz with rfl | hz
              · exact Int.le_of_lt h1
              · exact hs.cross y hy z hz
          · have h1 : SameV (Y.take t ++ [((xw, xa, xn, xc) : ItV)]) ([(xw, xa, xn, xc)] ++ Y.take t) := Same.swap fun z hz y hy => by rw [List.mem_singleton.1 hz]; exact HF.out.2.2.1 y hy
            have h2 := h1.append (Same.refl (Y.drop t))
            have e1 : [((xw, xa, xn, xc) : ItV)] ++ Y.take t ++ Y.drop t = [(xw, xa, xn, xc)] ++ Y := by rw [List.append_assoc, List.take_append_drop]
            rw [e1] at h2
            simpa [List.append_assoc] using h2
          · have := HF.out.2.1; simp; omega
end Go.Proofs.Ytlbgkkkcbnagbaa

namespace Go.Proofs.Ytlbgkkkcbnagbaa
open Go.RowKit Go.Shelf

set_option maxHeartbeats 4000000 in
set_option maxRecDepth 100000 in
theorem sym_right (g n cap a m b : Nat) (pre : List ItV) (y : ItV) (X post : List ItV) (rest : List Value) (w : World) (h : Row w g (pre ++ (X ++ (y :: post))) rest) (ha : a = pre.length) (hm : m = a + X.length) (hb : b = m + 1) (hX : 1 < X.length)
    (hn : n = (pre ++ (X ++ (y :: post))).length) (hcap : n ≤ cap ∧ n ≤ 1000000) (hy : 0 ≤ y.1 ∧ y.1 ≤ 1073741824) (hw : okW X) (hs : SortedV X) :
    Calls Try.prog 88 #[.slice (some ⟨g, 0, none⟩) n cap, .int .i64 (a : Int), .int .i64 (m : Int), .int .i64 (b : Int), cmpF] w (SymEnd g pre X [y] post rest w) := by
  obtain ⟨yw, ya, yn, yc⟩ := y
  have hnl : n = pre.length + X.length + 1 + post.length := by rw [hn]; simp; omega
  have HL := Lib.hid (show a = pre.length ∧ m = a + X.length ∧ b = m + 1 ∧ n = pre.length + X.length + 1 + post.length from ⟨ha, hm, hb, hnl⟩)
  obtain ⟨d, hd0⟩ : ∃ d, m - a = d := ⟨_, rfl⟩
  have hw1 : IntKind.i64.wrap ((m : Int) - (a : Int)) = (d : Int) := by rw [IntWalk.i64_in _ (by omega)]; omega
  have hdb : ((d : Int) == 1) = false := by rw [beq_eq_false_iff_ne]; omega
  have hw0 : IntKind.i64.wrap ((b : Int) - (m : Int)) = 1 := by rw [IntWalk.i64_in _ (by omega)]; omega
  have H := Lib.hid h
  have HW := Lib.hid hw
  have HS := Lib.hid hs
  have hm6 : m ≤ 1000000 ∧ a ≤ 1000000 ∧ n ≤ 1000000 := by omega
  have hmn : m < n := by omega
  clear h ha hm hb hn hnl hw hs hd0
  go_enter Try.func88, Try.ntmps88
  go_wp2
  clear hw1 hw0 hdb
  go_loopw [14, 15] (fun iv jv wr => ∃ (i j p q : Nat), iv = .int .i64 (i : Int) ∧ jv = .int .i64 (j : Int) ∧ Hid (i = a + p ∧ j = a + q ∧ p ≤ q ∧ q ≤ X.length ∧ (p = 0 ∨ (nth dV X (p - 1)).1 ≤ yw) ∧ (q = X.length ∨ yw < (nth dV X q).1)) ∧ Row wr g (pre ++ (X ++ ((yw, ya, yn, yc) :: post))) rest ∧ Upd (fun b => b = g) w wr) (fun iv jv _ => (intOf jv).toNat - (intOf iv).toNat)
  case atStart => exact ⟨a, m, 0, X.length, rfl, rfl, Lib.hid ⟨rfl, HL.out.2.1, Nat.zero_le _, Nat.le_refl _, .inl rfl, .inl rfl⟩, H.out, Upd.refl _ _⟩
  case round =>
    obtain ⟨i, j, p, q, rfl, rfl, hI, hR, hU⟩ := hrel
    have hl := HL.out
    have hi := hI.out
    by_cases hlt : i < j
    · have hd : decide (i < j) = true := decide_eq_true hlt
      obtain ⟨s, hs⟩ : ∃ s, i + j = s := ⟨_, rfl⟩
      obtain ⟨c, hc⟩ : ∃ c, s / 2 = c := ⟨_, rfl⟩
      obtain ⟨t, ht⟩ : ∃ t, c - a = t := ⟨_, rfl⟩
      have hw2 : IntKind.i64.wrap ((i : Int) + (j : Int)) = (s : Int) := by rw [IntWalk.i64_in _ (by omega)]; omega
      have hu1 : IntKind.u64.wrap (s : Int) = (s : Int) := by rw [IntKind.wrap_u64]; omega
      have hu2 : IntKind.u64.wrap (c : Int) = (c : Int) := by rw [IntKind.wrap_u64]; omega
      have hq : (s : Int) / 2 = (c : Int) := by omega
      have hw3 : IntKind.i64.wrap (c : Int) = (c : Int) := IntWalk.i64_in _ (by omega)
      have hw4 : IntKind.i64.wrap ((c : Int) + 1) = (c : Int) + 1 := IntWalk.i64_in _ (by omega)
      have hcn : c < n := by omega
      obtain ⟨⟨xw, xa, xn, xc⟩, hx⟩ : ∃ x, nth dV X t = x := ⟨_, rfl⟩
      have htX : t < X.length := by omega
      have e1 : nth dV (pre ++ (X ++ ((yw, ya, yn, yc) :: post))) m = (yw, ya, yn, yc) := by
        have := nth_at (d := dV) (pre ++ X) (yw, ya, yn, yc) post m (by simp; omega)
        simpa [List.append_assoc] using this
      have e2 : nth dV (pre ++ (X ++ ((yw, ya, yn, yc) :: post))) c = (xw, xa, xn, xc) := by
        have hsp := split_at (d := dV) X t htX
        rw [hx] at hsp
        have := nth_at (d := dV) (pre ++ X.take t) (xw, xa, xn, xc) (X.drop (t + 1) ++ ((yw, ya, yn, yc) :: post)) c (by simp; omega)
        rw [hsp]
        simpa [List.append_assoc] using this
      obtain ⟨c0, c1⟩ := hR.cell m (by simp; omega)
      obtain ⟨c2, c3⟩ := hR.cell c (by simp; omega)
      rw [e1] at c0 c1
      rw [e2] at c2 c3
      have hxb := HW.out (xw, xa, xn, xc) (by rw [← hx]; exact nth_mem dV X t htX)
      have HC := Lib.hid (fun W => cmp_any yw xw ya xa yn xn yc xc W hy hxb)
      have HR := Lib.hid hR
      have HU := Lib.hid hU
      have HT := Lib.hid (show i + j = s ∧ s / 2 = c ∧ c - a = t ∧ nth dV X t = (xw, xa, xn, xc) ∧ i < j from ⟨hs, hc, ht, hx, hlt⟩)
      clear hl hi hs hc ht hR hU e1 e2 hx hlt htX
      by_cases hlt2 : yw < xw
      · have hd3 : decide (yw - xw < 0) = true := decide_eq_true (by omega)
        have HLT := Lib.hid hlt2
        clear hlt2
        go_wp2
        go_still_tail 9, (by kernel_rfl)
        change wpList _ _ _ _ _ (World.drew _)
        have HDR := Lib.hid ((Below.refl wr.heap.size wr).drew)
        go_wp2_with (go_at_call 56; refine (HC.out _).mono ?_; rintro e w3 ⟨rfl, b3⟩; have HB3 := Lib.hid (below2 HDR.out b3); clear b3)
        go_roundw
        case rel =>
          have hh := HT.out
          have hi := hI.out
          refine ⟨i, c, p, t, rfl, rfl, Lib.hid ⟨hi.1, by omega, by omega, by omega, hi.2.2.2.2.1, .inr ?_⟩, HR.out.below HB3.out, HU.out.trans (Upd.of_below HB3.out (fun b => b = g)) fun _ _ h => h⟩
          rw [hh.2.2.2.1]; exact HLT.out
        case measure => have hh := HT.out; simp [intOf]; omega
      · have hd3 : decide (yw - xw < 0) = false := decide_eq_false (by omega)
        have HLT := Lib.hid hlt2
        clear hlt2
        go_wp2
        go_still_tail 9, (by kernel_rfl)
        change wpList _ _ _ _ _ (World.drew _)
        have HDR := Lib.hid ((Below.refl wr.heap.size wr).drew)
        go_wp2_with (go_at_call 56; refine (HC.out _).mono ?_; rintro e w3 ⟨rfl, b3⟩; have HB3 := Lib.hid (below2 HDR.out b3); clear b3)
        go_roundw
        case rel =>
          have hh := HT.out
          have hi := hI.out
          refine ⟨c + 1, j, t + 1, q, by go_num, rfl, Lib.hid ⟨by omega, hi.2.1, by omega, hi.2.2.2.1, .inr ?_, hi.2.2.2.2.2⟩, HR.out.below HB3.out, HU.out.trans (Upd.of_below HB3.out (fun b => b = g)) fun _ _ h => h⟩
          rw [Nat.add_sub_cancel, hh.2.2.2.1]; have := HLT.out; show xw ≤ yw; omega
        case measure => have hh := HT.out; simp [intOf]; omega
    · have hd : decide (i < j) = false := decide_eq_false hlt
      have hpq : p = q := by omega
      have HF := Lib.hid (show i = a + p ∧ p ≤ X.length ∧ (∀ z ∈ X.take p, z.1 ≤ yw) ∧ (∀ z ∈ X.drop p, yw < z.1) from
        ⟨hi.1, by omega, sorted_lower' HS.out (by omega) hi.2.2.2.2.1, sorted_upper' HS.out (by rw [hpq]; exact hi.2.2.2.2.2) (by omega)⟩)
      have HR := Lib.hid hR
      have HU := Lib.hid hU
      clear hl hi hR hU hI hpq hlt
      go_wp2
      clear hd
      go_loopw [17] (fun kv wr2 => ∃ (k t : Nat), kv = .int .i64 (k : Int) ∧ Hid (k = a + t ∧ p ≤ t ∧ t ≤ X.length) ∧ Row wr2 g (pre ++ (X.take t ++ ((yw, ya, yn, yc) :: (X.drop t ++ post)))) rest ∧ Upd (fun b => b = g) w wr2) (fun kv _ => (intOf kv).toNat)
      case atStart => exact ⟨m, X.length, rfl, Lib.hid ⟨HL.out.2.1, HF.out.2.1, Nat.le_refl _⟩, by simpa using HR.out, HU.out⟩
      case round =>
        clear HR HU
        obtain ⟨k, t, rfl, hk, hR, hU⟩ := hrel
        have hl := HL.out
        have hf := HF.out
        have hkk := hk.out
        by_cases hlt : i < k
        · have hd2 : decide (i < k) = true := decide_eq_true hlt
          obtain ⟨k1, hk1⟩ : ∃ k1, k = k1 + 1 := ⟨k - 1, by omega⟩
          obtain ⟨t1, ht1⟩ : ∃ t1, t = t1 + 1 := ⟨t - 1, by omega⟩
          have hw5 : IntKind.i64.wrap ((k : Int) - 1) = (k1 : Int) := by rw [IntWalk.i64_in _ (by omega)]; omega
          have htX : t1 < X.length := by omega
          obtain ⟨⟨xw, xa, xn, xc⟩, hx⟩ : ∃ x, nth dV X t1 = x := ⟨_, rfl⟩
          have hXd : X.drop t1 = (xw, xa, xn, xc) :: X.drop t := by rw [drop_nth dV X t1 htX, hx, ht1]
          have hXt : X.take t = X.take t1 ++ [(xw, xa, xn, xc)] := by rw [ht1, take_succ_nth dV X t1 htX, hx]
          have hrow : Row wr g ((pre ++ X.take t1) ++ (xw, xa, xn, xc) :: (yw, ya, yn, yc) :: (X.drop t ++ post)) rest := by rw [hXt] at hR; simpa [List.append_assoc] using hR
          have e1 : nth dV ((pre ++ X.take t1) ++ (xw, xa, xn, xc) :: (yw, ya, yn, yc) :: (X.drop t ++ post)) k1 = (xw, xa, xn, xc) := nth_at _ _ _ _ (by simp; omega)
          have e2 : nth dV ((pre ++ X.take t1) ++ (xw, xa, xn, xc) :: (yw, ya, yn, yc) :: (X.drop t ++ post)) k = (yw, ya, yn, yc) := by
            have := nth_at (d := dV) ((pre ++ X.take t1) ++ [(xw, xa, xn, xc)]) (yw, ya, yn, yc) (X.drop t ++ post) k (by simp; omega)
            simpa [List.append_assoc] using this
          have hlen : k < ((pre ++ X.take t1) ++ (xw, xa, xn, xc) :: (yw, ya, yn, yc) :: (X.drop t ++ post)).length := by simp; omega
          obtain ⟨c0, c1⟩ := hrow.cell k1 (by omega)
          obtain ⟨c2, c3⟩ := hrow.cell k hlen
          rw [e1] at c0 c1
          rw [e2] at c2 c3
          have f0 := hrow.free (k * 2)
          have f1 := hrow.free (k * 2 + 1)
          have f2 := hrow.free (k1 * 2)
          have f3 := hrow.free (k1 * 2 + 1)
          obtain ⟨q1, q2⟩ := hrow.swapped (i := k) (j := k1) hlen (by omega) e2 e1
          have hsw : swp dV ((pre ++ X.take t1) ++ (xw, xa, xn, xc) :: (yw, ya, yn, yc) :: (X.drop t ++ post)) k k1 = pre ++ (X.take t1 ++ ((yw, ya, yn, yc) :: (X.drop t1 ++ post))) := by
            rw [hk1, swp_comm _ _ _ (by omega), swp_next _ _ _ _ _ (by simp; omega), hXd]; simp [List.append_assoc]
          rw [hsw] at q1
          have HQ := Lib.hid q1
          have HU := Lib.hid (hU.trans q2 fun _ _ h => h)
          have hkn : k < n := by omega
          have hk1n : k1 < n := by omega
          have hkk1 : k ≠ k1 := by omega
          have HK1 := Lib.hid (show k = k1 + 1 ∧ i < k ∧ k = a + t ∧ t = t1 + 1 ∧ i = a + p ∧ t ≤ X.length from ⟨hk1, hlt, hkk.1, ht1, hf.1, hkk.2.2⟩)
          clear hl hf hkk hR hU hrow e1 e2 hlen q1 q2 hsw hXd hXt hx hlt hk1 htX ht1
          go_wp2
          go_region
          go_wp2
          go_roundw
          case rel => have hh := HK1.out; exact ⟨k1, t1, rfl, Lib.hid ⟨by omega, by omega, by omega⟩, HQ.out.below (Below.refl _ _).drew, HU.out.trans (Upd.drew (fun b => b = g) _) fun _ _ h => h⟩
          case measure => have hh := HK1.out; simp [intOf]; omega
        · have hd2 : decide (i < k) = false := decide_eq_false hlt
          have ht : t = p := by omega
          subst ht
          have HR := Lib.hid hR
          have HU := Lib.hid hU
          clear hl hf hkk hR hU hlt
          go_wp2
          have hs := HS.out
          rw [← List.take_append_drop t X] at hs
          obtain ⟨z1, z2⟩ := sorted_ins (x := ((yw, ya, yn, yc) : ItV)) hs HF.out.2.2.1 HF.out.2.2.2
          rw [List.take_append_drop] at z2
          refine bodyPost_end (v := .tuple #[]) (by simp [results, Try.results88, go_sem]) rfl ⟨rfl, X.take t ++ (yw, ya, yn, yc) :: X.drop t, by simpa [List.append_assoc] using HR.out, z1, z2, ?_, HU.out⟩
          have := HF.out.2.1; simp; omega
end Go.Proofs.Ytlbgkkkcbnagbaa

namespace Go.Proofs.Ytlbgkkkcbnagbaa
open Go.RowKit Go.Shelf

def atMost (X Y : List ItV) (a m nn c : Nat) : Prop := (nth dV X (c - a)).1 ≤ (nth dV Y (nn - 1 - c - m)).1
structure SymI (X Y : List ItV) (a m b nn st r : Nat) : Prop where
  h1 : a ≤ st
  h2 : st ≤ r
  h3 : r ≤ m
  h4 : m + r ≤ nn
  h5 : nn ≤ b + st
  lo : st = a ∨ nn = b + st ∨ atMost X Y a m nn (st - 1)
  hi : r = m ∨ nn = m + r ∨ ¬ atMost X Y a m nn r
theorem sym_low {X Y : List ItV} (hX : SortedV X) (hY : SortedV Y) {a m b nn st : Nat} (h : SymI X Y a m b nn st st) (hm : m = a + X.length) (hb : b = m + Y.length) :
    ∀ x ∈ X.take (st - a), ∀ y ∈ Y.drop (nn - st - m), x.1 ≤ y.1 := fun x hx y hy => by
  rcases h.lo with h1 | h1 | h1
  · rw [h1, Nat.sub_self] at hx; simp at hx
  · rw [List.drop_of_length_le (by omega)] at hy; simp at hy
  · have := h.h1; have := h.h3; have := h.h4; have := h.h5
    rcases Nat.eq_zero_or_pos (st - a) with h0 | h0
    · rw [h0] at hx; simp at hx
    · have e : nn - 1 - (st - 1) - m = nn - st - m := by omega
      unfold atMost at h1
      rw [e] at h1
      have hx' := sorted_lower' hX (p := st - a) (x := (nth dV Y (nn - st - m)).1) (by omega) (.inr (by rw [show st - a - 1 = st - 1 - a by omega]; exact h1)) x hx
      have hy' := sorted_upper hY (p := nn - st - m) (x := (nth dV Y (nn - st - m)).1) (.inr (Int.le_refl _)) (by omega) y hy
      omega
theorem sym_high {X Y : List ItV} (hX : SortedV X) (hY : SortedV Y) {a m b nn st : Nat} (h : SymI X Y a m b nn st st) (hm : m = a + X.length) (hb : b = m + Y.length) :
    ∀ y ∈ Y.take (nn - st - m), ∀ x ∈ X.drop (st - a), y.1 < x.1 := fun y hy x hx => by
  have := h.h1; have := h.h3; have := h.h4; have := h.h5
  rcases h.hi with h1 | h1 | h1
  · rw [List.drop_of_length_le (by omega)] at hx; simp at hx
  · rw [show nn - st - m = 0 by omega] at hy; simp at hy
  · rcases Nat.eq_zero_or_pos (nn - st - m) with h0 | h0
    · rw [h0] at hy; simp at hy
    · unfold atMost at h1
      have h1' := Int.not_le.1 h1
      have hy' := sorted_lower hY (p := nn - st - m) (x := (nth dV X (st - a)).1) (by omega) (.inr (by rw [show nn - st - m - 1 = nn - 1 - st - m by omega]; exact h1')) y hy
      have hx' := sorted_upper hX (p := st - a) (x := (nth dV X (st - a)).1) (.inr (Int.le_refl _)) (by omega) x hx
      omega
theorem okW_part {X : List ItV} (h : okW X) {Z : List ItV} (hz : ∀ z ∈ Z, z ∈ X) : okW Z := fun p hp => h p (hz p hp)

set_option maxHeartbeats 8000000 in
set_option maxRecDepth 100000 in
theorem sym_step (N : Nat) (IH : ∀ (g n cap a m b : Nat) (pre X Y post : List ItV) (rest : List Value) (w : World), X.length + Y.length ≤ N → Row w g (pre ++ (X ++ (Y ++ post))) rest → a = pre.length → m = a + X.length → b = m + Y.length → 0 < X.length → 0 < Y.length →
      n = (pre ++ (X ++ (Y ++ post))).length → n ≤ cap ∧ n ≤ 1000000 → okW X → okW Y → SortedV X → SortedV Y →
      Calls Try.prog 88 #[.slice (some ⟨g, 0, none⟩) n cap, .int .i64 (a : Int), .int .i64 (m : Int), .int .i64 (b : Int), cmpF] w (SymEnd g pre X Y post rest w))
    (g n cap a m b : Nat) (pre X Y post : List ItV) (rest : List Value) (w : World) (hN : X.length + Y.length ≤ N + 1) (h : Row w g (pre ++ (X ++ (Y ++ post))) rest) (ha : a = pre.length) (hm : m = a + X.length) (hb : b = m + Y.length) (hX : 1 < X.length) (hY : 1 < Y.length)
    (hn : n = (pre ++ (X ++ (Y ++ post))).length) (hcap : n ≤ cap ∧ n ≤ 1000000) (hwX : okW X) (hwY : okW Y) (hsX : SortedV X) (hsY : SortedV Y) :
    Calls Try.prog 88 #[.slice (some ⟨g, 0, none⟩) n cap, .int .i64 (a : Int), .int .i64 (m : Int), .int .i64 (b : Int), cmpF] w (SymEnd g pre X Y post rest w) := by
  have hnl : n = pre.length + X.length + Y.length + post.length := by rw [hn]; simp; omega
  have HL := Lib.hid (show a = pre.length ∧ m = a + X.length ∧ b = m + Y.length ∧ n = pre.length + X.length + Y.length + post.length ∧ 1 < X.length ∧ 1 < Y.length ∧ X.length + Y.length ≤ N + 1 from ⟨ha, hm, hb, hnl, hX, hY, hN⟩)
  have hl := HL.out
  obtain ⟨d1, hd1⟩ : ∃ d1, m - a = d1 := ⟨_, rfl⟩
  obtain ⟨d2, hd2⟩ : ∃ d2, b - m = d2 := ⟨_, rfl⟩
  have hw1 : IntKind.i64.wrap ((m : Int) - (a : Int)) = (d1 : Int) := by rw [IntWalk.i64_in _ (by omega)]; omega
  have hdb1 : ((d1 : Int) == 1) = false := by rw [beq_eq_false_iff_ne]; omega
  have hw2 : IntKind.i64.wrap ((b : Int) - (m : Int)) = (d2 : Int) := by rw [IntWalk.i64_in _ (by omega)]; omega
  have hdb2 : ((d2 : Int) == 1) = false := by rw [beq_eq_false_iff_ne]; omega
  obtain ⟨s0, hs0⟩ : ∃ s0, a + b = s0 := ⟨_, rfl⟩
  obtain ⟨mid, hmid⟩ : ∃ mid, s0 / 2 = mid := ⟨_, rfl⟩
  obtain ⟨nn, hnn⟩ : ∃ nn, mid + m = nn := ⟨_, rfl⟩
  obtain ⟨p, hp⟩ : ∃ p, nn - 1 = p := ⟨_, rfl⟩
  have hw3 : IntKind.i64.wrap ((a : Int) + (b : Int)) = (s0 : Int) := by rw [IntWalk.i64_in _ (by omega)]; omega
  have hu1 : IntKind.u64.wrap (s0 : Int) = (s0 : Int) := by rw [IntKind.wrap_u64]; omega
  have hu2 : IntKind.u64.wrap (mid : Int) = (mid : Int) := by rw [IntKind.wrap_u64]; omega
  have hq : (s0 : Int) / 2 = (mid : Int) := by omega
  have hw4 : IntKind.i64.wrap (mid : Int) = (mid : Int) := IntWalk.i64_in _ (by omega)
  have hw5 : IntKind.i64.wrap ((mid : Int) + (m : Int)) = (nn : Int) := by rw [IntWalk.i64_in _ (by omega)]; omega
  have hw6 : IntKind.i64.wrap ((nn : Int) - 1) = (p : Int) := by rw [IntWalk.i64_in _ (by omega)]; omega
  have H := Lib.hid h
  have HW := Lib.hid (show okW X ∧ okW Y ∧ SortedV X ∧ SortedV Y from ⟨hwX, hwY, hsX, hsY⟩)
  have HM := Lib.hid (show a + b = s0 ∧ s0 / 2 = mid ∧ mid + m = nn ∧ nn - 1 = p from ⟨hs0, hmid, hnn, hp⟩)
  have hm6 : m ≤ 1000000 ∧ a ≤ 1000000 ∧ n ≤ 1000000 ∧ nn ≤ 2000000 ∧ b ≤ n := by omega
  have HI := Lib.hid IH
  have HST : ∃ st0 r0 : Nat, Hid (SymI X Y a m b nn st0 r0) ∧ ((decide (mid < m) = true ∧ IntKind.i64.wrap ((nn : Int) - (b : Int)) = (st0 : Int) ∧ mid = r0) ∨ (decide (mid < m) = false ∧ a = st0 ∧ m = r0)) := by
    rcases Nat.lt_or_ge mid m with hmm | hmm
    · exact ⟨nn - b, mid, Lib.hid ⟨by omega, by omega, by omega, by omega, by omega, .inr (.inl (by omega)), .inr (.inl (by omega))⟩, .inl ⟨decide_eq_true hmm, by rw [IntWalk.i64_in _ (by omega)]; omega, rfl⟩⟩
    · exact ⟨a, m, Lib.hid ⟨by omega, by omega, by omega, by omega, by omega, .inl rfl, .inl rfl⟩, .inr ⟨decide_eq_false (by omega), rfl, rfl⟩⟩
  clear h ha hm hb hn hnl hwX hwY hsX hsY hX hY hl hd1 hd2 hs0 hmid hnn hp hN IH
  obtain ⟨st0, r0, HS0, hbr⟩ := HST
  go_enter Try.func88, Try.ntmps88
  go_upto_if 140 with (fail)
  clear hw1 hw2 hdb1 hdb2 hw3 hu1 hu2 hq hw4 hw5
  go_cut [20, 21] (fun v20 v21 wx => ∃ st0 r0 : Nat, v20 = .int .i64 (st0 : Int) ∧ v21 = .int .i64 (r0 : Int) ∧ Hid (SymI X Y a m b nn st0 r0) ∧ wx = w)
  case first =>
    rcases hbr with ⟨hmm, hw7, rfl⟩ | ⟨hmm, rfl, rfl⟩
    · have hmm2 := of_decide_eq_true hmm
      go_wp2
      go_meet
      exact ⟨_, _, rfl, rfl, HS0, rfl⟩
    · have hmm2 := of_decide_eq_false hmm
      go_wp2
      go_meet
      exact ⟨_, _, rfl, rfl, HS0, rfl⟩
  case rest =>
    obtain ⟨st1, r1, rfl, rfl, HS1, hwx⟩ := hcut
    replace hwx := hwx.symm
    subst hwx
    clear hbr HS0
    go_wp2
    clear hw6
    go_loopw [20, 21] (fun iv jv wr => ∃ (st r : Nat), iv = .int .i64 (st : Int) ∧ jv = .int .i64 (r : Int) ∧ Hid (SymI X Y a m b nn st r) ∧ Row wr g (pre ++ (X ++ (Y ++ post))) rest ∧ Upd (fun b => b = g) w wr) (fun iv jv _ => (intOf jv).toNat - (intOf iv).toNat)
    case atStart => exact ⟨_, _, rfl, rfl, HS1, H.out, Upd.refl _ _⟩
    case round =>
      clear HS1
      obtain ⟨st, r, rfl, rfl, hI, hR, hU⟩ := hrel
      have hl := HL.out
      have hm := HM.out
      have h1 := hI.out.h1
      have h2 := hI.out.h2
      have h3 := hI.out.h3
      have h4 := hI.out.h4
      have h5 := hI.out.h5
      by_cases hlt : st < r
      · have hd : decide (st < r) = true := decide_eq_true hlt
        obtain ⟨s, hs⟩ : ∃ s, st + r = s := ⟨_, rfl⟩
        obtain ⟨c, hc⟩ : ∃ c, s / 2 = c := ⟨_, rfl⟩
        obtain ⟨q, hq⟩ : ∃ q, p - c = q := ⟨_, rfl⟩
        have hw2 : IntKind.i64.wrap ((st : Int) + (r : Int)) = (s : Int) := by rw [IntWalk.i64_in _ (by omega)]; omega
        have hu1 : IntKind.u64.wrap (s : Int) = (s : Int) := by rw [IntKind.wrap_u64]; omega
        have hu2 : IntKind.u64.wrap (c : Int) = (c : Int) := by rw [IntKind.wrap_u64]; omega
        have hqq : (s : Int) / 2 = (c : Int) := by omega
        have hw3 : IntKind.i64.wrap (c : Int) = (c : Int) := IntWalk.i64_in _ (by omega)
        have hw4 : IntKind.i64.wrap ((c : Int) + 1) = (c : Int) + 1 := IntWalk.i64_in _ (by omega)
        have hw5 : IntKind.i64.wrap ((p : Int) - (c : Int)) = (q : Int) := by rw [IntWalk.i64_in _ (by omega)]; omega
        have hcn : c < n := by omega
        have hqn : q < n := by omega
        have hcX : c - a < X.length := by omega
        have hqY : q - m < Y.length := by omega
        obtain ⟨⟨xw, xa, xn, xc⟩, hx⟩ : ∃ x, nth dV X (c - a) = x := ⟨_, rfl⟩
        obtain ⟨⟨yw, ya, yn, yc⟩, hy⟩ : ∃ y, nth dV Y (q - m) = y := ⟨_, rfl⟩
        have e1 : nth dV (pre ++ (X ++ (Y ++ post))) c = (xw, xa, xn, xc) := by
          have hsp := split_at (d := dV) X (c - a) hcX
          rw [hx] at hsp
          have := nth_at (d := dV) (pre ++ X.take (c - a)) (xw, xa, xn, xc) (X.drop (c - a + 1) ++ (Y ++ post)) c (by simp; omega)
          rw [hsp]
          simpa [List.append_assoc] using this
        have e2 : nth dV (pre ++ (X ++ (Y ++ post))) q = (yw, ya, yn, yc) := by
          have hsp := split_at (d := dV) Y (q - m) hqY
          rw [hy] at hsp
          have := nth_at (d := dV) (pre ++ (X ++ Y.take (q - m))) (yw, ya, yn, yc) (Y.drop (q - m + 1) ++ post) q (by simp; omega)
          rw [hsp]
          simpa [List.append_assoc] using this
        obtain ⟨c0, c1⟩ := hR.cell c (by simp; omega)
        obtain ⟨c2, c3⟩ := hR.cell q (by simp; omega)
        rw [e1] at c0 c1
        rw [e2] at c2 c3
        have hxb := HW.out.1 (xw, xa, xn, xc) (by rw [← hx]; exact nth_mem dV X _ hcX)
        have hyb := HW.out.2.1 (yw, ya, yn, yc) (by rw [← hy]; exact nth_mem dV Y _ hqY)
        have hP : atMost X Y a m nn c ↔ xw ≤ yw := by
          unfold atMost
          rw [show nn - 1 - c - m = q - m by omega, hx, hy]
        have HC := Lib.hid (fun W => cmp_any yw xw ya xa yn xn yc xc W hyb hxb)
        have HR := Lib.hid hR
        have HU := Lib.hid hU
        have HT := Lib.hid (show (st + r = s ∧ s / 2 = c ∧ st < r ∧ c < m ∧ c + 1 + m ≤ nn) ∧ (atMost X Y a m nn c ↔ xw ≤ yw) from ⟨⟨hs, hc, hlt, by omega, by omega⟩, hP⟩)
        clear hl hm h1 h2 h3 h4 h5 hs hc hq hR hU e1 e2 hx hy hlt hcX hqY hP
        by_cases hlt2 : yw < xw
        · have hd3 : decide (yw - xw < 0) = true := decide_eq_true (by omega)
          have HLT := Lib.hid hlt2
          clear hlt2
          go_wp2
          go_still_tail 11, (by kernel_rfl)
          change wpList _ _ _ _ _ (World.drew _)
          have HDR := Lib.hid ((Below.refl wr.heap.size wr).drew)
          go_wp2_with (go_at_call 56; refine (HC.out _).mono ?_; rintro e w3 ⟨rfl, b3⟩; have HB3 := Lib.hid (below2 HDR.out b3); clear b3)
          go_roundw
          case rel =>
            have hh := HT.out.1
            have hi := hI.out
            refine ⟨st, c, rfl, rfl, Lib.hid ⟨hi.h1, by omega, by omega, by omega, hi.h5, hi.lo, .inr (.inr fun h => ?_)⟩, HR.out.below HB3.out, HU.out.trans (Upd.of_below HB3.out (fun b => b = g)) fun _ _ h => h⟩
            have h1 := HT.out.2.1 h
            have := HLT.out
            omega
          case measure => have hh := HT.out.1; simp [intOf]; omega
        · have hd3 : decide (yw - xw < 0) = false := decide_eq_false (by omega)
          have HLT := Lib.hid hlt2
          clear hlt2
          go_wp2
          go_still_tail 11, (by kernel_rfl)
          change wpList _ _ _ _ _ (World.drew _)
          have HDR := Lib.hid ((Below.refl wr.heap.size wr).drew)
          go_wp2_with (go_at_call 56; refine (HC.out _).mono ?_; rintro e w3 ⟨rfl, b3⟩; have HB3 := Lib.hid (below2 HDR.out b3); clear b3)
          go_roundw
          case rel =>
            have hh := HT.out.1
            have hi := hI.out
            have h5 := hi.h5
            refine ⟨c + 1, r, by go_num, rfl, Lib.hid ⟨by have := hi.h1; omega, by omega, hi.h3, hi.h4, by omega, .inr (.inr ?_), hi.hi⟩, HR.out.below HB3.out, HU.out.trans (Upd.of_below HB3.out (fun b => b = g)) fun _ _ h => h⟩
            rw [Nat.add_sub_cancel]
            exact HT.out.2.2 (by have := HLT.out; omega)
          case measure => have hh := HT.out.1; simp [intOf]; omega
      · have hd : decide (st < r) = false := decide_eq_false hlt
        obtain rfl : st = r := by omega
        obtain ⟨e, he⟩ : ∃ e, nn - st = e := ⟨_, rfl⟩
        have hw1 : IntKind.i64.wrap ((nn : Int) - (st : Int)) = (e : Int) := by rw [IntWalk.i64_in _ (by omega)]; omega
        have hxy := sym_low HW.out.2.2.1 HW.out.2.2.2 hI.out hl.2.1 hl.2.2.1
        have hyx := sym_high HW.out.2.2.1 HW.out.2.2.2 hI.out hl.2.1 hl.2.2.1
        rw [he] at hxy hyx
        have lX1 : a + (X.take (st - a)).length = st := by rw [List.length_take]; omega
        have lX2 : st + (X.drop (st - a)).length = m := by rw [List.length_drop]; omega
        have lY1 : m + (Y.take (e - m)).length = e := by rw [List.length_take]; omega
        have lY2 : e + (Y.drop (e - m)).length = b := by rw [List.length_drop]; omega
        have jX : X.take (st - a) ++ X.drop (st - a) = X := List.take_append_drop _ _
        have jY : Y.take (e - m) ++ Y.drop (e - m) = Y := List.take_append_drop _ _
        generalize X.take (st - a) = X1 at hxy hyx lX1 jX
        generalize X.drop (st - a) = X2 at hxy hyx lX2 jX
        generalize Y.take (e - m) = Y1 at hxy hyx lY1 jY
        generalize Y.drop (e - m) = Y2 at hxy hyx lY2 jY
        have hwX := HW.out.1
        have hwY := HW.out.2.1
        have hsX := HW.out.2.2.1
        have hsY := HW.out.2.2.2
        rw [← jX] at hwX hsX
        rw [← jY] at hwY hsY
        have hen : e + st = nn := by omega
        have hlen : n = pre.length + X1.length + X2.length + Y1.length + Y2.length + post.length := by omega
        have hR0 : Row wr g ((pre ++ X1) ++ (X2 ++ (Y1 ++ (Y2 ++ post)))) rest := by rw [← jX, ← jY] at hR; simpa [List.append_assoc] using hR
        have HR0 := Lib.hid hR0
        have HU0 := Lib.hid hU
        have HROT := Lib.hid (fun (k1 : 0 < X2.length) (k2 : 0 < Y1.length) => rotate_any g n cap st m e (pre ++ X1) X2 Y1 (Y2 ++ post) rest wr hR0 (by rw [List.length_append]; omega) lX2.symm lY1.symm k1 k2 (by simp only [List.length_append]; omega) hcap)
        have HSA := Lib.hid (fun (k1 : 0 < X1.length) (k2 : 0 < Y1.length) W (hr : Row W g (pre ++ (X1 ++ (Y1 ++ (X2 ++ (Y2 ++ post))))) rest) => HI.out g n cap a st mid pre X1 Y1 (X2 ++ (Y2 ++ post)) rest W (by omega) hr hl.1 lX1.symm (by omega) k1 k2 (by simp only [List.length_append]; omega) hcap
          (okW_part hwX fun z hz => by simp [hz]) (okW_part hwY fun z hz => by simp [hz]) hsX.left hsY.left)
        have HSB := Lib.hid (fun (Z1 : List ItV) (lz : Z1.length = X1.length + Y1.length) (k1 : 0 < X2.length) (k2 : 0 < Y2.length) W (hr : Row W g ((pre ++ Z1) ++ (X2 ++ (Y2 ++ post))) rest) => HI.out g n cap mid e b (pre ++ Z1) X2 Y2 post rest W (by omega) hr (by rw [List.length_append]; omega) (by omega) lY2.symm k1 k2 (by simp only [List.length_append]; omega) hcap
          (okW_part hwX fun z hz => by simp [hz]) (okW_part hwY fun z hz => by simp [hz]) hsX.right hsY.right)
        have HFIN := Lib.hid (fun (Z1 Z2 : List ItV) W (q1 : SortedV Z1) (q2 : SortedV Z2) (s1 : SameV Z1 (X1 ++ Y1)) (s2 : SameV Z2 (X2 ++ Y2)) (l1 : Z1.length = X1.length + Y1.length) (l2 : Z2.length = X2.length + Y2.length) (hr : Row W g ((pre ++ Z1) ++ (Z2 ++ post)) rest) (hu : Upd (fun b => b = g) w W) =>
          show ∃ Z, Row W g (pre ++ (Z ++ post)) rest ∧ SortedV Z ∧ SameV Z (X ++ Y) ∧ Z.length = X.length + Y.length ∧ Upd (fun b => b = g) w W from
            have hh := sorted_halves hsX hsY hxy hyx q1 q2 s1 s2
            ⟨Z1 ++ Z2, by simpa [List.append_assoc] using hr, hh.1, by rw [← jX, ← jY]; exact hh.2, by rw [← jX, ← jY]; simp only [List.length_append]; omega, hu⟩)
        have HLEN := Lib.hid (show a + X1.length = st ∧ st + X2.length = m ∧ m + Y1.length = e ∧ e + Y2.length = b ∧ mid + m = e + st ∧ 1 < X1.length + X2.length ∧ 1 < Y1.length + Y2.length ∧ a + b = s0 ∧ s0 / 2 = mid from
          ⟨lX1, lX2, lY1, lY2, by omega, by omega, by omega, hm.1, hm.2.1⟩)
        have HSO := Lib.hid (show SortedV X1 ∧ SortedV X2 ∧ SortedV Y1 ∧ SortedV Y2 from ⟨hsX.left, hsX.right, hsY.left, hsY.right⟩)
        clear hR hU hR0 hwX hwY hsX hsY jX jY lX1 lX2 lY1 lY2 hxy hyx hl hm h1 h2 h3 h4 h5 hlt hen hlen he hI HL HM HI H HW
        rcases Nat.eq_zero_or_pos X1.length with kX1 | kX1
        · rcases Nat.eq_zero_or_pos X2.length with kX2 | kX2
          · rcases Nat.eq_zero_or_pos Y1.length with kY1 | kY1
            · rcases Nat.eq_zero_or_pos Y2.length with kY2 | kY2
              · exfalso; have := HLEN.out; omega
              · exfalso; have := HLEN.out; omega
            · rcases Nat.eq_zero_or_pos Y2.length with kY2 | kY2
              · exfalso; have := HLEN.out; omega
              · exfalso; have := HLEN.out; omega
          · rcases Nat.eq_zero_or_pos Y1.length with kY1 | kY1
            · rcases Nat.eq_zero_or_pos Y2.length with kY2 | kY2
              · exfalso; have := HLEN.out; omega
              · exfalso; have := HLEN.out; omega
            · rcases Nat.eq_zero_or_pos Y2.length with kY2 | kY2
              · have hh := HLEN.out
                have t1 : decide (a < st) = false := decide_eq_false (by omega)
                have t2 : decide (st < m) = true := decide_eq_true (by omega)
                have t3 : decide (m < e) = true := decide_eq_true (by omega)
                have t4 : decide (st < mid) = true := decide_eq_true (by omega)
                have t5 : decide (mid < e) = true := decide_eq_true (by omega)
                have t6 : decide (e < b) = false := decide_eq_false (by omega)
                have nX1 := Lib.hid (List.eq_nil_of_length_eq_zero kX1)
                have nX2 := Lib.hid kX2
                have nY1 := Lib.hid kY1
                have nY2 := Lib.hid (List.eq_nil_of_length_eq_zero kY2)
                clear hh kX1 kX2 kY1 kY2
                go_wp2_with (first
                  | (go_at_call 93; refine (HROT.out nX2.out nY1.out).mono ?_; rintro e1 w1 ⟨rfl, hr1, hu1⟩; have HR1 := Lib.hid (show Row w1 g (pre ++ (X1 ++ (Y1 ++ (X2 ++ (Y2 ++ post))))) rest by simpa [List.append_assoc] using hr1); have HU1 := Lib.hid (HU0.out.trans hu1 fun _ _ h => h); clear hr1 hu1; have HR2 := Lib.hid (show Row w1 g ((pre ++ (X1 ++ Y1)) ++ (X2 ++ (Y2 ++ post))) rest by have := HR1.out; simpa [List.append_assoc] using this); have HU2 := Lib.hid HU1.out; have HZ1 := Lib.hid (show SortedV (X1 ++ Y1) ∧ SameV (X1 ++ Y1) (X1 ++ Y1) ∧ (X1 ++ Y1).length = X1.length + Y1.length from ⟨by rw [nX1.out, List.nil_append]; exact HSO.out.2.2.1, Same.refl _, List.length_append⟩); have HR3 := Lib.hid (show Row w1 g ((pre ++ (X1 ++ Y1)) ++ ((X2 ++ Y2) ++ post)) rest by have := HR2.out; simpa [List.append_assoc] using this); have HU3 := Lib.hid HU2.out; have HZ2 := Lib.hid (show SortedV (X2 ++ Y2) ∧ SameV (X2 ++ Y2) (X2 ++ Y2) ∧ (X2 ++ Y2).length = X2.length + Y2.length from ⟨by rw [nY2.out, List.append_nil]; exact HSO.out.2.1, Same.refl _, List.length_append⟩)))
                refine bodyPost_end (v := .tuple #[]) (by simp [results, Try.results88, go_sem]) rfl ⟨rfl, HFIN.out _ _ _ HZ1.out.1 HZ2.out.1 HZ1.out.2.1 HZ2.out.2.1 HZ1.out.2.2 HZ2.out.2.2 HR3.out HU3.out⟩
              · have hh := HLEN.out
                have t1 : decide (a < st) = false := decide_eq_false (by omega)
                have t2 : decide (st < m) = true := decide_eq_true (by omega)
                have t3 : decide (m < e) = true := decide_eq_true (by omega)
                have t4 : decide (st < mid) = true := decide_eq_true (by omega)
                have t5 : decide (mid < e) = true := decide_eq_true (by omega)
                have t6 : decide (e < b) = true := decide_eq_true (by omega)
                have nX1 := Lib.hid (List.eq_nil_of_length_eq_zero kX1)
                have nX2 := Lib.hid kX2
                have nY1 := Lib.hid kY1
                have nY2 := Lib.hid kY2
                clear hh kX1 kX2 kY1 kY2
                go_wp2_with (first
                  | (go_at_call 93; refine (HROT.out nX2.out nY1.out).mono ?_; rintro e1 w1 ⟨rfl, hr1, hu1⟩; have HR1 := Lib.hid (show Row w1 g (pre ++ (X1 ++ (Y1 ++ (X2 ++ (Y2 ++ post))))) rest by simpa [List.append_assoc] using hr1); have HU1 := Lib.hid (HU0.out.trans hu1 fun _ _ h => h); clear hr1 hu1; have HR2 := Lib.hid (show Row w1 g ((pre ++ (X1 ++ Y1)) ++ (X2 ++ (Y2 ++ post))) rest by have := HR1.out; simpa [List.append_assoc] using this); have HU2 := Lib.hid HU1.out; have HZ1 := Lib.hid (show SortedV (X1 ++ Y1) ∧ SameV (X1 ++ Y1) (X1 ++ Y1) ∧ (X1 ++ Y1).length = X1.length + Y1.length from ⟨by rw [nX1.out, List.nil_append]; exact HSO.out.2.2.1, Same.refl _, List.length_append⟩))
                  | (go_at_call 88; refine (HSB.out _ HZ1.out.2.2 nX2.out nY2.out _ HR2.out).mono ?_; rintro e3 w3 ⟨rfl, Z2, hr3, z2s, z2m, z2l, hu3⟩; have HR3 := Lib.hid (show Row w3 g ((pre ++ (X1 ++ Y1)) ++ (Z2 ++ post)) rest from hr3); have HU3 := Lib.hid (HU2.out.trans hu3 fun _ _ h => h); have HZ2 := Lib.hid (show SortedV Z2 ∧ SameV Z2 (X2 ++ Y2) ∧ Z2.length = X2.length + Y2.length from ⟨z2s, z2m, z2l⟩); clear hr3 hu3 z2s z2m z2l))
                refine bodyPost_end (v := .tuple #[]) (by simp [results, Try.results88, go_sem]) rfl ⟨rfl, HFIN.out _ _ _ HZ1.out.1 HZ2.out.1 HZ1.out.2.1 HZ2.out.2.1 HZ1.out.2.2 HZ2.out.2.2 HR3.out HU3.out⟩
        · rcases Nat.eq_zero_or_pos X2.length with kX2 | kX2
          · rcases Nat.eq_zero_or_pos Y1.length with kY1 | kY1
            · rcases Nat.eq_zero_or_pos Y2.length with kY2 | kY2
              · exfalso; have := HLEN.out; omega
              · have hh := HLEN.out
                have t1 : decide (a < st) = true := decide_eq_true (by omega)
                have t2 : decide (st < m) = false := decide_eq_false (by omega)
                have t3 : decide (m < e) = false := decide_eq_false (by omega)
                have t4 : decide (st < mid) = false := decide_eq_false (by omega)
                have t5 : decide (mid < e) = false := decide_eq_false (by omega)
                have t6 : decide (e < b) = true := decide_eq_true (by omega)
                have nX1 := Lib.hid kX1
                have nX2 := Lib.hid (List.eq_nil_of_length_eq_zero kX2)
                have nY1 := Lib.hid (List.eq_nil_of_length_eq_zero kY1)
                have nY2 := Lib.hid kY2
                clear hh kX1 kX2 kY1 kY2
                have HR1 := Lib.hid (show Row wr g (pre ++ (X1 ++ (Y1 ++ (X2 ++ (Y2 ++ post))))) rest by have := HR0.out; simpa [List.append_assoc, nX2.out, nY1.out] using this)
                have HU1 := Lib.hid HU0.out
                have HR2 := Lib.hid (show Row wr g ((pre ++ (X1 ++ Y1)) ++ (X2 ++ (Y2 ++ post))) rest by have := HR1.out; simpa [List.append_assoc] using this)
                have HU2 := Lib.hid HU1.out
                have HZ1 := Lib.hid (show SortedV (X1 ++ Y1) ∧ SameV (X1 ++ Y1) (X1 ++ Y1) ∧ (X1 ++ Y1).length = X1.length + Y1.length from ⟨by rw [nY1.out, List.append_nil]; exact HSO.out.1, Same.refl _, List.length_append⟩)
                have HR3 := Lib.hid (show Row wr g ((pre ++ (X1 ++ Y1)) ++ ((X2 ++ Y2) ++ post)) rest by have := HR2.out; simpa [List.append_assoc] using this)
                have HU3 := Lib.hid HU2.out
                have HZ2 := Lib.hid (show SortedV (X2 ++ Y2) ∧ SameV (X2 ++ Y2) (X2 ++ Y2) ∧ (X2 ++ Y2).length = X2.length + Y2.length from ⟨by rw [nX2.out, List.nil_append]; exact HSO.out.2.2.2, Same.refl _, List.length_append⟩)
                go_wp2
                refine bodyPost_end (v := .tuple #[]) (by simp [results, Try.results88, go_sem]) rfl ⟨rfl, HFIN.out _ _ _ HZ1.out.1 HZ2.out.1 HZ1.out.2.1 HZ2.out.2.1 HZ1.out.2.2 HZ2.out.2.2 HR3.out HU3.out⟩
            · rcases Nat.eq_zero_or_pos Y2.length with kY2 | kY2
              · exfalso; have := HLEN.out; omega
              · have hh := HLEN.out
                have t1 : decide (a < st) = true := decide_eq_true (by omega)
                have t2 : decide (st < m) = false := decide_eq_false (by omega)
                have t3 : decide (m < e) = true := decide_eq_true (by omega)
                have t4 : decide (st < mid) = true := decide_eq_true (by omega)
                have t5 : decide (mid < e) = false := decide_eq_false (by omega)
                have t6 : decide (e < b) = true := decide_eq_true (by omega)
                have nX1 := Lib.hid kX1
                have nX2 := Lib.hid (List.eq_nil_of_length_eq_zero kX2)
                have nY1 := Lib.hid kY1
                have nY2 := Lib.hid kY2
                clear hh kX1 kX2 kY1 kY2
                have HR1 := Lib.hid (show Row wr g (pre ++ (X1 ++ (Y1 ++ (X2 ++ (Y2 ++ post))))) rest by have := HR0.out; simpa [List.append_assoc, nX2.out] using this)
                have HU1 := Lib.hid HU0.out
                go_wp2_with (first
                  | (go_at_call 88; (fail_if_success (have := HR2)); refine (HSA.out nX1.out nY1.out _ HR1.out).mono ?_; rintro e2 w2 ⟨rfl, Z1, hr2, z1s, z1m, z1l, hu2⟩; have HR2 := Lib.hid (show Row w2 g ((pre ++ Z1) ++ (X2 ++ (Y2 ++ post))) rest by simpa [List.append_assoc] using hr2); have HU2 := Lib.hid (HU1.out.trans hu2 fun _ _ h => h); have HZ1 := Lib.hid (show SortedV Z1 ∧ SameV Z1 (X1 ++ Y1) ∧ Z1.length = X1.length + Y1.length from ⟨z1s, z1m, z1l⟩); clear hr2 hu2 z1s z1m z1l; have HR3 := Lib.hid (show Row w2 g ((pre ++ Z1) ++ ((X2 ++ Y2) ++ post)) rest by have := HR2.out; simpa [List.append_assoc] using this); have HU3 := Lib.hid HU2.out; have HZ2 := Lib.hid (show SortedV (X2 ++ Y2) ∧ SameV (X2 ++ Y2) (X2 ++ Y2) ∧ (X2 ++ Y2).length = X2.length + Y2.length from ⟨by rw [nX2.out, List.nil_append]; exact HSO.out.2.2.2, Same.refl _, List.length_append⟩)))
                refine bodyPost_end (v := .tuple #[]) (by simp [results, Try.results88, go_sem]) rfl ⟨rfl, HFIN.out _ _ _ HZ1.out.1 HZ2.out.1 HZ1.out.2.1 HZ2.out.2.1 HZ1.out.2.2 HZ2.out.2.2 HR3.out HU3.out⟩
          · rcases Nat.eq_zero_or_pos Y1.length with kY1 | kY1
            · rcases Nat.eq_zero_or_pos Y2.length with kY2 | kY2
              · exfalso; have := HLEN.out; omega
              · have hh := HLEN.out
                have t1 : decide (a < st) = true := decide_eq_true (by omega)
                have t2 : decide (st < m) = true := decide_eq_true (by omega)
                have t3 : decide (m < e) = false := decide_eq_false (by omega)
                have t4 : decide (st < mid) = false := decide_eq_false (by omega)
                have t5 : decide (mid < e) = true := decide_eq_true (by omega)
                have t6 : decide (e < b) = true := decide_eq_true (by omega)
                have nX1 := Lib.hid kX1
                have nX2 := Lib.hid kX2
                have nY1 := Lib.hid (List.eq_nil_of_length_eq_zero kY1)
                have nY2 := Lib.hid kY2
                clear hh kX1 kX2 kY1 kY2
                have HR1 := Lib.hid (show Row wr g (pre ++ (X1 ++ (Y1 ++ (X2 ++ (Y2 ++ post))))) rest by have := HR0.out; simpa [List.append_assoc, nY1.out] using this)
                have HU1 := Lib.hid HU0.out
                have HR2 := Lib.hid (show Row wr g ((pre ++ (X1 ++ Y1)) ++ (X2 ++ (Y2 ++ post))) rest by have := HR1.out; simpa [List.append_assoc] using this)
                have HU2 := Lib.hid HU1.out
                have HZ1 := Lib.hid (show SortedV (X1 ++ Y1) ∧ SameV (X1 ++ Y1) (X1 ++ Y1) ∧ (X1 ++ Y1).length = X1.length + Y1.length from ⟨by rw [nY1.out, List.append_nil]; exact HSO.out.1, Same.refl _, List.length_append⟩)
                go_wp2_with (first
                  | (go_at_call 88; refine (HSB.out _ HZ1.out.2.2 nX2.out nY2.out _ HR2.out).mono ?_; rintro e3 w3 ⟨rfl, Z2, hr3, z2s, z2m, z2l, hu3⟩; have HR3 := Lib.hid (show Row w3 g ((pre ++ (X1 ++ Y1)) ++ (Z2 ++ post)) rest from hr3); have HU3 := Lib.hid (HU2.out.trans hu3 fun _ _ h => h); have HZ2 := Lib.hid (show SortedV Z2 ∧ SameV Z2 (X2 ++ Y2) ∧ Z2.length = X2.length + Y2.length from ⟨z2s, z2m, z2l⟩); clear hr3 hu3 z2s z2m z2l))
                refine bodyPost_end (v := .tuple #[]) (by simp [results, Try.results88, go_sem]) rfl ⟨rfl, HFIN.out _ _ _ HZ1.out.1 HZ2.out.1 HZ1.out.2.1 HZ2.out.2.1 HZ1.out.2.2 HZ2.out.2.2 HR3.out HU3.out⟩
            · rcases Nat.eq_zero_or_pos Y2.length with kY2 | kY2
              · have hh := HLEN.out
                have t1 : decide (a < st) = true := decide_eq_true (by omega)
                have t2 : decide (st < m) = true := decide_eq_true (by omega)
                have t3 : decide (m < e) = true := decide_eq_true (by omega)
                have t4 : decide (st < mid) = true := decide_eq_true (by omega)
                have t5 : decide (mid < e) = true := decide_eq_true (by omega)
                have t6 : decide (e < b) = false := decide_eq_false (by omega)
                have nX1 := Lib.hid kX1
                have nX2 := Lib.hid kX2
                have nY1 := Lib.hid kY1
                have nY2 := Lib.hid (List.eq_nil_of_length_eq_zero kY2)
                clear hh kX1 kX2 kY1 kY2
                go_wp2_with (first
                  | (go_at_call 93; refine (HROT.out nX2.out nY1.out).mono ?_; rintro e1 w1 ⟨rfl, hr1, hu1⟩; have HR1 := Lib.hid (show Row w1 g (pre ++ (X1 ++ (Y1 ++ (X2 ++ (Y2 ++ post))))) rest by simpa [List.append_assoc] using hr1); have HU1 := Lib.hid (HU0.out.trans hu1 fun _ _ h => h); clear hr1 hu1)
                  | (go_at_call 88; (fail_if_success (have := HR2)); refine (HSA.out nX1.out nY1.out _ HR1.out).mono ?_; rintro e2 w2 ⟨rfl, Z1, hr2, z1s, z1m, z1l, hu2⟩; have HR2 := Lib.hid (show Row w2 g ((pre ++ Z1) ++ (X2 ++ (Y2 ++ post))) rest by simpa [List.append_assoc] using hr2); have HU2 := Lib.hid (HU1.out.trans hu2 fun _ _ h => h); have HZ1 := Lib.hid (show SortedV Z1 ∧ SameV Z1 (X1 ++ Y1) ∧ Z1.length = X1.length + Y1.length from ⟨z1s, z1m, z1l⟩); clear hr2 hu2 z1s z1m z1l; have HR3 := Lib.hid (show Row w2 g ((pre ++ Z1) ++ ((X2 ++ Y2) ++ post)) rest by have := HR2.out; simpa [List.append_assoc] using this); have HU3 := Lib.hid HU2.out; have HZ2 := Lib.hid (show SortedV (X2 ++ Y2) ∧ SameV (X2 ++ Y2) (X2 ++ Y2) ∧ (X2 ++ Y2).length = X2.length + Y2.length from ⟨by rw [nY2.out, List.append_nil]; exact HSO.out.2.1, Same.refl _, List.length_append⟩)))
                refine bodyPost_end (v := .tuple #[]) (by simp [results, Try.results88, go_sem]) rfl ⟨rfl, HFIN.out _ _ _ HZ1.out.1 HZ2.out.1 HZ1.out.2.1 HZ2.out.2.1 HZ1.out.2.2 HZ2.out.2.2 HR3.out HU3.out⟩
              · have hh := HLEN.out
                have t1 : decide (a < st) = true := decide_eq_true (by omega)
                have t2 : decide (st < m) = true := decide_eq_true (by omega)
                have t3 : decide (m < e) = true := decide_eq_true (by omega)
                have t4 : decide (st < mid) = true := decide_eq_true (by omega)
                have t5 : decide (mid < e) = true := decide_eq_true (by omega)
                have t6 : decide (e < b) = true := decide_eq_true (by omega)
                have nX1 := Lib.hid kX1
                have nX2 := Lib.hid kX2
                have nY1 := Lib.hid kY1
                have nY2 := Lib.hid kY2
                clear hh kX1 kX2 kY1 kY2
                go_wp2_with (first
                  | (go_at_call 93; refine (HROT.out nX2.out nY1.out).mono ?_; rintro e1 w1 ⟨rfl, hr1, hu1⟩; have HR1 := Lib.hid (show Row w1 g (pre ++ (X1 ++ (Y1 ++ (X2 ++ (Y2 ++ post))))) rest by simpa [List.append_assoc] using hr1); have HU1 := Lib.hid (HU0.out.trans hu1 fun _ _ h => h); clear hr1 hu1)
                  | (go_at_call 88; (fail_if_success (have := HR2)); refine (HSA.out nX1.out nY1.out _ HR1.out).mono ?_; rintro e2 w2 ⟨rfl, Z1, hr2, z1s, z1m, z1l, hu2⟩; have HR2 := Lib.hid (show Row w2 g ((pre ++ Z1) ++ (X2 ++ (Y2 ++ post))) rest by simpa [List.append_assoc] using hr2); have HU2 := Lib.hid (HU1.out.trans hu2 fun _ _ h => h); have HZ1 := Lib.hid (show SortedV Z1 ∧ SameV Z1 (X1 ++ Y1) ∧ Z1.length = X1.length + Y1.length from ⟨z1s, z1m, z1l⟩); clear hr2 hu2 z1s z1m z1l)
                  | (go_at_call 88; refine (HSB.out _ HZ1.out.2.2 nX2.out nY2.out _ HR2.out).mono ?_; rintro e3 w3 ⟨rfl, Z2, hr3, z2s, z2m, z2l, hu3⟩; have HR3 := Lib.hid (show Row w3 g ((pre ++ Z1) ++ (Z2 ++ post)) rest from hr3); have HU3 := Lib.hid (HU2.out.trans hu3 fun _ _ h => h); have HZ2 := Lib.hid (show SortedV Z2 ∧ SameV Z2 (X2 ++ Y2) ∧ Z2.length = X2.length + Y2.length from ⟨z2s, z2m, z2l⟩); clear hr3 hu3 z2s z2m z2l))
                refine bodyPost_end (v := .tuple #[]) (by simp [results, Try.results88, go_sem]) rfl ⟨rfl, HFIN.out _ _ _ HZ1.out.1 HZ2.out.1 HZ1.out.2.1 HZ2.out.2.1 HZ1.out.2.2 HZ2.out.2.2 HR3.out HU3.out⟩
/-- symMerge merges two sorted neighbours. -/
theorem sym_any : ∀ (N : Nat) (g n cap a m b : Nat) (pre X Y post : List ItV) (rest : List Value) (w : World), X.length + Y.length ≤ N → Row w g (pre ++ (X ++ (Y ++ post))) rest → a = pre.length → m = a + X.length → b = m + Y.length → 0 < X.length → 0 < Y.length →
      n = (pre ++ (X ++ (Y ++ post))).length → n ≤ cap ∧ n ≤ 1000000 → okW X → okW Y → SortedV X → SortedV Y →
      Calls Try.prog 88 #[.slice (some ⟨g, 0, none⟩) n cap, .int .i64 (a : Int), .int .i64 (m : Int), .int .i64 (b : Int), cmpF] w (SymEnd g pre X Y post rest w)
  | 0, _, _, _, _, _, _, _, X, _, _, _, _, hN, _, _, _, _, hX, _, _, _, _, _, _, _ => absurd hN (by omega)
  | N + 1, g, n, cap, a, m, b, pre, X, Y, post, rest, w, hN, h, ha, hm, hb, hX, hY, hn, hcap, hwX, hwY, hsX, hsY => by
    rcases Nat.lt_or_ge 1 X.length with h1 | h1
    · rcases Nat.lt_or_ge 1 Y.length with h2 | h2
      · exact sym_step N (sym_any N) g n cap a m b pre X Y post rest w hN h ha hm hb h1 h2 hn hcap hwX hwY hsX hsY
      · obtain ⟨y, rfl⟩ := List.length_eq_one_iff.1 (show Y.length = 1 by omega)
        exact sym_right g n cap a m b pre y X post rest w h ha hm hb h1 hn hcap (hwY y (by simp)) hwX hsX
    · obtain ⟨x, rfl⟩ := List.length_eq_one_iff.1 (show X.length = 1 by omega)
      exact sym_left g n cap a m b pre x Y post rest w h ha hm hb hY hn hcap (hwX x (by simp)) hwY hsY
end Go.Proofs.Ytlbgkkkcbnagbaa

namespace Go.Proofs.Ytlbgkkkcbnagbaa
open Go.RowKit Go.Shelf

/-- Every block of so many is sorted. -/
def Blocks (bs : Nat) (L : List ItV) : Prop := ∀ k, SortedV ((L.drop (k * bs)).take bs)
theorem blocks_nil (bs : Nat) : Blocks bs [] := fun k => by simp [SortedF]
theorem blocks_snoc {bs k : Nat} {D Z : List ItV} (h : Blocks bs D) (hl : D.length = k * bs) (hz : SortedV Z) (hzl : Z.length ≤ bs) : Blocks bs (D ++ Z) := fun j => by
  rcases Nat.lt_trichotomy j k with h1 | h1 | h1
  · have h2 : j * bs + bs ≤ k * bs := by rw [← Nat.succ_mul]; exact Nat.mul_le_mul_right _ h1
    rw [List.drop_append_of_le_length (by omega), List.take_append_of_le_length (by rw [List.length_drop]; omega)]
    exact h j
  · subst h1
    rw [← hl, List.drop_left, List.take_of_length_le hzl]
    exact hz
  · have h2 : k * bs + bs ≤ j * bs := by rw [← Nat.succ_mul]; exact Nat.mul_le_mul_right _ h1
    rw [List.drop_of_length_le (by rw [List.length_append]; omega)]
    simp [SortedF]
theorem blocks_at {bs k a : Nat} {L : List ItV} (h : Blocks bs L) (ha : a = k * bs) : SortedV ((L.drop a).take bs) := by subst ha; exact h k
theorem blocks_end {bs : Nat} {L : List ItV} (h : Blocks bs L) (hl : L.length ≤ bs) : SortedV L := by
  have := h 0
  rwa [Nat.zero_mul, List.drop_zero, List.take_of_length_le hl] at this
theorem okW_same {L M : List ItV} (h : okW M) (hs : SameV L M) : okW L := fun p hp => h p ((hs.mem p).1 hp)

/-- So far: the first a of L0 in blocks of bs, the others as they were. -/
structure StI (w0 : World) (g : Nat) (L0 : List ItV) (rest : List Value) (bs k a : Nat) (D : List ItV) (W : World) : Prop where
  row : Row W g (D ++ L0.drop a) rest
  blk : Blocks bs D
  same : SameV D (L0.take a)
  len : D.length = a
  at_ : a = k * bs
  le : a ≤ L0.length
  upd : Upd (fun b => b = g) w0 W

set_option maxHeartbeats 4000000 in
set_option maxRecDepth 100000 in
theorem stable_any (g n cap : Nat) (L0 : List ItV) (rest : List Value) (w : World) (h : Row w g L0 rest) (hn : n = L0.length) (hcap : n ≤ cap ∧ n ≤ 1000000) (hw : okW L0) :
    Calls Try.prog 78 #[.slice (some ⟨g, 0, none⟩) n cap, .int .i64 (n : Int), cmpF] w
      fun e w' => e = .returned (.tuple #[]) ∧ ∃ Z, Row w' g Z rest ∧ SortedV Z ∧ SameV Z L0 ∧ Z.length = L0.length ∧ Upd (fun b => b = g) w w' := by
  have HL := Lib.hid (show n = L0.length ∧ n ≤ 1000000 from ⟨hn, by omega⟩)
  have H := Lib.hid h
  have HW := Lib.hid hw
  clear h hn hw
  go_enter Try.func78, Try.ntmps78
  go_wp2
  go_loopw [7, 8] (fun av bv wr => ∃ (a b k : Nat) (D : List ItV), av = .int .i64 (a : Int) ∧ bv = .int .i64 (b : Int) ∧ Hid (b = a + 20 ∧ StI w g L0 rest 20 k a D wr)) (fun av _ _ => n - (intOf av).toNat)
  case atStart => exact ⟨0, 20, 0, [], rfl, rfl, Lib.hid ⟨rfl, by simpa using H.out, blocks_nil _, by rw [List.take_zero]; exact Same.refl _, rfl, by simp, Nat.zero_le _, Upd.refl _ _⟩⟩
  case round =>
    obtain ⟨a, b, k, D, rfl, rfl, hI⟩ := hrel
    have hl := HL.out
    have hi := hI.out
    have hle := hi.2.le
    by_cases hbn : b ≤ n
    · have hd : decide (b ≤ n) = true := decide_eq_true hbn
      obtain ⟨b', hb'⟩ : ∃ b', b + 20 = b' := ⟨_, rfl⟩
      have hw1 : IntKind.i64.wrap ((b : Int) + 20) = (b' : Int) := by rw [IntWalk.i64_in _ (by omega)]; omega
      have e1 : (L0.drop a).take 20 ++ L0.drop b = L0.drop a := by rw [hi.1, ← List.drop_drop]; exact List.take_append_drop _ _
      have e2 : ((L0.drop a).take 20).length = 20 := by rw [List.length_take, List.length_drop]; omega
      have HC := Lib.hid (isort_any g n cap a b D ((L0.drop a).take 20) (L0.drop b) rest wr (by rw [e1]; exact hi.2.row) hi.2.len.symm (by rw [e2]; exact hi.1) (by rw [e1, List.length_append, List.length_drop, hi.2.len]; omega) hcap
        (fun p hp => HW.out p (List.mem_of_mem_drop (List.mem_of_mem_take hp))))
      have HB := Lib.hid (show b + 20 = b' ∧ b ≤ n ∧ ((L0.drop a).take 20).length = 20 from ⟨hb', hbn, e2⟩)
      clear hl hi hle hbn hb' e1 e2
      go_wp2_with (go_at_call 87; refine HC.out.mono ?_; rintro e w3 ⟨rfl, Z, hr3, hs3, hm3, hl3, hu3⟩)
      go_roundw
      case rel =>
        have hl := HL.out
        have hi := hI.out
        have hbb := HB.out
        refine ⟨b, b', k + 1, D ++ Z, rfl, rfl, Lib.hid ⟨hbb.1.symm, by simpa [List.append_assoc] using hr3, blocks_snoc hi.2.blk (hi.2.len.trans hi.2.at_) hs3 (by omega), ?_, by rw [List.length_append, hi.2.len]; omega, by have := hi.2.at_; omega, by omega, hi.2.upd.trans hu3 fun _ _ h => h⟩⟩
        have e : L0.take b = L0.take a ++ (L0.drop a).take 20 := by rw [hi.1, List.take_add]
        rw [e]
        exact hi.2.same.append hm3
      case measure => have hbb := HB.out; have hi := hI.out; simp [intOf]; omega
    · have hd : decide (b ≤ n) = false := decide_eq_false hbn
      have hal : a + (L0.drop a).length = n := by rw [List.length_drop]; omega
      have HC := Lib.hid (isort_any g n cap a n D (L0.drop a) [] rest wr (by simpa using hi.2.row) hi.2.len.symm hal.symm (by rw [List.append_nil, List.length_append, hi.2.len]; omega) hcap (fun p hp => HW.out p (List.mem_of_mem_drop hp)))
      have HB := Lib.hid (show n < b ∧ a + (L0.drop a).length = n from ⟨by omega, hal⟩)
      clear hl hi hle hbn hal
      go_wp2_with (go_at_call 87; refine HC.out.mono ?_; rintro e w3 ⟨rfl, Z, hr3, hs3, hm3, hl3, hu3⟩)
      have hP : ∃ L1, Row w3 g L1 rest ∧ Blocks 20 L1 ∧ SameV L1 L0 ∧ L1.length = n ∧ Upd (fun b => b = g) w w3 := by
        have hi := hI.out
        have hbb := HB.out
        refine ⟨D ++ Z, by simpa using hr3, blocks_snoc hi.2.blk (hi.2.len.trans hi.2.at_) hs3 (by omega), ?_, by rw [List.length_append, hi.2.len]; omega, hi.2.upd.trans hu3 fun _ _ h => h⟩
        have := hi.2.same.append hm3
        rwa [List.take_append_drop] at this
      have HP := Lib.hid hP
      clear hP hr3 hs3 hm3 hl3 hu3 HC HB hd hI
      go_loopw [6] (fun sv wr2 => ∃ bs : Nat, sv = .int .i64 (bs : Int) ∧ Hid (20 ≤ bs) ∧ Hid (∃ L1, Row wr2 g L1 rest ∧ Blocks bs L1 ∧ SameV L1 L0 ∧ L1.length = n ∧ Upd (fun b => b = g) w wr2)) (fun sv _ => n - (intOf sv).toNat)
      case atStart => exact ⟨20, rfl, Lib.hid (Nat.le_refl _), HP⟩
      case round =>
        clear HP
        obtain ⟨bs, rfl, hbs, hL1⟩ := hrel
        have hl := HL.out
        have hb20 := hbs.out
        by_cases hlt : bs < n
        · have hd : decide (bs < n) = true := decide_eq_true hlt
          obtain ⟨bs2, hbs2⟩ : ∃ bs2, 2 * bs = bs2 := ⟨_, rfl⟩
          have hw1 : IntKind.i64.wrap (2 * (bs : Int)) = (bs2 : Int) := by rw [IntWalk.i64_in _ (by omega)]; omega
          have hw1' : IntKind.i64.wrap ((bs : Int) * 2) = (bs2 : Int) := by rw [IntWalk.i64_in _ (by omega)]; omega
          obtain ⟨L1, hR1, hB1, hS1, hN1, hU1⟩ := hL1.out
          have HL1 := Lib.hid (show Row wr g L1 rest ∧ Blocks bs L1 ∧ SameV L1 L0 ∧ L1.length = n ∧ Upd (fun b => b = g) w wr from ⟨hR1, hB1, hS1, hN1, hU1⟩)
          have HBS := Lib.hid (show 2 * bs = bs2 ∧ 20 ≤ bs ∧ bs < n ∧ okW L1 from ⟨hbs2, hb20, hlt, okW_same HW.out hS1⟩)
          clear hl hb20 hlt hbs2 hR1 hB1 hS1 hN1 hU1 hL1
          go_wp2
          go_loopw [7, 8] (fun av bv wr3 => ∃ (a b k : Nat) (D : List ItV), av = .int .i64 (a : Int) ∧ bv = .int .i64 (b : Int) ∧ Hid (b = a + bs2 ∧ StI w g L1 rest bs2 k a D wr3)) (fun av _ _ => n - (intOf av).toNat)
          case atStart => exact ⟨0, bs2, 0, [], rfl, rfl, Lib.hid ⟨by omega, by simpa using HL1.out.1, blocks_nil _, by rw [List.take_zero]; exact Same.refl _, rfl, by simp, Nat.zero_le _, HL1.out.2.2.2.2⟩⟩
          case round =>
            obtain ⟨a, b, k, D, rfl, rfl, hI⟩ := hrel
            have hl := HL.out
            have hi := hI.out
            have hle := hi.2.le
            have hbb := HBS.out
            have hn1 := HL1.out.2.2.2.1
            have hat := hi.2.at_
            obtain ⟨m, hm⟩ : ∃ m, a + bs = m := ⟨_, rfl⟩
            have hw2 : IntKind.i64.wrap ((a : Int) + (bs : Int)) = (m : Int) := by rw [IntWalk.i64_in _ (by omega)]; omega
            have hak : a = (2 * k) * bs := by rw [hat, ← hbb.1, ← Nat.mul_assoc, Nat.mul_comm k 2]
            have hmk : m = (2 * k + 1) * bs := by rw [← hm, hak, Nat.add_mul, Nat.one_mul]
            have hX := blocks_at HL1.out.2.1 hak
            have hY := blocks_at HL1.out.2.1 hmk
            have hsp : (L1.drop a).take bs ++ L1.drop m = L1.drop a := by rw [← hm, ← List.drop_drop]; exact List.take_append_drop _ _
            by_cases hbn : b ≤ n
            · have hd2 : decide (b ≤ n) = true := decide_eq_true hbn
              obtain ⟨b', hb'⟩ : ∃ b', b + bs2 = b' := ⟨_, rfl⟩
              have hw3 : IntKind.i64.wrap ((b : Int) + (bs2 : Int)) = (b' : Int) := by rw [IntWalk.i64_in _ (by omega)]; omega
              have hsp2 : (L1.drop m).take bs ++ L1.drop b = L1.drop m := by rw [show b = m + bs by omega, ← List.drop_drop]; exact List.take_append_drop _ _
              have lX : ((L1.drop a).take bs).length = bs := by rw [List.length_take, List.length_drop]; omega
              have lY : ((L1.drop m).take bs).length = bs := by rw [List.length_take, List.length_drop]; omega
              have HC := Lib.hid (sym_any _ g n cap a m b D ((L1.drop a).take bs) ((L1.drop m).take bs) (L1.drop b) rest wr (Nat.le_refl _) (by rw [hsp2, hsp]; exact hi.2.row) hi.2.len.symm (by rw [lX]; exact hm.symm) (by rw [lY]; omega) (by omega) (by omega)
                (by rw [hsp2, hsp, List.length_append, List.length_drop, hi.2.len]; omega) hcap (fun p hp => hbb.2.2.2 p (List.mem_of_mem_drop (List.mem_of_mem_take hp))) (fun p hp => hbb.2.2.2 p (List.mem_of_mem_drop (List.mem_of_mem_take hp))) hX hY)
              have HB := Lib.hid (show b + bs2 = b' ∧ b ≤ n ∧ a + bs = m ∧ b = m + bs ∧ ((L1.drop a).take bs).length = bs ∧ ((L1.drop m).take bs).length = bs ∧ L1.length = n from ⟨hb', hbn, hm, by omega, lX, lY, hn1⟩)
              clear hl hi hle hbb hat hm hak hmk hX hY hsp hbn hb' hsp2 lX lY hn1
              go_wp2_with (go_at_call 88; refine HC.out.mono ?_; rintro e w4 ⟨rfl, Z, hr3, hs3, hm3, hl3, hu3⟩)
              go_roundw
              case rel =>
                have hi := hI.out
                have hb := HB.out
                have hbb := HBS.out
                have hat := hi.2.at_
                refine ⟨b, b', k + 1, D ++ Z, rfl, rfl, Lib.hid ⟨by omega, by simpa [List.append_assoc] using hr3, blocks_snoc hi.2.blk (hi.2.len.trans hat) hs3 (by omega), ?_, by rw [List.length_append, hi.2.len]; omega, by rw [Nat.add_mul, Nat.one_mul, ← hat]; omega, by omega, hi.2.upd.trans hu3 fun _ _ h => h⟩⟩
                have e : L1.take b = L1.take a ++ ((L1.drop a).take bs ++ (L1.drop m).take bs) := by
                  rw [show b = a + (bs + bs) by omega, List.take_add, List.take_add, List.drop_drop, hb.2.2.1]
                rw [e]
                exact hi.2.same.append hm3
              case measure => have hb := HB.out; have hbb := HBS.out; simp [intOf]; omega
            · have hd2 : decide (b ≤ n) = false := decide_eq_false hbn
              by_cases hmn : m < n
              · have hd3 : decide (m < n) = true := decide_eq_true hmn
                have lX : ((L1.drop a).take bs).length = bs := by rw [List.length_take, List.length_drop]; omega
                have lY : m + (L1.drop m).length = n := by rw [List.length_drop]; omega
                have hY' : SortedV (L1.drop m) := by rwa [List.take_of_length_le (by omega)] at hY
                have HC := Lib.hid (sym_any _ g n cap a m n D ((L1.drop a).take bs) (L1.drop m) [] rest wr (Nat.le_refl _) (by rw [List.append_nil, hsp]; exact hi.2.row) hi.2.len.symm (by rw [lX]; exact hm.symm) lY.symm (by omega) (by omega)
                  (by rw [List.append_nil, hsp, List.length_append, List.length_drop, hi.2.len]; omega) hcap (fun p hp => hbb.2.2.2 p (List.mem_of_mem_drop (List.mem_of_mem_take hp))) (fun p hp => hbb.2.2.2 p (List.mem_of_mem_drop hp)) hX hY')
                have HB := Lib.hid (show n < b ∧ a + bs = m ∧ ((L1.drop a).take bs).length = bs ∧ m + (L1.drop m).length = n ∧ (L1.drop a).take bs ++ L1.drop m = L1.drop a from ⟨by omega, hm, lX, lY, hsp⟩)
                clear hl hi hle hbb hat hm hak hmk hX hY hY' hsp hbn hmn lX lY hn1
                go_wp2_with (go_at_call 88; refine HC.out.mono ?_; rintro e w4 ⟨rfl, Z, hr3, hs3, hm3, hl3, hu3⟩)
                go_roundw
                case rel =>
                  have hi := hI.out
                  have hb := HB.out
                  have hbb := HBS.out
                  refine ⟨bs2, rfl, Lib.hid (by omega), Lib.hid ⟨D ++ Z, by simpa using hr3, blocks_snoc hi.2.blk (hi.2.len.trans hi.2.at_) hs3 (by omega), ?_, by rw [List.length_append, hi.2.len]; omega, hi.2.upd.trans hu3 fun _ _ h => h⟩⟩
                  have h1 := hi.2.same.append hm3
                  rw [hb.2.2.2.2, List.take_append_drop] at h1
                  exact h1.trans HL1.out.2.2.1
                case measure => have hbb := HBS.out; simp [intOf]; omega
              · have hd3 : decide (m < n) = false := decide_eq_false hmn
                have lA : a + (L1.drop a).length = n := by rw [List.length_drop]; omega
                have hX' : SortedV (L1.drop a) := by rwa [List.take_of_length_le (by omega)] at hX
                have HB := Lib.hid (show n < b ∧ a + bs = m ∧ n ≤ m ∧ a + (L1.drop a).length = n ∧ SortedV (L1.drop a) from ⟨by omega, hm, by omega, lA, hX'⟩)
                clear hl hi hle hbb hat hm hak hmk hX hY hX' hsp hbn hmn lA hn1
                go_wp2
                go_roundw
                case rel =>
                  have hi := hI.out
                  have hb := HB.out
                  have hbb := HBS.out
                  refine ⟨bs2, rfl, Lib.hid (by omega), Lib.hid ⟨D ++ L1.drop a, hi.2.row, blocks_snoc hi.2.blk (hi.2.len.trans hi.2.at_) hb.2.2.2.2 (by omega), ?_, by rw [List.length_append, hi.2.len]; omega, hi.2.upd⟩⟩
                  have h1 := hi.2.same.append (Same.refl (L1.drop a))
                  rw [List.take_append_drop] at h1
                  exact h1.trans HL1.out.2.2.1
                case measure => have hbb := HBS.out; simp [intOf]; omega
        · have hd : decide (bs < n) = false := decide_eq_false hlt
          have HF := Lib.hid (show ∃ Z, Row wr g Z rest ∧ SortedV Z ∧ SameV Z L0 ∧ Z.length = L0.length ∧ Upd (fun b => b = g) w wr by
            obtain ⟨L1, hR1, hB1, hS1, hN1, hU1⟩ := hL1.out
            exact ⟨L1, hR1, blocks_end hB1 (by omega), hS1, by omega, hU1⟩)
          clear hl hb20 hlt hL1
          go_wp2
          refine bodyPost_end (v := .tuple #[]) (by simp [results, Try.results78, go_sem]) rfl ⟨rfl, HF.out⟩

set_option maxHeartbeats 1000000 in
theorem sortStable_any (g n cap : Nat) (L0 : List ItV) (rest : List Value) (w : World) (h : Row w g L0 rest) (hn : n = L0.length) (hcap : n ≤ cap ∧ n ≤ 1000000) (hw : okW L0) :
    Calls Try.prog 55 #[.slice (some ⟨g, 0, none⟩) n cap, cmpF] w
      fun e w' => e = .returned (.tuple #[]) ∧ ∃ Z, Row w' g Z rest ∧ SortedV Z ∧ SameV Z L0 ∧ Z.length = L0.length ∧ Upd (fun b => b = g) w w' := by
  have HC := Lib.hid (stable_any g n cap L0 rest w h hn hcap hw)
  clear h hn hw
  go_enter Try.func55, Try.ntmps55
  go_wp2_with (go_at_call 78; refine HC.out.mono ?_; rintro e w3 ⟨rfl, hr3⟩)
  refine bodyPost_end (v := .tuple #[]) (by simp [results, Try.results55, go_sem]) rfl ⟨rfl, hr3⟩
end Go.Proofs.Ytlbgkkkcbnagbaa

namespace Go.Proofs.Ytlbgkkkcbnagbaa

section
variable {α : Type} (f : α → Int)
/-- Behind the elements that are no heavier. -/
def insF (x : α) : List α → List α
  | [] => [x]
  | y :: l => if f x < f y then x :: y :: l else y :: insF x l
def isortF (l : List α) : List α := l.foldl (fun a x => insF f x a) []
end
section
variable {α β : Type} {f : α → Int}
theorem insF_split (x : α) : ∀ {l : List α}, SortedF f l → ∃ A B, l = A ++ B ∧ insF f x l = A ++ x :: B ∧ (∀ y ∈ A, f y ≤ f x) ∧ (∀ y ∈ B, f x < f y)
  | [], _ => ⟨[], [], rfl, rfl, by simp, by simp⟩
  | y :: l, h => by
    unfold insF
    by_cases hlt : f x < f y
    · rw [if_pos hlt]
      refine ⟨[], y :: l, rfl, rfl, by simp, fun z hz => ?_⟩
      rcases List.mem_cons.1 hz with rfl | hz
      · exact hlt
      · have := (List.pairwise_cons.1 h).1 z hz; omega
    · rw [if_neg hlt]
      obtain ⟨A, B, e1, e2, h1, h2⟩ := insF_split x (List.pairwise_cons.1 h).2
      refine ⟨y :: A, B, by rw [e1]; rfl, by rw [e2]; rfl, fun z hz => ?_, h2⟩
      rcases List.mem_cons.1 hz with rfl | hz
      · omega
      · exact h1 z hz
theorem insF_ok (x : α) {l : List α} (h : SortedF f l) : SortedF f (insF f x l) ∧ Same f (insF f x l) (l ++ [x]) := by
  obtain ⟨A, B, e1, e2, h1, h2⟩ := insF_split x h
  rw [e2, e1]
  rw [e1] at h
  exact sorted_ins h h1 h2
theorem isortF_snoc (l : List α) (x : α) : isortF f (l ++ [x]) = insF f x (isortF f l) := by simp [isortF]
theorem isortF_ok (l : List α) : SortedF f (isortF f l) ∧ Same f (isortF f l) l := by
  suffices h : ∀ (l acc m : List α), SortedF f acc → Same f acc m → SortedF f (l.foldl (fun a x => insF f x a) acc) ∧ Same f (l.foldl (fun a x => insF f x a) acc) (m ++ l) by
    have := h l [] [] SortedF.nil (Same.refl _)
    rw [List.nil_append] at this
    exact this
  intro l
  induction l with
  | nil => intro acc m h1 h2; simpa using ⟨h1, h2⟩
  | cons x l ih =>
    intro acc m h1 h2
    obtain ⟨q1, q2⟩ := insF_ok x h1
    have := ih (insF f x acc) (m ++ [x]) q1 (q2.trans (h2.append (Same.refl [x])))
    simpa using this
theorem isort_uniq {l m : List α} (h : SortedF f l) (hs : Same f l m) : l = isortF f m := sorted_uniq h (isortF_ok m).1 (hs.trans (isortF_ok m).2.symm)
theorem insF_cons (x y : α) (l : List α) : insF f x (y :: l) = if f x < f y then x :: y :: l else y :: insF f x l := rfl
theorem insF_map {g : α → β} {k : β → Int} (h : ∀ x, k (g x) = f x) (x : α) : ∀ l : List α, (insF f x l).map g = insF k (g x) (l.map g)
  | [] => rfl
  | y :: l => by
    rw [List.map_cons, insF_cons, insF_cons, h, h]
    by_cases hlt : f x < f y
    · rw [if_pos hlt, if_pos hlt]; rfl
    · rw [if_neg hlt, if_neg hlt, List.map_cons, insF_map h x l]
theorem isortF_map {g : α → β} {k : β → Int} (h : ∀ x, k (g x) = f x) (l : List α) : (isortF f l).map g = isortF k (l.map g) := by
  suffices hh : ∀ (l acc : List α), (l.foldl (fun a x => insF f x a) acc).map g = (l.map g).foldl (fun a x => insF k x a) (acc.map g) by
    exact hh l []
  intro l
  induction l with
  | nil => intro acc; rfl
  | cons x l ih => intro acc; rw [List.foldl_cons, ih, insF_map h, List.map_cons, List.foldl_cons]
theorem isortF_mem (l : List α) (x : α) : x ∈ isortF f l ↔ x ∈ l := (isortF_ok l).2.mem x
end
end Go.Proofs.Ytlbgkkkcbnagbaa

namespace Go.Proofs.Ytlbgkkkcbnagbaa
open Go.RowKit

section
variable {α : Type} {k : Kd α} {ok ok' : Nat → Prop} {w w' : World} {xs ys : List α} {cells cs : List Value}
theorem Reps.append (h : Reps k ok w xs cells) (h2 : Reps k ok w ys cs) : Reps k ok w (xs ++ ys) (cells ++ cs) := by
  refine ⟨by rw [List.length_append, h.1, h2.1, List.length_append, Nat.add_mul], fun j hj => ?_⟩
  rw [List.length_append] at hj
  rcases Nat.lt_or_ge j xs.length with h1 | h1
  · have h3 : j * k.size + k.size ≤ cells.length := by rw [h.1, ← Nat.succ_mul]; exact Nat.mul_le_mul_right _ h1
    rw [nth_append_left _ _ _ _ h1, List.drop_append_of_le_length (by omega), List.take_append_of_le_length (by rw [List.length_drop]; omega)]
    exact h.2 j h1
  · have h3 : xs.length * k.size ≤ j * k.size := Nat.mul_le_mul_right _ h1
    rw [nth_append_right _ _ _ _ h1, List.drop_append, List.drop_of_length_le (by rw [h.1]; exact h3), List.nil_append, h.1, ← Nat.sub_mul]
    exact h2.2 _ (by omega)
theorem Kd.Rd.reps {A : Option Addr} (h : k.Rd ok w A xs) : ∃ cs, Reps k ok w xs cs ∧ ∀ i v, cs[i]? = some v → ∃ ad, A = some ad ∧ w.cell? (ad.add i) = some v := by
  suffices hh : ∀ n, n ≤ xs.length → ∃ cs, Reps k ok w (xs.take n) cs ∧ ∀ i v, cs[i]? = some v → ∃ ad, A = some ad ∧ w.cell? (ad.add i) = some v by
    obtain ⟨cs, h1, h2⟩ := hh xs.length (Nat.le_refl _)
    rw [List.take_length] at h1
    exact ⟨cs, h1, h2⟩
  intro n
  induction n with
  | zero => intro _; exact ⟨[], by rw [List.take_zero]; exact Reps.nil _ _ _, fun i v hv => by simp at hv⟩
  | succ n ih =>
    intro hn
    obtain ⟨cs, h1, h2⟩ := ih (by omega)
    obtain ⟨ad, c1, e, _, _, hK, hc⟩ := h n (by omega)
    refine ⟨cs ++ c1, by rw [take_succ_nth k.dflt xs n (by omega)]; exact h1.snoc hK, fun i v hv => ?_⟩
    have hl : cs.length = n * k.size := by rw [h1.1, List.length_take, Nat.min_eq_left (by omega)]
    rcases Nat.lt_or_ge i cs.length with hi | hi
    · rw [List.getElem?_append_left hi] at hv
      exact h2 i v hv
    · rw [List.getElem?_append_right hi] at hv
      have := hc _ _ hv
      rw [hl, Nat.add_sub_cancel' (by omega)] at this
      exact ⟨ad, e, this⟩
end
section
variable {P : Program} {ops : Array Oper} {rest : List Oper} {o : Oper} {a : Act} {Q : Exit → Act → World → Prop}
theorem run_append_ks {α : Type} {k : Kd α} {W : World} (base : Nat) (t ty e : TypeId) (z : Value) (bytes : Nat) (ok : Nat → Prop)
    (ht : P.underlying t = some (.slice e)) (hinfo : (P.info? e).map (fun i => (i.zero, i.size, i.bytes)) = some (some z, k.size, bytes)) (hz : z.cells.size = k.size) (hk0 : 0 < k.size) (hb0 : 0 < bytes)
    (h1 : ∀ ok w x cs, k.K ok w x cs → ∀ u ∈ cs, u.oneCell' = true)
    (v : Value) (xs ys : List α) (A : Option Addr) (c : Nat)
    (HO : OwnK k e base ok W v xs) (HR : Sl k (fun b => ok b ∧ v.ownBlock ≠ some b) W A c ys) (hbase : base ≤ W.heap.size) (hl : (xs.length + ys.length) * bytes ≤ 140737488355328) :
    ∃ v1 w1, (Builtin.append_ #[t, t] ty #[v, .slice A ys.length c]).run P W = .ok v1 w1 ∧ OwnK k e base ok w1 v1 (xs ++ ys) ∧ W.grownBy w1 v.ownBlock ∧ (v1.ownBlock = v.ownBlock ∨ ∃ b, v1.ownBlock = some b ∧ W.heap.size ≤ b) := by
  obtain ⟨i0, hi, hzz⟩ := Option.map_eq_some_iff.1 hinfo
  simp only [Prod.mk.injEq] at hzz
  obtain ⟨hz0, hz1, hz2⟩ := hzz
  have hlen : xs.length + ys.length ≤ 140737488355328 := Nat.le_trans (Nat.le_mul_of_pos_right _ hb0) hl
  rcases A with _ | ad
  · have h0 : ys = [] := by
      rcases Nat.eq_zero_or_pos ys.length with h0 | h0
      · exact List.eq_nil_of_length_eq_zero h0
      · obtain ⟨ad, _, h, _⟩ := HR.rd 0 h0
        cases h
    subst h0
    refine ⟨v, W, ?_, by simpa using HO, ⟨rfl, rfl, rfl, Nat.le_refl _, fun _ _ _ => rfl⟩, .inl rfl⟩
    obtain ⟨cells, ho, _⟩ := HO
    rcases ho.2 with ⟨rfl, hn⟩ | ⟨g, cap, cur, rfl, _, _, hnc, _⟩
    · simp [Builtin.append_, run_underlying ht, sizeOf, typeInfo, hi, Builtin.lenOf, Builtin.firstCells]
    · simp [Builtin.append_, run_underlying ht, sizeOf, typeInfo, hi, Builtin.lenOf, Builtin.firstCells, hnc, storeCells]
  · obtain ⟨cs, hrp, hcs⟩ := HR.rd.reps
    obtain ⟨cells, hown, hr⟩ := HO
    have hone : ∀ u ∈ cs, u.oneCell' = true := by
      intro u hu
      obtain ⟨i, hi, rfl⟩ := List.mem_iff_getElem.1 hu
      have hq : i / k.size < ys.length := by rw [hrp.1] at hi; exact (Nat.div_lt_iff_lt_mul hk0).2 hi
      have hK := hrp.2 _ hq
      refine h1 _ _ _ _ hK _ ?_
      rw [List.mem_iff_getElem?]
      refine ⟨i % k.size, ?_⟩
      rw [List.getElem?_take, if_pos (Nat.mod_lt _ hk0), List.getElem?_drop, Nat.div_add_mod']
      exact List.getElem?_eq_getElem hi
    obtain ⟨v1, w1, hrun, h2, h3, _, h5⟩ := run_append_own_at (P := P) W base t ty e i0 z k.size bytes ht hi hz0 hz1 hz2 hz hk0 v xs.length cells hown ad ys.length c cs hrp.1 (fun j u hu => by
      obtain ⟨ad', h', hc⟩ := hcs j u hu
      cases h'
      exact hc) hone (by simp only [maxLen]; omega) hl hbase
    have hat : v1.ownBlock = v.ownBlock ∨ ∃ b, v1.ownBlock = some b ∧ W.heap.size ≤ b := by
      rcases h5 with h | h
      · exact .inl h
      · exact .inr ⟨_, h, Nat.le_refl _⟩
    refine ⟨v1, w1, hrun, ⟨cells ++ cs, by rw [List.length_append]; exact h2, ?_⟩, h3, hat⟩
    have hs := (hr.append hrp).weak (ok' := fun b => (ok b ∧ v.ownBlock ≠ some b) ∧ b < W.heap.size) fun b hb ho => ⟨ho, hb⟩
    refine (hs.keep ((Keep.of_grown h3).weak fun b hb => Ne.symm hb.1.2)).weak fun b _ hb => ⟨hb.1.1, fun he => ?_⟩
    rcases hat with h | ⟨b', h, hle⟩
    · exact hb.1.2 (h ▸ he)
    · rw [h] at he
      injection he with he
      omega
theorem append_ks {α : Type} {k : Kd α} {W : World} (base : Nat) (hgd : o.guard = none) (s x0 : Operand) (t e : TypeId) (z : Value) (bytes : Nat) (ok : Nat → Prop)
    (ho : o.op = .call { callee := .builtin .append, args := #[s, x0], argTypes := #[t, t] })
    (ht : P.underlying t = some (.slice e)) (hinfo : (P.info? e).map (fun i => (i.zero, i.size, i.bytes)) = some (some z, k.size, bytes)) (hz : z.cells.size = k.size) (hk0 : 0 < k.size) (hb0 : 0 < bytes)
    (h1 : ∀ ok w x cs, k.K ok w x cs → ∀ u ∈ cs, u.oneCell' = true)
    (v : Value) (xs ys : List α) (A : Option Addr) (c : Nat) (hs : a.eval s = v) (hx0 : a.eval x0 = .slice A ys.length c)
    (HO : OwnK k e base ok W v xs) (HR : Sl k (fun b => ok b ∧ v.ownBlock ≠ some b) W A c ys) (hbase : base ≤ W.heap.size) (hl : (xs.length + ys.length) * bytes ≤ 140737488355328)
    (h : ∀ v1 w1, OwnK k e base ok w1 v1 (xs ++ ys) → W.grownBy w1 v.ownBlock → (v1.ownBlock = v.ownBlock ∨ ∃ b, v1.ownBlock = some b ∧ W.heap.size ≤ b) → wpList P ops Q rest (a.put o.dst v1) w1) :
    wpList P ops Q (o :: rest) a W := by
  obtain ⟨v1, w1, hr, h2, h3, h4⟩ := run_append_ks (P := P) base t o.type e z bytes ok ht hinfo hz hk0 hb0 h1 v xs ys A c HO HR hbase hl
  refine wpList_plain hgd fun K hK => ?_
  unfold Oper.wp execOp
  simp only [ho, resolve, invoke, builtin, Sem.run_bind, Sem.run_pure, Result.andThen_ok, List.map_toArray, List.map_cons, List.map_nil, hs, hx0, hr]
  exact hK _ _ (h v1 w1 h2 h3 h4)
end
end Go.Proofs.Ytlbgkkkcbnagbaa
