/- The reference's prefix: read: what it returns. · The reference's prefix: Read: what it returns. · The reference's prefix: Encode: what it returns. · The reference's prefix: Decode: what it returns. · The reference's Ints: what it returns. · Plain laws of a stable sort: sorted lists, lists of the same elements in the same order among equals. No program is named. · Plain laws: the stable sort as a function; what lies beside a list is sorted with it. No program is named. · Plain laws of layer 4 (prefix): rows of coins and packages; no choice of coins of the same width weighs less. No program is named. · append of a row of elements of any kind to a row of the call's own. · Items as they read, and merge of two rows of items. · A drawn region whose last operation writes a cell that it has read: loads are taken first while that operation is still to come. · packages of a row of items. · The reference's rows: packages, merged: what each call returns. · The reference's rows: merged: what it returns. · Plain laws: the reference's rows are the program's, each element with its symbol, or the mark of a package. · Plain laws: how heavy and how long what lies in a row is. · Lengths: its coins. (Under way.) -/
import Derived.Test.YtciknejchglmoaaDoorKc
import Derived.Test.YtciknejchglmoaaDoorKa
import Derived.BigRegion
import Derived.StillTailTactics
import Derived.Deep.RegionHeld3
import Derived.Deep.RegionHeld
import Derived.StillTail
namespace Go.Proofs.YtciknejchglmoaaDoor
open Go.RowKit

theorem symF_none {ls : List Int} {p : Nat × Nat} : ∀ {k : Nat}, (∀ j, j < k → ¬ (0 < lenOf ls j ∧ p = (lenOf ls j, codeN ls j))) → symF ls k p = none
  | 0, _ => rfl
  | k + 1, h => by
    unfold symF
    rw [if_neg (h k (by omega))]
    exact symF_none fun j hj => h j (by omega)
theorem code_uniq {ls : List Int} (hr : Right ls) {i j : Nat} (hi : i < ls.length) (hj : j < ls.length) (h0 : 0 < lenOf ls i) (hl : lenOf ls i = lenOf ls j) (hc : codeN ls i = codeN ls j) : i = j := by
  rcases Nat.decEq i j with h | h
  · have := code_free (i := i) (j := j) hr.ok.len16 hi hj h h0 (by omega)
    rw [← hl, Nat.sub_self, Nat.pow_zero, Nat.div_one] at this
    exact absurd hc.symm this
  · exact h
theorem symF_some {ls : List Int} (hr : Right ls) {i : Nat} (h0 : 0 < lenOf ls i) : ∀ {k : Nat}, i < k → k ≤ ls.length → symF ls k (lenOf ls i, codeN ls i) = some i
  | 0, h, _ => absurd h (by omega)
  | k + 1, h, hk => by
    unfold symF
    by_cases e : 0 < lenOf ls k ∧ (lenOf ls i, codeN ls i) = (lenOf ls k, codeN ls k)
    · rw [if_pos e]
      have h1 : lenOf ls i = lenOf ls k := congrArg Prod.fst e.2
      have h2 : codeN ls i = codeN ls k := congrArg Prod.snd e.2
      rw [code_uniq hr (i := i) (j := k) (by omega) (by omega) h0 h1 h2]
    · rw [if_neg e]
      have : i ≠ k := fun h => e ⟨h ▸ h0, by rw [h]⟩
      exact symF_some hr h0 (by omega) (by omega)
theorem begAt_preB {bits : List Bool} {n L C : Nat} (hn : 0 < n) (hnL : n ≤ L) (hnb : n ≤ bits.length) (hC : C < 2 ^ L) : preB (bits.take n) (numB C L) = begAt L C 0 (n, valB (bits.take n)) := by
  have hl : (bits.take n).length = n := by rw [List.length_take]; omega
  unfold preB begAt
  rw [hl, numB_length, decide_eq_true hnL, Bool.true_and, numB_take _ _ _ hnL]
  have hq : C / 2 ^ (L - n) < 2 ^ n := by
    rw [Nat.div_lt_iff_lt_mul (Nat.two_pow_pos _), ← Nat.pow_add, show n + (L - n) = L by omega]; exact hC
  congr 1
  apply propext
  constructor
  · intro h
    refine ⟨hn, hnL, ?_⟩
    show valB (bits.take n) = _
    rw [h, valB_numB, Nat.mod_eq_of_lt hq]
  · rintro ⟨_, _, h⟩
    have h : valB (bits.take n) = C / 2 ^ (L - n) := h
    rw [← h]
    have := numB_valB (bits.take n)
    rw [hl] at this
    exact this.symm
theorem begAt_gt {n L C V : Nat} (h : L < n) : begAt L C 0 (n, V) = false := decide_eq_false (fun ⟨_, h2, _⟩ => by have h2 : n ≤ L := h2; omega)
theorem begAt_eq {n C V : Nat} (h : 0 < n) : begAt n C 0 (n, V) = decide (V = C) := by
  unfold begAt
  congr 1
  apply propext
  show (0 < n ∧ n ≤ n ∧ V = C / 2 ^ (n - n)) ↔ _
  rw [Nat.sub_self, Nat.pow_zero, Nat.div_one]
  exact ⟨fun h => h.2.2, fun e => ⟨h, Nat.le_refl _, e⟩⟩

end Go.Proofs.YtciknejchglmoaaDoor

namespace Go.Proofs.YtciknejchglmoaaDoor
open Go.RowKit

theorem begF_16 {ls : List Int} (hr : Right ls) (V : Nat) : ∀ {k : Nat}, k ≤ ls.length → begF ls k (16, V) = true → ∃ i, i < k ∧ lenOf ls i = 16 ∧ codeN ls i = V
  | 0, _, h => by cases h
  | k + 1, hk, h => by
    simp only [begF, Bool.or_eq_true] at h
    rcases h with h | h
    · obtain ⟨i, h1, h2, h3⟩ := begF_16 hr V (by omega) h
      exact ⟨i, by omega, h2, h3⟩
    · have h := of_decide_eq_true h
      obtain ⟨_, h2, h3⟩ := h
      have h2 : 16 ≤ lenOf ls k := h2
      have h3 : V = codeN ls k / 2 ^ (lenOf ls k - 16) := h3
      have hl := hr.ok.len16 k
      have e : lenOf ls k = 16 := by omega
      rw [e, Nat.sub_self, Nat.pow_zero, Nat.div_one] at h3
      exact ⟨k, by omega, e, h3.symm⟩
theorem symF_16 {ls : List Int} (hr : Right ls) (V : Nat) (h : symF ls ls.length (16, V) = none) : begF ls ls.length (16, V) = false := by
  cases hb : begF ls ls.length (16, V)
  · rfl
  · obtain ⟨i, h1, h2, h3⟩ := begF_16 hr V (Nat.le_refl _) hb
    have := symF_some hr (i := i) (by omega) h1 (Nat.le_refl _)
    rw [h2, h3, h] at this
    cases this
theorem readF_cut {ls : List Int} (hr : Right ls) (D : List Bool) : ∀ (fuel n : Nat), n < 16 → readF (symF ls ls.length) (begF ls ls.length) (D.take 16) fuel n = readF (symF ls ls.length) (begF ls ls.length) D fuel n
  | 0, _, _ => rfl
  | fuel + 1, n, h => by
    have e1 : ((D.take 16).length ≤ n) ↔ (D.length ≤ n) := by rw [List.length_take]; omega
    have e2 : (D.take 16).take (n + 1) = D.take (n + 1) := by rw [List.take_take, Nat.min_eq_left (by omega)]
    unfold readF
    rw [e2]
    by_cases hs : D.length ≤ n
    · rw [if_pos hs, if_pos (e1.2 hs)]
    · rw [if_neg hs, if_neg (fun h => hs (e1.1 h))]
      cases hsy : symF ls ls.length (n + 1, valB (D.take (n + 1))) with
      | some s => rfl
      | none =>
        dsimp only
        by_cases hn : n = 15
        · subst hn
          rw [symF_16 hr _ hsy]
          simp
        · rw [readF_cut hr D fuel (n + 1) (by omega)]
theorem readR_cut {ls : List Int} (hr : Right ls) (D : List Bool) : readR ls (D.take 16) = readR ls D := readF_cut hr D 17 0 (by omega)

end Go.Proofs.YtciknejchglmoaaDoor

namespace Go.Proofs.YtciknejchglmoaaDoor
open Go.RowKit

end Go.Proofs.YtciknejchglmoaaDoor

namespace Go.Proofs.YtciknejchglmoaaDoor
open Go.RowKit

end Go.Proofs.YtciknejchglmoaaDoor

namespace Go.Proofs.YtciknejchglmoaaDoor
open Go.RowKit

end Go.Proofs.YtciknejchglmoaaDoor

namespace Go.Proofs.YtciknejchglmoaaDoor

section
variable {α : Type} (f : α → Int)
/-- No element is heavier than a later one. -/
def SortedF (l : List α) : Prop := l.Pairwise fun x y => f x ≤ f y
/-- The same elements, equal ones in the same order. -/
def Same (l m : List α) : Prop := ∀ v : Int, l.filter (fun x => f x == v) = m.filter (fun x => f x == v)
end
section
variable {α : Type} {f : α → Int} {l m k : List α}
theorem Same.refl (l : List α) : Same f l l := fun _ => rfl
theorem Same.trans (h : Same f l m) (h2 : Same f m k) : Same f l k := fun v => (h v).trans (h2 v)
theorem Same.symm (h : Same f l m) : Same f m l := fun v => (h v).symm
theorem Same.append {l' m' : List α} (h : Same f l m) (h2 : Same f l' m') : Same f (l ++ l') (m ++ m') := fun v => by
  rw [List.filter_append, List.filter_append, h v, h2 v]
theorem Same.mem (h : Same f l m) (x : α) : x ∈ l ↔ x ∈ m := by
  have e := h (f x)
  constructor
  · intro hx
    have : x ∈ l.filter (fun y => f y == f x) := List.mem_filter.2 ⟨hx, by simp⟩
    rw [e] at this
    exact (List.mem_filter.1 this).1
  · intro hx
    have : x ∈ m.filter (fun y => f y == f x) := List.mem_filter.2 ⟨hx, by simp⟩
    rw [← e] at this
    exact (List.mem_filter.1 this).1
theorem filt_none {v : Int} (h : ∀ x ∈ l, f x ≠ v) : l.filter (fun x => f x == v) = [] := by
  rw [List.filter_eq_nil_iff]
  intro x hx
  have := h x hx
  simpa using this
/-- Lighter ones may go ahead. -/
theorem Same.swap (h : ∀ x ∈ l, ∀ y ∈ m, f y < f x) : Same f (m ++ l) (l ++ m) := fun v => by
  rw [List.filter_append, List.filter_append]
  by_cases hx : ∃ x ∈ l, f x = v
  · obtain ⟨x, hx, rfl⟩ := hx
    rw [filt_none (l := m) fun y hy e => by have := h x hx y hy; omega]
    simp
  · rw [filt_none (l := l) fun x hx' e => hx ⟨x, hx', e⟩]
    simp
theorem SortedF.append (h1 : SortedF f l) (h2 : SortedF f m) (h : ∀ x ∈ l, ∀ y ∈ m, f x ≤ f y) : SortedF f (l ++ m) := List.pairwise_append.2 ⟨h1, h2, h⟩
theorem SortedF.left (h : SortedF f (l ++ m)) : SortedF f l := (List.pairwise_append.1 h).1
theorem SortedF.right (h : SortedF f (l ++ m)) : SortedF f m := (List.pairwise_append.1 h).2.1
theorem SortedF.cross (h : SortedF f (l ++ m)) : ∀ x ∈ l, ∀ y ∈ m, f x ≤ f y := (List.pairwise_append.1 h).2.2
theorem SortedF.one (x : α) : SortedF f [x] := List.pairwise_singleton _ _
theorem SortedF.nil : SortedF f ([] : List α) := List.Pairwise.nil
/-- Sorted lists of the same elements, equal ones in the same order, are one. -/
theorem sorted_uniq : ∀ {l m : List α}, SortedF f l → SortedF f m → Same f l m → l = m
  | [], m, _, _, h => by
    cases m with
    | nil => rfl
    | cons y m => exact absurd ((h.mem y).2 (List.mem_cons_self ..)) (by simp)
  | x :: l, [], _, _, h => absurd ((h.mem x).1 (List.mem_cons_self ..)) (by simp)
  | x :: l, y :: m, h1, h2, h => by
    have hx : ∀ z ∈ x :: l, f x ≤ f z := fun z hz => by
      rcases List.mem_cons.1 hz with rfl | hz
      · exact Int.le_refl _
      · exact (List.pairwise_cons.1 h1).1 z hz
    have hy : ∀ z ∈ y :: m, f y ≤ f z := fun z hz => by
      rcases List.mem_cons.1 hz with rfl | hz
      · exact Int.le_refl _
      · exact (List.pairwise_cons.1 h2).1 z hz
    have e1 := hx y ((h.mem y).2 (List.mem_cons_self ..))
    have e2 := hy x ((h.mem x).1 (List.mem_cons_self ..))
    have e : f x = f y := by omega
    have hh := h (f x)
    rw [List.filter_cons_of_pos (by simp), List.filter_cons_of_pos (by simp [e])] at hh
    injection hh with hh1 hh2
    subst hh1
    have ht : Same f l m := fun v => by
      by_cases hv : f x = v
      · subst hv; exact hh2
      · have := h v
        rwa [List.filter_cons_of_neg (by simpa using hv), List.filter_cons_of_neg (by simpa using hv)] at this
    rw [sorted_uniq (List.pairwise_cons.1 h1).2 (List.pairwise_cons.1 h2).2 ht]
/-- One that is lighter than all behind it, and not lighter than those ahead, put into its place. -/
theorem sorted_ins {A B : List α} {x : α} (h : SortedF f (A ++ B)) (h1 : ∀ y ∈ A, f y ≤ f x) (h2 : ∀ y ∈ B, f x < f y) : SortedF f (A ++ x :: B) ∧ Same f (A ++ x :: B) (A ++ B ++ [x]) := by
  refine ⟨SortedF.append h.left (List.pairwise_cons.2 ⟨fun y hy => Int.le_of_lt (h2 y hy), h.right⟩) fun y hy z hz => ?_, ?_⟩
  · rcases List.mem_cons.1 hz with rfl | hz
    · exact h1 y hy
    · exact h.cross y hy z hz
  · rw [List.append_assoc]
    refine (Same.refl A).append ?_
    exact Same.swap (l := B) (m := [x]) fun y hy z hz => by rw [List.mem_singleton.1 hz]; exact h2 y hy
/-- Two merged halves. -/
theorem sorted_halves {X1 X2 Y1 Y2 Z1 Z2 : List α} (hX : SortedF f (X1 ++ X2)) (hY : SortedF f (Y1 ++ Y2)) (hxy : ∀ x ∈ X1, ∀ y ∈ Y2, f x ≤ f y) (hyx : ∀ y ∈ Y1, ∀ x ∈ X2, f y < f x)
    (hZ1 : SortedF f Z1) (hZ2 : SortedF f Z2) (s1 : Same f Z1 (X1 ++ Y1)) (s2 : Same f Z2 (X2 ++ Y2)) : SortedF f (Z1 ++ Z2) ∧ Same f (Z1 ++ Z2) (X1 ++ X2 ++ (Y1 ++ Y2)) := by
  refine ⟨hZ1.append hZ2 fun x hx y hy => ?_, ?_⟩
  · have hx := (s1.mem x).1 hx
    have hy := (s2.mem y).1 hy
    rcases List.mem_append.1 hx with hx | hx <;> rcases List.mem_append.1 hy with hy | hy
    · exact hX.cross x hx y hy
    · exact hxy x hx y hy
    · exact Int.le_of_lt (hyx x hx y hy)
    · exact hY.cross x hx y hy
  · refine (s1.append s2).trans ?_
    have e1 : X1 ++ Y1 ++ (X2 ++ Y2) = X1 ++ ((Y1 ++ X2) ++ Y2) := by simp [List.append_assoc]
    have e2 : X1 ++ X2 ++ (Y1 ++ Y2) = X1 ++ ((X2 ++ Y1) ++ Y2) := by simp [List.append_assoc]
    rw [e1, e2]
    exact (Same.refl X1).append ((Same.swap fun x hx y hy => hyx y hy x hx).append (Same.refl Y2))
end

/-! ### Two elements change places -/
section
variable {α : Type} {d : α}
def swp (d : α) (L : List α) (i j : Nat) : List α := (L.set i (nth d L j)).set j (nth d L i)
theorem swp_length (L : List α) (i j : Nat) : (swp d L i j).length = L.length := by simp [swp]
theorem nth_mid (A : List α) (x : α) (B : List α) : nth d (A ++ x :: B) A.length = x := by
  rw [nth_append_right _ _ _ _ (Nat.le_refl _), Nat.sub_self]; rfl
theorem set_mid (A : List α) (x y : α) (B : List α) : (A ++ x :: B).set A.length y = A ++ y :: B := by
  rw [List.set_append_right _ _ (Nat.le_refl _), Nat.sub_self]; rfl
theorem swp_two (A : List α) (x : α) (B : List α) (y : α) (C : List α) (i j : Nat) (hi : i = A.length) (hj : j = A.length + 1 + B.length) : swp d (A ++ x :: (B ++ y :: C)) i j = A ++ y :: (B ++ x :: C) := by
  subst hi hj
  have e1 : nth d (A ++ x :: (B ++ y :: C)) (A.length + 1 + B.length) = y := by
    have := nth_mid (d := d) (A ++ x :: B) y C
    rw [List.length_append, List.length_cons, show A.length + (B.length + 1) = A.length + 1 + B.length by omega] at this
    simpa [List.append_assoc] using this
  unfold swp
  rw [e1, nth_mid, set_mid]
  have := set_mid (A ++ y :: B) y x C
  rw [List.length_append, List.length_cons, show A.length + (B.length + 1) = A.length + 1 + B.length by omega] at this
  simpa [List.append_assoc] using this
theorem swp_comm (L : List α) (i j : Nat) (h : i ≠ j) : swp d L i j = swp d L j i := by
  unfold swp
  exact List.set_comm _ _ h
/-- Neighbours. -/
theorem swp_next (A : List α) (x y : α) (C : List α) (i : Nat) (hi : i = A.length) : swp d (A ++ x :: y :: C) i (i + 1) = A ++ y :: x :: C := by
  have := swp_two (d := d) A x [] y C i (i + 1) hi (by subst hi; simp)
  simpa using this
theorem nth_at (A : List α) (x : α) (B : List α) (i : Nat) (hi : i = A.length) : nth d (A ++ x :: B) i = x := by subst hi; exact nth_mid A x B
theorem split_at (l : List α) (k : Nat) (h : k < l.length) : l = l.take k ++ nth d l k :: l.drop (k + 1) := by
  conv => lhs; rw [← List.take_append_drop k l]
  rw [drop_nth d l k h]
end
end Go.Proofs.YtciknejchglmoaaDoor

namespace Go.Proofs.YtciknejchglmoaaDoor

section
variable {α : Type} (f : α → Int)
/-- Behind the elements that are no heavier. -/
def insF (x : α) : List α → List α
  | [] => [x]
  | y :: l => if f x < f y then x :: y :: l else y :: insF x l
def isortF (l : List α) : List α := l.foldl (fun a x => insF f x a) []
end
section
variable {α β : Type} {f : α → Int}
theorem insF_split (x : α) : ∀ {l : List α}, SortedF f l → ∃ A B, l = A ++ B ∧ insF f x l = A ++ x :: B ∧ (∀ y ∈ A, f y ≤ f x) ∧ (∀ y ∈ B, f x < f y)
  | [], _ => ⟨[], [], rfl, rfl, by simp, by simp⟩
  | y :: l, h => by
    unfold insF
    by_cases hlt : f x < f y
    · rw [if_pos hlt]
      refine ⟨[], y :: l, rfl, rfl, by simp, fun z hz => ?_⟩
      rcases List.mem_cons.1 hz with rfl | hz
      · exact hlt
      · have := (List.pairwise_cons.1 h).1 z hz; omega
    · rw [if_neg hlt]
      obtain ⟨A, B, e1, e2, h1, h2⟩ := insF_split x (List.pairwise_cons.1 h).2
      refine ⟨y :: A, B, by rw [e1]; rfl, by rw [e2]; rfl, fun z hz => ?_, h2⟩
      rcases List.mem_cons.1 hz with rfl | hz
      · omega
      · exact h1 z hz
theorem insF_ok (x : α) {l : List α} (h : SortedF f l) : SortedF f (insF f x l) ∧ Same f (insF f x l) (l ++ [x]) := by
  obtain ⟨A, B, e1, e2, h1, h2⟩ := insF_split x h
  rw [e2, e1]
  rw [e1] at h
  exact sorted_ins h h1 h2
theorem isortF_snoc (l : List α) (x : α) : isortF f (l ++ [x]) = insF f x (isortF f l) := by simp [isortF]
theorem isortF_ok (l : List α) : SortedF f (isortF f l) ∧ Same f (isortF f l) l := by
  suffices h : ∀ (l acc m : List α), SortedF f acc → Same f acc m → SortedF f (l.foldl (fun a x => insF f x a) acc) ∧ Same f (l.foldl (fun a x => insF f x a) acc) (m ++ l) by
    have := h l [] [] SortedF.nil (Same.refl _)
    rw [List.nil_append] at this
    exact this
  intro l
  induction l with
  | nil => intro acc m h1 h2; simpa using ⟨h1, h2⟩
  | cons x l ih =>
    intro acc m h1 h2
    obtain ⟨q1, q2⟩ := insF_ok x h1
    have := ih (insF f x acc) (m ++ [x]) q1 (q2.trans (h2.append (Same.refl [x])))
    simpa using this
theorem isort_uniq {l m : List α} (h : SortedF f l) (hs : Same f l m) : l = isortF f m := sorted_uniq h (isortF_ok m).1 (hs.trans (isortF_ok m).2.symm)
theorem insF_cons (x y : α) (l : List α) : insF f x (y :: l) = if f x < f y then x :: y :: l else y :: insF f x l := rfl
theorem insF_map {g : α → β} {k : β → Int} (h : ∀ x, k (g x) = f x) (x : α) : ∀ l : List α, (insF f x l).map g = insF k (g x) (l.map g)
  | [] => rfl
  | y :: l => by
    rw [List.map_cons, insF_cons, insF_cons, h, h]
    by_cases hlt : f x < f y
    · rw [if_pos hlt, if_pos hlt]; rfl
    · rw [if_neg hlt, if_neg hlt, List.map_cons, insF_map h x l]
theorem isortF_map {g : α → β} {k : β → Int} (h : ∀ x, k (g x) = f x) (l : List α) : (isortF f l).map g = isortF k (l.map g) := by
  suffices hh : ∀ (l acc : List α), (l.foldl (fun a x => insF f x a) acc).map g = (l.map g).foldl (fun a x => insF k x a) (acc.map g) by
    exact hh l []
  intro l
  induction l with
  | nil => intro acc; rfl
  | cons x l ih => intro acc; rw [List.foldl_cons, ih, insF_map h, List.map_cons, List.foldl_cons]
theorem isortF_mem (l : List α) (x : α) : x ∈ isortF f l ↔ x ∈ l := (isortF_ok l).2.mem x
end
end Go.Proofs.YtciknejchglmoaaDoor

namespace Go.Proofs.YtciknejchglmoaaDoor

/-- An element of a row: its weight, and the symbols of its coins. -/
abbrev It := Int × List Nat
def ws (l : List It) : Int := (l.map (·.1)).sum
theorem ws_nil : ws [] = 0 := rfl
theorem ws_cons (x : It) (l : List It) : ws (x :: l) = x.1 + ws l := by simp [ws]
theorem ws_append (a b : List It) : ws (a ++ b) = ws a + ws b := by simp [ws]
/-- Of equal elements those of the first list come first. -/
def mergeI : List It → List It → List It
  | [], b => b
  | x :: a, [] => x :: a
  | x :: a, y :: b => if y.1 < x.1 then y :: mergeI (x :: a) b else x :: mergeI a (y :: b)
termination_by a b => a.length + b.length
def pairsI : List It → List It
  | x :: y :: r => (x.1 + y.1, x.2 ++ y.2) :: pairsI r
  | _ => []
def rowI (coins : List It) : Nat → List It
  | 0 => coins
  | k + 1 => mergeI coins (pairsI (rowI coins k))
def SortedI (l : List It) : Prop := ∀ i j, i ≤ j → j < l.length → (nth (0, []) l i).1 ≤ (nth (0, []) l j).1

theorem mergeI_nil_right (a : List It) : mergeI a [] = a := by cases a <;> simp [mergeI]
theorem mergeI_length : ∀ a b : List It, (mergeI a b).length = a.length + b.length
  | [], b => by simp [mergeI]
  | x :: a, [] => by simp [mergeI]
  | x :: a, y :: b => by
    rw [mergeI]
    split
    · rw [List.length_cons, mergeI_length (x :: a) b]; simp; omega
    · rw [List.length_cons, mergeI_length a (y :: b)]; simp; omega
termination_by a b => a.length + b.length
theorem SortedI.head {x : It} {a : List It} (h : SortedI (x :: a)) (j : Nat) (hj : j < (x :: a).length) : x.1 ≤ (nth (0, []) (x :: a) j).1 := h 0 j (Nat.zero_le _) hj
theorem SortedI.tail {x : It} {a : List It} (h : SortedI (x :: a)) : SortedI a := fun i j hij hj => by
  have := h (i + 1) (j + 1) (by omega) (by simpa using hj)
  simpa [nth] using this
theorem sorted_cons {x : It} {a : List It} (h : SortedI a) (hx : ∀ j, j < a.length → x.1 ≤ (nth (0, []) a j).1) : SortedI (x :: a) := fun i j hij hj => by
  cases j with
  | zero => obtain rfl : i = 0 := by omega
            exact Int.le_refl _
  | succ j =>
    have hj' : j < a.length := by simpa using hj
    have e : nth (0, []) (x :: a) (j + 1) = nth (0, []) a j := by simp [nth]
    rw [e]
    cases i with
    | zero => exact hx j hj'
    | succ i =>
      have e2 : nth (0, []) (x :: a) (i + 1) = nth (0, []) a i := by simp [nth]
      rw [e2]
      exact h i j (by omega) hj'
theorem mergeI_mem : ∀ (a b : List It) (z : It), z ∈ mergeI a b ↔ z ∈ a ∨ z ∈ b
  | [], b, z => by simp [mergeI]
  | x :: a, [], z => by simp [mergeI]
  | x :: a, y :: b, z => by
    rw [mergeI]
    split
    · rw [List.mem_cons, mergeI_mem (x :: a) b z]; simp only [List.mem_cons]
      constructor
      · rintro (h | h | h)
        · exact .inr (.inl h)
        · exact .inl h
        · exact .inr (.inr h)
      · rintro (h | h | h)
        · exact .inr (.inl h)
        · exact .inl h
        · exact .inr (.inr h)
    · rw [List.mem_cons, mergeI_mem a (y :: b) z]; simp only [List.mem_cons]; exact or_assoc.symm
termination_by a b => a.length + b.length
theorem sorted_mem {x : It} {l : List It} (hx : ∀ z ∈ l, x.1 ≤ z.1) : ∀ j, j < l.length → x.1 ≤ (nth (0, []) l j).1 := fun j hj => hx _ (nth_mem _ l j hj)
theorem sorted_all {x : It} {a : List It} (h : SortedI (x :: a)) : ∀ z ∈ x :: a, x.1 ≤ z.1 := fun z hz => by
  obtain ⟨j, hj, rfl⟩ := List.mem_iff_getElem.1 hz
  have := h.head j hj
  rwa [nth_eq _ _ j hj] at this
theorem mergeI_sorted : ∀ a b : List It, SortedI a → SortedI b → SortedI (mergeI a b)
  | [], b, _, h => by simpa [mergeI] using h
  | x :: a, [], h, _ => by simpa [mergeI] using h
  | x :: a, y :: b, ha, hb => by
    rw [mergeI]
    split
    · rename_i hlt
      refine sorted_cons (mergeI_sorted (x :: a) b ha hb.tail) (sorted_mem fun z hz => ?_)
      rcases (mergeI_mem _ _ _).1 hz with h | h
      · have := sorted_all ha z h; omega
      · exact sorted_all hb z (List.mem_cons_of_mem _ h)
    · rename_i hge
      refine sorted_cons (mergeI_sorted a (y :: b) ha.tail hb) (sorted_mem fun z hz => ?_)
      rcases (mergeI_mem _ _ _).1 hz with h | h
      · exact sorted_all ha z (List.mem_cons_of_mem _ h)
      · have := sorted_all hb z h; omega
termination_by a b => a.length + b.length
theorem ws_take_succ (l : List It) (m : Nat) (h : m < l.length) : ws (l.take (m + 1)) = ws (l.take m) + (nth (0, []) l m).1 := by
  rw [take_succ_nth (0, []) l m h, ws_append, ws_cons, ws_nil]; omega
/-- The first elements of a merged row weigh no more than any first elements of both. -/
theorem merge_min : ∀ (a b : List It), SortedI a → SortedI b → ∀ p q, p ≤ a.length → q ≤ b.length → ws ((mergeI a b).take (p + q)) ≤ ws (a.take p) + ws (b.take q)
  | [], b, _, _, p, q, hp, _ => by
    obtain rfl : p = 0 := by simpa using hp
    simp [mergeI, ws_nil]
  | x :: a, [], _, _, p, q, _, hq => by
    obtain rfl : q = 0 := by simpa using hq
    simp [mergeI, ws_nil]
  | x :: a, y :: b, ha, hb, p, q, hp, hq => by
    rw [mergeI]
    split
    · rename_i hlt
      cases q with
      | zero =>
        cases p with
        | zero => simp [ws_nil]
        | succ p =>
          have h1 := merge_min (x :: a) b ha hb.tail p 0 (by omega) (Nat.zero_le _)
          have h2 := ws_take_succ (x :: a) p (by omega)
          have h3 := ha.head p (by omega)
          rw [h2]
          simp only [Nat.add_zero, List.take_succ_cons, ws_cons, List.take_zero, ws_nil] at h1 ⊢
          omega
      | succ q =>
        have h1 := merge_min (x :: a) b ha hb.tail p q hp (by simpa using hq)
        rw [show p + (q + 1) = (p + q) + 1 by omega, List.take_succ_cons, List.take_succ_cons, ws_cons, ws_cons]
        omega
    · rename_i hge
      cases p with
      | zero =>
        cases q with
        | zero => simp [ws_nil]
        | succ q =>
          have h1 := merge_min a (y :: b) ha.tail hb 0 q (Nat.zero_le _) (by omega)
          have h2 := ws_take_succ (y :: b) q (by omega)
          have h3 := hb.head q (by omega)
          rw [h2]
          rw [show 0 + (q + 1) = (0 + q) + 1 by omega, List.take_succ_cons, ws_cons]
          simp only [List.take_zero, ws_nil] at h1 ⊢
          omega
      | succ p =>
        have h1 := merge_min a (y :: b) ha.tail hb p q (by simpa using hp) hq
        rw [show p + 1 + q = (p + q) + 1 by omega, List.take_succ_cons, List.take_succ_cons, ws_cons, ws_cons]
        omega
termination_by a b => a.length + b.length
theorem pairsI_length : ∀ l : List It, (pairsI l).length = l.length / 2
  | [] => rfl
  | [x] => by simp [pairsI]
  | x :: y :: r => by rw [pairsI, List.length_cons, pairsI_length r]; simp; omega
theorem pairsI_take : ∀ (l : List It) (k : Nat), 2 * k ≤ l.length → ws ((pairsI l).take k) = ws (l.take (2 * k))
  | [], k, h => by
    obtain rfl : k = 0 := by simp at h; omega
    rfl
  | [x], k, h => by
    obtain rfl : k = 0 := by simp at h; omega
    rfl
  | x :: y :: r, k, h => by
    cases k with
    | zero => rfl
    | succ k =>
      rw [pairsI, List.take_succ_cons, ws_cons, pairsI_take r k (by simp at h; omega), show 2 * (k + 1) = 2 * k + 1 + 1 by omega, List.take_succ_cons, List.take_succ_cons, ws_cons, ws_cons]
      omega
theorem pairsI_nth : ∀ (l : List It) (k : Nat), 2 * k + 1 < l.length → (nth (0, []) (pairsI l) k).1 = (nth (0, []) l (2 * k)).1 + (nth (0, []) l (2 * k + 1)).1
  | [], k, h => by simp at h
  | [x], k, h => by simp at h
  | x :: y :: r, k, h => by
    cases k with
    | zero => rfl
    | succ k =>
      have h1 := pairsI_nth r k (by simp at h; omega)
      have e1 : nth (0, []) (pairsI (x :: y :: r)) (k + 1) = nth (0, []) (pairsI r) k := by simp [pairsI, nth]
      have e2 : nth (0, []) (x :: y :: r) (2 * (k + 1)) = nth (0, []) r (2 * k) := by rw [show 2 * (k + 1) = 2 * k + 1 + 1 by omega]; simp [nth]
      have e3 : nth (0, []) (x :: y :: r) (2 * (k + 1) + 1) = nth (0, []) r (2 * k + 1) := by rw [show 2 * (k + 1) + 1 = 2 * k + 1 + 1 + 1 by omega]; simp [nth]
      rw [e1, e2, e3, h1]
theorem pairsI_sorted {l : List It} (h : SortedI l) : SortedI (pairsI l) := fun i j hij hj => by
  rw [pairsI_length] at hj
  rw [pairsI_nth l i (by omega), pairsI_nth l j (by omega)]
  have h1 := h (2 * i) (2 * j) (by omega) (by omega)
  have h2 := h (2 * i + 1) (2 * j + 1) (by omega) (by omega)
  omega
theorem rowI_sorted {coins : List It} (h : SortedI coins) : ∀ k, SortedI (rowI coins k)
  | 0 => h
  | k + 1 => mergeI_sorted _ _ h (pairsI_sorted (rowI_sorted h k))
theorem rowI_length (coins : List It) (k : Nat) : (rowI coins (k + 1)).length = coins.length + (rowI coins k).length / 2 := by
  rw [rowI, mergeI_length, pairsI_length]
/-! ### The least weight -/
/-- The width of a choice of c 0 coins of the deepest level, c 1 of the next one, and so on, in coins of level k. -/
def wide (c : Nat → Nat) : Nat → Nat
  | 0 => c 0
  | k + 1 => c (k + 1) + wide c k / 2
/-- What the lightest coins of such a choice weigh. -/
def heavy (coins : List It) (c : Nat → Nat) : Nat → Int
  | 0 => ws (coins.take (c 0))
  | k + 1 => ws (coins.take (c (k + 1))) + heavy coins c k
theorem wide_le {coins : List It} {c : Nat → Nat} (h : ∀ k, c k ≤ coins.length) : ∀ k, wide c k ≤ (rowI coins k).length
  | 0 => h 0
  | k + 1 => by
    rw [rowI_length, wide]
    have := wide_le h k
    have := h (k + 1)
    omega
theorem ws_take_mono {l : List It} (hp : ∀ z ∈ l, 0 ≤ z.1) : ∀ {m n : Nat}, m ≤ n → ws (l.take m) ≤ ws (l.take n) := by
  intro m n h
  induction l generalizing m n with
  | nil => simp
  | cons x l ih =>
    cases n with
    | zero => obtain rfl : m = 0 := by omega
              exact Int.le_refl _
    | succ n =>
      have hx := hp x (by simp)
      cases m with
      | zero =>
        have := ih (fun z hz => hp z (by simp [hz])) (Nat.zero_le n)
        simp only [List.take_zero, ws_nil, List.take_succ_cons, ws_cons] at this ⊢
        omega
      | succ m =>
        have := ih (fun z hz => hp z (by simp [hz])) (show m ≤ n by omega)
        rw [List.take_succ_cons, List.take_succ_cons, ws_cons, ws_cons]
        omega
theorem pairsI_pos : ∀ {l : List It}, (∀ z ∈ l, 0 ≤ z.1) → ∀ z ∈ pairsI l, 0 ≤ z.1
  | [], _, z, hz => by simp [pairsI] at hz
  | [x], _, z, hz => by simp [pairsI] at hz
  | x :: y :: r, h, z, hz => by
    rw [pairsI, List.mem_cons] at hz
    rcases hz with rfl | hz
    · have := h x (by simp); have := h y (by simp)
      show 0 ≤ x.1 + y.1
      omega
    · exact pairsI_pos (fun z hz => h z (by simp [hz])) z hz
theorem rowI_pos {coins : List It} (h : ∀ z ∈ coins, 0 ≤ z.1) : ∀ k, ∀ z ∈ rowI coins k, 0 ≤ z.1
  | 0 => h
  | k + 1 => fun z hz => by
    rcases (mergeI_mem _ _ _).1 hz with hz | hz
    · exact h z hz
    · exact pairsI_pos (rowI_pos h k) z hz
/-- No choice of that width weighs less than the first elements of the row. -/
theorem row_least {coins : List It} {c : Nat → Nat} (hs : SortedI coins) (hp : ∀ z ∈ coins, 0 ≤ z.1) (hc : ∀ k, c k ≤ coins.length) : ∀ k, ws ((rowI coins k).take (wide c k)) ≤ heavy coins c k
  | 0 => Int.le_refl _
  | k + 1 => by
    have ih := row_least hs hp hc k
    have hw := wide_le hc k
    have h1 := merge_min coins (pairsI (rowI coins k)) hs (pairsI_sorted (rowI_sorted hs k)) (c (k + 1)) (wide c k / 2) (hc _) (by rw [pairsI_length]; omega)
    have h2 := pairsI_take (rowI coins k) (wide c k / 2) (by omega)
    have h3 := ws_take_mono (rowI_pos hp k) (show 2 * (wide c k / 2) ≤ wide c k by omega)
    rw [rowI, wide, heavy]
    omega
end Go.Proofs.YtciknejchglmoaaDoor

namespace Go.Proofs.YtciknejchglmoaaDoor
open Go.RowKit

section
variable {α : Type} {k : Kd α} {ok ok' : Nat → Prop} {w w' : World} {xs ys : List α} {cells cs : List Value}
theorem Reps.append (h : Reps k ok w xs cells) (h2 : Reps k ok w ys cs) : Reps k ok w (xs ++ ys) (cells ++ cs) := by
  refine ⟨by rw [List.length_append, h.1, h2.1, List.length_append, Nat.add_mul], fun j hj => ?_⟩
  rw [List.length_append] at hj
  rcases Nat.lt_or_ge j xs.length with h1 | h1
  · have h3 : j * k.size + k.size ≤ cells.length := by rw [h.1, ← Nat.succ_mul]; exact Nat.mul_le_mul_right _ h1
    rw [nth_append_left _ _ _ _ h1, List.drop_append_of_le_length (by omega), List.take_append_of_le_length (by rw [List.length_drop]; omega)]
    exact h.2 j h1
  · have h3 : xs.length * k.size ≤ j * k.size := Nat.mul_le_mul_right _ h1
    rw [nth_append_right _ _ _ _ h1, List.drop_append, List.drop_of_length_le (by rw [h.1]; exact h3), List.nil_append, h.1, ← Nat.sub_mul]
    exact h2.2 _ (by omega)
theorem Kd.Rd.reps {A : Option Addr} (h : k.Rd ok w A xs) : ∃ cs, Reps k ok w xs cs ∧ ∀ i v, cs[i]? = some v → ∃ ad, A = some ad ∧ w.cell? (ad.add i) = some v := by
  suffices hh : ∀ n, n ≤ xs.length → ∃ cs, Reps k ok w (xs.take n) cs ∧ ∀ i v, cs[i]? = some v → ∃ ad, A = some ad ∧ w.cell? (ad.add i) = some v by
    obtain ⟨cs, h1, h2⟩ := hh xs.length (Nat.le_refl _)
    rw [List.take_length] at h1
    exact ⟨cs, h1, h2⟩
  intro n
  induction n with
  | zero => intro _; exact ⟨[], by rw [List.take_zero]; exact Reps.nil _ _ _, fun i v hv => by simp at hv⟩
  | succ n ih =>
    intro hn
    obtain ⟨cs, h1, h2⟩ := ih (by omega)
    obtain ⟨ad, c1, e, _, _, hK, hc⟩ := h n (by omega)
    refine ⟨cs ++ c1, by rw [take_succ_nth k.dflt xs n (by omega)]; exact h1.snoc hK, fun i v hv => ?_⟩
    have hl : cs.length = n * k.size := by rw [h1.1, List.length_take, Nat.min_eq_left (by omega)]
    rcases Nat.lt_or_ge i cs.length with hi | hi
    · rw [List.getElem?_append_left hi] at hv
      exact h2 i v hv
    · rw [List.getElem?_append_right hi] at hv
      have := hc _ _ hv
      rw [hl, Nat.add_sub_cancel' (by omega)] at this
      exact ⟨ad, e, this⟩
end
section
variable {P : Program} {ops : Array Oper} {rest : List Oper} {o : Oper} {a : Act} {Q : Exit → Act → World → Prop}
theorem run_append_ks {α : Type} {k : Kd α} {W : World} (base : Nat) (t ty e : TypeId) (z : Value) (bytes : Nat) (ok : Nat → Prop)
    (ht : P.underlying t = some (.slice e)) (hinfo : (P.info? e).map (fun i => (i.zero, i.size, i.bytes)) = some (some z, k.size, bytes)) (hz : z.cells.size = k.size) (hk0 : 0 < k.size) (hb0 : 0 < bytes)
    (h1 : ∀ ok w x cs, k.K ok w x cs → ∀ u ∈ cs, u.oneCell' = true)
    (v : Value) (xs ys : List α) (A : Option Addr) (c : Nat)
    (HO : OwnK k e base ok W v xs) (HR : Sl k (fun b => ok b ∧ v.ownBlock ≠ some b) W A c ys) (hbase : base ≤ W.heap.size) (hl : (xs.length + ys.length) * bytes ≤ 140737488355328) :
    ∃ v1 w1, (Builtin.append_ #[t, t] ty #[v, .slice A ys.length c]).run P W = .ok v1 w1 ∧ OwnK k e base ok w1 v1 (xs ++ ys) ∧ W.grownBy w1 v.ownBlock ∧ (v1.ownBlock = v.ownBlock ∨ ∃ b, v1.ownBlock = some b ∧ W.heap.size ≤ b) := by
  obtain ⟨i0, hi, hzz⟩ := Option.map_eq_some_iff.1 hinfo
  simp only [Prod.mk.injEq] at hzz
  obtain ⟨hz0, hz1, hz2⟩ := hzz
  have hlen : xs.length + ys.length ≤ 140737488355328 := Nat.le_trans (Nat.le_mul_of_pos_right _ hb0) hl
  rcases A with _ | ad
  · have h0 : ys = [] := by
      rcases Nat.eq_zero_or_pos ys.length with h0 | h0
      · exact List.eq_nil_of_length_eq_zero h0
      · obtain ⟨ad, _, h, _⟩ := HR.rd 0 h0
        cases h
    subst h0
    refine ⟨v, W, ?_, by simpa using HO, ⟨rfl, rfl, rfl, Nat.le_refl _, fun _ _ _ => rfl⟩, .inl rfl⟩
    obtain ⟨cells, ho, _⟩ := HO
    rcases ho.2 with ⟨rfl, hn⟩ | ⟨g, cap, cur, rfl, _, _, hnc, _⟩
    · simp [Builtin.append_, run_underlying ht, sizeOf, typeInfo, hi, Builtin.lenOf, Builtin.firstCells]
    · simp [Builtin.append_, run_underlying ht, sizeOf, typeInfo, hi, Builtin.lenOf, Builtin.firstCells, hnc, storeCells]
  · obtain ⟨cs, hrp, hcs⟩ := HR.rd.reps
    obtain ⟨cells, hown, hr⟩ := HO
    have hone : ∀ u ∈ cs, u.oneCell' = true := by
      intro u hu
      obtain ⟨i, hi, rfl⟩ := List.mem_iff_getElem.1 hu
      have hq : i / k.size < ys.length := by rw [hrp.1] at hi; exact (Nat.div_lt_iff_lt_mul hk0).2 hi
      have hK := hrp.2 _ hq
      refine h1 _ _ _ _ hK _ ?_
      rw [List.mem_iff_getElem?]
      refine ⟨i % k.size, ?_⟩
      rw [List.getElem?_take, if_pos (Nat.mod_lt _ hk0), List.getElem?_drop, Nat.div_add_mod']
      exact List.getElem?_eq_getElem hi
    obtain ⟨v1, w1, hrun, h2, h3, _, h5⟩ := run_append_own_at (P := P) W base t ty e i0 z k.size bytes ht hi hz0 hz1 hz2 hz hk0 v xs.length cells hown ad ys.length c cs hrp.1 (fun j u hu => by
      obtain ⟨ad', h', hc⟩ := hcs j u hu
      cases h'
      exact hc) hone (by simp only [maxLen]; omega) hl hbase
    have hat : v1.ownBlock = v.ownBlock ∨ ∃ b, v1.ownBlock = some b ∧ W.heap.size ≤ b := by
      rcases h5 with h | h
      · exact .inl h
      · exact .inr ⟨_, h, Nat.le_refl _⟩
    refine ⟨v1, w1, hrun, ⟨cells ++ cs, by rw [List.length_append]; exact h2, ?_⟩, h3, hat⟩
    have hs := (hr.append hrp).weak (ok' := fun b => (ok b ∧ v.ownBlock ≠ some b) ∧ b < W.heap.size) fun b hb ho => ⟨ho, hb⟩
    refine (hs.keep ((Keep.of_grown h3).weak fun b hb => Ne.symm hb.1.2)).weak fun b _ hb => ⟨hb.1.1, fun he => ?_⟩
    rcases hat with h | ⟨b', h, hle⟩
    · exact hb.1.2 (h ▸ he)
    · rw [h] at he
      injection he with he
      omega
theorem append_ks {α : Type} {k : Kd α} {W : World} (base : Nat) (hgd : o.guard = none) (s x0 : Operand) (t e : TypeId) (z : Value) (bytes : Nat) (ok : Nat → Prop)
    (ho : o.op = .call { callee := .builtin .append, args := #[s, x0], argTypes := #[t, t] })
    (ht : P.underlying t = some (.slice e)) (hinfo : (P.info? e).map (fun i => (i.zero, i.size, i.bytes)) = some (some z, k.size, bytes)) (hz : z.cells.size = k.size) (hk0 : 0 < k.size) (hb0 : 0 < bytes)
    (h1 : ∀ ok w x cs, k.K ok w x cs → ∀ u ∈ cs, u.oneCell' = true)
    (v : Value) (xs ys : List α) (A : Option Addr) (c : Nat) (hs : a.eval s = v) (hx0 : a.eval x0 = .slice A ys.length c)
    (HO : OwnK k e base ok W v xs) (HR : Sl k (fun b => ok b ∧ v.ownBlock ≠ some b) W A c ys) (hbase : base ≤ W.heap.size) (hl : (xs.length + ys.length) * bytes ≤ 140737488355328)
    (h : ∀ v1 w1, OwnK k e base ok w1 v1 (xs ++ ys) → W.grownBy w1 v.ownBlock → (v1.ownBlock = v.ownBlock ∨ ∃ b, v1.ownBlock = some b ∧ W.heap.size ≤ b) → wpList P ops Q rest (a.put o.dst v1) w1) :
    wpList P ops Q (o :: rest) a W := by
  obtain ⟨v1, w1, hr, h2, h3, h4⟩ := run_append_ks (P := P) base t o.type e z bytes ok ht hinfo hz hk0 hb0 h1 v xs ys A c HO HR hbase hl
  refine wpList_plain hgd fun K hK => ?_
  unfold Oper.wp execOp
  simp only [ho, resolve, invoke, builtin, Sem.run_bind, Sem.run_pure, Result.andThen_ok, List.map_toArray, List.map_cons, List.map_nil, hs, hx0, hr]
  exact hK _ _ (h v1 w1 h2 h3 h4)
end
end Go.Proofs.YtciknejchglmoaaDoor

namespace Go.Proofs.YtciknejchglmoaaDoor
open Go.RowKit

def symI (l : List Nat) : List Int := l.map Int.ofNat
theorem symI_length (l : List Nat) : (symI l).length = l.length := by simp [symI]
theorem symI_append (a b : List Nat) : symI (a ++ b) = symI a ++ symI b := by simp [symI]
/-- An item: its weight, and its coins' symbols. -/
def kIt : Kd It where
  size := 2
  dflt := (0, [])
  K := fun ok w x cs => ∃ A c, cs = [.int .i64 x.1, .slice A x.2.length c] ∧ Sl (kInt .i64) ok w A c (symI x.2)
  len := fun ⟨_, _, h, _⟩ => by rw [h]; rfl
  keep := fun hk ⟨A, c, h, hr⟩ => ⟨A, c, h, hr.keep hk⟩
  weak := fun hk ⟨A, c, h, hr⟩ => ⟨A, c, h, hr.weak hk⟩
theorem rd_it {ok : Nat → Prop} {w : World} {A : Option Addr} {c : Nat} {xs : List It} (h : Sl kIt ok w A c xs) (j : Nat) (hj : j < xs.length) :
    ∃ ad A' c', A = some ad ∧ w.cell? (ad.add (j * 2)) = some (.int .i64 (nth (0, []) xs j).1) ∧ w.cell? ⟨(ad.add (j * 2)).block, (ad.add (j * 2)).off + 1, none⟩ = some (.slice A' (nth (0, []) xs j).2.length c') ∧ Sl (kInt .i64) ok w A' c' (symI (nth (0, []) xs j).2) := by
  obtain ⟨ad, cs, e, _, _, ⟨A', c', rfl, h1⟩, hc⟩ := h.rd j hj
  have h3 := hc 1 _ rfl
  have h2 := hc 0 _ rfl
  rw [← add_add] at h3
  exact ⟨ad, A', c', e, h2, h3, h1⟩
theorem it_one : ∀ (ok : Nat → Prop) (w : World) (x : It) (cs : List Value), kIt.K ok w x cs → ∀ u ∈ cs, u.oneCell' = true := by
  rintro ok w x cs ⟨A, c, rfl, _⟩ u hu
  simp only [List.mem_cons, List.not_mem_nil, or_false] at hu
  rcases hu with rfl | rfl <;> rfl
theorem Sl.tail {ok : Nat → Prop} {w : World} {A : Option Addr} {c : Nat} {x : It} {xs : List It} (h : Sl kIt ok w A c (x :: xs)) : Sl kIt ok w (A.map fun a => a.add 2) (c - 1) xs := by
  have hr := h.rd.drop 1
  exact ⟨by have := h.le; simp at this; omega, by have := h.cap; omega, by simpa [kIt] using hr⟩

theorem Sl.cutA {ok : Nat → Prop} {w : World} {ad : Addr} {c : Nat} {x : It} {xs : List It} (h : Sl kIt ok w (some ad) c (x :: xs)) {A : Option Addr} (hA : (if c = 1 then some ad else some ⟨ad.block, ad.off + 2, Option.none⟩) = A) : Sl kIt ok w A (c - 1) xs := by
  have ht := h.tail
  by_cases h1 : c = 1
  · have h0 : xs = [] := List.eq_nil_of_length_eq_zero (by have := h.le; simp at this; omega)
    subst h0
    exact ⟨Nat.zero_le _, by have := h.cap; omega, Kd.Rd.nil _ _ _ _⟩
  · rw [if_neg h1] at hA
    subst hA
    exact ht

theorem mergeI_cons (x y : It) (a b : List It) : mergeI (x :: a) (y :: b) = if y.1 < x.1 then y :: mergeI (x :: a) b else x :: mergeI a (y :: b) := by rw [mergeI]
def lenV : Value → Nat
  | .slice _ n _ => n
  | _ => 0
end Go.Proofs.YtciknejchglmoaaDoor

namespace Go.Proofs.YtciknejchglmoaaDoor
open Go Go.RowKit

section
variable {P : Program} {ops : Array Oper} {Q : Exit → Act → World → Prop} {md : Region.Mode} {S : World → Prop} {N : Nat}

/-- What is listed has all listed that it waits for. -/
structure Shutdown (md : Region.Mode) (ops : Array Oper) (listed : Array Bool) : Prop where
  size : listed.size = ops.size
  closed : ∀ j oj, ops[j]? = some oj → listed.getD j false = true → ∀ e ∈ oj.after, Region.binds md e = true → listed.getD e.on false = true

theorem Shutdown.start : Shutdown md ops (Array.replicate ops.size false) := ⟨by simp, fun j oj _ hl => by rw [getD_replicate_false] at hl; cases hl⟩

theorem Shutdown.set {i : Nat} {listed : Array Bool} (inv : Shutdown md ops listed) (hi : i ∈ Region.ready md ops listed) : Shutdown md ops (listed.setIfInBounds i true) := by
  obtain ⟨_, oi, hoi, hall⟩ := mem_ready.1 hi
  refine ⟨by simp [inv.size], fun j oj hj hl e he hb => ?_⟩
  by_cases hij : i = j
  · subst hij
    have : oj = oi := Option.some.inj (hj.symm.trans hoi)
    subst this
    exact getD_set_true (hall e he hb)
  · rw [getD_set_ne false hij] at hl
    exact getD_set_true (inv.closed j oj hj hl e he hb)

/-- Each of these waits for the one ahead of it. -/
def pathB (md : Region.Mode) (ops : Array Oper) : Nat → List Nat → Bool
  | _, [] => true
  | i, j :: l => Region.waitsFor md ops j i && pathB md ops j l

theorem path_waits {listed : Array Bool} (inv : Shutdown md ops listed) : ∀ (l : List Nat) (i : Nat), pathB md ops i l = true → listed.getD i true = false → l.getLast? = some N → N ∉ Region.ready md ops listed := by
  intro l
  induction l with
  | nil => intro i _ _ h; cases h
  | cons j l ih =>
    intro i hp hu hl hr
    simp only [pathB, Bool.and_eq_true] at hp
    obtain ⟨oj, hoj, e, he, hb, hon⟩ := Region.waitsFor_spec hp.1
    cases l with
    | nil =>
      obtain rfl : j = N := by simpa using hl
      obtain ⟨_, ot, hot, hall⟩ := mem_ready.1 hr
      obtain rfl : oj = ot := Option.some.inj (hoj.symm.trans hot)
      have h2 := hall e he hb
      rw [hon, getD_both hu] at h2
      cases h2
    | cons k l =>
      refine ih j hp.2 ?_ (by simpa using hl) hr
      cases hlj : listed.getD j false with
      | true =>
        have h2 := inv.closed j oj hoj hlj e he hb
        rw [hon, getD_both hu] at h2
        cases h2
      | false =>
        have hjs : j < ops.size := (Array.getElem?_eq_some_iff.1 hoj).1
        exact getD_in (by rw [inv.size]; exact hjs) hlj

/-- Whatever order is picked from here on, and S holds behind every operation while number N is still to come. -/
def wpAnyG (P : Program) (md : Region.Mode) (ops : Array Oper) (Q : Exit → Act → World → Prop) (S : World → Prop) (N : Nat) : Nat → Array Bool → Act → World → Prop
  | 0, listed, a, w => Region.ready md ops listed = [] ∧ Q .normal a w
  | fuel + 1, listed, a, w =>
    (Region.ready md ops listed = [] → Q .normal a w) ∧
    ∀ i ∈ Region.ready md ops listed, wpOp P ops Q i (fun a' w' => ((listed.setIfInBounds i true).getD N true = false → S w') ∧ wpAnyG P md ops Q S N fuel (listed.setIfInBounds i true) a' w') a w

theorem wpAny_of_G : ∀ (fuel : Nat) (listed : Array Bool) (a : Act) (w : World), wpAnyG P md ops Q S N fuel listed a w → wpAny P md ops Q fuel listed a w
  | 0, _, _, _, h => h
  | fuel + 1, _, _, _, h => ⟨h.1, fun i hi => wpOp_mono (fun a' w' h' => wpAny_of_G fuel _ a' w' h'.2) (h.2 i hi)⟩

theorem wpAnyG_first {i : Nat} {oi : Oper} {v : Value} (path : List Nat) (hp : pathB md ops i path = true) (hlast : path.getLast? = some N)
    (hi : ops[i]? = some oi) (hsel : ∀ (j : Nat) (o : Oper) cs b, ops[j]? = some o → o.op ≠ .select cs b)
    (hQ : ∀ c a w, Q (.panic c) (a.put oi.dst v) w → Q (.panic c) a w) :
    ∀ (fuel : Nat) (listed : Array Bool) (a : Act) (w : World), Shutdown md ops listed → listed.getD N true = false → i ≠ N →
      (∀ j oj, ops[j]? = some oj → j ≠ i → listed.getD j true = false → (∀ e ∈ oj.after, Region.binds md e = true → e.on ≠ i) → oi.apart ops oj = true) →
      i ∈ Region.ready md ops listed → YieldsIf P ops S oi v a → S w →
      wpAnyG P md ops Q S N fuel (listed.setIfInBounds i true) (a.put oi.dst v) w → wpAnyG P md ops Q S N (fuel + 1) listed a w := by
  intro fuel
  induction fuel with
  | zero =>
    intro listed a w inv hN hiN _ hr hy hS H
    refine ⟨fun h => (by rw [h] at hr; cases hr), fun j hj => ?_⟩
    by_cases hji : j = i
    · subst hji; exact hy.wpOp hi hS ⟨fun _ => hS, H⟩
    · have := ready_mono hj hji
      rw [H.1] at this
      cases this
  | succ fuel ih =>
    intro listed a w inv hN hiN hfree hr hy hS H
    refine ⟨fun h => (by rw [h] at hr; cases hr), fun j hj => ?_⟩
    by_cases hji : j = i
    · subst hji; exact hy.wpOp hi hS ⟨fun _ => hS, H⟩
    · have hjN : j ≠ N := fun e => by subst e; exact path_waits inv path i hp (mem_ready.1 hr).1 hlast hj
      have h1 := H.2 j (ready_mono hj hji)
      obtain ⟨hjun, oj, hoj, hall⟩ := mem_ready.1 hj
      have hnot : ∀ e ∈ oj.after, Region.binds md e = true → e.on ≠ i := fun e he hb heq => by
        have h1 := hall e he hb
        rw [heq, getD_both (mem_ready.1 hr).1] at h1
        cases h1
      have h2 := wpOp_putIf hoj (hfree j oj hoj hji hjun hnot) (fun cs b => hsel i oi cs b hi) (fun cs b => hsel j oj cs b hoj) hQ hy h1
      have hfree' : ∀ k ok, ops[k]? = some ok → k ≠ i → (listed.setIfInBounds j true).getD k true = false →
          (∀ e ∈ ok.after, Region.binds md e = true → e.on ≠ i) → oi.apart ops ok = true := fun k ok hk hki hun hno => by
        refine hfree k ok hk hki ?_ hno
        by_cases hjk : j = k
        · subst hjk; exact hjun
        · rw [getD_set_ne true hjk] at hun; exact hun
      have hNj : (listed.setIfInBounds j true).getD N true = false := by rw [getD_set_ne true hjN]; exact hN
      have hNij : ((listed.setIfInBounds i true).setIfInBounds j true).getD N true = false := by rw [getD_set_ne true hjN, getD_set_ne true hiN]; exact hN
      refine wpOp_mono (fun a' w' h3 => ⟨fun _ => h3.2.1 hNij, ih (listed.setIfInBounds j true) a' w' (inv.set hj) hNj hiN hfree' (ready_mono hr (Ne.symm hji)) h3.1 (h3.2.1 hNij) ?_⟩) h2
      rw [Array.setIfInBounds_comm _ _ hji]
      exact h3.2.2

/-- Whether an operation can be carried out already, a Bool for the walk. -/
def shutB (md : Region.Mode) (ops : Array Oper) (listed : Array Bool) : Bool :=
  decide (listed.size = ops.size) && (List.range ops.size).all fun j => !listed.getD j false || ((ops[j]?).map fun oj => oj.after.all fun e => !Region.binds md e || listed.getD e.on false).getD true

theorem shutB_spec {listed : Array Bool} (h : shutB md ops listed = true) : Shutdown md ops listed := by
  simp only [shutB, Bool.and_eq_true, decide_eq_true_eq] at h
  refine ⟨h.1, fun j oj hj hl e he hb => ?_⟩
  have h1 := List.all_eq_true.1 h.2 j (List.mem_range.2 (Array.getElem?_eq_some_iff.1 hj).1)
  simp only [hl, hj, Option.map_some, Option.getD_some, Bool.not_true, Bool.false_or, Array.all_eq_true_iff_forall_mem, Bool.or_eq_true, Bool.not_eq_true'] at h1
  rcases h1 e he with h | h
  · rw [hb] at h; cases h
  · exact h

/-- All side conditions of a take, as one Bool. -/
def takeB (md : Region.Mode) (ops : Array Oper) (listed : Array Bool) (i N : Nat) (path : List Nat) : Bool :=
  pathB md ops i path && path.getLast? == some N && Region.noSelect ops && Region.free md ops listed i && (Region.ready md ops listed).contains i && shutB md ops listed && !listed.getD N true && decide (i ≠ N)

/-- Number i is taken first. -/
theorem wpAnyG_take {i : Nat} {oi : Oper} {v : Value} (path : List Nat) {fuel : Nat} {listed : Array Bool} {a : Act} {w : World} (hi : ops[i]? = some oi)
    (hB : takeB md ops listed i N path = true)
    (hQ : ∀ c a w, Q (.panic c) (a.put oi.dst v) w → Q (.panic c) a w) (hS : S w) (hw : Region.wanted oi (yielded ops a.tmps) = true) (hy : ∀ w, S w → (execOp a.eval oi).run P w = .ok (.value v) w)
    (h : wpAnyG P md ops Q S N fuel (listed.setIfInBounds i true) (a.put oi.dst v) w) : wpAnyG P md ops Q S N (fuel + 1) listed a w := by
  simp only [takeB, Bool.and_eq_true, Bool.not_eq_true', decide_eq_true_eq, beq_iff_eq] at hB
  obtain ⟨⟨⟨⟨⟨⟨⟨h1, h2⟩, h3⟩, h4⟩, h5⟩, h6⟩, h7⟩, h8⟩ := hB
  exact wpAnyG_first path h1 h2 hi (Region.noSelect_spec h3) hQ fuel listed a w (shutB_spec h6) h7 h8 (Region.free_spec hi h4) (by simpa using h5) (Or.inl ⟨hw, hy⟩) hS h

/-- Number i alone may come up. -/
theorem wpAnyG_one {i : Nat} {o : Oper} {fuel : Nat} {listed : Array Bool} {a : Act} {w : World} (hr : Region.ready md ops listed = [i]) (ho : ops[i]? = some o)
    (h : ∀ K' : Act → World → Prop, Shut (∀ a w, ((listed.setIfInBounds i true).getD N true = false → S w) → wpAnyG P md ops Q S N fuel (listed.setIfInBounds i true) a w → K' a w) → if Region.wanted o (yielded ops a.tmps) = true then Oper.wp P o a w K' Q else K' (a.put o.dst undef) w) :
    wpAnyG P md ops Q S N (fuel + 1) listed a w := by
  refine ⟨fun h0 => (by rw [hr] at h0; cases h0), fun j hj => ?_⟩
  rw [hr] at hj
  obtain rfl : j = i := by simpa using hj
  exact wpOp_step ho (fun K' hK => h K' (fun a w hS hW => hK a w ⟨hS, hW⟩))

theorem wpAnyG_done {listed : Array Bool} {a : Act} {w : World} (hr : Region.ready md ops listed = []) (h : Q .normal a w) : ∀ fuel, wpAnyG P md ops Q S N fuel listed a w
  | 0 => ⟨hr, h⟩
  | _ + 1 => ⟨fun _ => h, by rw [hr]; simp⟩

theorem ops_at {i : Nat} {oi : Oper} {l : List Oper} (hi : ops.toList.drop i = oi :: l) : ops[i]? = some oi := by
  have h := congrArg (fun x : List Oper => x[0]?) hi
  simpa using h
/-- Number i is taken first, the operations written out. -/
theorem wpAnyG_takeL {i : Nat} {oi : Oper} {l : List Oper} (v : Value) (path : List Nat) {fuel : Nat} {listed : Array Bool} {a : Act} {w : World} (hi : ops.toList.drop i = oi :: l)
    (hB : takeB md ops listed i N path = true)
    (hQ : ∀ c a w, Q (.panic c) (a.put oi.dst v) w → Q (.panic c) a w) (hS : S w) (hw : Region.wanted oi (yielded ops a.tmps) = true) (hy : ∀ w, S w → (execOp a.eval oi).run P w = .ok (.value v) w)
    (h : wpAnyG P md ops Q S N fuel (listed.setIfInBounds i true) (a.put oi.dst v) w) : wpAnyG P md ops Q S N (fuel + 1) listed a w :=
  wpAnyG_take path (ops_at hi) hB hQ hS hw hy h
/-- Number i is guarded off: it is passed first. -/
theorem wpAnyG_dropL {i : Nat} {oi : Oper} {l : List Oper} (path : List Nat) {fuel : Nat} {listed : Array Bool} {a : Act} {w : World} (hi : ops.toList.drop i = oi :: l)
    (hB : takeB md ops listed i N path = true)
    (hQ : ∀ c a w, Q (.panic c) (a.put oi.dst undef) w → Q (.panic c) a w) (hS : S w) (hw : Region.wanted oi (yielded ops a.tmps) = false)
    (h : wpAnyG P md ops Q S N fuel (listed.setIfInBounds i true) (a.put oi.dst undef) w) : wpAnyG P md ops Q S N (fuel + 1) listed a w := by
  simp only [takeB, Bool.and_eq_true, Bool.not_eq_true', decide_eq_true_eq, beq_iff_eq] at hB
  obtain ⟨⟨⟨⟨⟨⟨⟨h1, h2⟩, h3⟩, h4⟩, h5⟩, h6⟩, h7⟩, h8⟩ := hB
  exact wpAnyG_first path h1 h2 (ops_at hi) (Region.noSelect_spec h3) hQ fuel listed a w (shutB_spec h6) h7 h8 (Region.free_spec (ops_at hi) h4) (by simpa using h5) (Or.inr ⟨hw, rfl⟩) hS h
/-- Number i alone may come up, the operations written out. -/
theorem wpAnyG_oneL {i : Nat} {o : Oper} {l : List Oper} {fuel : Nat} {listed : Array Bool} {a : Act} {w : World} (hr : Region.ready md ops listed = [i]) (hi : ops.toList.drop i = o :: l)
    (h : ∀ K' : Act → World → Prop, Shut (∀ a w, ((listed.setIfInBounds i true).getD N true = false → S w) → wpAnyG P md ops Q S N fuel (listed.setIfInBounds i true) a w → K' a w) → if Region.wanted o (yielded ops a.tmps) = true then Oper.wp P o a w K' Q else K' (a.put o.dst undef) w) :
    wpAnyG P md ops Q S N (fuel + 1) listed a w := wpAnyG_one hr (ops_at hi) h

/-- Each of these may come up. -/
def AllG (P : Program) (md : Region.Mode) (ops : Array Oper) (Q : Exit → Act → World → Prop) (S : World → Prop) (N : Nat) (fuel : Nat) (listed : Array Bool) (a : Act) (w : World) (rs : List Nat) : Prop :=
  ∀ i ∈ rs, wpOp P ops Q i (fun a' w' => ((listed.setIfInBounds i true).getD N true = false → S w') ∧ wpAnyG P md ops Q S N fuel (listed.setIfInBounds i true) a' w') a w
theorem AllG.nil {fuel : Nat} {listed : Array Bool} {a : Act} {w : World} : AllG P md ops Q S N fuel listed a w [] := fun _ h => by cases h
theorem AllG.cons {fuel : Nat} {listed : Array Bool} {a : Act} {w : World} {i : Nat} {o : Oper} {l : List Oper} {rs : List Nat} (hi : ops.toList.drop i = o :: l)
    (h : ∀ K' : Act → World → Prop, Shut (∀ a w, ((listed.setIfInBounds i true).getD N true = false → S w) → wpAnyG P md ops Q S N fuel (listed.setIfInBounds i true) a w → K' a w) → if Region.wanted o (yielded ops a.tmps) = true then Oper.wp P o a w K' Q else K' (a.put o.dst undef) w)
    (hs : AllG P md ops Q S N fuel listed a w rs) : AllG P md ops Q S N fuel listed a w (i :: rs) := fun j hj => by
  rcases List.mem_cons.1 hj with rfl | hj
  · exact wpOp_step (ops_at hi) (fun K' hK => h K' (fun a w hS hW => hK a w ⟨hS, hW⟩))
  · exact hs j hj
theorem wpAnyG_br {rs : List Nat} {fuel : Nat} {listed : Array Bool} {a : Act} {w : World} (hr : Region.ready md ops listed = rs) (hne : rs ≠ []) (h : AllG P md ops Q S N fuel listed a w rs) : wpAnyG P md ops Q S N (fuel + 1) listed a w :=
  ⟨fun h0 => absurd (hr ▸ h0) hne, hr ▸ h⟩
/-- A new variable, as one step of a drawn region. -/
theorem step_new {E : Prop} {K : Act → World → Prop} {o : Oper} {a : Act} {W : World} (cs : Array Value) (t : TypeId) (hgd : o.guard = none)
    (hrun : (execOp a.eval o).run P W = .ok (.value (.pointer (some ⟨W.heap.size, 0, none⟩))) (W.alloc (.cells cs t (0, 0))))
    (h : ∀ (g : Nat) (w1 : World), Hid (g = W.heap.size) → Hid (w1.heap.size = g + 1) → Below W.heap.size W w1 → Blk w1 g cs t → K (a.put o.dst (.pointer (some ⟨g, 0, none⟩))) w1) :
    if Region.wanted o (yielded ops a.tmps) = true then Oper.wp P o a W K Q else E := by
  rw [if_pos (by simp [Region.wanted, hgd])]
  unfold Oper.wp
  rw [hrun]
  exact h _ _ (Lib.hid rfl) (Lib.hid (World.size_alloc _ _)) (((Below.refl _ _).alloc (Nat.le_refl _) _)) (heap_alloc_new W _)
/-- A variable of two cells is written, as one step of a drawn region. -/
theorem step_put2 {E : Prop} {K : Act → World → Prop} {o : Oper} {a : Act} {W : World} (u v : Value) (hgd : o.guard = none) (ty : TypeId) (x y : Operand) (ho : o.op = .store ty x y) (g : Nat) (t : TypeId) (old : Array Value)
    (hx : a.eval x = .pointer (some ⟨g, 0, none⟩)) (hy : a.eval y = .agg #[u, v]) (hk : Blk W g old t) (hi : (P.info? ty).map (·.size) = some 2) (hold : old.size = 2) (h1 : u.oneCell' = true) (h2 : v.oneCell' = true)
    (h : ∀ w1, Blk w1 g #[u, v] t → W.grownBy w1 (some g) → Hid (w1.heap.size = W.heap.size) → K (a.put o.dst undef) w1) :
    if Region.wanted o (yielded ops a.tmps) = true then Oper.wp P o a W K Q else E := by
  rw [if_pos (by simp [Region.wanted, hgd])]
  exact wp_store_row ty x y ho g #[u, v] hx hy t old hk hi hold (by simp [h1, h2]) (h _ (setRow_heap W g old _ t _ hk) (grown_setRow W g _) (Lib.hid (by simp)))

/-- The beginning. -/
theorem wp_region_G {id : Nat} {a : Act} {w : World} (N : Nat) (S : World → Prop) (hm : P.follows .mixedOrders = true) (hS : S w.drew)
    (h : S w.drew → wpAnyG P .any ops Q S N ops.size (Array.replicate ops.size false) a w.drew) : (Code.region id ops true).wp P Q a w :=
  wp_region_any hm (wpAny_of_G _ _ _ _ (h hS))
end
end Go.Proofs.YtciknejchglmoaaDoor

namespace Go.Proofs.YtciknejchglmoaaDoor
open Go.RowKit

theorem lit_two {ok : Nat → Prop} (W : World) (e : TypeId) {A1 A2 : Option Addr} {c1 c2 n1 n2 : Nat} {xs ys : List Int} (h1 : Sl (kInt .i64) ok W A1 c1 xs) (h2 : Sl (kInt .i64) ok W A2 c2 ys) (e1 : xs.length = n1) (e2 : ys.length = n2) :
    R2 (W.alloc (.cells #[.slice A1 n1 c1, .slice A2 n2 c2] e)) (some ⟨W.heap.size, 0, none⟩) 2 [xs, ys] := by
  subst e1 e2
  have hb := below_alloc (Below.refl W.heap.size W) (.cells #[.slice A1 xs.length c1, .slice A2 ys.length c2] e)
  refine ⟨Nat.le_refl _, by omega, fun j hj => ?_⟩
  match j, hj with
  | 0, _ =>
    refine ⟨_, _, rfl, trivial, by simp, ⟨A1, c1, rfl, (h1.below hb).any⟩, fun i v hv => ?_⟩
    match i, hv with
    | 0, hv => simp at hv; subst hv; simp [kSl, Addr.add, nth]
  | 1, _ =>
    refine ⟨_, _, rfl, trivial, by simp, ⟨A2, c2, rfl, (h2.below hb).any⟩, fun i v hv => ?_⟩
    match i, hv with
    | 0, hv => simp at hv; subst hv; simp [kSl, Addr.add, nth]
theorem pairsI_nil_short {row : List It} {k : Nat} (h : row.length ≤ 2 * k + 1) : (pairsI row).take k = pairsI row := List.take_of_length_le (by rw [pairsI_length]; omega)
theorem pairsI_get : ∀ (l : List It) (k : Nat), 2 * k + 1 < l.length → nth (0, []) (pairsI l) k = ((nth (0, []) l (2 * k)).1 + (nth (0, []) l (2 * k + 1)).1, (nth (0, []) l (2 * k)).2 ++ (nth (0, []) l (2 * k + 1)).2)
  | [], k, h => by simp at h
  | [x], k, h => by simp at h
  | x :: y :: r, k, h => by
    cases k with
    | zero => rfl
    | succ k =>
      have h1 := pairsI_get r k (by simp at h; omega)
      have e1 : nth (0, []) (pairsI (x :: y :: r)) (k + 1) = nth (0, []) (pairsI r) k := by simp [pairsI, nth]
      have e2 : nth (0, []) (x :: y :: r) (2 * (k + 1)) = nth (0, []) r (2 * k) := by rw [show 2 * (k + 1) = 2 * k + 1 + 1 by omega]; simp [nth]
      have e3 : nth (0, []) (x :: y :: r) (2 * (k + 1) + 1) = nth (0, []) r (2 * k + 1) := by rw [show 2 * (k + 1) + 1 = 2 * k + 1 + 1 + 1 by omega]; simp [nth]
      rw [e1, e2, e3, h1]
def okRow (row : List It) : Prop := ∀ z ∈ row, 0 ≤ z.1 ∧ z.1 ≤ 1125899906842624 ∧ z.2.length ≤ 1000000

end Go.Proofs.YtciknejchglmoaaDoor

namespace Go.Proofs.YtciknejchglmoaaDoor
open Go.RowKit

/-- An element of the reference's row: its weight, and its symbol; below 0: a package. -/
def pairsR : List (Int × Int) → List (Int × Int)
  | x :: y :: r => (x.1 + y.1, -1) :: pairsR r
  | _ => []
def mergeR : List (Int × Int) → List (Int × Int) → List (Int × Int)
  | [], b => b
  | x :: a, [] => x :: a
  | x :: a, y :: b => if y.1 < x.1 then y :: mergeR (x :: a) b else x :: mergeR a (y :: b)
termination_by a b => a.length + b.length
theorem pairsR_length : ∀ l : List (Int × Int), (pairsR l).length = l.length / 2
  | [] => rfl
  | [x] => by simp [pairsR]
  | x :: y :: r => by rw [pairsR, List.length_cons, pairsR_length r]; simp; omega
theorem pairsR_get : ∀ (l : List (Int × Int)) (k : Nat), 2 * k + 1 < l.length → nth (0, 0) (pairsR l) k = ((nth (0, 0) l (2 * k)).1 + (nth (0, 0) l (2 * k + 1)).1, -1)
  | [], k, h => by simp at h
  | [x], k, h => by simp at h
  | x :: y :: r, k, h => by
    cases k with
    | zero => rfl
    | succ k =>
      have h1 := pairsR_get r k (by simp at h; omega)
      have e1 : nth (0, 0) (pairsR (x :: y :: r)) (k + 1) = nth (0, 0) (pairsR r) k := by simp [pairsR, nth]
      have e2 : nth (0, 0) (x :: y :: r) (2 * (k + 1)) = nth (0, 0) r (2 * k) := by rw [show 2 * (k + 1) = 2 * k + 1 + 1 by omega]; simp [nth]
      have e3 : nth (0, 0) (x :: y :: r) (2 * (k + 1) + 1) = nth (0, 0) r (2 * k + 1) := by rw [show 2 * (k + 1) + 1 = 2 * k + 1 + 1 + 1 by omega]; simp [nth]
      rw [e1, e2, e3, h1]
theorem pairsR_short {row : List (Int × Int)} {k : Nat} (h : row.length ≤ 2 * k + 1) : (pairsR row).take k = pairsR row := List.take_of_length_le (by rw [pairsR_length]; omega)
theorem infoRi : (Tryd.prog.info? 144).map (fun i => (i.zero, i.size, i.bytes)) = some (some (.agg #[.int .i64 0, .int .i64 0]), 2, 16) := by kernel_rfl

set_option maxHeartbeats 4000000 in
set_option maxRecDepth 100000 in
theorem rpackages_any (A : Option Addr) (c : Nat) (row : List (Int × Int)) (w : World) (hS : Sl kField AnyB w A c row) (hl : row.length ≤ 100000) (hw : ∀ z ∈ row, 0 ≤ z.1 ∧ z.1 ≤ 1125899906842624) :
    Calls Tryd.prog 110 #[.slice A row.length c] w
      fun e w' => ∃ v, e = .returned v ∧ OwnK kField 144 w.heap.size (fun _ => True) w' v (pairsR row) ∧ Below w.heap.size w w' := by
  have HS := Lib.hid (hS.weak (ok' := fun b => b < w.heap.size) fun b hb _ => hb)
  have HW := Lib.hid hw
  clear hS hw
  go_enter Tryd.func110, Tryd.ntmps110
  go_wp2
  go_loopw [3, 4] (fun v iv wr => ∃ (i k : Nat), iv = .int .i64 (i : Int) ∧ Hid (i = 2 * k ∧ i ≤ row.length + 1) ∧ Hid (OwnK kField 144 w.heap.size (fun _ => True) wr v ((pairsR row).take k)) ∧ Below w.heap.size w wr) (fun _ iv _ => row.length + 2 - (intOf iv).toNat)
  case atStart => exact ⟨0, 0, rfl, Lib.hid ⟨rfl, by omega⟩, Lib.hid (OwnK.nil _ _ _ _ _), Below.refl _ _⟩
  case round =>
    obtain ⟨i, k, rfl, hik, hO, hB⟩ := hrel
    have hi := hik.out
    obtain ⟨i1, hi1⟩ : ∃ i1, i + 1 = i1 := ⟨_, rfl⟩
    have hw1 : IntKind.i64.wrap ((i : Int) + 1) = (i1 : Int) := by rw [IntWalk.i64_in _ (by omega)]; omega
    by_cases hlt : i1 < row.length
    · have hd : decide (i1 < row.length) = true := decide_eq_true hlt
      have hil : i < row.length := by omega
      obtain ⟨i2, hi2⟩ : ∃ i2, i + 2 = i2 := ⟨_, rfl⟩
      have hw2 : IntKind.i64.wrap ((i : Int) + 2) = (i2 : Int) := by rw [IntWalk.i64_in _ (by omega)]; omega
      have HSr := Lib.hid ((HS.out.below hB))
      obtain ⟨ad, rfl, x0, _⟩ := rd_field HSr.out i hil
      obtain ⟨ad', e', y0, _⟩ := rd_field HSr.out i1 hlt
      cases e'
      have hbx := HW.out _ (nth_mem (0, 0) row i hil)
      have hby := HW.out _ (nth_mem (0, 0) row i1 hlt)
      have hpg := pairsR_get row k (by omega)
      rw [← hi.1, hi1] at hpg
      have hpt := take_succ_nth (0, 0) (pairsR row) k (by rw [pairsR_length]; omega)
      rw [hpg] at hpt
      obtain ⟨xw, hxe⟩ : ∃ x, (nth (0, 0) row i).1 = x := ⟨_, rfl⟩
      obtain ⟨yw, hye⟩ : ∃ y, (nth (0, 0) row i1).1 = y := ⟨_, rfl⟩
      rw [hxe] at x0 hbx hpt
      rw [hye] at y0 hby hpt
      have hw3 : IntKind.i64.wrap (xw + yw) = xw + yw := IntWalk.i64_in _ (by have := hbx.1; have := hby.1; have := hbx.2; have := hby.2; omega)
      have hsz := hB.size
      have HPT := Lib.hid hpt
      have HII := Lib.hid (show i + 1 = i1 ∧ i + 2 = i2 ∧ i1 < row.length ∧ i = 2 * k from ⟨hi1, hi2, hlt, hi.1⟩)
      have hin : (0 : Int) ≤ (i : Int) := by omega
      have hin1 : (0 : Int) ≤ (i1 : Int) := by omega
      have hinl : (i : Int) < (row.length : Int) := by omega
      have hinl1 : (i1 : Int) < (row.length : Int) := by omega
      have HDR := Lib.hid ((Below.refl wr.heap.size wr).drew)
      have hkl : ((pairsR row).take k).length ≤ 100000 := by rw [List.length_take]; omega
      have HKL := Lib.hid hkl
      have z0 := cell_below HDR.out x0
      have z1 := cell_below HDR.out y0
      clear hi hpg hpt hxe hye hbx hby hi1 hi2 hil hlt hkl
      go_wp2_with fail
      go_region_law ((refine step_append_k (W := wr.drew) (k := kField) w.heap.size ?a1 (.tmp 12) (.tmp 26) 142 144 (.agg #[.int .i64 0, .int .i64 0]) 16 (fun _ => True) ?a2 Tryd.underlying142 infoRi ?a3 ?a4 ?a5 u3 ((pairsR row).take k) (xw + yw, -1) [.int .i64 (xw + yw), .int .i64 (-1)] ?a6 ?a7 ?a8 ?hO ?hx ?hb ?hl ?_); (case a1 => rfl); (case a2 => rfl); (case a3 => rfl); (case a4 => decide); (case a5 => decide); (case a6 => rfl); (case a7 => rfl); (case a8 => rfl); (case hO => exact hO.out.below HDR.out); (case hx => exact ⟨_, _, rfl, rfl, rfl⟩); (case hb => exact hsz); (case hl => have := HKL.out; omega); intro g9 cap9 w9 hO9 hg9 hb9 ha9; have HO9 := Lib.hid hO9; have HB9 := Lib.hid (hB.drew.grown hg9 hsz hO.out.base_le); clear hO9 hg9 ha9)
      all_goals
        (try simp only [Act.put, List.getElem_toArray, List.getElem_cons_succ, List.getElem_cons_zero, List.setIfInBounds_toArray, List.set_cons_succ, List.set_cons_zero])
        go_wp2
        go_roundw
        case rel => have hh := HII.out; exact ⟨i2, k + 1, rfl, Lib.hid ⟨by omega, by omega⟩, Lib.hid (by rw [HPT.out]; have := HO9.out; simpa using this), HB9.out⟩
        case measure => have hh := HII.out; simp [intOf]; omega
    · have hd : decide (i1 < row.length) = false := decide_eq_false hlt
      have HF := Lib.hid (show OwnK kField 144 w.heap.size (fun _ => True) wr u3 (pairsR row) by
        have h := hO.out
        rwa [pairsR_short (by omega)] at h)
      clear hi hi1 hlt
      go_wp2
      go_ret
      exact ⟨_, rfl, HF.out, hB⟩
end Go.Proofs.YtciknejchglmoaaDoor

namespace Go.Proofs.YtciknejchglmoaaDoor
open Go.RowKit

theorem mergeR_cons (x y : Int × Int) (a b : List (Int × Int)) : mergeR (x :: a) (y :: b) = if y.1 < x.1 then y :: mergeR (x :: a) b else x :: mergeR a (y :: b) := by rw [mergeR]
theorem mergeR_right (a : List (Int × Int)) : mergeR a [] = a := by cases a <;> simp [mergeR]
theorem mergeR_left (b : List (Int × Int)) : mergeR [] b = b := by simp [mergeR]
theorem Sl.cutF {ok : Nat → Prop} {w : World} {ad : Addr} {c : Nat} {x : Int × Int} {xs : List (Int × Int)} (h : Sl kField ok w (some ad) c (x :: xs)) {A : Option Addr} (hA : (if c = 1 then some ad else some ⟨ad.block, ad.off + 2, Option.none⟩) = A) : Sl kField ok w A (c - 1) xs := by
  have hr := h.rd.drop 1
  by_cases h1 : c = 1
  · have h0 : xs = [] := List.eq_nil_of_length_eq_zero (by have := h.le; simp at this; omega)
    subst h0
    exact ⟨Nat.zero_le _, by have := h.cap; omega, Kd.Rd.nil _ _ _ _⟩
  · rw [if_neg h1] at hA
    subst hA
    exact ⟨by have := h.le; simp at this; omega, by have := h.cap; omega, hr⟩
/-- So far. -/
structure MrI (w : World) (a b : List (Int × Int)) (Aa : Option Addr) (ca : Nat) (a1 : List (Int × Int)) (Ab : Option Addr) (cb : Nat) (b1 : List (Int × Int)) (v : Value) (o : List (Int × Int)) (W : World) : Prop where
  own : OwnK kField 144 w.heap.size (fun b => b < w.heap.size) W v o
  low : Below w.heap.size w W
  ra : Sl kField (fun b => b < w.heap.size) W Aa ca a1
  rb : Sl kField (fun b => b < w.heap.size) W Ab cb b1
  run : o ++ mergeR a1 b1 = mergeR a b
  len : o.length + a1.length + b1.length = a.length + b.length

set_option maxHeartbeats 4000000 in
set_option maxRecDepth 100000 in
theorem rmerged_any (Aa Ab : Option Addr) (ca cb : Nat) (a b : List (Int × Int)) (w : World) (ha : Sl kField AnyB w Aa ca a) (hb : Sl kField AnyB w Ab cb b) (hl : a.length + b.length ≤ 100000) :
    Calls Tryd.prog 109 #[.slice Aa a.length ca, .slice Ab b.length cb] w
      fun e w' => ∃ v, e = .returned v ∧ OwnK kField 144 w.heap.size (fun _ => True) w' v (mergeR a b) ∧ Below w.heap.size w w' := by
  have hI0 : MrI w a b Aa ca a Ab cb b (.slice none 0 0) [] w := ⟨OwnK.nil _ _ _ _ _, Below.refl _ _, ha.weak fun b hb _ => hb, hb.weak fun b hb _ => hb, rfl, by simp⟩
  have HI0 := Lib.hid hI0
  clear ha hb hI0
  go_enter Tryd.func109, Tryd.ntmps109
  go_wp2
  go_loopw [0, 1, 5] (fun sa sb so wr => ∃ (Aa : Option Addr) (ca : Nat) (a1 : List (Int × Int)) (Ab : Option Addr) (cb : Nat) (b1 o : List (Int × Int)), sa = .slice Aa a1.length ca ∧ sb = .slice Ab b1.length cb ∧ Hid (MrI w a b Aa ca a1 Ab cb b1 so o wr)) (fun sa sb _ _ => lenV sa + lenV sb)
  case atStart => exact ⟨_, _, a, _, _, b, [], rfl, rfl, HI0⟩
  case round =>
    clear HI0
    obtain ⟨Aa, ca, a1, Ab, cb, b1, o, rfl, rfl, hI⟩ := hrel
    have hlen0 := hI.out.len
    have hbz := hI.out.low.size
    cases a1 with
    | nil =>
      cases b1 with
      | nil =>
        have HF := Lib.hid (show OwnK kField 144 w.heap.size (fun _ => True) wr u5 (mergeR a b) ∧ Below w.heap.size w wr by
          have h := hI.out
          rw [← h.run]
          exact ⟨by simpa [mergeR] using h.own.weak fun _ _ _ => trivial, h.low⟩)
        clear hlen0
        go_wp2
        go_ret
        exact ⟨_, rfl, HF.out.1, HF.out.2⟩
      | cons y b1 =>
        simp only [List.length_cons, List.length_nil] at hlen0 ⊢
        obtain ⟨adb, rfl, y0, y1⟩ := rd_field hI.out.rb 0 (by simp)
        simp only [Nat.zero_mul, add_zero] at y0 y1
        obtain ⟨yw, ys⟩ := y
        rw [show nth ((0, 0) : Int × Int) ((yw, ys) :: b1) 0 = (yw, ys) from rfl] at y0 y1
        have hlb : ((yw, ys) :: b1).length ≤ cb := hI.out.rb.le
        simp only [List.length_cons] at hlb
        have hww : IntKind.i64.wrap (0 + ((b1.length : Int) + 1)) = (b1.length : Int) + 1 := by rw [IntWalk.i64_in _ (by omega)]; omega
        have hww2 : IntKind.i64.wrap ((b1.length : Int) + 1) = (b1.length : Int) + 1 := IntWalk.i64_in _ (by omega)
        have hq0 : (((b1.length : Int) + 1) == 0) = false := by rw [beq_eq_false_iff_ne]; omega
        obtain ⟨At, hAt⟩ : ∃ A, (if cb = 1 then some adb else some (⟨adb.block, adb.off + 2, none⟩ : Addr)) = A := ⟨_, rfl⟩
        have HAT := Lib.hid hAt
        have h1le : (1 : Int) ≤ (b1.length : Int) + 1 := by omega
        have HLN := Lib.hid hlen0
        clear hlen0
        go_wp2
        go_quiet (fail)
        go_wp2_with (at_builtin; (refine append_k (W := wr.drewN nq) (k := kField) w.heap.size rfl (.tmp 39) (.tmp 43) 142 144 (.agg #[.int .i64 0, .int .i64 0]) 16 (fun b => b < w.heap.size) rfl Tryd.underlying142 infoRi rfl (by decide) (by decide) u5 o (yw, ys) [.int .i64 yw, .int .i64 ys] rfl rfl rfl (hI.out.own.below (below_drewN (Below.refl _ _) nq)) ⟨_, _, rfl, rfl, rfl⟩ hbz (by have := HLN.out; omega) ?_); intro g9 cap9 w9 hO9 hg9 hb9 ha9; have HO9 := Lib.hid hO9; have HK9 := Lib.hid ((Keep.of_grown hg9).weak (ok' := fun b => b < w.heap.size) fun b hb e => by have := hI.out.own.base_le b e.symm; omega); have HB9 := Lib.hid ((below_drewN hI.out.low nq).grown hg9 hbz hI.out.own.base_le); clear hO9 hg9 ha9)
        go_roundw
        case rel =>
          have hi := hI.out
          have hra := (hi.ra.below (below_drewN (Below.refl _ _) nq)).keep HK9.out
          have hrb := (hi.rb.below (below_drewN (Below.refl _ _) nq)).keep HK9.out
          have hrun := hi.run
          have hlen := hi.len
          rw [mergeR_left] at hrun
          exact ⟨_, _, [], At, cb - 1, b1, o ++ [(yw, ys)], rfl, rfl, Lib.hid ⟨by simpa using HO9.out, HB9.out, hra, hrb.cutF HAT.out, by rw [← hrun]; simp [mergeR_left], by simp at hlen ⊢; omega⟩⟩
        case measure => show _ < _; simp [lenV]
    | cons x a1 =>
      cases b1 with
      | nil =>
        simp only [List.length_cons, List.length_nil] at hlen0 ⊢
        obtain ⟨ada, rfl, x0, x1⟩ := rd_field hI.out.ra 0 (by simp)
        simp only [Nat.zero_mul, add_zero] at x0 x1
        obtain ⟨xw, xs⟩ := x
        rw [show nth ((0, 0) : Int × Int) ((xw, xs) :: a1) 0 = (xw, xs) from rfl] at x0 x1
        have hla : ((xw, xs) :: a1).length ≤ ca := hI.out.ra.le
        simp only [List.length_cons] at hla
        have hww : IntKind.i64.wrap ((a1.length : Int) + 1 + 0) = (a1.length : Int) + 1 := by rw [IntWalk.i64_in _ (by omega)]; omega
        have hww2 : IntKind.i64.wrap ((a1.length : Int) + 1) = (a1.length : Int) + 1 := IntWalk.i64_in _ (by omega)
        obtain ⟨At, hAt⟩ : ∃ A, (if ca = 1 then some ada else some (⟨ada.block, ada.off + 2, none⟩ : Addr)) = A := ⟨_, rfl⟩
        have HAT := Lib.hid hAt
        have h1le : (1 : Int) ≤ (a1.length : Int) + 1 := by omega
        have HLN := Lib.hid hlen0
        clear hlen0
        go_wp2
        go_quiet (fail)
        go_wp2_with (at_builtin; (refine append_k (W := wr.drewN nq) (k := kField) w.heap.size rfl (.tmp 31) (.tmp 35) 142 144 (.agg #[.int .i64 0, .int .i64 0]) 16 (fun b => b < w.heap.size) rfl Tryd.underlying142 infoRi rfl (by decide) (by decide) u5 o (xw, xs) [.int .i64 xw, .int .i64 xs] rfl rfl rfl (hI.out.own.below (below_drewN (Below.refl _ _) nq)) ⟨_, _, rfl, rfl, rfl⟩ hbz (by have := HLN.out; omega) ?_); intro g9 cap9 w9 hO9 hg9 hb9 ha9; have HO9 := Lib.hid hO9; have HK9 := Lib.hid ((Keep.of_grown hg9).weak (ok' := fun b => b < w.heap.size) fun b hb e => by have := hI.out.own.base_le b e.symm; omega); have HB9 := Lib.hid ((below_drewN hI.out.low nq).grown hg9 hbz hI.out.own.base_le); clear hO9 hg9 ha9)
        go_roundw
        case rel =>
          have hi := hI.out
          have hra := (hi.ra.below (below_drewN (Below.refl _ _) nq)).keep HK9.out
          have hrb := (hi.rb.below (below_drewN (Below.refl _ _) nq)).keep HK9.out
          have hrun := hi.run
          have hlen := hi.len
          rw [mergeR_right] at hrun
          exact ⟨At, ca - 1, a1, _, _, [], o ++ [(xw, xs)], rfl, rfl, Lib.hid ⟨by simpa using HO9.out, HB9.out, hra.cutF HAT.out, hrb, by rw [← hrun]; simp [mergeR_right], by simp at hlen ⊢; omega⟩⟩
        case measure => show _ < _; simp [lenV]
      | cons y b1 =>
        by_cases hlt : y.1 < x.1
        · have HLT := Lib.hid hlt
          simp only [List.length_cons] at hlen0 ⊢
          obtain ⟨ada, rfl, x0, x1⟩ := rd_field hI.out.ra 0 (by simp)
          simp only [Nat.zero_mul, add_zero] at x0 x1
          obtain ⟨xw, xs⟩ := x
          rw [show nth ((0, 0) : Int × Int) ((xw, xs) :: a1) 0 = (xw, xs) from rfl] at x0 x1
          have hla : ((xw, xs) :: a1).length ≤ ca := hI.out.ra.le
          simp only [List.length_cons] at hla
          obtain ⟨adb, rfl, y0, y1⟩ := rd_field hI.out.rb 0 (by simp)
          simp only [Nat.zero_mul, add_zero] at y0 y1
          obtain ⟨yw, ys⟩ := y
          rw [show nth ((0, 0) : Int × Int) ((yw, ys) :: b1) 0 = (yw, ys) from rfl] at y0 y1
          have hlb : ((yw, ys) :: b1).length ≤ cb := hI.out.rb.le
          simp only [List.length_cons] at hlb
          have hww : IntKind.i64.wrap ((a1.length : Int) + 1 + ((b1.length : Int) + 1)) = (a1.length : Int) + 1 + ((b1.length : Int) + 1) := IntWalk.i64_in _ (by omega)
          have hlt2 := HLT.out
          have hdc : decide (xw ≤ yw) = false := decide_eq_false (by omega)
          clear hlt2 hlt
          have hq0 : (((b1.length : Int) + 1) == 0) = false := by rw [beq_eq_false_iff_ne]; omega
          have hq1 : decide ((0 : Int) < (a1.length : Int) + 1) = true := decide_eq_true (by omega)
          have hq2 : decide (0 < a1.length + 1) = true := decide_eq_true (by omega)
          obtain ⟨At, hAt⟩ : ∃ A, (if cb = 1 then some adb else some (⟨adb.block, adb.off + 2, none⟩ : Addr)) = A := ⟨_, rfl⟩
          have HAT := Lib.hid hAt
          have h1le : (1 : Int) ≤ (b1.length : Int) + 1 := by omega
          have HLN := Lib.hid hlen0
          clear hlen0
          go_wp2
          go_quiet (fail)
          go_wp2_with (at_builtin; (refine append_k (W := wr.drewN nq) (k := kField) w.heap.size rfl (.tmp 39) (.tmp 43) 142 144 (.agg #[.int .i64 0, .int .i64 0]) 16 (fun b => b < w.heap.size) rfl Tryd.underlying142 infoRi rfl (by decide) (by decide) u5 o (yw, ys) [.int .i64 yw, .int .i64 ys] rfl rfl rfl (hI.out.own.below (below_drewN (Below.refl _ _) nq)) ⟨_, _, rfl, rfl, rfl⟩ hbz (by have := HLN.out; omega) ?_); intro g9 cap9 w9 hO9 hg9 hb9 ha9; have HO9 := Lib.hid hO9; have HK9 := Lib.hid ((Keep.of_grown hg9).weak (ok' := fun b => b < w.heap.size) fun b hb e => by have := hI.out.own.base_le b e.symm; omega); have HB9 := Lib.hid ((below_drewN hI.out.low nq).grown hg9 hbz hI.out.own.base_le); clear hO9 hg9 ha9)
          go_roundw
          case rel =>
            have hi := hI.out
            have hra := (hi.ra.below (below_drewN (Below.refl _ _) nq)).keep HK9.out
            have hrb := (hi.rb.below (below_drewN (Below.refl _ _) nq)).keep HK9.out
            have hrun := hi.run
            have hlen := hi.len
            rw [mergeR_cons, if_pos HLT.out] at hrun
            exact ⟨_, _, (xw, xs) :: a1, At, cb - 1, b1, o ++ [(yw, ys)], rfl, rfl, Lib.hid ⟨by simpa using HO9.out, HB9.out, hra, hrb.cutF HAT.out, by rw [← hrun]; simp, by simp at hlen ⊢; omega⟩⟩
          case measure => show _ < _; simp [lenV]
        · have HLT := Lib.hid hlt
          simp only [List.length_cons] at hlen0 ⊢
          obtain ⟨ada, rfl, x0, x1⟩ := rd_field hI.out.ra 0 (by simp)
          simp only [Nat.zero_mul, add_zero] at x0 x1
          obtain ⟨xw, xs⟩ := x
          rw [show nth ((0, 0) : Int × Int) ((xw, xs) :: a1) 0 = (xw, xs) from rfl] at x0 x1
          have hla : ((xw, xs) :: a1).length ≤ ca := hI.out.ra.le
          simp only [List.length_cons] at hla
          obtain ⟨adb, rfl, y0, y1⟩ := rd_field hI.out.rb 0 (by simp)
          simp only [Nat.zero_mul, add_zero] at y0 y1
          obtain ⟨yw, ys⟩ := y
          rw [show nth ((0, 0) : Int × Int) ((yw, ys) :: b1) 0 = (yw, ys) from rfl] at y0 y1
          have hlb : ((yw, ys) :: b1).length ≤ cb := hI.out.rb.le
          simp only [List.length_cons] at hlb
          have hww : IntKind.i64.wrap ((a1.length : Int) + 1 + ((b1.length : Int) + 1)) = (a1.length : Int) + 1 + ((b1.length : Int) + 1) := IntWalk.i64_in _ (by omega)
          have hlt2 := HLT.out
          have hdc : decide (xw ≤ yw) = true := decide_eq_true (by omega)
          clear hlt2 hlt
          have hq0 : (((b1.length : Int) + 1) == 0) = false := by rw [beq_eq_false_iff_ne]; omega
          have hq1 : decide ((0 : Int) < (a1.length : Int) + 1) = true := decide_eq_true (by omega)
          have hq2 : decide (0 < a1.length + 1) = true := decide_eq_true (by omega)
          obtain ⟨At, hAt⟩ : ∃ A, (if ca = 1 then some ada else some (⟨ada.block, ada.off + 2, none⟩ : Addr)) = A := ⟨_, rfl⟩
          have HAT := Lib.hid hAt
          have h1le : (1 : Int) ≤ (a1.length : Int) + 1 := by omega
          have HLN := Lib.hid hlen0
          clear hlen0
          go_wp2
          go_quiet (fail)
          go_wp2_with (at_builtin; (refine append_k (W := wr.drewN nq) (k := kField) w.heap.size rfl (.tmp 31) (.tmp 35) 142 144 (.agg #[.int .i64 0, .int .i64 0]) 16 (fun b => b < w.heap.size) rfl Tryd.underlying142 infoRi rfl (by decide) (by decide) u5 o (xw, xs) [.int .i64 xw, .int .i64 xs] rfl rfl rfl (hI.out.own.below (below_drewN (Below.refl _ _) nq)) ⟨_, _, rfl, rfl, rfl⟩ hbz (by have := HLN.out; omega) ?_); intro g9 cap9 w9 hO9 hg9 hb9 ha9; have HO9 := Lib.hid hO9; have HK9 := Lib.hid ((Keep.of_grown hg9).weak (ok' := fun b => b < w.heap.size) fun b hb e => by have := hI.out.own.base_le b e.symm; omega); have HB9 := Lib.hid ((below_drewN hI.out.low nq).grown hg9 hbz hI.out.own.base_le); clear hO9 hg9 ha9)
          go_roundw
          case rel =>
            have hi := hI.out
            have hra := (hi.ra.below (below_drewN (Below.refl _ _) nq)).keep HK9.out
            have hrb := (hi.rb.below (below_drewN (Below.refl _ _) nq)).keep HK9.out
            have hrun := hi.run
            have hlen := hi.len
            rw [mergeR_cons, if_neg (show ¬ yw < xw by have := HLT.out; omega)] at hrun
            exact ⟨At, ca - 1, a1, _, _, (yw, ys) :: b1, o ++ [(xw, xs)], rfl, rfl, Lib.hid ⟨by simpa using HO9.out, HB9.out, hra.cutF HAT.out, hrb, by rw [← hrun]; simp, by simp at hlen ⊢; omega⟩⟩
          case measure => show _ < _; simp [lenV]
end Go.Proofs.YtciknejchglmoaaDoor

namespace Go.Proofs.YtciknejchglmoaaDoor

def tag (x : It) : Int × Int := (x.1, if x.2.length = 1 then ((nth 0 x.2 0 : Nat) : Int) else -1)
def rowR (coins : List (Int × Int)) : Nat → List (Int × Int)
  | 0 => coins
  | k + 1 => mergeR coins (pairsR (rowR coins k))
theorem tag_merge : ∀ a b : List It, (mergeI a b).map tag = mergeR (a.map tag) (b.map tag)
  | [], b => by rw [List.map_nil, mergeR_left]; cases b <;> simp [mergeI]
  | x :: a, [] => by rw [mergeI_nil_right, List.map_nil, mergeR_right]
  | x :: a, y :: b => by
    rw [mergeI_cons, List.map_cons, List.map_cons, mergeR_cons]
    by_cases h : y.1 < x.1
    · rw [if_pos h, if_pos (show (tag y).1 < (tag x).1 from h), List.map_cons, tag_merge (x :: a) b, List.map_cons]
    · rw [if_neg h, if_neg (show ¬ (tag y).1 < (tag x).1 from h), List.map_cons, tag_merge a (y :: b), List.map_cons]
termination_by a b => a.length + b.length
theorem tag_pairs : ∀ {l : List It}, (∀ x ∈ l, 1 ≤ x.2.length) → (pairsI l).map tag = pairsR (l.map tag)
  | [], _ => rfl
  | [x], _ => rfl
  | x :: y :: r, h => by
    have hx := h x (by simp)
    have hy := h y (by simp)
    rw [pairsI, List.map_cons, List.map_cons, List.map_cons, pairsR, tag_pairs fun z hz => h z (by simp [hz])]
    congr 1
    unfold tag
    rw [if_neg (by rw [List.length_append]; omega)]
theorem pairsI_coins : ∀ {l : List It}, (∀ x ∈ l, 1 ≤ x.2.length) → ∀ z ∈ pairsI l, 2 ≤ z.2.length
  | [], _, z, hz => by simp [pairsI] at hz
  | [x], _, z, hz => by simp [pairsI] at hz
  | x :: y :: r, h, z, hz => by
    rw [pairsI, List.mem_cons] at hz
    rcases hz with rfl | hz
    · have hx := h x (by simp)
      have hy := h y (by simp)
      simp; omega
    · exact pairsI_coins (fun q hq => h q (by simp [hq])) z hz
theorem rowI_coins {coins : List It} (h : ∀ x ∈ coins, x.2.length = 1) : ∀ k, ∀ z ∈ rowI coins k, 1 ≤ z.2.length
  | 0, z, hz => by have := h z hz; omega
  | k + 1, z, hz => by
    rcases (mergeI_mem _ _ _).1 hz with h1 | h1
    · have := h z h1; omega
    · have := pairsI_coins (rowI_coins h k) z h1; omega
theorem tag_row {coins : List It} (h : ∀ x ∈ coins, x.2.length = 1) : ∀ k, (rowI coins k).map tag = rowR (coins.map tag) k
  | 0 => rfl
  | k + 1 => by
    show (mergeI coins (pairsI (rowI coins k))).map tag = mergeR (coins.map tag) (pairsR (rowR (coins.map tag) k))
    rw [tag_merge, tag_pairs (rowI_coins h k), tag_row h k]
end Go.Proofs.YtciknejchglmoaaDoor

namespace Go.Proofs.YtciknejchglmoaaDoor

/-- Weights up to M, no more than C coins. -/
def within (M : Int) (C : Nat) (l : List It) : Prop := ∀ z ∈ l, 0 ≤ z.1 ∧ z.1 ≤ M ∧ z.2.length ≤ C
theorem within.mono {M M' : Int} {C C' : Nat} {l : List It} (h : within M C l) (h1 : M ≤ M') (h2 : C ≤ C') : within M' C' l := fun z hz => by
  have := h z hz
  omega
theorem pairsI_within {M : Int} {C : Nat} : ∀ {l : List It}, within M C l → within (2 * M) (2 * C) (pairsI l)
  | [], _ => fun z hz => by simp [pairsI] at hz
  | [x], _ => fun z hz => by simp [pairsI] at hz
  | x :: y :: r, h => fun z hz => by
    rw [pairsI, List.mem_cons] at hz
    rcases hz with rfl | hz
    · have hx := h x (by simp)
      have hy := h y (by simp)
      refine ⟨?_, ?_, ?_⟩
      · show 0 ≤ x.1 + y.1; omega
      · show x.1 + y.1 ≤ 2 * M; omega
      · show (x.2 ++ y.2).length ≤ 2 * C; rw [List.length_append]; omega
    · exact pairsI_within (fun q hq => h q (by simp [hq])) z hz
theorem rowI_within {coins : List It} {M : Int} {C : Nat} (h : within M C coins) (hM : 0 ≤ M) : ∀ k, within (2 ^ k * M) (2 ^ k * C) (rowI coins k)
  | 0 => by show within (2 ^ 0 * M) (2 ^ 0 * C) coins; simpa using h
  | k + 1 => fun z hz => by
    have hp : (1 : Int) ≤ 2 ^ (k + 1) := by have := Nat.one_le_two_pow (n := k + 1); exact_mod_cast this
    have hpn : 1 ≤ 2 ^ (k + 1) := Nat.one_le_two_pow
    rcases (mergeI_mem _ _ _).1 hz with h1 | h1
    · have h2 := h z h1
      have e1 : M ≤ 2 ^ (k + 1) * M := by have := Int.mul_le_mul_of_nonneg_right hp hM; omega
      have e2 : C ≤ 2 ^ (k + 1) * C := by have := Nat.mul_le_mul_right C hpn; omega
      omega
    · have h2 := pairsI_within (rowI_within h hM k) z h1
      have e1 : 2 * (2 ^ k * M) = 2 ^ (k + 1) * M := by rw [← Int.mul_assoc, Int.pow_succ, Int.mul_comm 2]
      have e2 : 2 * (2 ^ k * C) = 2 ^ (k + 1) * C := by rw [← Nat.mul_assoc, Nat.pow_succ, Nat.mul_comm 2]
      omega
theorem rowI_ok {coins : List It} (h : within 1073741824 1 coins) {k : Nat} (hk : k ≤ 15) : okRow (rowI coins k) := fun z hz => by
  have h1 := rowI_within h (by decide) k z hz
  have h2 : 2 ^ k ≤ 2 ^ 15 := Nat.pow_le_pow_right (by decide) hk
  have h3 : ((2 : Int) ^ k) ≤ 32768 := by have : ((2 ^ k : Nat) : Int) ≤ ((2 ^ 15 : Nat) : Int) := Int.ofNat_le.2 h2; simpa using this
  have h4 : (2 : Int) ^ k * 1073741824 ≤ 32768 * 1073741824 := Int.mul_le_mul_of_nonneg_right h3 (by decide)
  refine ⟨h1.1, by omega, by have := h1.2.2; omega⟩
theorem rowI_length_le (coins : List It) : ∀ k, (rowI coins k).length ≤ 2 * coins.length
  | 0 => by show coins.length ≤ _; omega
  | k + 1 => by rw [rowI_length]; have := rowI_length_le coins k; omega
end Go.Proofs.YtciknejchglmoaaDoor

namespace Go.Proofs.YtciknejchglmoaaDoor
open Go.RowKit

/-- The coins of the first counts. -/
def coinsK (cs : List Int) : Nat → List It
  | 0 => []
  | k + 1 => if 0 < nth 0 cs k then coinsK cs k ++ [(nth 0 cs k, [k])] else coinsK cs k
theorem coinsK_len (cs : List Int) : ∀ k, (coinsK cs k).length ≤ k
  | 0 => Nat.le_refl _
  | k + 1 => by
    have := coinsK_len cs k
    unfold coinsK
    split
    · simp; omega
    · omega
/-- What Lengths answers as its error. -/
def lengthsE (cs : List Int) (most : Int) : Int :=
  if countsB cs = false ∨ most < 1 ∨ 16 < most then 1 else if (coinsK cs cs.length).length = 0 then 5 else if 2 ^ most.toNat < (coinsK cs cs.length).length then 2 else 0

end Go.Proofs.YtciknejchglmoaaDoor
