/- The words of this family: what a slice reads as (Kd), worlds that keep some blocks (Keep), rows of the call's own (OwnI). Plain definitions and lemmas; no program is named beyond its loading. -/
import Derived.Test.YtijcecakofmhcaaDoorProg
import Derived.Below
import Derived.Deep.Draws
import Derived.OwnWalk
import Derived.Maps.AppendAt
import Derived.Laws.MakeOwn
import Derived.Laws.OwnMore
import Derived.Tactics
import Derived.Laws.Slices
import Derived.WalkKit
import Derived.KernelRfl
import Derived.Deep.LoopGhost
import Derived.Deep.QuietTactic
import Derived.BigQuiet
import Derived.WideLaws
import Derived.WalkSpells
import Derived.WalkLawsBesides
import Derived.Deep.DeepCutAuto
import Derived.Deep.CutBlock
import Derived.Deep.RegionHeld3
import Derived.Laws.Rows
import Derived.Laws.IdiomCopy
import Derived.Laws.ResultCell
import Derived.WalkSmall
import Derived.Outline
import Derived.Lib.Hide
namespace Go.Proofs.YtijcecakofmhcaaDoor
open Go.RowKit

/-- The element at a place, a default behind the end. -/
def nth {α : Type} (d : α) (xs : List α) (k : Nat) : α := xs.getD k d
theorem nth_eq {α : Type} (d : α) (xs : List α) (k : Nat) (h : k < xs.length) : nth d xs k = xs[k] := by
  simp [nth, List.getD_eq_getElem?_getD, h]
theorem nth_mem {α : Type} (d : α) (xs : List α) (k : Nat) (h : k < xs.length) : nth d xs k ∈ xs := by
  rw [nth_eq d xs k h]; exact List.getElem_mem h
theorem nth_some {α : Type} (d : α) (xs : List α) (k : Nat) (h : k < xs.length) : xs[k]? = some (nth d xs k) := by
  rw [nth_eq d xs k h]; exact List.getElem?_eq_getElem h
theorem take_succ_nth {α : Type} (d : α) (xs : List α) (k : Nat) (h : k < xs.length) : xs.take (k + 1) = xs.take k ++ [nth d xs k] := by
  rw [nth_eq d xs k h]; exact (List.take_append_getElem h).symm
theorem drop_nth {α : Type} (d : α) (xs : List α) (k : Nat) (h : k < xs.length) : xs.drop k = nth d xs k :: xs.drop (k + 1) := by
  rw [nth_eq d xs k h]; exact (List.getElem_cons_drop h).symm
theorem nth_drop {α : Type} (d : α) (xs : List α) (k i : Nat) : nth d (xs.drop k) i = nth d xs (k + i) := by
  simp [nth, List.getD_eq_getElem?_getD]
theorem nth_take {α : Type} (d : α) (xs : List α) (k i : Nat) (h : i < k) : nth d (xs.take k) i = nth d xs i := by
  simp [nth, List.getD_eq_getElem?_getD, h]
theorem nth_append_left {α : Type} (d : α) (xs ys : List α) (k : Nat) (h : k < xs.length) : nth d (xs ++ ys) k = nth d xs k := by
  simp [nth, List.getD_eq_getElem?_getD, List.getElem?_append_left h]
theorem nth_append_right {α : Type} (d : α) (xs ys : List α) (k : Nat) (h : xs.length ≤ k) : nth d (xs ++ ys) k = nth d ys (k - xs.length) := by
  simp [nth, List.getD_eq_getElem?_getD, List.getElem?_append_right h]

theorem ret_int {k : IntKind} {a b : Int} (h : a = b) : Ending.returned (.int k a) = .returned (.int k b) := by rw [h]
theorem ret_two {a b a' b' : Value} (h1 : a = a') (h2 : b = b') : Ending.returned (.tuple #[a, b]) = .returned (.tuple #[a', b']) := by rw [h1, h2]
theorem ret_bool {a b : Bool} (h : a = b) : Ending.returned (.bool a) = .returned (.bool b) := by rw [h]

/-! ### Worlds that keep blocks -/
structure Keep (ok : Nat → Prop) (w w' : World) : Prop where
  size : w.heap.size ≤ w'.heap.size
  blk : ∀ b, b < w.heap.size → ok b → w'.heap[b]? = w.heap[b]?
theorem Keep.refl (ok : Nat → Prop) (w : World) : Keep ok w w := ⟨Nat.le_refl _, fun _ _ _ => rfl⟩
theorem Keep.trans {ok : Nat → Prop} {a b c : World} (h : Keep ok a b) (k : Keep ok b c) : Keep ok a c :=
  ⟨Nat.le_trans h.size k.size, fun i hi ho => (k.blk i (Nat.lt_of_lt_of_le hi h.size) ho).trans (h.blk i hi ho)⟩
theorem Keep.weak {ok ok' : Nat → Prop} {a b : World} (h : Keep ok a b) (k : ∀ i, ok' i → ok i) : Keep ok' a b := ⟨h.size, fun i hi ho => h.blk i hi (k i ho)⟩
theorem Keep.of_below {n : Nat} {w w' : World} (h : Below n w w') : Keep (· < n) w w' := ⟨h.size, fun b _ ho => h.block b ho⟩
theorem Keep.of_grown {row : Option Nat} {w w' : World} (h : w.grownBy w' row) : Keep (fun b => some b ≠ row) w w' := ⟨h.size, fun b hb ho => h.block b hb ho⟩
theorem Keep.of_grown1 {g : Nat} {w w' : World} (h : w.grownBy w' (some g)) : Keep (fun b => b ≠ g) w w' := ⟨h.size, fun b hb ho => h.block b hb (fun e => ho (Option.some.inj e))⟩
theorem Keep.cell {ok : Nat → Prop} {w w' : World} (h : Keep ok w w') {a : Addr} {v : Value} (ho : ok a.block) (hc : w.cell? a = some v) : w'.cell? a = some v :=
  (World.cell?_of_block (h.blk a.block (World.block_lt_of_cell? w a hc) ho)).trans hc
theorem cell_below {w w1 : World} (h : Below w.heap.size w w1) {a : Addr} {v : Value} (hc : w.cell? a = some v) : w1.cell? a = some v := (h.cell (World.block_lt_of_cell? w a hc)).trans hc
theorem below_drewN {n : Nat} {w w' : World} (h : Below n w w') (k : Nat) : Below n w (w'.drewN k) := ⟨h.os, h.tape, h.output, h.size, h.block⟩
theorem below_then {B : Nat} {w w1 w2 : World} (h : Below B w w1) (hB : B ≤ w1.heap.size) (k : Below w1.heap.size w1 w2) : Below B w w2 :=
  h.trans (k.mono hB)
theorem below_grown {B : Nat} {w w1 w2 : World} (h : Below B w w1) {row : Option Nat} (hB : B ≤ w1.heap.size) (hg : w1.grownBy w2 row) (hr : ∀ k, row = some k → B ≤ k) : Below B w w2 := h.grown hg hB hr
theorem below_alloc {w W : World} (h : Below w.heap.size w W) (o : Obj) : Below w.heap.size w (W.alloc o) := h.alloc h.size o
theorem below2 {w w1 w2 : World} (h : Below w.heap.size w w1) (k : Below w1.heap.size w1 w2) : Below w.heap.size w w2 := below_then h h.size k
/-- From a world in which blocks of the call's own were laid first. -/
theorem below_from {n : Nat} {w w1 w' : World} (h : Below n w w1) (hn : n ≤ w1.heap.size) (k : Below w1.heap.size w1 w') : Below n w w' := h.trans (k.mono hn)

theorem add_block (a : Addr) (n : Nat) : (a.add n).block = a.block := by unfold Addr.add; split <;> rfl
theorem add_add (a : Addr) (i j : Nat) : (a.add i).add j = a.add (i + j) := by
  unfold Addr.add
  by_cases h1 : i = 0 <;> by_cases h2 : j = 0 <;> simp [h1, h2, Nat.add_assoc]
theorem add_plain (g j : Nat) : (⟨g, 0, none⟩ : Addr).add j = ⟨g, j, none⟩ := by unfold Addr.add; split <;> simp_all
theorem add_zero (a : Addr) : a.add 0 = a := by simp [Addr.add]

/-! ### Kinds of values: how a value's cells represent a datum. 'ok': the blocks that it may lie in. -/
structure Kd (α : Type) where
  size : Nat
  dflt : α
  K : (Nat → Prop) → World → α → List Value → Prop
  len : ∀ {ok w x cs}, K ok w x cs → cs.length = size
  keep : ∀ {ok w w' x cs}, Keep ok w w' → K ok w x cs → K ok w' x cs
  weak : ∀ {ok ok' : Nat → Prop} {w x cs}, (∀ b, b < w.heap.size → ok b → ok' b) → K ok w x cs → K ok' w x cs

/-- A slice's elements, from its address on. -/
def Kd.Rd {α : Type} (k : Kd α) (ok : Nat → Prop) (w : World) (A : Option Addr) (xs : List α) : Prop :=
  ∀ j, j < xs.length → ∃ ad cs, A = some ad ∧ ok ad.block ∧ ad.block < w.heap.size ∧ k.K ok w (nth k.dflt xs j) cs ∧ ∀ i v, cs[i]? = some v → w.cell? (ad.add (j * k.size + i)) = some v

section
variable {α : Type} {k : Kd α} {ok ok' : Nat → Prop} {w w' : World} {A : Option Addr} {xs : List α}
theorem Kd.Rd.keep (h : k.Rd ok w A xs) (hk : Keep ok w w') : k.Rd ok w' A xs := fun j hj => by
  obtain ⟨ad, cs, e, ho, hl, hK, hc⟩ := h j hj
  exact ⟨ad, cs, e, ho, Nat.lt_of_lt_of_le hl hk.size, k.keep hk hK, fun i v hv => hk.cell (by rw [add_block]; exact ho) (hc i v hv)⟩
theorem Kd.Rd.weak (h : k.Rd ok w A xs) (hk : ∀ b, b < w.heap.size → ok b → ok' b) : k.Rd ok' w A xs := fun j hj => by
  obtain ⟨ad, cs, e, ho, hl, hK, hc⟩ := h j hj
  exact ⟨ad, cs, e, hk _ hl ho, hl, k.weak hk hK, hc⟩
theorem Kd.Rd.below (h : k.Rd ok w A xs) (hb : Below w.heap.size w w') : k.Rd ok w' A xs := by
  have h1 : k.Rd (fun b => ok b ∧ b < w.heap.size) w A xs := h.weak fun b hb ho => ⟨ho, hb⟩
  exact (h1.keep ((Keep.of_below hb).weak fun i hi => hi.2)).weak fun b _ ho => ho.1
theorem Kd.K_below {x : α} {cs : List Value} (h : k.K ok w x cs) (hb : Below w.heap.size w w') : k.K ok w' x cs := by
  have h1 : k.K (fun b => ok b ∧ b < w.heap.size) w x cs := k.weak (fun b hb ho => ⟨ho, hb⟩) h
  exact k.weak (fun b _ ho => ho.1) (k.keep ((Keep.of_below hb).weak fun i hi => hi.2) h1)
theorem Kd.Rd.nil (k : Kd α) (ok : Nat → Prop) (w : World) (A : Option Addr) : k.Rd ok w A [] := fun j hj => absurd hj (by simp)
theorem Kd.Rd.take (h : k.Rd ok w A xs) (n : Nat) : k.Rd ok w A (xs.take n) := fun j hj => by
  rw [List.length_take] at hj
  obtain ⟨ad, cs, e, ho, hl, hK, hc⟩ := h j (by omega)
  exact ⟨ad, cs, e, ho, hl, by rw [nth_take _ _ _ _ (by omega)]; exact hK, hc⟩
theorem Kd.Rd.drop (h : k.Rd ok w A xs) (n : Nat) : k.Rd ok w (A.map (·.add (n * k.size))) (xs.drop n) := fun j hj => by
  rw [List.length_drop] at hj
  obtain ⟨ad, cs, e, ho, hl, hK, hc⟩ := h (n + j) (by omega)
  subst e
  refine ⟨_, cs, rfl, by rw [add_block]; exact ho, by rw [add_block]; exact hl, by rw [nth_drop]; exact hK, fun i v hv => ?_⟩
  rw [add_add, show n * k.size + (j * k.size + i) = (n + j) * k.size + i by rw [Nat.add_mul, Nat.add_assoc]]
  exact hc i v hv
end

/-- A slice: its address, its capacity, its elements. -/
structure Sl {α : Type} (k : Kd α) (ok : Nat → Prop) (w : World) (A : Option Addr) (c : Nat) (xs : List α) : Prop where
  le : xs.length ≤ c
  cap : c ≤ 9223372036854775807
  rd : k.Rd ok w A xs
section
variable {α : Type} {k : Kd α} {ok ok' : Nat → Prop} {w w' : World} {A : Option Addr} {c : Nat} {xs : List α}
theorem Sl.len (h : Sl k ok w A c xs) : xs.length ≤ 9223372036854775807 := Nat.le_trans h.le h.cap
theorem Sl.keep (h : Sl k ok w A c xs) (hk : Keep ok w w') : Sl k ok w' A c xs := ⟨h.le, h.cap, h.rd.keep hk⟩
theorem Sl.weak (h : Sl k ok w A c xs) (hk : ∀ b, b < w.heap.size → ok b → ok' b) : Sl k ok' w A c xs := ⟨h.le, h.cap, h.rd.weak hk⟩
theorem Sl.any (h : Sl k ok w A c xs) : Sl k (fun _ => True) w A c xs := h.weak fun _ _ _ => trivial
theorem Sl.drewN (h : Sl k ok w A c xs) (n : Nat) : Sl k ok (w.drewN n) A c xs := ⟨h.le, h.cap, h.rd.below (below_drewN (Below.refl _ _) n)⟩
theorem Sl.below (h : Sl k ok w A c xs) (hb : Below w.heap.size w w') : Sl k ok w' A c xs := ⟨h.le, h.cap, h.rd.below hb⟩
theorem Sl.apart (h : Sl k ok w A c xs) (hb : Below w.heap.size w w') {g : Nat} (hg : w.heap.size ≤ g) : Sl k (fun b => b ≠ g) w' A c xs :=
  ((h.weak (ok' := fun b => b < w.heap.size) fun b hb _ => hb).below hb).weak fun b _ ho e => by omega
end

def kInt (ik : IntKind) : Kd Int where
  size := 1
  dflt := 0
  K := fun _ _ x cs => cs = [.int ik x]
  len := fun h => by rw [h]; rfl
  keep := fun _ h => h
  weak := fun _ h => h
def kBool : Kd Bool where
  size := 1
  dflt := false
  K := fun _ _ x cs => cs = [.bool x]
  len := fun h => by rw [h]; rfl
  keep := fun _ h => h
  weak := fun _ h => h
def kSl {α : Type} (k : Kd α) : Kd (List α) where
  size := 1
  dflt := []
  K := fun ok w xs cs => ∃ A c, cs = [.slice A xs.length c] ∧ Sl k ok w A c xs
  len := fun ⟨_, _, h, _⟩ => by rw [h]; rfl
  keep := fun hk ⟨A, c, h, hr⟩ => ⟨A, c, h, hr.keep hk⟩
  weak := fun hk ⟨A, c, h, hr⟩ => ⟨A, c, h, hr.weak hk⟩
def kPair {α β : Type} (a : Kd α) (b : Kd β) : Kd (α × β) where
  size := a.size + b.size
  dflt := (a.dflt, b.dflt)
  K := fun ok w x cs => ∃ c1 c2, cs = c1 ++ c2 ∧ a.K ok w x.1 c1 ∧ b.K ok w x.2 c2
  len := fun ⟨c1, c2, h, h1, h2⟩ => by rw [h, List.length_append, a.len h1, b.len h2]
  keep := fun hk ⟨c1, c2, h, h1, h2⟩ => ⟨c1, c2, h, a.keep hk h1, b.keep hk h2⟩
  weak := fun hk ⟨c1, c2, h, h1, h2⟩ => ⟨c1, c2, h, a.weak hk h1, b.weak hk h2⟩
def kIso {α β : Type} (k : Kd α) (f : β → α) (d : β) (_ : f d = k.dflt) : Kd β where
  size := k.size
  dflt := d
  K := fun ok w x cs => k.K ok w (f x) cs
  len := fun h => k.len h
  keep := fun hk h => k.keep hk h
  weak := fun hk h => k.weak hk h

abbrev AnyB : Nat → Prop := fun _ => True
/-- Slices of ints, of bytes, of slices of ints, as they are read. -/
abbrev RI (w : World) (A : Option Addr) (c : Nat) (xs : List Int) : Prop := Sl (kInt .i64) AnyB w A c xs
abbrev RY (w : World) (A : Option Addr) (c : Nat) (xs : List Int) : Prop := Sl (kInt .u8) AnyB w A c xs
abbrev R2 (w : World) (A : Option Addr) (c : Nat) (xs : List (List Int)) : Prop := Sl (kSl (kInt .i64)) AnyB w A c xs

section
variable {ok : Nat → Prop} {w : World} {A : Option Addr} {c : Nat}
theorem rd_int {ik : IntKind} {xs : List Int} (h : Sl (kInt ik) ok w A c xs) (j : Nat) (hj : j < xs.length) :
    ∃ ad, A = some ad ∧ w.cell? (ad.add j) = some (.int ik (nth 0 xs j)) := by
  obtain ⟨ad, cs, e, _, _, rfl, hc⟩ := h.rd j hj
  exact ⟨ad, e, by have := hc 0 _ rfl; simpa [kInt] using this⟩
theorem rd_bool {xs : List Bool} (h : Sl kBool ok w A c xs) (j : Nat) (hj : j < xs.length) :
    ∃ ad, A = some ad ∧ w.cell? (ad.add j) = some (.bool (nth false xs j)) := by
  obtain ⟨ad, cs, e, _, _, rfl, hc⟩ := h.rd j hj
  exact ⟨ad, e, by have := hc 0 _ rfl; simpa [kBool] using this⟩
theorem rd_sl {α : Type} {k : Kd α} {xs : List (List α)} (h : Sl (kSl k) ok w A c xs) (j : Nat) (hj : j < xs.length) :
    ∃ ad A' c', A = some ad ∧ w.cell? (ad.add j) = some (.slice A' (nth [] xs j).length c') ∧ Sl k ok w A' c' (nth [] xs j) := by
  obtain ⟨ad, cs, e, _, _, ⟨A', c', rfl, hr⟩, hc⟩ := h.rd j hj
  exact ⟨ad, A', c', e, by have := hc 0 _ rfl; simpa [kSl] using this, hr⟩
end

/-! ### Rows of the call's own: ints -/
def nums (k : IntKind) (xs : List Int) : List Value := xs.map fun x => .int k x
theorem nums_length (k : IntKind) (xs : List Int) : (nums k xs).length = xs.length := by simp [nums]
theorem nums_append (k : IntKind) (xs ys : List Int) : nums k (xs ++ ys) = nums k xs ++ nums k ys := by simp [nums]
theorem nums_get (k : IntKind) (xs : List Int) (j : Nat) (h : j < xs.length) : (nums k xs)[j]? = some (.int k (nth 0 xs j)) := by
  simp [nums, nth_eq 0 xs j h, h]
def OwnI (e : TypeId) (ik : IntKind) (base : Nat) (w : World) (v : Value) (xs : List Int) : Prop := w.ownsRow base e 1 v xs.length (nums ik xs)
section
variable {e : TypeId} {ik : IntKind} {base : Nat} {w w' : World} {v : Value} {xs : List Int}
theorem OwnI.nil (e : TypeId) (ik : IntKind) (base : Nat) (w : World) : OwnI e ik base w (.slice none 0 0) [] := World.ownsRow_nil w base e 1
theorem OwnI.lt (h : OwnI e ik base w v xs) : ∀ k, v.ownBlock = some k → base ≤ k ∧ k < w.heap.size := World.ownsRow.lt h
theorem OwnI.base_le (h : OwnI e ik base w v xs) : ∀ k, v.ownBlock = some k → base ≤ k := fun k hk => (h.lt k hk).1
theorem OwnI.mono (h : OwnI e ik base w v xs) {b' : Nat} (hb : b' ≤ base) : OwnI e ik b' w v xs := by
  refine ⟨h.1, ?_⟩
  rcases h.2 with h | ⟨g, cap, cur, h1, h2, h3⟩
  · exact .inl h
  · exact .inr ⟨g, cap, cur, h1, Nat.le_trans hb h2, h3⟩
theorem OwnI.below (h : OwnI e ik base w v xs) (hb : Below w.heap.size w w') : OwnI e ik base w' v xs :=
  World.ownsRow.kept h (row := none) ⟨hb.os, hb.tape, hb.output, hb.size, fun i hi _ => hb.block i hi⟩ (by cases v.ownBlock <;> simp)
theorem OwnI.grown (h : OwnI e ik base w v xs) {row : Option Nat} (hg : w.grownBy w' row) (hne : v.ownBlock = none ∨ v.ownBlock ≠ row) : OwnI e ik base w' v xs := World.ownsRow.kept h hg hne
/-- What it reads as. -/
theorem OwnI.rd (h : OwnI e ik base w v xs) : ∃ A c, v = .slice A xs.length c ∧ Sl (kInt ik) (fun b => base ≤ b ∧ v.ownBlock = some b) w A c xs := by
  rcases h.2 with ⟨rfl, h0⟩ | ⟨g, cap, cur, rfl, hb, hh, hnc, hm, _⟩
  · have : xs = [] := List.eq_nil_of_length_eq_zero h0
    subst this
    exact ⟨none, 0, rfl, Nat.le_refl _, by omega, Kd.Rd.nil _ _ _ _⟩
  · have hg : g < w.heap.size := (Array.getElem?_eq_some_iff.1 hh).1
    have hcell : ∀ j, j < xs.length → w.cell? ((⟨g, 0, none⟩ : Addr).add j) = some (.int ik (nth 0 xs j)) := fun j hj => World.ownsRow.cells h (g := g) rfl j _ (nums_get ik xs j hj)
    refine ⟨_, cap, rfl, hnc, by simpa [maxLen] using hm, fun j hj => ⟨_, [.int ik (nth 0 xs j)], rfl, ⟨hb, rfl⟩, hg, rfl, fun i v hv => ?_⟩⟩
    match i, hv with
    | 0, hv =>
      simp at hv
      subst hv
      simpa [kInt] using hcell j hj
theorem OwnI.len (h : OwnI e ik base w v xs) : xs.length ≤ maxLen := by
  rcases h.2 with ⟨_, h0⟩ | ⟨g, cap, cur, _, _, _, hnc, hm, _⟩
  · rw [h0]; exact Nat.zero_le _
  · exact Nat.le_trans hnc hm
theorem OwnI.slice (h : OwnI e ik base w v xs) : ∃ A c, v = .slice A xs.length c := by
  obtain ⟨A, c, e, _⟩ := h.rd
  exact ⟨A, c, e⟩
/-- 'v[i] = x'. -/
theorem OwnI.form (h : OwnI e ik base w v xs) (h0 : 0 < xs.length) : ∃ g cap, v = .slice (some ⟨g, 0, none⟩) xs.length cap ∧ base ≤ g ∧ g < w.heap.size := by
  rcases h.2 with ⟨_, h1⟩ | ⟨g, cap, cur, rfl, hb, hh, _⟩
  · omega
  · exact ⟨g, cap, rfl, hb, (Array.getElem?_eq_some_iff.1 hh).1⟩
theorem OwnI.at_ {g cap n : Nat} (h : OwnI e ik base w (.slice (some ⟨g, 0, none⟩) n cap) xs) (j : Nat) (hj : j < xs.length) :
    w.cell? ⟨g, j, none⟩ = some (.int ik (nth 0 xs j)) ∧ w.frozen? ⟨g, j, none⟩ = false := by
  constructor
  · have hc := World.ownsRow.cells h (g := g) rfl j _ (nums_get ik xs j hj)
    rwa [add_plain] at hc
  · rcases h.2 with ⟨h', _⟩ | ⟨g', cap', cur, h', _, hh, _⟩
    · cases h'
    · have : g = g' := by injection h' with h'; injection h' with h'; injection h' with h'
      subst this
      simp [World.frozen?, hh]
theorem OwnI.set {g cap n : Nat} (h : OwnI e ik base w (.slice (some ⟨g, 0, none⟩) n cap) xs) (j : Nat) (x : Int) :
    OwnI e ik base (w.setCell ⟨g, j, none⟩ (.int ik x)) (.slice (some ⟨g, 0, none⟩) n cap) (xs.set j x) ∧ w.grownBy (w.setCell ⟨g, j, none⟩ (.int ik x)) (some g) := by
  have hn : n = xs.length := by
    rcases h.2 with ⟨h', _⟩ | ⟨g', cap', cur, h', _⟩
    · cases h'
    · injection h'
  subst hn
  have hs := World.ownsRow.stored h j (.int ik x)
  have he : (nums ik xs).set j (.int ik x) = nums ik (xs.set j x) := by simp [nums, List.map_set]
  rw [he] at hs
  exact ⟨by unfold OwnI; rw [List.length_set]; exact hs.1, hs.2⟩
end

/-! ### Rows of the call's own: elements of any kind. 'ok': where the elements' own data may lie; never in the row itself. -/
def Reps {α : Type} (k : Kd α) (ok : Nat → Prop) (w : World) (xs : List α) (cells : List Value) : Prop :=
  cells.length = xs.length * k.size ∧ ∀ j, j < xs.length → k.K ok w (nth k.dflt xs j) ((cells.drop (j * k.size)).take k.size)
section
variable {α : Type} {k : Kd α} {ok ok' : Nat → Prop} {w w' : World} {xs : List α} {cells cs : List Value} {x : α}
theorem Reps.nil (k : Kd α) (ok : Nat → Prop) (w : World) : Reps k ok w [] [] := ⟨by simp, fun j h => absurd h (by simp)⟩
theorem Reps.keep (h : Reps k ok w xs cells) (hk : Keep ok w w') : Reps k ok w' xs cells := ⟨h.1, fun j hj => k.keep hk (h.2 j hj)⟩
theorem Reps.weak (h : Reps k ok w xs cells) (hk : ∀ b, b < w.heap.size → ok b → ok' b) : Reps k ok' w xs cells := ⟨h.1, fun j hj => k.weak hk (h.2 j hj)⟩
theorem Reps.snoc (h : Reps k ok w xs cells) (hx : k.K ok w x cs) : Reps k ok w (xs ++ [x]) (cells ++ cs) := by
  refine ⟨by rw [List.length_append, h.1, k.len hx, List.length_append, List.length_singleton, Nat.add_mul, Nat.one_mul], fun j hj => ?_⟩
  rw [List.length_append, List.length_singleton] at hj
  rcases Nat.lt_or_ge j xs.length with h1 | h1
  · have h2 : j * k.size + k.size ≤ cells.length := by rw [h.1, ← Nat.succ_mul]; exact Nat.mul_le_mul_right _ h1
    rw [nth_append_left _ _ _ _ h1, List.drop_append_of_le_length (by omega), List.take_append_of_le_length (by rw [List.length_drop]; omega)]
    exact h.2 j h1
  · obtain rfl : j = xs.length := by omega
    rw [nth_append_right _ _ _ _ (Nat.le_refl _), Nat.sub_self, ← h.1, List.drop_left, ← k.len hx, List.take_length]
    exact hx
theorem Reps.set (h : Reps k ok w xs cells) (i : Nat) (hx : k.K ok w x cs) : Reps k ok w (xs.set i x) (cells.take (i * k.size) ++ cs ++ cells.drop (i * k.size + k.size)) ∨ xs.length ≤ i := by
  rcases Nat.lt_or_ge i xs.length with hi | hi
  · left
    have hlen := h.1
    have h2 : i * k.size + k.size ≤ cells.length := by rw [h.1, ← Nat.succ_mul]; exact Nat.mul_le_mul_right _ hi
    have hcs := k.len hx
    refine ⟨by simp only [List.length_append, List.length_take, List.length_drop, List.length_set, hcs]; omega, fun j hj => ?_⟩
    rw [List.length_set] at hj
    have h3 : j * k.size + k.size ≤ cells.length := by rw [h.1, ← Nat.succ_mul]; exact Nat.mul_le_mul_right _ hj
    have hta : (cells.take (i * k.size)).length = i * k.size := by rw [List.length_take]; omega
    rcases Nat.lt_trichotomy j i with hji | rfl | hji
    · have h4 : j * k.size + k.size ≤ i * k.size := by rw [← Nat.succ_mul]; exact Nat.mul_le_mul_right _ hji
      have e1 : nth k.dflt (xs.set i x) j = nth k.dflt xs j := by simp [nth, List.getD_eq_getElem?_getD, List.getElem?_set_ne (by omega : i ≠ j)]
      rw [e1, List.append_assoc, List.drop_append_of_le_length (by omega), List.take_append_of_le_length (by rw [List.length_drop, hta]; omega), List.drop_take, List.take_take, Nat.min_eq_left (by omega)]
      exact h.2 j hj
    · have e1 : nth k.dflt (xs.set j x) j = x := by simp [nth, List.getD_eq_getElem?_getD, hi]
      rw [e1, List.append_assoc, List.drop_append, hta, Nat.sub_self, List.drop_of_length_le (by omega), List.nil_append, List.drop_zero, ← hcs, List.take_left]
      exact hx
    · have h4 : i * k.size + k.size ≤ j * k.size := by rw [← Nat.succ_mul]; exact Nat.mul_le_mul_right _ hji
      have e1 : nth k.dflt (xs.set i x) j = nth k.dflt xs j := by simp [nth, List.getD_eq_getElem?_getD, List.getElem?_set_ne (by omega : i ≠ j)]
      have e2 : (cells.take (i * k.size) ++ cs).length = i * k.size + k.size := by rw [List.length_append, hta, hcs]
      rw [e1, List.drop_append, List.drop_of_length_le (by omega), List.nil_append, e2, List.drop_drop, show i * k.size + k.size + (j * k.size - (i * k.size + k.size)) = j * k.size by omega]
      exact h.2 j hj
  · exact .inr hi
end
def OwnK {α : Type} (k : Kd α) (e : TypeId) (base : Nat) (ok : Nat → Prop) (w : World) (v : Value) (xs : List α) : Prop :=
  ∃ cells, w.ownsRow base e k.size v xs.length cells ∧ Reps k (fun b => ok b ∧ v.ownBlock ≠ some b) w xs cells
section
variable {α : Type} {k : Kd α} {e : TypeId} {base : Nat} {ok ok' : Nat → Prop} {w w' : World} {v : Value} {xs : List α}
theorem OwnK.nil (k : Kd α) (e : TypeId) (base : Nat) (ok : Nat → Prop) (w : World) : OwnK k e base ok w (.slice none 0 0) [] := ⟨[], World.ownsRow_nil w base e _, Reps.nil _ _ _⟩
theorem OwnK.lt (h : OwnK k e base ok w v xs) : ∀ b, v.ownBlock = some b → base ≤ b ∧ b < w.heap.size := by
  obtain ⟨_, h, _⟩ := h
  exact World.ownsRow.lt h
theorem OwnK.base_le (h : OwnK k e base ok w v xs) : ∀ b, v.ownBlock = some b → base ≤ b := fun b hb => (h.lt b hb).1
theorem OwnK.keep (h : OwnK k e base ok w v xs) {o2 : Nat → Prop} (hk : Keep o2 w w') (h1 : ∀ b, v.ownBlock = some b → o2 b) (h2 : ∀ b, ok b → o2 b) (_ : w'.os = w.os ∧ w'.tape = w.tape ∧ w'.output = w.output) : OwnK k e base ok w' v xs := by
  obtain ⟨cells, ho, hr⟩ := h
  refine ⟨cells, ?_, hr.keep (hk.weak fun b hb => h2 b hb.1)⟩
  refine ⟨ho.1, ?_⟩
  rcases ho.2 with hn | ⟨g, cap, cur, rfl, hb, hgg, rest⟩
  · exact .inl hn
  · exact .inr ⟨g, cap, cur, rfl, hb, (hk.blk g (Array.getElem?_eq_some_iff.1 hgg).1 (h1 g rfl)).trans hgg, rest⟩
theorem OwnK.below (h : OwnK k e base ok w v xs) (hb : Below w.heap.size w w') : OwnK k e base ok w' v xs := by
  obtain ⟨cells, ho, hr⟩ := h
  refine ⟨cells, World.ownsRow.kept ho (row := none) ⟨hb.os, hb.tape, hb.output, hb.size, fun i hi _ => hb.block i hi⟩ (by cases v.ownBlock <;> simp), ?_⟩
  exact ((hr.weak (ok' := fun b => (ok b ∧ v.ownBlock ≠ some b) ∧ b < w.heap.size) fun b hb ho => ⟨ho, hb⟩).keep ((Keep.of_below hb).weak fun i hi => hi.2)).weak fun b _ ho => ho.1
theorem OwnK.weak (h : OwnK k e base ok w v xs) (hk : ∀ b, b < w.heap.size → ok b → ok' b) : OwnK k e base ok' w v xs := by
  obtain ⟨cells, ho, hr⟩ := h
  exact ⟨cells, ho, hr.weak fun b hb ho => ⟨hk b hb ho.1, ho.2⟩⟩
theorem OwnK.mono (h : OwnK k e base ok w v xs) {b' : Nat} (hb : b' ≤ base) : OwnK k e b' ok w v xs := by
  obtain ⟨cells, ho, hr⟩ := h
  refine ⟨cells, ⟨ho.1, ?_⟩, hr⟩
  rcases ho.2 with h | ⟨g, cap, cur, h1, h2, h3⟩
  · exact .inl h
  · exact .inr ⟨g, cap, cur, h1, Nat.le_trans hb h2, h3⟩
theorem OwnK.rd (h : OwnK k e base ok w v xs) : ∃ A c, v = .slice A xs.length c ∧ Sl k (fun b => ok b ∨ v.ownBlock = some b) w A c xs := by
  obtain ⟨cells, ho, hr⟩ := h
  rcases ho.2 with ⟨rfl, h0⟩ | ⟨g, cap, cur, rfl, hb, hh, hnc, hm, _⟩
  · have : xs = [] := List.eq_nil_of_length_eq_zero h0
    subst this
    exact ⟨none, 0, rfl, Nat.le_refl _, by omega, Kd.Rd.nil _ _ _ _⟩
  · have hg : g < w.heap.size := (Array.getElem?_eq_some_iff.1 hh).1
    refine ⟨_, cap, rfl, hnc, by simpa [maxLen] using hm, fun j hj => ⟨_, _, rfl, .inr rfl, hg, k.weak (fun b _ hb => .inl hb.1) (hr.2 j hj), fun i u hu => ?_⟩⟩
    refine World.ownsRow.cells ho (g := g) rfl _ _ ?_
    rw [List.getElem?_take] at hu
    split at hu
    · rwa [List.getElem?_drop] at hu
    · cases hu
/-- Behind an append of one element. -/
theorem OwnK.snoc {v1 : Value} {x : α} {cs cells : List Value} (hr : Reps k (fun b => ok b ∧ v.ownBlock ≠ some b) w xs cells) (hx : k.K (fun b => ok b ∧ v.ownBlock ≠ some b) w x cs)
    (h1 : w'.ownsRow base e k.size v1 (xs.length + 1) (cells ++ cs)) (hg : w.grownBy w' v.ownBlock) (hat : v1.ownBlock = v.ownBlock ∨ ∃ b, v1.ownBlock = some b ∧ w.heap.size ≤ b) : OwnK k e base ok w' v1 (xs ++ [x]) := by
  refine ⟨cells ++ cs, by rw [List.length_append]; exact h1, ?_⟩
  have hs := (hr.snoc hx).weak (ok' := fun b => (ok b ∧ v.ownBlock ≠ some b) ∧ b < w.heap.size) fun b hb ho => ⟨ho, hb⟩
  refine (hs.keep ((Keep.of_grown hg).weak fun b hb => Ne.symm hb.1.2)).weak fun b _ hb => ⟨hb.1.1, fun he => ?_⟩
  rcases hat with h | ⟨b', h, hle⟩
  · exact hb.1.2 (h ▸ he)
  · rw [h] at he
    injection he with he
    omega
end

/-! ### Blocks of the call's own -/
/-- Block g holds these cells, and may be written. -/
def Blk (w : World) (g : Nat) (cs : Array Value) (t : TypeId) : Prop := w.heap[g]? = some (.cells cs t (0, 0))
section
variable {w w' : World} {g : Nat} {cs : Array Value} {t : TypeId}
theorem Blk.lt (h : Blk w g cs t) : g < w.heap.size := (Array.getElem?_eq_some_iff.1 h).1
theorem Blk.cell (h : Blk w g cs t) (i : Nat) {v : Value} (hv : cs[i]? = some v) : w.cell? ⟨g, i, none⟩ = some v := (cell_of_row w g i cs t (0, 0) h).trans hv
theorem Blk.free (h : Blk w g cs t) (i : Nat) : w.frozen? ⟨g, i, none⟩ = false := by have h' := h; unfold Blk at h'; simp [World.frozen?, h']
theorem Blk.below (h : Blk w g cs t) (hb : Below w.heap.size w w') : Blk w' g cs t := (hb.block g h.lt).trans h
theorem Blk.keep {ok : Nat → Prop} (h : Blk w g cs t) (hk : Keep ok w w') (ho : ok g) : Blk w' g cs t := (hk.blk g h.lt ho).trans h
theorem Blk.set (h : Blk w g cs t) (i : Nat) (v : Value) : Blk (w.setCell ⟨g, i, none⟩ v) g (cs.setIfInBounds i v) t := heap_setCell_same w g i cs t v h
end
section
variable {P : Program} {ops : Array Oper} {rest : List Oper} {o : Oper} {a : Act} {Q : Exit → Act → World → Prop} {W : World}
/-- The operation writes this slot. -/
theorem at_dst {N : Tmp} (_hN : o.dst = some N) (h : wpList P ops Q (o :: rest) a W) : wpList P ops Q (o :: rest) a W := h
/-- The operation is a store by this slot. -/
theorem at_store {ty : TypeId} {p : Tmp} {x : Operand} (_ho : o.op = .store ty (.tmp p) x) (h : wpList P ops Q (o :: rest) a W) : wpList P ops Q (o :: rest) a W := h
theorem ev_run (hgd : o.guard = none) {v : Value} {w1 : World} (hrun : (execOp a.eval o).run P W = .ok (.value v) w1) (h : wpList P ops Q rest (a.put o.dst v) w1) : wpList P ops Q (o :: rest) a W := by
  refine wpList_plain hgd fun K hK => ?_
  unfold Oper.wp
  rw [hrun]
  exact hK _ _ h
/-- A new variable: from here on the world is a letter. -/
theorem ev_new (cs : Array Value) (t : TypeId) (hgd : o.guard = none)
    (hrun : (execOp a.eval o).run P W = .ok (.value (.pointer (some ⟨W.heap.size, 0, none⟩))) (W.alloc (.cells cs t (0, 0))))
    (h : ∀ (g : Nat) (w1 : World), Hid (g = W.heap.size) → Hid (w1.heap.size = g + 1) → Below W.heap.size W w1 → Blk w1 g cs t → wpList P ops Q rest (a.put o.dst (.pointer (some ⟨g, 0, none⟩))) w1) : wpList P ops Q (o :: rest) a W :=
  ev_run hgd hrun (h _ _ (Lib.hid rfl) (Lib.hid (World.size_alloc _ _)) (((Below.refl _ _).alloc (Nat.le_refl _) _)) (heap_alloc_new W _))
end

/-! ### append(v, x), v a row of the call's own, x an int; behind 'at_builtin' -/
section
variable {P : Program} {ops : Array Oper} {rest : List Oper} {o : Oper} {a : Act} {Q : Exit → Act → World → Prop}
theorem append_one {w0 W : World} (base : Nat) (hgd : o.guard = none) (s x : Operand) (t e : TypeId) (k : IntKind) (bytes : Nat)
    (ho : o.op = .call { callee := .builtin .append, args := #[s, x], argTypes := #[t, t] })
    (ht : P.underlying t = some (.slice e)) (hinfo : (P.info? e).map (fun i => (i.zero, i.size, i.bytes)) = some (some (.int k 0), 1, bytes)) (hb0 : 0 < bytes)
    (v : Value) (xs : List Int) (y : Int) (hs : a.eval s = v) (hx : a.eval x = .slice (some ⟨W.heap.size, 0, none⟩) 1 1)
    (HO : OwnI e k base W v xs) (HB : Below base w0 W) (hbase : base ≤ W.heap.size) (hl : (xs.length + 1) * bytes ≤ 140737488355328)
    (h : ∀ v1 w1, OwnI e k base w1 v1 (xs ++ [y]) → Below base w0 w1 → W.grownBy w1 v.ownBlock → (v1.ownBlock = v.ownBlock ∨ ∃ b, v1.ownBlock = some b ∧ W.heap.size ≤ b) → wpList P ops Q rest (a.put o.dst v1) w1) :
    wpList P ops Q (o :: rest) a (W.alloc (.cells #[.int k y] e)) := by
  obtain ⟨i0, hi, hzz⟩ := Option.map_eq_some_iff.1 hinfo
  simp only [Prod.mk.injEq] at hzz
  obtain ⟨hz0, hz1, hz2⟩ := hzz
  have hlen : xs.length + 1 ≤ 140737488355328 := Nat.le_trans (Nat.le_mul_of_pos_right _ hb0) hl
  refine wpList_append_own_at (W.alloc (.cells #[.int k y] e)) hgd s x t ho base e i0 (.int k 0) 1 bytes ht hi hz0 hz1 hz2 rfl (by omega) v xs.length (nums k xs) hs (World.ownsRow.alloc HO _) ⟨W.heap.size, 0, none⟩ 1 1 [.int k y] hx rfl
    (cell_one_new W _ e) (by simp [Value.oneCell']) (by simp only [maxLen]; omega) hl (by simp; omega) ?_
  intro v' w' hown hg _ hat
  refine h v' w' (by unfold OwnI; rw [List.length_append, nums_append]; exact hown) ((HB.alloc hbase _).grown hg (by simp; omega) HO.base_le) (World.grownBy.trans (World.grownBy_alloc W _ _) hg) ?_
  rcases hat with hat | hat
  · exact .inl hat
  · exact .inr ⟨_, hat, by simp⟩
end
end Go.Proofs.YtijcecakofmhcaaDoor
