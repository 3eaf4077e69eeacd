/- Plain laws of layer 1 (bits): numbers in bits, bytes of bits. No program is named. · bits: what a Writer holds; which blocks a call turns; New, bit, add. · bits: number and what it yields; each over it with a writer's add. · bits: each over a number's bits, with a writer's add. · bits: put, Put, Len, Bytes, Append: what each call returns, and what the writer has then. · bits: Put, Len, Bytes, Append: what each call returns, and what the writer has then. · bits: a Reader: Open, next, Get, At, Left, Seek: what each call returns, and where the reader is then. · bits: Open of a reader, Append of a writer: what each call returns. · A drawn region in a round over an iterator: what only reads first, then one chain of operations. -/
import Derived.Test.YtmcdgmiheklbeaaGreatDoorKa
import Derived.Laws.BitsAllLaws
import Derived.Laws.BitsLemmas
import Derived.StillTailTactics
import Derived.RangeFuncLeaves
import Derived.RangeFuncCalls
import Derived.RangeFuncBound
import Derived.Shelf.Abstract
import Derived.WalkKit
import Derived.OwnWalkIn
import Derived.TacticsInMore
import Derived.LoopNIn
import Derived.LoopIn
import Derived.OrdersIn
import Derived.TacticsIn
import Derived.ControlIn
namespace Go.Proofs.YtmcdgmiheklbeaaGreatDoor
open Go.RowKit

def b2i (b : Bool) : Int := if b then 1 else 0
theorem b2i_bd (b : Bool) : 0 ≤ b2i b ∧ b2i b ≤ 1 := by cases b <;> decide
theorem b2i_nat (b : Bool) : b2i b = (b.toNat : Nat) := by cases b <;> rfl
/-- A number in bits, the highest first. -/
def numB (v n : Nat) : List Bool := (List.range n).map fun i => v / 2 ^ (n - 1 - i) % 2 == 1
/-- The number in bits. -/
def valB (l : List Bool) : Nat := l.foldl (fun v b => 2 * v + b.toNat) 0
theorem valB_snoc (l : List Bool) (b : Bool) : valB (l ++ [b]) = 2 * valB l + b.toNat := by simp [valB]
theorem numB_length (v n : Nat) : (numB v n).length = n := by simp [numB]
theorem numB_nth (v n i : Nat) (h : i < n) : nth false (numB v n) i = (v / 2 ^ (n - 1 - i) % 2 == 1) := by
  rw [nth_eq false _ i (by rw [numB_length]; exact h)]; simp [numB]
theorem numB_take (v n k : Nat) (h : k ≤ n) : (numB v n).take k = numB (v / 2 ^ (n - k)) k := by
  apply List.ext_getElem
  · simp [numB]; omega
  · intro i h1 h2
    have hk : i < k := by simpa [numB] using h2
    simp only [numB, List.getElem_take, List.getElem_map, List.getElem_range, Nat.div_div_eq_div_mul]
    rw [← Nat.pow_add, show n - k + (k - 1 - i) = n - 1 - i by omega]
theorem bit_toNat (v : Nat) : (v % 2 == 1).toNat = v % 2 := by
  rcases Nat.mod_two_eq_zero_or_one v with h | h <;> simp [h]
theorem numB_succ (v n : Nat) : numB v (n + 1) = numB (v / 2) n ++ [v % 2 == 1] := by
  have h := numB_take v (n + 1) n (by omega)
  rw [show n + 1 - n = 1 by omega, Nat.pow_one] at h
  rw [← h]
  have h2 := (List.take_append_drop n (numB v (n + 1))).symm
  have h3 : (numB v (n + 1)).drop n = [v % 2 == 1] := by
    rw [drop_nth false _ n (by rw [numB_length]; omega), numB_nth _ _ _ (by omega), List.drop_eq_nil_of_le (by rw [numB_length]; omega)]
    simp
  rw [h3] at h2
  exact h2
theorem valB_lt : ∀ (l : List Bool), valB l < 2 ^ l.length := by
  intro l
  induction hn : l.length generalizing l with
  | zero => obtain rfl := List.eq_nil_of_length_eq_zero hn; simp [valB]
  | succ n ih =>
    have hne : l ≠ [] := by intro e; rw [e] at hn; cases hn
    obtain ⟨l', b, rfl⟩ : ∃ l' b, l = l' ++ [b] := ⟨l.dropLast, l.getLast hne, (List.dropLast_concat_getLast hne).symm⟩
    have := ih l' (by simpa using hn)
    rw [valB_snoc, Nat.pow_succ]
    have : b.toNat ≤ 1 := by cases b <;> decide
    omega
/-! ### Bytes of bits -/
def byteB (bs : List Bool) (j : Nat) : Nat := valB ((List.range 8).map fun t => nth false bs (8 * j + t))
/-- Bits as bytes, the last one filled with zeros. -/
def packB (bs : List Bool) : List Int := (List.range ((bs.length + 7) / 8)).map fun j => (byteB bs j : Int)
/-- The first n bits of bytes. -/
def bitB (b : List Int) (i : Nat) : Bool := (nth 0 b (i / 8)).toNat / 2 ^ (7 - i % 8) % 2 == 1
def ofB (b : List Int) (n : Nat) : List Bool := (List.range n).map (bitB b)
theorem packB_length (bs : List Bool) : (packB bs).length = (bs.length + 7) / 8 := by simp [packB]
theorem ofB_length (b : List Int) (n : Nat) : (ofB b n).length = n := by simp [ofB]
theorem ofB_nth (b : List Int) (n i : Nat) (h : i < n) : nth false (ofB b n) i = bitB b i := by
  rw [nth_eq false _ i (by rw [ofB_length]; exact h)]; simp [ofB]
theorem ofB_succ (b : List Int) (n : Nat) : ofB b (n + 1) = ofB b n ++ [bitB b n] := by simp [ofB, List.range_succ]
theorem byteB_eq (bs : List Bool) (j : Nat) : byteB bs j = 128 * (nth false bs (8 * j)).toNat + 64 * (nth false bs (8 * j + 1)).toNat + 32 * (nth false bs (8 * j + 2)).toNat + 16 * (nth false bs (8 * j + 3)).toNat + 8 * (nth false bs (8 * j + 4)).toNat + 4 * (nth false bs (8 * j + 5)).toNat + 2 * (nth false bs (8 * j + 6)).toNat + (nth false bs (8 * j + 7)).toNat := by
  unfold byteB valB
  simp only [List.range_succ, List.range_zero, List.nil_append, List.map_append, List.map_cons, List.map_nil, List.foldl_append, List.foldl_cons, List.foldl_nil, Nat.add_zero]
  omega
theorem toNat_le (b : Bool) : b.toNat ≤ 1 := by cases b <;> decide
theorem byteB_lt (bs : List Bool) (j : Nat) : byteB bs j < 256 := by
  have := valB_lt ((List.range 8).map fun t => nth false bs (8 * j + t))
  simpa [byteB] using this
theorem packB_nth (bs : List Bool) (j : Nat) (h : j < (bs.length + 7) / 8) : nth 0 (packB bs) j = (byteB bs j : Int) := by
  rw [nth_eq 0 _ j (by rw [packB_length]; exact h)]; simp [packB]
theorem nth_none {α : Type} (d : α) (xs : List α) (k : Nat) (h : xs.length ≤ k) : nth d xs k = d := by
  simp [nth, List.getD_eq_getElem?_getD, List.getElem?_eq_none h]
theorem byteB_snoc_lo (bs : List Bool) (b : Bool) (j : Nat) (h : j < bs.length / 8) : byteB (bs ++ [b]) j = byteB bs j := by
  unfold byteB
  congr 1
  apply List.map_congr_left
  intro t ht
  rw [List.mem_range] at ht
  rw [nth_append_left _ _ _ _ (by omega)]
theorem byteB_snoc_hi (bs : List Bool) (b : Bool) : byteB (bs ++ [b]) (bs.length / 8) = byteB bs (bs.length / 8) + b.toNat * 2 ^ (7 - bs.length % 8) := by
  rw [byteB_eq, byteB_eq]
  have hi : bs.length = 8 * (bs.length / 8) + bs.length % 8 := by omega
  have hr : bs.length % 8 < 8 := Nat.mod_lt _ (by decide)
  have lo : ∀ k, k < bs.length → nth false (bs ++ [b]) k = nth false bs k := fun k h => nth_append_left _ _ _ _ h
  have at_ : nth false (bs ++ [b]) bs.length = b := by rw [nth_append_right _ _ _ _ (Nat.le_refl _)]; simp [nth]
  have up : ∀ k, bs.length < k → nth false (bs ++ [b]) k = false := fun k h => nth_none _ _ _ (by simp; omega)
  have up0 : ∀ k, bs.length ≤ k → nth false bs k = false := fun k h => nth_none _ _ _ h
  generalize bs.length / 8 = q at *
  generalize bs.length % 8 = r at *
  have : r = 0 ∨ r = 1 ∨ r = 2 ∨ r = 3 ∨ r = 4 ∨ r = 5 ∨ r = 6 ∨ r = 7 := by omega
  rcases this with rfl | rfl | rfl | rfl | rfl | rfl | rfl | rfl
  · rw [show 8 * q = bs.length by omega, at_, up0 _ (Nat.le_refl _)]
    simp only [up _ (show bs.length < bs.length + 1 by omega), up _ (show bs.length < bs.length + 2 by omega), up _ (show bs.length < bs.length + 3 by omega), up _ (show bs.length < bs.length + 4 by omega), up _ (show bs.length < bs.length + 5 by omega), up _ (show bs.length < bs.length + 6 by omega), up _ (show bs.length < bs.length + 7 by omega),
      up0 _ (show bs.length ≤ bs.length + 1 by omega), up0 _ (show bs.length ≤ bs.length + 2 by omega), up0 _ (show bs.length ≤ bs.length + 3 by omega), up0 _ (show bs.length ≤ bs.length + 4 by omega), up0 _ (show bs.length ≤ bs.length + 5 by omega), up0 _ (show bs.length ≤ bs.length + 6 by omega), up0 _ (show bs.length ≤ bs.length + 7 by omega), Bool.toNat_false]
    try omega
  all_goals
    repeat (first | rw [lo (8 * q) (by omega)] | rw [lo (8 * q + 1) (by omega)] | rw [lo (8 * q + 2) (by omega)] | rw [lo (8 * q + 3) (by omega)] | rw [lo (8 * q + 4) (by omega)] | rw [lo (8 * q + 5) (by omega)] | rw [lo (8 * q + 6) (by omega)])
    repeat (first | rw [up (8 * q + 2) (by omega)] | rw [up (8 * q + 3) (by omega)] | rw [up (8 * q + 4) (by omega)] | rw [up (8 * q + 5) (by omega)] | rw [up (8 * q + 6) (by omega)] | rw [up (8 * q + 7) (by omega)])
    repeat (first | rw [up0 (8 * q + 1) (by omega)] | rw [up0 (8 * q + 2) (by omega)] | rw [up0 (8 * q + 3) (by omega)] | rw [up0 (8 * q + 4) (by omega)] | rw [up0 (8 * q + 5) (by omega)] | rw [up0 (8 * q + 6) (by omega)] | rw [up0 (8 * q + 7) (by omega)])
    rw [hi] at at_
    rw [at_]
    simp only [Bool.toNat_false, Nat.reduceSub, Nat.reducePow]
    omega
theorem byteB_free (bs : List Bool) : byteB bs (bs.length / 8) % 2 ^ (8 - bs.length % 8) = 0 := by
  rw [byteB_eq]
  have hi : bs.length = 8 * (bs.length / 8) + bs.length % 8 := by omega
  have hr : bs.length % 8 < 8 := Nat.mod_lt _ (by decide)
  have up0 : ∀ k, bs.length ≤ k → nth false bs k = false := fun k h => nth_none _ _ _ h
  generalize bs.length / 8 = q at *
  generalize bs.length % 8 = r at *
  have : r = 0 ∨ r = 1 ∨ r = 2 ∨ r = 3 ∨ r = 4 ∨ r = 5 ∨ r = 6 ∨ r = 7 := by omega
  rcases this with rfl | rfl | rfl | rfl | rfl | rfl | rfl | rfl
  all_goals
    repeat (first | rw [up0 (8 * q) (by omega)] | rw [up0 (8 * q + 1) (by omega)] | rw [up0 (8 * q + 2) (by omega)] | rw [up0 (8 * q + 3) (by omega)] | rw [up0 (8 * q + 4) (by omega)] | rw [up0 (8 * q + 5) (by omega)] | rw [up0 (8 * q + 6) (by omega)] | rw [up0 (8 * q + 7) (by omega)])
    simp only [Bool.toNat_false, Nat.reduceSub, Nat.reducePow]
    try omega
/-- The row that a bit is added to: a byte more, if all are full. -/
def roomB (bs : List Bool) : List Int := if bs.length % 8 = 0 then packB bs ++ [0] else packB bs
theorem roomB_length (bs : List Bool) : (roomB bs).length = bs.length / 8 + 1 := by
  unfold roomB
  split <;> (simp only [List.length_append, List.length_singleton, packB_length]; omega)
theorem roomB_nth (bs : List Bool) : nth 0 (roomB bs) (bs.length / 8) = (byteB bs (bs.length / 8) : Int) := by
  unfold roomB
  split
  · rename_i h
    rw [nth_append_right _ _ _ _ (by rw [packB_length]; omega), packB_length, show bs.length / 8 - (bs.length + 7) / 8 = 0 by omega]
    have h2 := byteB_free bs
    rw [h] at h2
    have := byteB_lt bs (bs.length / 8)
    have : byteB bs (bs.length / 8) = 0 := by simp at h2; omega
    rw [this]; rfl
  · exact packB_nth bs _ (by omega)
theorem packB_snoc (bs : List Bool) (b : Bool) : packB (bs ++ [b]) = (roomB bs).set (bs.length / 8) ((byteB bs (bs.length / 8) : Int) + b2i b * 2 ^ (7 - bs.length % 8)) := by
  have hl : (packB (bs ++ [b])).length = bs.length / 8 + 1 := by rw [packB_length]; simp; omega
  apply List.ext_getElem
  · rw [hl, List.length_set, roomB_length]
  · intro i h1 h2
    rw [← nth_eq 0 _ i h1, packB_nth _ _ (by rw [← packB_length]; exact h1)]
    rw [hl] at h1
    by_cases hi : i = bs.length / 8
    · subst hi
      rw [List.getElem_set_self, byteB_snoc_hi, b2i_nat]
      simp
    · rw [List.getElem_set_ne (Ne.symm hi), ← nth_eq 0 _ i (by rw [roomB_length]; omega), byteB_snoc_lo _ _ _ (by omega)]
      unfold roomB
      split
      · rw [nth_append_left _ _ _ _ (by rw [packB_length]; omega), packB_nth _ _ (by omega)]
      · rw [packB_nth _ _ (by omega)]
/-- A bit put into a byte that has room. -/
theorem or_bit (bs : List Bool) (b : Bool) : Go.bits .or .u8 (byteB bs (bs.length / 8) : Int) (b2i b * 2 ^ (7 - bs.length % 8)) = (byteB bs (bs.length / 8) : Int) + b2i b * 2 ^ (7 - bs.length % 8) := by
  have hr : bs.length % 8 < 8 := Nat.mod_lt _ (by decide)
  have hf := byteB_free bs
  have hl := byteB_lt bs (bs.length / 8)
  have h2 : (2 : Nat) ^ (7 - bs.length % 8) ≤ 128 := by
    have := Nat.pow_le_pow_right (n := 2) (by decide) (show 7 - bs.length % 8 ≤ 7 by omega)
    simpa using this
  have h3 : (2 : Nat) ^ (8 - bs.length % 8) = 2 * 2 ^ (7 - bs.length % 8) := by
    rw [show 8 - bs.length % 8 = (7 - bs.length % 8) + 1 by omega, Nat.pow_succ]; omega
  have hp : 0 < (2 : Nat) ^ (7 - bs.length % 8) := Nat.two_pow_pos _
  have hc : ((2 : Int) ^ (7 - bs.length % 8)) = (((2 : Nat) ^ (7 - bs.length % 8) : Nat) : Int) := by simp
  have hc8 : ((2 : Int) ^ (8 - bs.length % 8)) = (((2 : Nat) ^ (8 - bs.length % 8) : Nat) : Int) := by simp
  generalize hP : (2 : Nat) ^ (7 - bs.length % 8) = P at *
  generalize hQ : (2 : Nat) ^ (8 - bs.length % 8) = Q at *
  have h256 : (2 : Int) ^ 8 = 256 := by decide
  have hy : 0 ≤ b2i b * (P : Int) ∧ b2i b * (P : Int) ≤ P := by cases b <;> simp [b2i] <;> omega
  rw [hc]
  refine bits_join .u8 8 (by decide) (fun n h0 h1 => wraps_u8 n h0 h1) (8 - bs.length % 8) _ _ (Int.natCast_nonneg _) ?_ ?_ hy.1 ?_ ?_
  · rw [hc8, ← Int.natCast_emod, hf]; rfl
  · rw [h256]; omega
  · rw [hc8]; omega
  · rw [h256]; omega
theorem and_one (x : Int) (h0 : 0 ≤ x) (h1 : x < 9223372036854775808) : Go.bits .and .i64 x 1 = x % 2 := by
  have := bits_mask .i64 63 (by decide) (fun n h0 h1 => by rw [IntKind.wrap_i64]; omega) 1 (by decide) x h0 (by simpa using h1)
  simpa using this
theorem bitB_and (b : List Int) (i : Nat) (h0 : 0 ≤ nth 0 b (i / 8)) (h1 : nth 0 b (i / 8) < 256) : Go.bits .and .i64 (nth 0 b (i / 8) / 2 ^ (7 - i % 8)) 1 = b2i (bitB b i) := by
  obtain ⟨x, hx⟩ := Int.eq_ofNat_of_zero_le h0
  rw [hx]
  have hc : ((2 : Int) ^ (7 - i % 8)) = (((2 : Nat) ^ (7 - i % 8) : Nat) : Int) := by simp
  have hd : ((x : Int) / 2 ^ (7 - i % 8)) = ((x / 2 ^ (7 - i % 8) : Nat) : Int) := by rw [hc]; exact (Int.natCast_ediv _ _).symm
  have hle : x / 2 ^ (7 - i % 8) ≤ x := Nat.div_le_self _ _
  rw [hd, and_one _ (Int.natCast_nonneg _) (by omega), b2i_nat]
  unfold bitB
  rw [hx, Int.toNat_natCast, bit_toNat]
  simp
end Go.Proofs.YtmcdgmiheklbeaaGreatDoor

namespace Go.Proofs.YtmcdgmiheklbeaaGreatDoor
open Go.RowKit

/-! ### Which blocks a call turns -/
/-- From w to w' only blocks of o turned; new ones were laid. -/
structure Upd (o : Nat → Prop) (w w' : World) : Prop where
  os : w'.os = w.os
  tape : w'.tape = w.tape
  output : w'.output = w.output
  size : w.heap.size ≤ w'.heap.size
  blk : ∀ b, b < w.heap.size → ¬ o b → w'.heap[b]? = w.heap[b]?
section
variable {o o' : Nat → Prop} {w w' w1 w2 : World}
theorem Upd.refl (o : Nat → Prop) (w : World) : Upd o w w := ⟨rfl, rfl, rfl, Nat.le_refl _, fun _ _ _ => rfl⟩
theorem Upd.trans (h : Upd o w w1) (k : Upd o' w1 w2) (ho : ∀ b, b < w.heap.size → o' b → o b) : Upd o w w2 :=
  ⟨k.os.trans h.os, k.tape.trans h.tape, k.output.trans h.output, Nat.le_trans h.size k.size, fun b hb hn => (k.blk b (Nat.lt_of_lt_of_le hb h.size) (fun e => hn (ho b hb e))).trans (h.blk b hb hn)⟩
theorem Upd.weak (h : Upd o w w') (ho : ∀ b, b < w.heap.size → o b → o' b) : Upd o' w w' := ⟨h.os, h.tape, h.output, h.size, fun b hb hn => h.blk b hb (fun e => hn (ho b hb e))⟩
theorem Upd.keep (h : Upd o w w') {ok : Nat → Prop} (ho : ∀ b, ok b → ¬ o b) : Keep ok w w' := ⟨h.size, fun b hb hk => h.blk b hb (ho b hk)⟩
theorem Upd.below (h : Upd o w w') {n : Nat} (hn : n ≤ w.heap.size) (ho : ∀ b, b < w.heap.size → o b → n ≤ b) : Below n w w' :=
  ⟨h.os, h.tape, h.output, h.size, fun b hb => h.blk b (by omega) (fun e => by have := ho b (by omega) e; omega)⟩
theorem Upd.of_below (h : Below w.heap.size w w') (o : Nat → Prop) : Upd o w w' := ⟨h.os, h.tape, h.output, h.size, fun b hb _ => h.block b hb⟩
theorem Upd.of_grown {row : Option Nat} (h : w.grownBy w' row) (ho : ∀ r, row = some r → o r) : Upd o w w' := ⟨h.1, h.2, h.3, h.size, fun b hb hn => h.block b hb (fun e => hn (ho b e.symm))⟩
theorem Upd.setCell (o : Nat → Prop) (w : World) (g i : Nat) (v : Value) (hg : o g) : Upd o w (w.setCell ⟨g, i, none⟩ v) := Upd.of_grown (grown_setCell w g i v) (fun r e => by cases e; exact hg)
theorem Upd.drew (o : Nat → Prop) (w : World) : Upd o w w.drew := ⟨rfl, rfl, rfl, Nat.le_refl _, fun _ _ _ => rfl⟩
theorem Upd.drewN (o : Nat → Prop) (w : World) (n : Nat) : Upd o w (w.drewN n) := ⟨rfl, rfl, rfl, Nat.le_refl _, fun _ _ _ => rfl⟩
theorem Upd.alloc (o : Nat → Prop) (w : World) (x : Obj) : Upd o w (w.alloc x) := Upd.of_below ((Below.refl _ _).alloc (Nat.le_refl _) _) o
end

/-! ### A writer -/
structure WrF (o : Nat → Prop) (w : World) (g : Nat) (v : Value) (bs : List Bool) : Prop where
  blk : Blk w g #[v, .int .i64 bs.length] 98
  row : OwnI 5 .u8 0 w v (packB bs)
  og : o g
  orow : ∀ b, v.ownBlock = some b → o b ∧ b ≠ g
/-- A writer that has these bits, in blocks of o. -/
def Wr (o : Nat → Prop) (w : World) (g : Nat) (bs : List Bool) : Prop := ∃ v, WrF o w g v bs
section
variable {o o' : Nat → Prop} {w w' : World} {g : Nat} {v : Value} {bs : List Bool}
theorem WrF.cut (h : WrF o w g v bs) : WrF (fun b => o b ∧ b < w.heap.size) w g v bs := ⟨h.blk, h.row, ⟨h.og, h.blk.lt⟩, fun b e => ⟨⟨(h.orow b e).1, (h.row.lt b e).2⟩, (h.orow b e).2⟩⟩
theorem WrF.weak (h : WrF o w g v bs) (ho : ∀ b, b < w.heap.size → o b → o' b) : WrF o' w g v bs := ⟨h.blk, h.row, ho g h.blk.lt h.og, fun b e => ⟨ho b (h.row.lt b e).2 (h.orow b e).1, (h.orow b e).2⟩⟩
theorem ownI_keep {e : TypeId} {ik : IntKind} {base : Nat} {xs : List Int} {ok : Nat → Prop} (h : OwnI e ik base w v xs) (hk : Keep ok w w') (ho : ∀ b, v.ownBlock = some b → ok b) : OwnI e ik base w' v xs := by
  refine ⟨h.1, ?_⟩
  rcases h.2 with h' | ⟨g, cap, cur, h1, h2, h3, h4⟩
  · exact .inl h'
  · exact .inr ⟨g, cap, cur, h1, h2, (hk.blk g (Array.getElem?_eq_some_iff.1 h3).1 (ho g (by rw [h1]; rfl))).trans h3, h4⟩
theorem WrF.keep (h : WrF o w g v bs) {ok : Nat → Prop} (hk : Keep ok w w') (ho : ∀ b, o b → ok b) : WrF o w' g v bs :=
  ⟨h.blk.keep hk (ho g h.og), ownI_keep h.row hk (fun b e => ho b (h.orow b e).1), h.og, h.orow⟩
theorem WrF.below (h : WrF o w g v bs) (hb : Below w.heap.size w w') : WrF o w' g v bs := by
  have h1 := h.cut.keep (Keep.of_below hb) (fun b e => e.2)
  exact ⟨h1.blk, h1.row, h.og, h.orow⟩
theorem Wr.cut (h : Wr o w g bs) : Wr (fun b => o b ∧ b < w.heap.size) w g bs := let ⟨v, h⟩ := h; ⟨v, h.cut⟩
theorem Wr.weak (h : Wr o w g bs) (ho : ∀ b, b < w.heap.size → o b → o' b) : Wr o' w g bs := let ⟨v, h⟩ := h; ⟨v, h.weak ho⟩
theorem Wr.keep (h : Wr o w g bs) {ok : Nat → Prop} (hk : Keep ok w w') (ho : ∀ b, o b → ok b) : Wr o w' g bs := let ⟨v, h⟩ := h; ⟨v, h.keep hk ho⟩
theorem Wr.below (h : Wr o w g bs) (hb : Below w.heap.size w w') : Wr o w' g bs := let ⟨v, h⟩ := h; ⟨v, h.below hb⟩
theorem Wr.lt (h : Wr o w g bs) : g < w.heap.size := let ⟨_, h⟩ := h; h.blk.lt
/-- Behind a call that turned blocks of o2, none of them this one's. -/
theorem Wr.upd {o2 : Nat → Prop} (h : Wr o w g bs) (hu : Upd o2 w w') (ho : ∀ b, b < w.heap.size → o b → ¬ o2 b) : Wr o w' g bs := by
  have h1 : Wr (fun b => o b ∧ b < w.heap.size) w' g bs := h.cut.keep (hu.keep (ok := fun b => ¬ o2 b) fun _ hb => hb) (fun b e => ho b e.2 e.1)
  exact h1.weak (fun b _ e => e.1)
end

set_option maxHeartbeats 400000 in
theorem wnew_any (w : World) :
    Calls Tryz.prog 20 #[] w fun e w' => ∃ g, e = .returned (.pointer (some ⟨g, 0, none⟩)) ∧ Wr (fun b => b = g) w' g [] ∧ Below w.heap.size w w' ∧ w.heap.size ≤ g := by
  go_enter Tryz.func20, Tryz.ntmps20
  go_wp2
  go_ret
  refine ⟨_, rfl, ⟨.slice none 0 0, ⟨heap_alloc_new w _, OwnI.nil _ _ _ _, rfl, fun b e => by cases e⟩⟩, (Below.refl _ _).alloc (Nat.le_refl _) _, Nat.le_refl _⟩

theorem div_bd (x : Int) (k : Nat) (h0 : 0 ≤ x) (h1 : x < 256) : 0 ≤ x / 2 ^ k ∧ x / 2 ^ k < 256 := by
  obtain ⟨n, rfl⟩ := Int.eq_ofNat_of_zero_le h0
  have hc : ((2 : Int) ^ k) = (((2 : Nat) ^ k : Nat) : Int) := by simp
  have hle : n / 2 ^ k ≤ n := Nat.div_le_self _ _
  generalize 2 ^ k = m at *
  rw [hc]
  have : ((n : Int) / (m : Int)) = ((n / m : Nat) : Int) := (Int.natCast_ediv _ _).symm
  rw [this]
  exact ⟨Int.natCast_nonneg _, Int.lt_of_le_of_lt (Int.ofNat_le.2 hle) h1⟩
set_option maxHeartbeats 400000 in
theorem bit_any (A : Option Addr) (c : Nat) (b : List Int) (i : Nat) (w : World) (hS : RY w A c b) (hb : ∀ x ∈ b, 0 ≤ x ∧ x < 256) (hi : i / 8 < b.length) :
    Calls Tryz.prog 57 #[.slice A b.length c, .int .i64 (i : Int)] w fun e w' => e = .returned (.int .i64 (b2i (bitB b i))) ∧ w = w' := by
  have hn := hS.len
  obtain ⟨ad, rfl, hc⟩ := rd_int hS (i / 8) hi
  have hx := hb _ (nth_mem 0 b (i / 8) hi)
  have HB := Lib.hid hb
  have hq : ((i : Int) / 8) = ((i / 8 : Nat) : Int) := by omega
  have hr : (7 - (i : Int) % 8).toNat = 7 - i % 8 := by omega
  have HA := Lib.hid (bitB_and b i hx.1 hx.2)
  have HR := Lib.hid hr
  have HQ := Lib.hid hq
  clear hb hr hq
  go_enter Tryz.func57, Tryz.ntmps57
  go_wp2
  go_ret
  have hd := div_bd (nth 0 b (i / 8)) (7 - i % 8) hx.1 hx.2
  exact ⟨ret_int (by rw [IntWalk.wrap64_in _ (by omega)]; exact HA.out), rfl⟩

theorem add_end {o : Nat → Prop} {w W : World} {g r n c q : Nat} {b : Bool} {bs : List Bool} {Y : Int} (hu : Upd o w W) (hB : Blk W g #[.slice (some ⟨r, 0, none⟩) n c, .int .i64 bs.length] 98)
    (hO : OwnI 5 .u8 0 W (.slice (some ⟨r, 0, none⟩) n c) (roomB bs)) (hor : ∀ b', (Value.slice (some ⟨r, 0, none⟩) n c).ownBlock = some b' → (o b' ∨ w.heap.size ≤ b') ∧ b' ≠ g) (hg : o g) (hp : packB (bs ++ [b]) = (roomB bs).set q Y) :
    Wr (fun b => o b ∨ w.heap.size ≤ b) ((W.setCell ⟨r, q, none⟩ (.int .u8 Y)).setCell ⟨g, 1, none⟩ (.int .i64 ((bs.length : Int) + 1))).drew g (bs ++ [b]) ∧ Upd o w ((W.setCell ⟨r, q, none⟩ (.int .u8 Y)).setCell ⟨g, 1, none⟩ (.int .i64 ((bs.length : Int) + 1))).drew := by
  obtain ⟨h1, h2⟩ := hor r rfl
  have B1 := hB.keep (Keep.of_grown1 (grown_setCell W r q (.int .u8 Y))) (Ne.symm h2)
  have B2 := B1.set 1 (.int .i64 ((bs.length : Int) + 1))
  have O1 := (hO.set q Y).1
  have O2 := O1.grown (grown_setCell _ g 1 (.int .i64 ((bs.length : Int) + 1))) (.inr fun e => h2 (Option.some.inj e))
  have e1 : ((bs.length : Int) + 1) = ((bs ++ [b]).length : Nat) := by simp
  refine ⟨⟨.slice (some ⟨r, 0, none⟩) n c, ?_, ?_, .inl hg, hor⟩, ?_⟩
  · rw [← e1]; exact B2
  · rw [hp]; exact O2
  · refine Upd.trans (o' := fun b => o b ∨ w.heap.size ≤ b) (hu.trans (Upd.setCell (fun b => o b ∨ w.heap.size ≤ b) _ r q _ h1) ?_) (Upd.trans (Upd.setCell _ _ g 1 _ (.inl hg)) (Upd.drew _ _) (fun _ _ h => h)) ?_
    · rintro b' hb (h | h)
      · exact h
      · omega
    · rintro b' hb (h | h)
      · exact h
      · omega
theorem infoY : (Tryz.prog.info? 5).map (fun i => (i.zero, i.size, i.bytes)) = some (some (.int .u8 0), 1, 1) := by kernel_rfl
set_option maxHeartbeats 2000000 in
set_option maxRecDepth 100000 in
theorem add_any (o : Nat → Prop) (g : Nat) (b : Bool) (bs : List Bool) (w : World) (h : Wr o w g bs) (hl : bs.length ≤ 2000000) :
    Calls Tryz.prog 56 #[.pointer (some ⟨g, 0, none⟩), .int .i64 (b2i b)] w fun e w' => e = .returned (.tuple #[]) ∧ Wr (fun b => o b ∨ w.heap.size ≤ b) w' g (bs ++ [b]) ∧ Upd o w w' := by
  obtain ⟨v, h⟩ := h
  obtain ⟨A0, c0, rfl⟩ := h.row.slice
  have k0 := h.blk.cell 0 rfl
  have k1 := h.blk.cell 1 rfl
  have f0 := h.blk.free 0
  have f1 := h.blk.free 1
  have H := Lib.hid h
  clear h
  by_cases h8 : bs.length % 8 = 0
  case' pos =>
    have h8' : ((bs.length : Int) % 8 == 0) = true := by rw [beq_iff_eq]; omega
    have H8 := Lib.hid h8
    clear h8
    go_enter Tryz.func56, Tryz.ntmps56
    go_wp2_with (at_builtin; (refine append_one (w0 := w) 0 rfl (.tmp 14) (.tmp 15) 31 5 .u8 1 rfl Tryz.underlying31 infoY (by decide) (.slice A0 (packB bs).length c0) _ 0 rfl rfl H.out.row (Below.refl 0 w) (Nat.zero_le _) (by rw [packB_length]; omega) ?_); intro v1 w1 hO1 _ hg1 hat1; have B1 := H.out.blk.keep (Keep.of_grown hg1) (fun e => (H.out.orow g e.symm).2 rfl); obtain ⟨A1, c1, rfl⟩ := hO1.slice; clear k0 k1 f0 f1; have k0 := B1.cell 0 rfl; have k1 := B1.cell 1 rfl; have f0 := B1.free 0; have f1 := B1.free 1)
    have B2 := B1.set 0 (.slice A1 (packB bs ++ [0]).length c1)
    have O2 : OwnI 5 .u8 0 (w1.setCell ⟨g, 0, none⟩ (.slice A1 (packB bs ++ [0]).length c1)) (.slice A1 (packB bs ++ [0]).length c1) (packB bs ++ [0]) := hO1.grown (grown_setCell _ _ _ _) (by
      refine .inr fun e => ?_
      rcases hat1 with hat | ⟨b', hat, hle⟩
      · rw [hat] at e; exact (H.out.orow g e).2 rfl
      · rw [hat] at e; have := H.out.blk.lt; have := Option.some.inj e; omega)
    have hor : ∀ b', (Value.slice A1 (packB bs ++ [0]).length c1).ownBlock = some b' → (o b' ∨ w.heap.size ≤ b') ∧ b' ≠ g := fun b' e => by
      rcases hat1 with hat | ⟨b'', hat, hle⟩
      · rw [hat] at e; exact ⟨.inl (H.out.orow b' e).1, (H.out.orow b' e).2⟩
      · rw [hat] at e; have := H.out.blk.lt; have := Option.some.inj e; exact ⟨.inr (by omega), by omega⟩
    have U2 : Upd o w (w1.setCell ⟨g, 0, none⟩ (.slice A1 (packB bs ++ [0]).length c1)) := (Upd.of_grown hg1 (fun r e => (H.out.orow r e).1)).trans (Upd.setCell o _ _ _ _ H.out.og) (fun _ _ h => h)
    have hroom : packB bs ++ [0] = roomB bs := by unfold roomB; rw [if_pos H8.out]
    have hlen2 : (packB bs ++ [0]).length = bs.length / 8 + 1 := by rw [hroom, roomB_length]
    have hlen3 : (packB bs).length + 1 = bs.length / 8 + 1 := by rw [← hlen2]; simp
    rw [hlen2] at B2 O2 hor U2
    rw [hroom] at O2
    simp only [hlen3]
    generalize w1.setCell ⟨g, 0, none⟩ (.slice A1 (bs.length / 8 + 1) c1) = w2 at *
    clear hO1 hg1 hat1 B1 k0 k1 f0 f1 H8 hroom hlen2 hlen3
  case' neg =>
    have h8' : ((bs.length : Int) % 8 == 0) = false := by rw [beq_eq_false_iff_ne]; omega
    have hroom : packB bs = roomB bs := by unfold roomB; rw [if_neg h8]
    have hlen2 : (packB bs).length = bs.length / 8 + 1 := by rw [hroom, roomB_length]
    have B2 := H.out.blk
    have O2 := H.out.row
    have hor : ∀ b', (Value.slice A0 (packB bs).length c0).ownBlock = some b' → (o b' ∨ w.heap.size ≤ b') ∧ b' ≠ g := fun b' e => ⟨.inl (H.out.orow b' e).1, (H.out.orow b' e).2⟩
    have U2 : Upd o w w := Upd.refl o w
    rw [hlen2] at B2 O2 hor k0
    rw [hroom] at O2
    have H8 := Lib.hid h8
    have HB2 := Lib.hid B2
    clear h8 hroom hlen2 B2
    go_enter Tryz.func56, Tryz.ntmps56
    go_wp2
    have B2 := HB2.out
    clear k0 k1 f0 f1 HB2
  all_goals
    obtain ⟨r, cap, hA, _, hr⟩ := O2.form (by rw [roomB_length]; omega)
    injection hA with hA1 hA2 hA3
    subst hA1
    have hrg := (hor r rfl).2
    have k0 := B2.cell 0 rfl
    have k1 := B2.cell 1 rfl
    have f0 := B2.free 0
    have f1 := B2.free 1
    obtain ⟨ka, kf⟩ := O2.at_ (bs.length / 8) (by rw [roomB_length]; omega)
    rw [roomB_nth] at ka
    have hbd := b2i_bd b
    have hor8 := or_bit bs b
    have hX := byteB_lt bs (bs.length / 8)
    have HS := Lib.hid (packB_snoc bs b)
    have hrl := roomB_length bs
    obtain ⟨X, hXe⟩ : ∃ X, byteB bs (bs.length / 8) = X := ⟨_, rfl⟩
    obtain ⟨q, hq⟩ : ∃ q, bs.length / 8 = q := ⟨_, rfl⟩
    obtain ⟨t, ht⟩ : ∃ t, 7 - bs.length % 8 = t := ⟨_, rfl⟩
    obtain ⟨nn, hnn⟩ : ∃ nn, bs.length / 8 + 1 = nn := ⟨_, rfl⟩
    have ht7 : t ≤ 7 := by omega
    have w1 : IntKind.i64.wrap ((bs.length : Int) / 8) = (q : Int) := by rw [IntWalk.i64_in _ (by omega)]; omega
    have w2 : ((bs.length : Int)).tmod 8 = 7 - (t : Int) := by rw [Int.tmod_eq_emod_of_nonneg (by omega)]; omega
    have w3 : IntKind.i64.wrap (7 - (7 - (t : Int))) = (t : Int) := by rw [IntWalk.i64_in _ (by omega)]; omega
    have hPp : 0 < 2 ^ t ∧ 2 ^ t ≤ 128 := ⟨Nat.two_pow_pos _, by have := Nat.pow_le_pow_right (n := 2) (by decide) ht7; simpa using this⟩
    have hPc : ((2 : Int) ^ t) = ((2 ^ t : Nat) : Int) := by simp
    have hy : 0 ≤ b2i b * 2 ^ t ∧ b2i b * 2 ^ t ≤ 128 := by rw [hPc]; cases b <;> simp [b2i] <;> omega
    have w4 : IntKind.i64.wrap (b2i b * 2 ^ t) = b2i b * 2 ^ t := IntWalk.i64_in _ (by omega)
    have w5 : IntKind.u8.wrap (b2i b * 2 ^ t) = b2i b * 2 ^ t := by rw [IntKind.wrap_u8]; omega
    have hqn : q < nn := by omega
    rw [hXe, hq] at ka HS
    rw [hXe] at hor8 hX
    rw [hq] at kf
    rw [ht] at hor8 HS
    rw [hnn] at k0
    have HX := Lib.hid hXe
    have HQ := Lib.hid hq
    have HNN := Lib.hid hnn
    have HT := Lib.hid ht
    have HO8 := Lib.hid hor8
    clear h8' hXe hq hnn ht hPp hPc hy hrl hor8 hA2 hA3
    go_still_tail 22, (by kernel_rfl)
    change wpList _ _ _ _ _ (World.drew _)
    rw [HO8.out]
    have hgr := Ne.symm hrg
    clear w1 w2 w3 w4 w5 ht7
    go_wp2
    go_end0
    exact ⟨rfl, add_end U2 B2 O2 hor H.out.og HS.out⟩
end Go.Proofs.YtmcdgmiheklbeaaGreatDoor

namespace Go.Proofs.YtmcdgmiheklbeaaGreatDoor
open Go.RowKit
attribute [local go_sem] Oper.semAt_some

set_option maxHeartbeats 400000 in
theorem number_any (v n : Int) (w : World) :
    Calls Tryz.prog 88 #[.int .i64 v, .int .i64 n] w fun e w' => ∃ gn gv, e = .returned (.func (.func 117) #[] #[.pointer (some ⟨gn, 0, none⟩), .pointer (some ⟨gv, 0, none⟩)]) ∧ Hid (gv = w.heap.size) ∧ Hid (gn = gv + 1) ∧ Hid (w'.heap.size = gn + 1) ∧ Blk w' gn #[.int .i64 n] 3 ∧ Blk w' gv #[.int .i64 v] 3 ∧ Below w.heap.size w w' := by
  go_enter Tryz.func88, Tryz.ntmps88
  go_wp2
  go_ret
  refine ⟨_, _, rfl, Lib.hid rfl, Lib.hid rfl, Lib.hid (by simp), ?_, ?_, ?_⟩
  · have := heap_alloc_new (w.alloc (.cells #[.int .i64 v] 3)) (.cells #[.int .i64 n] 3)
    simpa [Blk] using this
  · have h1 : Blk (w.alloc (.cells #[.int .i64 v] 3)) w.heap.size #[.int .i64 v] 3 := heap_alloc_new w _
    exact h1.below (below_alloc (Below.refl _ _) _)
  · exact ((Below.refl _ _).alloc (Nat.le_refl _) _).alloc (by simp) _

theorem numB_bit (v m k : Nat) (h : k < m) (hv : v < 4611686018427387904) : Go.bits .and .i64 ((v : Int) / 2 ^ (m - 1 - k)) 1 = b2i (nth false (numB v m) k) := by
  have hc : ((2 : Int) ^ (m - 1 - k)) = (((2 : Nat) ^ (m - 1 - k) : Nat) : Int) := by simp
  have hd : ((v : Int) / 2 ^ (m - 1 - k)) = ((v / 2 ^ (m - 1 - k) : Nat) : Int) := by rw [hc]; exact (Int.natCast_ediv _ _).symm
  have hle : v / 2 ^ (m - 1 - k) ≤ v := Nat.div_le_self _ _
  rw [hd, and_one _ (Int.natCast_nonneg _) (by omega), b2i_nat, numB_nth _ _ _ h, bit_toNat]
  simp
theorem take_pre {xs : List Bool} {k : Nat} (h : k < xs.length) : (xs.take k ++ [nth false xs k]) <+: xs := by
  rw [← take_succ_nth false xs k h]; exact List.take_prefix _ _

set_option maxHeartbeats 2000000 in
set_option maxRecDepth 100000 in
theorem number1_yields (gn gv v m : Nat) (w : World) (ok : Nat → Prop) (hN : Blk w gn #[.int .i64 (m : Int)] 3) (hV : Blk w gv #[.int .i64 (v : Int)] 3) (_ : ok gn) (ov : ok gv) (hm : m ≤ 64) (hv : v < 4611686018427387904) (n : Nat) (hn : 1 ≤ n) :
    YieldsN Fence.wide n Tryz.prog 117 #[.pointer (some ⟨gn, 0, none⟩), .pointer (some ⟨gv, 0, none⟩)] (fun b : Bool => #[.int .i64 (b2i b)]) ok (fun _ => False) (fun xs => xs = numB v m) (fun _ => True) (fun pre x => (pre ++ [x]) <+: numB v m) w := by
  intro l J Jx W hW hJ hJx hY h0
  have hNW := hN.below hW
  have hVW := hV.below hW
  clear hN hV hW
  have kn := hNW.cell 0 rfl
  have kv := hVW.cell 0 rfl
  refine callsIn_of_wp Tryz.func117 rfl trivial ?_ rfl
  simp only [Tryz.ntmps117, List.size_toArray, List.length_cons, List.length_nil, Nat.reduceAdd, Nat.reduceSub, Array.replicate_succ, Array.replicate_zero, List.push_toArray, List.append_toArray, List.nil_append, List.cons_append]
  have w1 : IntKind.i64.wrap ((m : Int) - 1) = (m : Int) - 1 := IntWalk.i64_in _ (by omega)
  gi_wp2
  have H0 : Hid (J ((numB v m).take 0) W) := Lib.hid (by simpa using h0)
  have HY := Lib.hid hY
  clear h0 hY kn kv w1
  gi_loopw [4] (fun x wr => ∃ k : Nat, k ≤ m ∧ x = .int .i64 ((m : Int) - 1 - k) ∧ Hid (J ((numB v m).take k) wr) ∧ Keep ok W wr) (fun x _ => (intOf x + 1).toNat)
  case atStart => exact ⟨0, by omega, by go_num, H0, Keep.refl _ _⟩
  case round =>
    clear H0
    obtain ⟨k, hkm, rfl, HJ, hk⟩ := hrel
    have kv := (hVW.keep hk ov).cell 0 rfl
    by_cases hlt : k < m
    · have hd : decide (0 ≤ (m : Int) - 1 - k) = true := decide_eq_true (by omega)
      have hle : (0 : Int) ≤ (m : Int) - 1 - k := by omega
      have htn : ((m : Int) - 1 - k).toNat = m - 1 - k := by omega
      have HB := Lib.hid (numB_bit v m k hlt hv)
      have hlen : k < (numB v m).length := by rw [numB_length]; exact hlt
      obtain ⟨fn, tmps, assign, body, hy, hRd⟩ := HY.out ((numB v m).take k) (nth false (numB v m) k) _ HJ.out (take_pre hlen)
      have HT := Lib.hid (take_succ_nth false (numB v m) k hlen)
      rw [← HB.out] at hy
      replace hy : (Instr.yield l #[.int .i64 (Go.bits .and .i64 ((v : Int) / 2 ^ (m - 1 - k)) 1)]).run Tryz.prog wr = .ok (.round l fn tmps assign body) wr := hy
      gi_wp2
      refine hRd.mono ?_
      rintro e W3 (⟨rfl, hJ3, hk3⟩ | ⟨rfl, hJx3⟩)
      · gi_wp2
        go_roundw
        case rel => exact ⟨k + 1, by omega, by go_num, by rw [HT.out]; exact Lib.hid hJ3, hk.trans hk3⟩
        case measure => simp [intOf]; omega
      · gi_wp2
        refine bodyPost_ret (results_none rfl _ _ _) rfl ?_
        exact ⟨⟨_, rfl⟩, .inr ⟨_, trivial, hJx3⟩⟩
    · obtain rfl : k = m := by omega
      have HT := Lib.hid (show (numB v k).take k = numB v k by rw [List.take_of_length_le (by rw [numB_length]; omega)])
      have hd : decide (0 ≤ (k : Int) - 1 - k) = false := decide_eq_false (by omega)
      gi_wp2
      go_end0
      exact ⟨⟨_, rfl⟩, .inl ⟨_, rfl, by rw [← HT.out]; exact HJ.out⟩⟩
end Go.Proofs.YtmcdgmiheklbeaaGreatDoor

namespace Go.Proofs.YtmcdgmiheklbeaaGreatDoor
open Go.RowKit
attribute [local go_sem] Oper.semAt_some

/-- What turns is no writer's. -/
def Other (W : World) (row : Option Nat) : Prop := ∀ r, row = some r → ∃ x : Obj, W.heap[r]? = some x ∧ x.isCells = false
theorem Blk.firm {W W' : World} {row : Option Nat} {g : Nat} {cs : Array Value} {t : TypeId} (h : Blk W g cs t) (hg : W.grownBy W' row) (hr : Other W row) : Blk W' g cs t :=
  (hg.block g h.lt (fun e => by
    obtain ⟨x, hx, hc⟩ := hr g e.symm
    rw [show W.heap[g]? = _ from h] at hx; cases hx; cases hc)).trans h
theorem OwnI.firm {W W' : World} {row : Option Nat} {n : Nat} {e : TypeId} {k : IntKind} {v : Value} {xs : List Int} (h : OwnI e k n W v xs) (hg : W.grownBy W' row) (hr : Other W row) : OwnI e k n W' v xs := by
  refine h.grown hg ?_
  rcases h.2 with ⟨rfl, _⟩ | ⟨g, cap, cur, rfl, hb, hgb, _⟩
  · exact .inl rfl
  · refine .inr fun e' => ?_
    obtain ⟨x, hx, hc⟩ := hr g (by simpa [Value.ownBlock] using e'.symm)
    rw [hgb] at hx; cases hx; cases hc
theorem WrF.firm {o : Nat → Prop} {W W' : World} {row : Option Nat} {g : Nat} {v : Value} {bs : List Bool} (h : WrF o W g v bs) (hg : W.grownBy W' row) (hr : Other W row) : WrF o W' g v bs :=
  ⟨h.blk.firm hg hr, h.row.firm hg hr, h.og, h.orow⟩
theorem Wr.firm {o : Nat → Prop} {W W' : World} {row : Option Nat} {g : Nat} {bs : List Bool} (h : Wr o W g bs) (hg : W.grownBy W' row) (hr : Other W row) : Wr o W' g bs := let ⟨v, h⟩ := h; ⟨v, h.firm hg hr⟩
/-- The blocks of a writer, and no others. -/
def foot (g : Nat) (v : Value) : Nat → Prop := fun b => b = g ∨ v.ownBlock = some b
theorem WrF.exact {o : Nat → Prop} {W : World} {g : Nat} {v : Value} {bs : List Bool} (h : WrF o W g v bs) : WrF (foot g v) W g v bs := ⟨h.blk, h.row, .inl rfl, fun b e => ⟨.inr e, (h.orow b e).2⟩⟩
theorem WrF.foot_in {o : Nat → Prop} {W : World} {g : Nat} {v : Value} {bs : List Bool} (h : WrF o W g v bs) (b : Nat) (hb : foot g v b) : o b ∧ b < W.heap.size := by
  rcases hb with rfl | e
  · exact ⟨h.og, h.blk.lt⟩
  · exact ⟨(h.orow b e).1, (h.row.lt b e).2⟩
theorem WrF.others {o : Nat → Prop} {W W' : World} {g : Nat} {v : Value} {bs : List Bool} (h : WrF o W g v bs) (hu : Upd (foot g v) W W') : KeepsOthers W W' :=
  ⟨hu.size, fun k x hx hc => (hu.blk k (Array.getElem?_eq_some_iff.1 hx).1 (fun e => by
    rcases e with rfl | e
    · rw [show W.heap[k]? = _ from h.blk] at hx; cases hx; cases hc
    · rcases h.row.2 with ⟨rfl, _⟩ | ⟨k', cap, cur, rfl, hb, hgb, _⟩
      · cases e
      · have := Option.some.inj e; simp only at this; subst this; rw [hgb] at hx; cases hx; cases hc)).trans hx⟩

structure EaI (o : Nat → Prop) (w0 : World) (g gd : Nat) (F : Value) (bs : List Bool) (W : World) : Prop where
  wr : Wr (fun b => o b ∨ (w0.heap.size ≤ b ∧ b ≠ gd)) W g bs
  box : Blk W gd #[F] 106
  upd : Upd o w0 W

set_option maxHeartbeats 4000000 in
set_option maxRecDepth 100000 in
theorem each_add0 (o : Nat → Prop) (g gn gv v m : Nat) (bs : List Bool) (w : World) (ho : ∀ b, o b → b < w.heap.size) (h : Wr o w g bs) (hN : Blk w gn #[.int .i64 (m : Int)] 3) (hV : Blk w gv #[.int .i64 (v : Int)] 3) (on : ¬ o gn) (ov : ¬ o gv) (hm : m ≤ 64) (hv : v < 4611686018427387904) (hl : bs.length ≤ 1100000) :
    Calls Tryz.prog 87 #[.func (.func 117) #[] #[.pointer (some ⟨gn, 0, none⟩), .pointer (some ⟨gv, 0, none⟩)], .func (.func 56) #[.pointer (some ⟨g, 0, none⟩)] #[]] w
      fun e w' => e = .returned (.tuple #[]) ∧ Wr (fun b => o b ∨ w.heap.size ≤ b) w' g (bs ++ numB v m) ∧ Upd o w w' := by
  refine (callsIn_wide (n := 9)).1 ?_
  refine callsIn_of_wp_marks Tryz.func87 rfl trivial ?_ rfl
  simp only [Tryz.ntmps87, List.size_toArray, List.length_cons, List.length_nil, Nat.reduceAdd, Nat.reduceSub, Array.replicate_succ, Array.replicate_zero, List.push_toArray, List.append_toArray, List.nil_append, List.cons_append]
  have H := Lib.hid h
  have HN := Lib.hid hN
  have HV := Lib.hid hV
  clear h hN hV
  gi_wp2
  have hbx := heap_alloc_new w (.cells #[.func (.func 56) #[.pointer (some ⟨g, 0, none⟩)] #[]] 106)
  have hb0 := below_alloc (Below.refl w.heap.size w) (.cells #[.func (.func 56) #[.pointer (some ⟨g, 0, none⟩)] #[]] 106)
  have hz0 : (w.alloc (.cells #[.func (.func 56) #[.pointer (some ⟨g, 0, none⟩)] #[]] 106)).heap.size = w.heap.size + 1 := World.size_alloc _ _
  obtain ⟨gd, hgd⟩ : ∃ gd, w.heap.size = gd := ⟨_, rfl⟩
  obtain ⟨W0, hW0⟩ : ∃ W0, w.alloc (.cells #[.func (.func 56) #[.pointer (some ⟨g, 0, none⟩)] #[]] 106) = W0 := ⟨_, rfl⟩
  have hgdw := hgd
  rw [hW0] at hbx hb0 hz0 ⊢
  rw [hgd] at hbx hz0
  simp only [hgd]
  have hN0 := HN.out.below hb0
  have hV0 := HV.out.below hb0
  have lN := HN.out.lt
  have lV := HV.out.lt
  have lG := H.out.lt
  have hbx : Blk W0 gd #[Value.func (.func 56) #[.pointer (some ⟨g, 0, none⟩)] #[]] 106 := hbx
  have hI0 : EaI o w g gd (Value.func (.func 56) #[.pointer (some ⟨g, 0, none⟩)] #[]) bs W0 := ⟨(H.out.below hb0).weak (fun b _ h => .inl h), hbx, Upd.of_below hb0 o⟩
  refine range_next rfl (by decide) (gf := 117) (lb := #[.pointer (some ⟨gn, 0, none⟩), .pointer (some ⟨gv, 0, none⟩)]) rfl trivial (enters_of Tryz.func117 (by kernel_rfl) rfl)
    (number1_yields gn gv v m W0 (fun b => b = gn ∨ b = gv) hN0 hV0 (.inl rfl) (.inr rfl) hm hv 8 (by decide)) (fun r h => h.elim) (fun r h => by have := hb0.size; omega) (Below.refl _ _) (fun _ => rfl)
    (fun pre W => EaI o w g gd (Value.func (.func 56) #[.pointer (some ⟨g, 0, none⟩)] #[]) (bs ++ pre) W ∧ pre.length ≤ m) (fun _ _ _ => False) ?hI (fun _ _ _ _ _ h _ _ => h) ⟨by simpa using hI0, by simp⟩
    (fun x a' W => a' = { tmps := #[.func (.func 117) #[] #[.pointer (some ⟨gn, 0, none⟩), .pointer (some ⟨gv, 0, none⟩)], .func (.func 56) #[.pointer (some ⟨g, 0, none⟩)] #[], undef, .pointer (some ⟨gd, 0, none⟩), .int .i64 (b2i x), .func (.func 117) #[] #[.pointer (some ⟨gn, 0, none⟩), .pointer (some ⟨gv, 0, none⟩)], .int .i64 (b2i x), undef, undef, undef], defers := [] })
    (fun _ _ _ _ _ _ h _ _ => h) ?assign ?body ?done (fun _ _ _ _ _ _ h _ => h.elim)
  case hI =>
    rintro s X Y row ⟨hs, hl⟩ hg hr
    have hO : Other X row := fun r e => by
      rcases hr r e with h | ⟨_, x, hx, hc⟩
      · exact h.elim
      · exact ⟨x, hx, hc⟩
    refine ⟨⟨hs.wr.firm hg hO, hs.box.firm hg hO, hs.upd.trans (Upd.of_grown (o := fun b => w.heap.size ≤ b) hg (fun r e => ?_)) (fun b hb e => by omega)⟩, hl⟩
    rcases hr r e with h | ⟨h, _⟩
    · exact h.elim
    · omega
  case assign =>
    intro l pre x W K hi _ hK
    gi_wp2
    exact hK _ _ (KeepsOthers.refl _ |>.from _) (Keep.refl _ _) hi rfl
  case body =>
    rintro l pre x a' W ⟨hs, hl'⟩ rfl hpre
    obtain ⟨vv, hw⟩ := hs.wr
    have kd := hs.box.cell 0 rfl
    have hA := Lib.hid (add_any (foot g vv) g x (bs ++ pre) W ⟨vv, hw.exact⟩ (by simp; omega))
    have HW := Lib.hid hw
    have HS := Lib.hid hs
    have hlen : (pre ++ [x]).length ≤ m := by have := hpre.length_le; rwa [numB_length] at this
    clear hw hs hI0 hN0 hV0 hbx hb0 hz0 hW0 hgd H HN HV
    gi_wp2_with (refine ⟨trivial, ?_⟩; gi_at_call 56; refine (CallsIn.inRound l (callsIn_wide.2 hA.out)).mono ?_; rintro e W3 ⟨rfl, hw3, hu3⟩)
    have hgdW := HS.out.box.lt
    have hfoot := HW.out.foot_in
    refine ⟨(HW.out.others hu3).from _, hu3.keep (fun b hb hf => ?_), ⟨?_, HS.out.box.keep (hu3.keep (ok := fun b => b = gd) (fun b hb hf => ?_)) rfl, HS.out.upd.trans hu3 (fun b hb hf => ?_)⟩, hlen⟩
    · have := (hfoot b hf).1
      rcases hb with rfl | rfl
      · rcases this with h | ⟨h, _⟩
        · exact on h
        · omega
      · rcases this with h | ⟨h, _⟩
        · exact ov h
        · omega
    · rw [← List.append_assoc]
      exact hw3.weak (fun b _ h => by
        rcases h with h | h
        · exact (hfoot b h).1
        · exact .inr ⟨by have := HS.out.upd.size; omega, by omega⟩)
    · have := (hfoot b hf).1
      rcases this with h | ⟨_, h⟩
      · have := ho b h; omega
      · exact h hb
    · rcases (hfoot b hf).1 with h | ⟨h, _⟩
      · exact h
      · omega
  case done =>
    rintro D xs W hD rfl ⟨hs, _⟩ hK
    gi_wp2
    have hO : Other W (some D) := fun r e => by cases e; exact ⟨_, hK, rfl⟩
    refine ⟨by simp, .inl ⟨_, _, rfl, run_takeDeferred hK, ?_⟩⟩
    refine ⟨_, results_none rfl _ _ _, rfl, (hs.wr.firm (grownBy_putObj' W D _) hO).weak (fun b _ h => ?_), hs.upd.trans (Upd.of_grown (o := fun b => b = D) (grownBy_putObj' W D _) (fun r e => by cases e; rfl)) (fun b hb e => ?_)⟩
    · rcases h with h | h
      · exact .inl h
      · exact .inr h.1
    · omega
theorem each_add (o : Nat → Prop) (g gn gv v m : Nat) (bs : List Bool) (w : World) (h : Wr o w g bs) (hN : Blk w gn #[.int .i64 (m : Int)] 3) (hV : Blk w gv #[.int .i64 (v : Int)] 3) (on : ¬ o gn) (ov : ¬ o gv) (hm : m ≤ 64) (hv : v < 4611686018427387904) (hl : bs.length ≤ 1100000) :
    Calls Tryz.prog 87 #[.func (.func 117) #[] #[.pointer (some ⟨gn, 0, none⟩), .pointer (some ⟨gv, 0, none⟩)], .func (.func 56) #[.pointer (some ⟨g, 0, none⟩)] #[]] w
      fun e w' => e = .returned (.tuple #[]) ∧ Wr (fun b => o b ∨ w.heap.size ≤ b) w' g (bs ++ numB v m) ∧ Upd o w w' :=
  (each_add0 (fun b => o b ∧ b < w.heap.size) g gn gv v m bs w (fun _ h => h.2) h.cut hN hV (fun h => on h.1) (fun h => ov h.1) hm hv hl).mono
    fun _ _ ⟨h1, h2, h3⟩ => ⟨h1, h2.weak (fun _ _ h => h.imp And.left id), h3.weak (fun _ _ h => h.1)⟩
end Go.Proofs.YtmcdgmiheklbeaaGreatDoor

namespace Go.Proofs.YtmcdgmiheklbeaaGreatDoor
open Go.RowKit

/-- What a writer that has bs answers where more bits come, and what it has then. -/
def fullE (n m : Nat) : Int := if 1048576 < n + m then 2 else 0
def fullB (bs more : List Bool) : List Bool := if 1048576 < bs.length + more.length then bs else bs ++ more
abbrev kField : Kd (Int × Int) := kPair (kInt .i64) (kInt .i64)
def putB (fs : List (Int × Int)) : List Bool := fs.flatMap fun f => numB f.1.toNat f.2.toNat
def putN (fs : List (Int × Int)) : Nat := (fs.map fun f => f.2.toNat).sum
def FieldOk (f : Int × Int) : Prop := 0 ≤ f.1 ∧ f.1 < 4611686018427387904 ∧ 0 ≤ f.2 ∧ f.2 ≤ 64
theorem putB_length (fs : List (Int × Int)) : (putB fs).length = putN fs := by
  simp [putB, putN, List.length_flatMap, numB_length]
theorem putN_take {fs : List (Int × Int)} {k : Nat} (h : k < fs.length) : putN (fs.take (k + 1)) = putN (fs.take k) + (nth (0, 0) fs k).2.toNat := by
  rw [take_succ_nth (0, 0) fs k h]; simp [putN]
theorem putB_take {fs : List (Int × Int)} {k : Nat} (h : k < fs.length) : putB (fs.take (k + 1)) = putB (fs.take k) ++ numB (nth (0, 0) fs k).1.toNat (nth (0, 0) fs k).2.toNat := by
  rw [take_succ_nth (0, 0) fs k h]; simp [putB]
theorem putN_le (fs : List (Int × Int)) (k : Nat) : putN (fs.take k) ≤ putN fs := by
  have h : putN fs = putN (fs.take k) + putN (fs.drop k) := by
    simp [putN, ← List.sum_append, List.take_append_drop]
  omega
theorem putN_bd {fs : List (Int × Int)} (h : ∀ f ∈ fs, FieldOk f) : putN fs ≤ 64 * fs.length := by
  induction fs with
  | nil => simp [putN]
  | cons f fs ih =>
    have h1 := ih fun x hx => h x (List.mem_cons_of_mem _ hx)
    obtain ⟨_, _, _, h2⟩ := h f List.mem_cons_self
    simp only [putN, List.map_cons, List.sum_cons, List.length_cons] at h1 ⊢
    omega
theorem rd_field {ok : Nat → Prop} {w : World} {A : Option Addr} {c : Nat} {fs : List (Int × Int)} (h : Sl kField ok w A c fs) (j : Nat) (hj : j < fs.length) :
    ∃ ad, A = some ad ∧ w.cell? (ad.add (j * 2)) = some (.int .i64 (nth (0, 0) fs j).1) ∧ w.cell? ⟨(ad.add (j * 2)).block, (ad.add (j * 2)).off + 1, none⟩ = some (.int .i64 (nth (0, 0) fs j).2) := by
  obtain ⟨ad, cs, e, _, _, ⟨c1, c2, rfl, h1, h2⟩, hc⟩ := h.rd j hj
  obtain rfl : c1 = _ := h1
  obtain rfl : c2 = _ := h2
  have h3 := hc 1 _ rfl
  rw [← add_add] at h3
  exact ⟨ad, e, hc 0 _ rfl, h3⟩

set_option maxHeartbeats 2000000 in
set_option maxRecDepth 100000 in
theorem put_any (o : Nat → Prop) (g : Nat) (A : Option Addr) (c : Nat) (fs : List (Int × Int)) (bs : List Bool) (w : World) (h : Wr o w g bs) (hS : Sl kField (fun b => ¬ o b) w A c fs) (hf : ∀ f ∈ fs, FieldOk f) (hn : fs.length ≤ 1000) (hl : bs.length ≤ 1048576) :
    Calls Tryz.prog 58 #[.pointer (some ⟨g, 0, none⟩), .slice A fs.length c] w
      fun e w' => e = .returned (.int .i64 (fullE bs.length (putN fs))) ∧ Wr (fun b => o b ∨ w.heap.size ≤ b) w' g (fullB bs (putB fs)) ∧ Upd o w w' := by
  have hpn := putN_bd hf
  have HF := Lib.hid hf
  have H := Lib.hid h
  clear hf h
  go_enter Tryz.func58, Tryz.ntmps58
  go_wp2
  go_loopw [5, 12] (fun s i wr => ∃ k : Nat, k ≤ fs.length ∧ i = .int .i64 k ∧ s = .int .i64 (putN (fs.take k) : Nat) ∧ Below w.heap.size w wr) (fun _ i _ => fs.length - (intOf i).toNat)
  case atStart => exact ⟨0, Nat.zero_le _, rfl, rfl, Below.refl _ _⟩
  case round =>
    obtain ⟨k, hk, rfl, rfl, hB⟩ := hrel
    by_cases hlt : k < fs.length
    · obtain ⟨ad, rfl, hc0, hc1⟩ := rd_field (hS.below hB) k hlt
      have h1 := putN_take hlt
      have h2 := putN_le fs (k + 1)
      have h3 := HF.out _ (nth_mem (0, 0) fs k hlt)
      obtain ⟨f1, f2, f3, f4⟩ := h3
      have H1 := Lib.hid h1
      have H2 := Lib.hid h2
      clear h1 h2
      go_wp2
      go_roundw
      case rel => exact ⟨k + 1, by omega, by go_num, by have := H1.out; have := H2.out; rw [IntWalk.wrap64_in _ (by omega)]; go_num, hB.alloc hB.size _⟩
      case measure => simp [intOf]; omega
    · obtain rfl : k = fs.length := by omega
      rw [List.take_length]
      have H1 := H.out.below hB
      obtain ⟨v, h1⟩ := H1
      have k0 := h1.blk.cell 0 rfl
      have k1 := h1.blk.cell 1 rfl
      by_cases hov : 1048576 < bs.length + putN fs
      · have hd : decide ((1048576 : Int) < (bs.length : Int) + (putN fs : Int)) = true := decide_eq_true (by omega)
        have HV := Lib.hid h1
        clear h1
        go_wp2
        go_ret
        exact ⟨ret_int (by unfold fullE; rw [if_pos hov]), by unfold fullB; rw [putB_length, if_pos hov]; exact ⟨v, HV.out.weak fun b _ h => .inl h⟩, Upd.of_below hB o⟩
      · have hd : decide ((1048576 : Int) < (bs.length : Int) + (putN fs : Int)) = false := decide_eq_false (by omega)
        have HV := Lib.hid h1
        have hS1 := hS.below hB
        clear h1
        go_wp2
        clear k0 k1 hd
        have hle : bs.length + putN fs ≤ 1048576 := by omega
        have HOV := Lib.hid hov
        clear hov
        go_loopw [30] (fun i wq => ∃ k : Nat, k ≤ fs.length ∧ i = .int .i64 k ∧ Wr (fun b => o b ∨ w.heap.size ≤ b) wq g (bs ++ putB (fs.take k)) ∧ Upd o w wq) (fun i _ => fs.length - (intOf i).toNat)
        case atStart => exact ⟨0, Nat.zero_le _, rfl, by simpa [putB] using ⟨v, HV.out.weak fun b _ h => .inl h⟩, Upd.of_below hB o⟩
        case round =>
          obtain ⟨k, hk, rfl, hw, hU⟩ := hrel
          by_cases hlt : k < fs.length
          · obtain ⟨ad, rfl, hc0, hc1⟩ := rd_field (hS.keep (hU.keep fun b h => h)) k hlt
            have h1 := putN_take hlt
            have h2 := putN_le fs (k + 1)
            have h3 := HF.out _ (nth_mem (0, 0) fs k hlt)
            obtain ⟨f1, f2, f3, f4⟩ := h3
            have h4 := putB_take hlt
            obtain ⟨x, y, hxy⟩ : ∃ x y, nth (0, 0) fs k = (x, y) := ⟨_, _, rfl⟩
            rw [hxy] at hc0 hc1 f1 f2 f3 f4 h1 h4
            simp only at hc0 hc1 f1 f2 f3 f4 h1 h4
            obtain ⟨vv, rfl⟩ := Int.eq_ofNat_of_zero_le f1
            obtain ⟨m, rfl⟩ := Int.eq_ofNat_of_zero_le f3
            rw [Int.toNat_natCast] at h1
            rw [Int.toNat_natCast, Int.toNat_natCast] at h4
            obtain ⟨vw, hwf⟩ := hw
            have hlen : (bs ++ putB (fs.take k)).length ≤ 1048576 := by rw [List.length_append, putB_length]; omega
            have HWF := Lib.hid hwf
            have HUU := Lib.hid hU
            have H4 := Lib.hid h4
            have HL := Lib.hid hlen
            clear h1 h2 h4 hxy hwf hU hlen
            go_wp2_with (first
              | (go_at_call 88; refine (number_any _ _ _).mono ?_; rintro e w2 ⟨gn, gv, rfl, e1, e2, e3, bn, bv, b2⟩; have b2' := below2 (below_alloc (Below.refl wr.heap.size wr) (.cells #[.int .i64 (vv : Int), .int .i64 (m : Int)] 110)) b2; have hev : wr.heap.size < gv := by { have := e1.out; simp at this; omega }; have HC := Lib.hid (each_add (foot g vw) g gn gv vv m (bs ++ putB (fs.take k)) w2 ⟨vw, HWF.out.exact.below b2'⟩ bn bv (fun h => by { have := (HWF.out.foot_in _ h).2; have := e2.out; omega }) (fun h => by { have := (HWF.out.foot_in _ h).2; omega }) (by omega) (by omega) (by have := HL.out; omega)); clear bn bv e1 e2 e3)
              | (go_at_call 87; refine HC.out.mono ?_; rintro e w3 ⟨rfl, hw3, hu3⟩))
            go_roundw
            case rel =>
              refine ⟨k + 1, by omega, by go_num, ?_, ?_⟩
              · rw [H4.out, ← List.append_assoc]
                refine hw3.weak fun b _ h => ?_
                rcases h with h | h
                · exact (HWF.out.foot_in b h).1
                · exact .inr (by have := b2'.size; have := HUU.out.size; omega)
              · refine HUU.out.trans ((Upd.of_below b2' (foot g vw)).trans hu3 fun b _ h => h) fun b hb h => ?_
                rcases (HWF.out.foot_in b h).1 with h | h
                · exact h
                · omega
            case measure => simp [intOf]; omega
          · obtain rfl : k = fs.length := by omega
            rw [List.take_length] at hw
            have HW := Lib.hid hw
            have HU := Lib.hid hU
            clear hw hU
            go_wp2
            go_ret
            exact ⟨ret_int (by unfold fullE; rw [if_neg HOV.out]), by unfold fullB; rw [putB_length, if_neg HOV.out]; exact HW.out, HU.out⟩
end Go.Proofs.YtmcdgmiheklbeaaGreatDoor

namespace Go.Proofs.YtmcdgmiheklbeaaGreatDoor
open Go.RowKit

theorem lit_field {o : Nat → Prop} (W : World) (e : TypeId) (v n : Int) (ho : ¬ o W.heap.size) :
    Sl kField (fun b => ¬ o b) (W.alloc (.cells #[.int .i64 v, .int .i64 n] e)) (some ⟨W.heap.size, 0, none⟩) 1 [(v, n)] := by
  refine ⟨Nat.le_refl _, by omega, fun j hj => ?_⟩
  obtain rfl : j = 0 := by simp at hj; omega
  refine ⟨_, _, rfl, ho, by simp, ⟨_, _, rfl, rfl, rfl⟩, fun i x hx => ?_⟩
  match i, hx with
  | 0, hx => simp at hx; subst hx; simp [kPair, kInt, Addr.add, nth]
  | 1, hx => simp at hx; subst hx; simp [kPair, kInt, Addr.add, nth]
theorem putB_one (v n : Nat) : putB [((v : Int), (n : Int))] = numB v n := by simp [putB]
theorem putN_one (v n : Nat) : putN [((v : Int), (n : Int))] = n := by simp [putN]

set_option maxHeartbeats 1000000 in
set_option maxRecDepth 100000 in
theorem wput_any (o : Nat → Prop) (g v n : Nat) (bs : List Bool) (w : World) (h : Wr o w g bs) (hl : bs.length ≤ 1048576) (hn : n ≤ 32) (hv : v < 2 ^ n) :
    Calls Tryz.prog 31 #[.pointer (some ⟨g, 0, none⟩), .int .i64 (v : Int), .int .i64 (n : Int)] w
      fun e w' => e = .returned (.int .i64 (fullE bs.length n)) ∧ Wr (fun b => o b ∨ w.heap.size ≤ b) w' g (fullB bs (numB v n)) ∧ Upd o w w' := by
  have hp : 2 ^ n ≤ 4294967296 := by have := Nat.pow_le_pow_right (n := 2) (by decide) hn; simpa using this
  obtain ⟨P, hP⟩ : ∃ P : Nat, 2 ^ n = P := ⟨_, rfl⟩
  have hPi : (2 : Int) ^ n = (P : Int) := by rw [← hP]; simp
  rw [hP] at hv hp
  have hd1 : decide ((32 : Int) < (n : Int)) = false := decide_eq_false (by omega)
  have hd2 : decide ((P : Int) ≤ (v : Int)) = false := decide_eq_false (by omega)
  have w1 : IntKind.i64.wrap (2 ^ n) = (P : Int) := by rw [hPi]; exact IntWalk.i64_in _ (by omega)
  have hc := h.cut
  have H := Lib.hid h
  have HP := Lib.hid hP
  have hw1 := (h.cut.below (below_alloc (Below.refl w.heap.size w) (.cells #[.int .i64 (v : Int), .int .i64 (n : Int)] 110)))
  have HC := Lib.hid (put_any (fun b => o b ∧ b < w.heap.size) g _ 1 [((v : Int), (n : Int))] bs _ hw1 (lit_field w 110 v n (fun h => by have := h.2; omega)) (by
    intro f hf
    rw [List.mem_singleton] at hf
    subst hf
    exact ⟨Int.natCast_nonneg _, by show (v : Int) < _; omega, Int.natCast_nonneg _, by show (n : Int) ≤ _; omega⟩) (by simp) hl)
  rw [putB_one, putN_one] at HC
  clear h hP hPi hc hw1
  go_enter Tryz.func31, Tryz.ntmps31
  go_wp2_with (go_at_call 58; refine HC.out.mono ?_; rintro e w2 ⟨rfl, hw2, hu2⟩)
  go_ret
  refine ⟨rfl, hw2.weak fun b _ h => ?_, (Upd.alloc (fun b => o b) w _).trans (hu2.weak (o' := o) fun b _ h => h.1) fun _ _ h => h⟩
  rcases h with h | h
  · exact .inl h.1
  · exact .inr (by simp at h; omega)

set_option maxHeartbeats 400000 in
theorem wlen_any (o : Nat → Prop) (g : Nat) (bs : List Bool) (w : World) (h : Wr o w g bs) :
    Calls Tryz.prog 23 #[.pointer (some ⟨g, 0, none⟩)] w fun e w' => e = .returned (.int .i64 bs.length) ∧ w = w' := by
  obtain ⟨v, h⟩ := h
  have k0 := h.blk.cell 0 rfl
  have k1 := h.blk.cell 1 rfl
  go_enter Tryz.func23, Tryz.ntmps23
  go_wp2
  go_ret
  exact ⟨rfl, rfl⟩

/-- append(v, ys...) as a step of a drawn region. -/
theorem step_append_row {P : Program} {ops : Array Oper} {o : Oper} {a : Act} {Q : Exit → Act → World → Prop} {E : Prop} {K : Act → World → Prop} {W : World} (base : Nat) (hgd : o.guard = none) (s x : Operand) (t e : TypeId) (k : IntKind) (bytes : Nat)
    (ho : o.op = .call { callee := .builtin .append, args := #[s, x], argTypes := #[t, t] })
    (ht : P.underlying t = some (.slice e)) (hinfo : (P.info? e).map (fun i => (i.zero, i.size, i.bytes)) = some (some (.int k 0), 1, bytes)) (hb0 : 0 < bytes)
    (v : Value) (xs ys : List Int) (A : Option Addr) (c : Nat) {ok : Nat → Prop} (hs : a.eval s = v) (hx : a.eval x = .slice A ys.length c)
    (HO : OwnI e k base W v xs) (HR : Sl (kInt k) ok W A c ys) (hbase : base ≤ W.heap.size) (hl : (xs.length + ys.length) * bytes ≤ 140737488355328)
    (h : ∀ v1 w1, OwnI e k base w1 v1 (xs ++ ys) → W.grownBy w1 v.ownBlock → (v1.ownBlock = v.ownBlock ∨ ∃ b, v1.ownBlock = some b ∧ W.heap.size ≤ b) → K (a.put o.dst v1) w1) :
    if Region.wanted o (yielded ops a.tmps) = true then Oper.wp P o a W K Q else E := by
  obtain ⟨v1, w1, hr, hown, hg, hat⟩ := run_append_row (P := P) base t o.type e k bytes ht hinfo hb0 v xs ys A c HO HR hbase hl
  rw [if_pos (by simp [Region.wanted, hgd])]
  unfold Oper.wp execOp
  simp only [ho, resolve, invoke, builtin, Sem.run_bind, Sem.run_pure, Result.andThen_ok, List.map_toArray, List.map_cons, List.map_nil, hs, hx, hr]
  exact h v1 w1 hown hg hat
theorem Sl.fit {α : Type} {k : Kd α} {ok : Nat → Prop} {w : World} {A : Option Addr} {c : Nat} {xs : List α} (h : Sl k ok w A c xs) {n : Nat} (h1 : xs.length ≤ n) (h2 : n ≤ c) : Sl k ok w A n xs := ⟨h1, Nat.le_trans h2 h.cap, h.rd⟩
theorem own_empty (W : World) (e : TypeId) (k : IntKind) : OwnI e k W.heap.size ((W.alloc (.cells #[] e)).drew) (.slice (some ⟨W.heap.size, 0, none⟩) 0 0) [] := (own_lit W e k [] (by simp)).below (Below.refl _ _).drew

set_option maxHeartbeats 2000000 in
set_option maxRecDepth 100000 in
theorem wbytes_any (o : Nat → Prop) (g : Nat) (bs : List Bool) (w : World) (h : Wr o w g bs) (hl : bs.length ≤ 2000000) :
    Calls Tryz.prog 22 #[.pointer (some ⟨g, 0, none⟩)] w fun e w' => ∃ v, e = .returned v ∧ OwnI 5 .u8 w.heap.size w' v (packB bs) ∧ Below w.heap.size w w' := by
  obtain ⟨v, h⟩ := h
  have k0 := h.blk.cell 0 rfl
  have k1 := h.blk.cell 1 rfl
  have hlen := packB_length bs
  have hglt := h.blk.lt
  rcases h.row.2 with ⟨rfl, h0⟩ | ⟨r, cap, cur, rfl, _, _, hnc, hm, _⟩
  · have hnil : packB bs = [] := List.eq_nil_of_length_eq_zero h0
    · go_enter Tryz.func22, Tryz.ntmps22
      go_wp2
      go_region_held3 (fun W => W.cell? ⟨g, 0, none⟩ = some (.slice none 0 0)) (first | go_keep | (rw [hg1.cell_far _ (by simp; omega) (fun e => by have := Option.some.inj e; simp at this; omega)]; assumption)) ((refine step_append_row w.heap.size (by rfl) (.tmp 5) (.tmp 20) 31 5 .u8 1 (by rfl) Tryz.underlying31 infoY (by decide) _ [] [] none 0 (by rfl) (by rfl) (own_empty w _ _) ⟨Nat.le_refl _, by omega, Kd.Rd.nil _ _ _ _⟩ (by simp) (by simp) ?_; intro v1 w1 hO1 hg1 hat1))
      go_wp2
      go_ret
      exact ⟨_, rfl, by rw [hnil]; exact own_empty w _ _, (below_alloc (Below.refl _ _) _).drew⟩
  · have hs := own_sl h.row
    have hle : ((packB bs).length : Int) ≤ (cap : Int) := by have := hs.le; omega
    have hcap := hs.cap
    obtain ⟨n, hn⟩ : ∃ n, (packB bs).length = n := ⟨_, rfl⟩
    rw [hn] at hlen k0 hle
    have HN := Lib.hid hn
    have HS := Lib.hid (hs.fit (n := n) (by omega) (by omega))
    have HB := Lib.hid h
    have hn0 : (0 : Int) ≤ (n : Int) := by omega
    have HLEN := Lib.hid hlen
    clear hn hs h hlen k1 hnc hm
    go_enter Tryz.func22, Tryz.ntmps22
    go_wp2
    go_region_held3 (fun W => W.cell? ⟨g, 0, none⟩ = some (.slice (some ⟨r, 0, none⟩) n cap)) (first | go_keep | (rw [hg1.cell_far _ (by simp; omega) (fun e => by have := Option.some.inj e; simp at this; omega)]; assumption)) ((refine step_append_row w.heap.size (by rfl) (.tmp 5) (.tmp 20) 31 5 .u8 1 (by rfl) Tryz.underlying31 infoY (by decide) _ [] (packB bs) (some ⟨r, 0, none⟩) n (by rfl) (by rw [HN.out]; rfl) (own_empty w _ _) (HS.out.below ((below_alloc (Below.refl w.heap.size w) (.cells #[] 5)).drew)) (by simp) (by simp; have := HLEN.out; have := HN.out; omega) ?_; intro v1 w1 hO1 hg1 hat1))
    go_wp2
    go_ret
    exact ⟨_, rfl, hO1, below_grown ((below_alloc (Below.refl w.heap.size w) (.cells #[] 5)).drew) (by simp) hg1 (fun k e => by have := Option.some.inj e; simp at this; omega)⟩
end Go.Proofs.YtmcdgmiheklbeaaGreatDoor

namespace Go.Proofs.YtmcdgmiheklbeaaGreatDoor
open Go.RowKit

/-- A reader over these bits, at a place; o: its blocks. -/
def Rr (o : Nat → Prop) (w : World) (g : Nat) (l : List Bool) (at_ : Nat) : Prop :=
  ∃ A c bb, Blk w g #[.slice A bb.length c, .int .i64 l.length, .int .i64 at_] 100 ∧ Sl (kInt .u8) (fun b => o b ∧ b ≠ g) w A c bb ∧ (∀ x ∈ bb, 0 ≤ x ∧ x < 256) ∧ l.length ≤ 8 * bb.length ∧ l = ofB bb l.length ∧ at_ ≤ l.length ∧ l.length ≤ 1048576 ∧ o g
section
variable {o o' : Nat → Prop} {w w' : World} {g : Nat} {l : List Bool} {at_ : Nat}
theorem Rr.lt (h : Rr o w g l at_) : g < w.heap.size := let ⟨_, _, _, h, _⟩ := h; h.lt
theorem Rr.og (h : Rr o w g l at_) : o g := let ⟨_, _, _, _, _, _, _, _, _, _, h⟩ := h; h
theorem Rr.le (h : Rr o w g l at_) : at_ ≤ l.length := let ⟨_, _, _, _, _, _, _, _, h, _, _⟩ := h; h
theorem Rr.bound (h : Rr o w g l at_) : l.length ≤ 1048576 := let ⟨_, _, _, _, _, _, _, _, _, h, _⟩ := h; h
theorem Rr.weak (h : Rr o w g l at_) (ho : ∀ b, b < w.heap.size → o b → o' b) : Rr o' w g l at_ := by
  obtain ⟨A, c, bb, h1, h2, h3, h4, h5, h6, h7, h8⟩ := h
  exact ⟨A, c, bb, h1, h2.weak fun b hb h => ⟨ho b hb h.1, h.2⟩, h3, h4, h5, h6, h7, ho g h1.lt h8⟩
theorem Rr.keep (h : Rr o w g l at_) {ok : Nat → Prop} (hk : Keep ok w w') (ho : ∀ b, o b → ok b) : Rr o w' g l at_ := by
  obtain ⟨A, c, bb, h1, h2, h3, h4, h5, h6, h7, h8⟩ := h
  exact ⟨A, c, bb, h1.keep hk (ho g h8), (h2.keep (hk.weak fun b hb => ho b hb.1)), h3, h4, h5, h6, h7, h8⟩
theorem Rr.cut (h : Rr o w g l at_) : Rr (fun b => o b ∧ b < w.heap.size) w g l at_ := h.weak fun _ hb ho => ⟨ho, hb⟩
theorem Rr.upd {o2 : Nat → Prop} (h : Rr o w g l at_) (hu : Upd o2 w w') (ho : ∀ b, b < w.heap.size → o b → ¬ o2 b) : Rr o w' g l at_ := by
  have h1 : Rr (fun b => o b ∧ b < w.heap.size) w' g l at_ := h.cut.keep (hu.keep (ok := fun b => ¬ o2 b) fun _ hb => hb) (fun b e => ho b e.2 e.1)
  exact h1.weak (fun b _ e => e.1)
theorem Rr.below (h : Rr o w g l at_) (hb : Below w.heap.size w w') : Rr o w' g l at_ := h.upd (o2 := fun _ => False) (Upd.of_below hb _) (fun _ _ _ h => h)
theorem Rr.move (h : Rr o w g l at_) (j N : Nat) (hj : j ≤ l.length) : Rr o ((w.setCell ⟨g, 2, none⟩ (.int .i64 (j : Int))).drewN N) g l j ∧ Upd (fun b => b = g) w ((w.setCell ⟨g, 2, none⟩ (.int .i64 (j : Int))).drewN N) := by
  obtain ⟨A, c, bb, h1, h2, h3, h4, h5, h6, h7, h8⟩ := h
  refine ⟨⟨A, c, bb, (h1.set 2 (.int .i64 (j : Int))).below (below_drewN (Below.refl _ _) N), (h2.keep (ok := fun b => o b ∧ b ≠ g) (Keep.of_grown1 (grown_setCell w g 2 _) |>.weak fun b hb => hb.2)).drewN N, h3, h4, h5, hj, h7, h8⟩, ?_⟩
  exact (Upd.setCell (fun b => b = g) w g 2 _ rfl).trans (Upd.drewN _ _ N) fun _ _ h => h
end
theorem or_two (x : Nat) (b : Bool) (h : x < 1152921504606846976) : Go.bits .or .i64 ((x : Int) * 2) (b2i b) = ((2 * x + b.toNat : Nat) : Int) := by
  have hb := b2i_bd b
  have h63 : (2 : Int) ^ 63 = 9223372036854775808 := by decide
  rw [bits_join .i64 63 (by decide) (fun n h0 h1 => by rw [IntKind.wrap_i64]; omega) 1 _ _ (by omega) (by simp) (by rw [h63]; omega) hb.1 (by simp; omega) (by rw [h63]; omega), b2i_nat]
  omega
theorem bit_same (A : Option Addr) (c : Nat) (b : List Int) (i : Nat) (w : World) (hS : RY w A c b) (hb : ∀ x ∈ b, 0 ≤ x ∧ x < 256) (hi : i / 8 < b.length) :
    Calls Tryz.prog 57 #[.slice A b.length c, .int .i64 (i : Int)] w fun e w' => e = .returned (.int .i64 (b2i (bitB b i))) ∧ w' = w :=
  (bit_any A c b i w hS hb hi).mono fun _ _ ⟨h1, h2⟩ => ⟨h1, h2.symm⟩
theorem ofB_drop_take {bb : List Int} {n i k : Nat} (h : i + k < n) : ((ofB bb n).drop i).take (k + 1) = ((ofB bb n).drop i).take k ++ [bitB bb (i + k)] := by
  rw [take_succ_nth false _ k (by rw [List.length_drop, ofB_length]; omega), nth_drop, ofB_nth _ _ _ h]

set_option maxHeartbeats 2000000 in
set_option maxRecDepth 100000 in
theorem rnext_any (o : Nat → Prop) (g i n : Nat) (l : List Bool) (w : World) (h : Rr o w g l i) (hn : i + n ≤ l.length) (hm : n ≤ 40) :
    Calls Tryz.prog 127 #[.pointer (some ⟨g, 0, none⟩), .int .i64 (n : Int)] w
      fun e w' => e = .returned (.int .i64 (valB ((l.drop i).take n) : Nat)) ∧ Rr o w' g l (i + n) ∧ Upd (fun b => b = g) w w' := by
  have H := Lib.hid h
  have hlb := h.bound
  clear h
  go_enter Tryz.func127, Tryz.ntmps127
  go_wp2
  go_loopw [5, 7] (fun v j wr => ∃ k : Nat, k ≤ n ∧ j = .int .i64 k ∧ v = .int .i64 (valB ((l.drop i).take k) : Nat) ∧ Rr o wr g l (i + k) ∧ Upd (fun b => b = g) w wr) (fun _ j _ => n - (intOf j).toNat)
  case atStart => exact ⟨0, Nat.zero_le _, rfl, rfl, H.out, Upd.refl _ _⟩
  case round =>
    obtain ⟨k, hk, rfl, rfl, hR, hU⟩ := hrel
    by_cases hlt : k < n
    · obtain ⟨A, c, bb, h1, h2, h3, h4, h5, h6, h7, h8⟩ := hR
      have k0 := h1.cell 0 rfl
      have k1 := h1.cell 1 rfl
      have k2 := h1.cell 2 rfl
      have f2 := h1.free 2
      have hv := valB_lt ((l.drop i).take k)
      have hlen : ((l.drop i).take k).length = k := by rw [List.length_take, List.length_drop]; omega
      rw [hlen] at hv
      have hp : 2 ^ k ≤ 1099511627776 := by have := Nat.pow_le_pow_right (n := 2) (by decide) (show k ≤ 40 by omega); simpa using this
      have ht : ((l.drop i).take (k + 1)) = (l.drop i).take k ++ [bitB bb (i + k)] := by rw [h5]; exact ofB_drop_take (by omega)
      obtain ⟨x, hx⟩ : ∃ x, valB ((l.drop i).take k) = x := ⟨_, rfl⟩
      rw [hx] at hv
      have HV := Lib.hid (show valB ((l.drop i).take (k + 1)) = 2 * x + (bitB bb (i + k)).toNat by rw [ht, valB_snoc, hx])
      have HO := Lib.hid (or_two x (bitB bb (i + k)) (by omega))
      have hw1 : IntKind.i64.wrap ((x : Int) * 2) = (x : Int) * 2 := IntWalk.i64_in _ (by omega)
      have HB := Lib.hid (fun W (hW : RY W A c bb) => bit_same A c bb (i + k) W hW h3 (by omega))
      have HR := Lib.hid h2
      have H1 := Lib.hid h1
      have HS := Lib.hid (show (∀ x ∈ bb, 0 ≤ x ∧ x < 256) ∧ l.length ≤ 8 * bb.length ∧ l = ofB bb l.length ∧ i + k ≤ l.length ∧ l.length ≤ 1048576 ∧ o g from ⟨h3, h4, h5, h6, h7, h8⟩)
      have HX := Lib.hid hx
      have HU := Lib.hid hU
      rw [hx]
      have hik : (0 : Int) ≤ ((i + k : Nat) : Int) := by omega
      obtain ⟨q, hq⟩ : ∃ q, i + k = q := ⟨_, rfl⟩
      rw [hq] at k2 HB HO HV HS hik h6 H1
      have HQ := Lib.hid hq
      clear hx ht h1 h2 h3 h4 h5 h8 hU hlen hv hp hq
      go_wp2
      go_quiet ((go_at_call 57; exact Calls.quiet_of_same (HB.out _ ((HR.out.any).drewN _))))
      rw [HO.out]
      clear hw1
      go_wp2
      go_roundw
      case rel =>
        have hr : Rr o wr g l q := ⟨A, c, bb, H1.out, HR.out, HS.out.1, HS.out.2.1, HS.out.2.2.1, h6, h7, HS.out.2.2.2.2.2⟩
        have hqn := HQ.out
        obtain ⟨m1, m2⟩ := hr.move (q + 1) nq (by omega)
        have e1 : ((q : Int) + 1) = ((q + 1 : Nat) : Int) := by omega
        refine ⟨k + 1, by omega, by go_num, by rw [HV.out], ?_, ?_⟩
        · rw [e1, ← Nat.add_assoc, hqn]; exact m1
        · rw [e1]; exact HU.out.trans m2 fun _ _ h => h
      case measure => simp [intOf]; omega
    · obtain rfl : k = n := by omega
      have HU := Lib.hid hU
      have HR := Lib.hid hR
      clear hU hR
      go_wp2
      go_ret
      exact ⟨rfl, HR.out, HU.out⟩

def getE (l : List Bool) (i n : Nat) : Int := if l.length < i + n then 3 else 0
def getV (l : List Bool) (i n : Nat) : Nat := if l.length < i + n then 0 else valB ((l.drop i).take n)
def getI (l : List Bool) (i n : Nat) : Nat := if l.length < i + n then i else i + n
theorem Rr.cells {o : Nat → Prop} {w : World} {g i : Nat} {l : List Bool} (h : Rr o w g l i) : (∃ A c bb, w.cell? ⟨g, 0, none⟩ = some (.slice A bb c)) ∧ w.cell? ⟨g, 1, none⟩ = some (.int .i64 l.length) ∧ w.cell? ⟨g, 2, none⟩ = some (.int .i64 i) ∧ w.frozen? ⟨g, 2, none⟩ = false := by
  obtain ⟨A, c, bb, h1, _⟩ := h
  exact ⟨⟨_, _, _, h1.cell 0 rfl⟩, h1.cell 1 rfl, h1.cell 2 rfl, h1.free 2⟩

set_option maxHeartbeats 1000000 in
set_option maxRecDepth 100000 in
theorem rget_any (o : Nat → Prop) (g i n : Nat) (l : List Bool) (w : World) (h : Rr o w g l i) (hm : n ≤ 32) :
    Calls Tryz.prog 109 #[.pointer (some ⟨g, 0, none⟩), .int .i64 (n : Int)] w
      fun e w' => e = .returned (.tuple #[.int .i64 (getV l i n), .int .i64 (getE l i n)]) ∧ Rr o w' g l (getI l i n) ∧ Upd (fun b => b = g) w w' := by
  obtain ⟨_, k1, k2, _⟩ := h.cells
  have hlb := h.bound
  have hi := h.le
  have hd1 : decide ((32 : Int) < (n : Int)) = false := decide_eq_false (by omega)
  have hn0 : (0 : Int) ≤ (n : Int) := by omega
  have hw1 : IntKind.i64.wrap ((l.length : Int) - (i : Int)) = (l.length : Int) - (i : Int) := IntWalk.i64_in _ (by omega)
  by_cases hs : l.length < i + n
  · have hd2 : decide ((l.length : Int) - (i : Int) < (n : Int)) = true := decide_eq_true (by omega)
    have H := Lib.hid h
    have HS := Lib.hid (show getE l i n = 3 ∧ getV l i n = 0 ∧ getI l i n = i by unfold getE getV getI; simp [hs])
    clear h hs hlb hi hm
    go_enter Tryz.func109, Tryz.ntmps109
    go_wp2
    go_quiet (fail)
    go_wp2
    go_ret2
    exact ⟨ret_two (by rw [HS.out.2.1]; rfl) (by rw [HS.out.1]; rfl), by rw [HS.out.2.2]; exact H.out.upd (Upd.drewN (fun _ => False) _ _) (fun _ _ _ h => h), Upd.drewN _ _ _⟩
  · have hd2 : decide ((l.length : Int) - (i : Int) < (n : Int)) = false := decide_eq_false (by omega)
    have hle : i + n ≤ l.length := by omega
    have HC := Lib.hid (fun N => rnext_any o g i n l (w.drewN N) (h.upd (Upd.drewN (fun _ => False) _ N) (fun _ _ _ h => h)) hle (by omega))
    have HS := Lib.hid (show getE l i n = 0 ∧ getV l i n = valB ((l.drop i).take n) ∧ getI l i n = i + n by unfold getE getV getI; simp [hs])
    clear h hs hlb hi hm hle
    go_enter Tryz.func109, Tryz.ntmps109
    go_wp2
    go_quiet (fail)
    clear hw1
    go_wp2_with (go_at_call 127; refine (HC.out _).mono ?_; rintro e w2 ⟨rfl, hr2, hu2⟩)
    go_ret2
    exact ⟨ret_two (by rw [HS.out.2.1]; rfl) (by rw [HS.out.1]; rfl), by rw [HS.out.2.2]; exact hr2, (Upd.drewN _ _ _).trans hu2 fun _ _ h => h⟩

set_option maxHeartbeats 400000 in
theorem rat_any (o : Nat → Prop) (g i : Nat) (l : List Bool) (w : World) (h : Rr o w g l i) :
    Calls Tryz.prog 50 #[.pointer (some ⟨g, 0, none⟩)] w fun e w' => e = .returned (.int .i64 i) ∧ w = w' := by
  obtain ⟨_, k1, k2, _⟩ := h.cells
  clear h
  go_enter Tryz.func50, Tryz.ntmps50
  go_wp2
  go_ret
  exact ⟨rfl, rfl⟩

def seekE (l : List Bool) (j : Int) : Int := if j < 0 ∨ (l.length : Int) < j then 6 else 0
def seekI (l : List Bool) (i : Nat) (j : Int) : Nat := if j < 0 ∨ (l.length : Int) < j then i else j.toNat
set_option maxHeartbeats 1000000 in
set_option maxRecDepth 100000 in
theorem rseek_any (o : Nat → Prop) (g i : Nat) (j : Int) (l : List Bool) (w : World) (h : Rr o w g l i) :
    Calls Tryz.prog 52 #[.pointer (some ⟨g, 0, none⟩), .int .i64 j] w
      fun e w' => e = .returned (.int .i64 (seekE l j)) ∧ Rr o w' g l (seekI l i j) ∧ Upd (fun b => b = g) w w' := by
  obtain ⟨_, k1, k2, f2⟩ := h.cells
  have hlb := h.bound
  by_cases hs : j < 0
  · have H := Lib.hid h
    have HS := Lib.hid (show seekE l j = 6 ∧ seekI l i j = i by unfold seekE seekI; simp [hs])
    clear h
    go_enter Tryz.func52, Tryz.ntmps52
    go_wp2
    go_ret
    exact ⟨ret_int HS.out.1.symm, by rw [HS.out.2]; exact H.out, Upd.refl _ _⟩
  · obtain ⟨q, rfl⟩ := Int.eq_ofNat_of_zero_le (show 0 ≤ j by omega)
    have hd0 : decide ((q : Int) < 0) = false := decide_eq_false (by omega)
    by_cases hs2 : l.length < q
    · have H := Lib.hid h
      have hd : decide (l.length < q) = true := decide_eq_true hs2
      have HS := Lib.hid (show seekE l (q : Int) = 6 ∧ seekI l i (q : Int) = i by unfold seekE seekI; simp [hs2])
      clear h hs hs2
      go_enter Tryz.func52, Tryz.ntmps52
      go_wp2
      go_ret
      exact ⟨ret_int HS.out.1.symm, by rw [HS.out.2]; exact H.out, Upd.refl _ _⟩
    · have H := Lib.hid h
      have hd : decide (l.length < q) = false := decide_eq_false hs2
      have HS := Lib.hid (show seekE l (q : Int) = 0 ∧ seekI l i (q : Int) = q by unfold seekE seekI; rw [if_neg (by omega), if_neg (by omega)]; exact ⟨rfl, by simp⟩)
      have HM := Lib.hid (h.move q 0 (by omega))
      clear h hs hs2
      go_enter Tryz.func52, Tryz.ntmps52
      go_wp2
      go_ret
      exact ⟨ret_int HS.out.1.symm, by rw [HS.out.2]; exact HM.out.1, HM.out.2⟩
end Go.Proofs.YtmcdgmiheklbeaaGreatDoor

namespace Go.Proofs.YtmcdgmiheklbeaaGreatDoor
open Go.RowKit

theorem open_end {w w1 : World} {A : Option Addr} {c m n : Nat} {b : List Int} {g0 : Value} (hB : Below w.heap.size w w1) (hs : Sl (kInt .u8) (fun i => w.heap.size ≤ i ∧ g0.ownBlock = some i) w1 A c ([] ++ b.take m))
    (hl : (b.take m).length = m) (ho : ofB b n = ofB (b.take m) n) (hm : (n + 7) / 8 = m) (hb : ∀ x ∈ b.take m, 0 ≤ x ∧ x < 256) (hn : n ≤ 1048576) :
    ∃ g, Ending.returned (.tuple #[.pointer (some ⟨w1.heap.size, 0, none⟩), .int .i64 0]) = .returned (.tuple #[.pointer (some ⟨g, 0, none⟩), .int .i64 0]) ∧ Rr (fun b => w.heap.size ≤ b) (w1.alloc (.cells #[.slice A m c, .int .i64 (n : Int), .int .i64 0] 100)) g (ofB b n) 0 ∧
      Below w.heap.size w (w1.alloc (.cells #[.slice A m c, .int .i64 (n : Int), .int .i64 0] 100)) ∧ w.heap.size ≤ g := by
  rw [List.nil_append] at hs
  refine ⟨_, rfl, ⟨A, c, b.take m, ?_, ?_, hb, ?_, ?_, ?_, ?_, hB.size⟩, hB.alloc hB.size _, hB.size⟩
  · rw [ofB_length, hl]; exact heap_alloc_new w1 _
  · exact ((hs.weak (ok' := fun i => w.heap.size ≤ i ∧ i < w1.heap.size) fun i hi h => ⟨h.1, hi⟩).below (below_alloc (Below.refl _ _) _)).weak fun i _ h => ⟨h.1, by omega⟩
  · rw [ofB_length, hl]; omega
  · rw [ofB_length]; exact ho
  · exact Nat.zero_le _
  · rw [ofB_length]; exact hn

set_option maxHeartbeats 2000000 in
set_option maxRecDepth 100000 in
theorem ropen_ok (A : Option Addr) (c : Nat) (b : List Int) (n : Nat) (w : World) (hS : RY w A c b) (hb : ∀ x ∈ b, 0 ≤ x ∧ x < 256) (hm : b.length ≤ 1000000000000) (h8 : n ≤ 8 * b.length) (hn : n ≤ 1048576) :
    Calls Tryz.prog 21 #[.slice A b.length c, .int .i64 (n : Int)] w fun e w' => ∃ g, e = .returned (.tuple #[.pointer (some ⟨g, 0, none⟩), .int .i64 0]) ∧ Rr (fun b => w.heap.size ≤ b) w' g (ofB b n) 0 ∧ Below w.heap.size w w' ∧ w.heap.size ≤ g := by
  have hw1 : IntKind.i64.wrap (8 * (b.length : Int)) = 8 * (b.length : Int) := IntWalk.i64_in _ (by omega)
  have hd0 : decide ((n : Int) < 0) = false := decide_eq_false (by omega)
  have hd1 : decide (8 * (b.length : Int) < (n : Int)) = false := decide_eq_false (by omega)
  have hd2 : decide ((1048576 : Int) < (n : Int)) = false := decide_eq_false (by omega)
  obtain ⟨m, hmn⟩ : ∃ m, (n + 7) / 8 = m := ⟨_, rfl⟩
  have hw2 : IntKind.i64.wrap (((n : Int) + 7) / 8) = (m : Int) := by rw [IntWalk.i64_in _ (by omega)]; omega
  have hw3 : IntKind.i64.wrap ((n : Int) + 7) = (n : Int) + 7 := IntWalk.i64_in _ (by omega)
  have hmc : m ≤ c := by have := hS.le; omega
  have hml : m ≤ b.length := by omega
  have hlen : (b.take m).length = m := by rw [List.length_take]; omega
  have HT := Lib.hid (show Sl (kInt .u8) AnyB w A c (b.take m) from ⟨by rw [hlen]; exact hmc, hS.cap, hS.rd.take m⟩)
  have HB := Lib.hid (fun x (hx : x ∈ b.take m) => hb x (List.mem_of_mem_take hx))
  have hob : ofB b n = ofB (b.take m) n := by
    unfold ofB
    apply List.map_congr_left
    intro i hi
    rw [List.mem_range] at hi
    unfold bitB
    rw [nth_take _ _ _ _ (by omega)]
  have HL := Lib.hid hlen
  have HN := Lib.hid hmn
  have HO := Lib.hid hob
  have hm0 : (0 : Int) ≤ (m : Int) := by omega
  have hq : ((n : Int) + 7) / 8 = (m : Int) := by omega
  clear hmn hlen hob hb hw2
  rcases A with _ | ad
  · go_enter Tryz.func21, Tryz.ntmps21
    go_wp2_with (at_builtin; (refine append_row (w0 := w) w.heap.size rfl (.tmp 19) (.tmp 24) 31 5 .u8 1 rfl Tryz.underlying31 infoY (by decide) (.slice (some ⟨w.heap.size, 0, none⟩) 0 0) [] (b.take m) none c rfl (by rw [HL.out]; rfl) (own_lit w 5 .u8 [] (by simp)) (HT.out.below (below_alloc (Below.refl _ _) _)) (below_alloc (Below.refl _ _) _) (by simp) (by simp; omega) ?_); intro v1 w1 hO1 hB1 hg1 hat1; obtain ⟨A1, c1, hv1, hs1⟩ := hO1.rd; subst hv1)
    go_ret2
    exact open_end hB1 hs1 HL.out HO.out HN.out HB.out hn
  · have hz := add_zero ad
    go_enter Tryz.func21, Tryz.ntmps21
    go_wp2_with (at_builtin; (refine append_row (w0 := w) w.heap.size rfl (.tmp 19) (.tmp 24) 31 5 .u8 1 rfl Tryz.underlying31 infoY (by decide) (.slice (some ⟨w.heap.size, 0, none⟩) 0 0) [] (b.take m) (some ad) c rfl (by rw [HL.out]; rfl) (own_lit w 5 .u8 [] (by simp)) (HT.out.below (below_alloc (Below.refl _ _) _)) (below_alloc (Below.refl _ _) _) (by simp) (by simp; omega) ?_); intro v1 w1 hO1 hB1 hg1 hat1; obtain ⟨A1, c1, hv1, hs1⟩ := hO1.rd; subst hv1)
    go_ret2
    exact open_end hB1 hs1 HL.out HO.out HN.out HB.out hn

set_option maxHeartbeats 2000000 in
set_option maxRecDepth 100000 in
theorem wappend_any (o : Nat → Prop) (g n : Nat) (A : Option Addr) (c : Nat) (b : List Int) (bs : List Bool) (w : World) (h : Wr o w g bs) (hS : Sl (kInt .u8) (fun i => ¬ o i) w A c b) (hb : ∀ x ∈ b, 0 ≤ x ∧ x < 256) (hm : b.length ≤ 1000000000000) (h8 : n ≤ 8 * b.length) (hl : bs.length ≤ 1048576) :
    Calls Tryz.prog 29 #[.pointer (some ⟨g, 0, none⟩), .slice A b.length c, .int .i64 (n : Int)] w
      fun e w' => e = .returned (.int .i64 (fullE bs.length n)) ∧ Wr (fun b => o b ∨ w.heap.size ≤ b) w' g (fullB bs (ofB b n)) ∧ Upd o w w' := by
  have hw1 : IntKind.i64.wrap (8 * (b.length : Int)) = 8 * (b.length : Int) := IntWalk.i64_in _ (by omega)
  have hd0 : decide ((n : Int) < 0) = false := decide_eq_false (by omega)
  have hd1 : decide (8 * (b.length : Int) < (n : Int)) = false := decide_eq_false (by omega)
  have k1 := (let ⟨_, h⟩ := h; h.blk.cell 1 rfl : w.cell? ⟨g, 1, none⟩ = some (.int .i64 bs.length))
  have HB := Lib.hid hb
  have H := Lib.hid h
  clear hb h
  by_cases hov : 1048576 < bs.length + n
  · have hd : decide ((1048576 : Int) < (bs.length : Int) + (n : Int)) = true := decide_eq_true (by omega)
    have HS := Lib.hid (show fullE bs.length n = 2 ∧ fullB bs (ofB b n) = bs by unfold fullE fullB; rw [ofB_length]; simp [hov])
    clear hov
    go_enter Tryz.func29, Tryz.ntmps29
    go_wp2
    go_ret
    exact ⟨ret_int HS.out.1.symm, by rw [HS.out.2]; exact H.out.weak fun b _ h => .inl h, Upd.refl _ _⟩
  · have hd : decide ((1048576 : Int) < (bs.length : Int) + (n : Int)) = false := decide_eq_false (by omega)
    have HS := Lib.hid (show fullE bs.length n = 0 ∧ fullB bs (ofB b n) = bs ++ ofB b n by unfold fullE fullB; rw [ofB_length]; simp [hov])
    have hle : bs.length + n ≤ 1048576 := by omega
    clear hov
    go_enter Tryz.func29, Tryz.ntmps29
    go_wp2
    clear hd hd0 hd1 hw1 k1
    go_loopw [31] (fun i wq => ∃ k : Nat, k ≤ n ∧ i = .int .i64 k ∧ Wr (fun b => o b ∨ w.heap.size ≤ b) wq g (bs ++ ofB b k) ∧ Upd o w wq) (fun i _ => n - (intOf i).toNat)
    case atStart => exact ⟨0, Nat.zero_le _, rfl, by simpa [ofB] using H.out.weak fun b _ h => .inl h, Upd.refl _ _⟩
    case round =>
      obtain ⟨k, hk, rfl, hw, hU⟩ := hrel
      by_cases hlt : k < n
      · have hSq := (hS.keep (hU.keep fun b h => h)).any
        obtain ⟨vw, hwf⟩ := hw
        have HC := Lib.hid (bit_any A c b k wr hSq HB.out (by omega))
        have HA := Lib.hid (add_any (foot g vw) g (bitB b k) (bs ++ ofB b k) wr ⟨vw, hwf.exact⟩ (by rw [List.length_append, ofB_length]; omega))
        have HW := Lib.hid hwf
        have HU := Lib.hid hU
        have HOS := Lib.hid (ofB_succ b k)
        clear hSq hwf hU
        go_wp2_with (first
          | (go_at_call 57; refine HC.out.mono ?_; rintro e w2 ⟨rfl, rfl⟩)
          | (go_at_call 56; refine HA.out.mono ?_; rintro e w3 ⟨rfl, hw3, hu3⟩))
        go_roundw
        case rel =>
          refine ⟨k + 1, by omega, by go_num, ?_, ?_⟩
          · rw [HOS.out, ← List.append_assoc]
            refine hw3.weak fun b _ h => ?_
            rcases h with h | h
            · exact (HW.out.foot_in b h).1
            · exact .inr (by have := HU.out.size; omega)
          · refine HU.out.trans hu3 fun b hb h => ?_
            rcases (HW.out.foot_in b h).1 with h | h
            · exact h
            · omega
        case measure => simp [intOf]; omega
      · obtain rfl : k = n := by omega
        have HW := Lib.hid hw
        have HU := Lib.hid hU
        clear hw hU
        go_wp2
        go_ret
        exact ⟨ret_int HS.out.1.symm, by rw [HS.out.2]; exact HW.out, HU.out⟩
end Go.Proofs.YtmcdgmiheklbeaaGreatDoor

namespace Go.Proofs.YtmcdgmiheklbeaaGreatDoor
open Go

section
variable {P : Program} {ops : Array Oper} {md : Region.Mode} {w : World} {l m : Nat}
def plainB (ops : List Oper) : Bool := ops.all fun o => match o.op with | .defer _ => false | _ => true
theorem plainB_spec {l : List Oper} (h : plainB l = true) (o : Oper) (ho : o ∈ l) : ∀ c, o.op ≠ .defer c := by
  intro c e
  have := List.all_eq_true.1 h o ho
  rw [e] at this
  cases this
theorem wp_inRound {o : Oper} {a : Act} {next : Act → World → Prop} {Q : Exit → Act → World → Prop} (hd : ∀ c, o.op ≠ .defer c) (h : o.wp P a w next Q) : o.wpIn (Fence.wide.inRound l) m P a w next Q := by
  refine ⟨fun f _ => trivial, ?_⟩
  rw [show (Fence.wide.inRound l).round = some l from rfl, Oper.semAt_some l _ _ hd]
  unfold Oper.wp at h
  generalize (execOp a.eval o).run P w = r at h
  cases r with
  | ok x w' =>
    cases x <;> simp only [Oper.upon, Oper.uponIn] at h ⊢ <;> first | exact h | exact h.elim | skip
    · exact ⟨fun h => by simp [Fence.wide] at h, CallsIn.inRound l (callsIn_wide.2 h)⟩
    · refine ⟨fun h => by simp [Fence.wide] at h, ?_⟩
      intro c cs _
      obtain ⟨v, w'', hr, hs⟩ := h c cs
      exact ⟨v, w'', hr, stepsIn_wide.2 hs⟩
  | halt x w' => cases x <;> simp only [Oper.upon, Oper.uponIn] at h ⊢ <;> first | exact h | exact h.elim
theorem stOp_inRound {i : Nat} {a : Act} {K : Act → Prop} {K' : Act → World → Prop} {Q' : Exit → Act → World → Prop} (hd : plainB ops.toList = true) (h : ∀ a, K a → K' a w) (hh : stOp P ops w i K a) : wpOpIn (Fence.wide.inRound l) m P ops Q' i K' a w := by
  unfold stOp at hh
  unfold wpOpIn
  split
  · rename_i ho; simp only [ho] at hh; exact h _ hh
  · rename_i o ho
    simp only [ho] at hh
    have hm : o ∈ ops.toList := by simpa using Array.mem_of_getElem? ho
    split
    · rename_i hw; simp only [hw, if_true] at hh; exact wp_inRound (plainB_spec hd o hm) (Oper.wp_of_still h hh)
    · rename_i hw; simp only [hw] at hh; exact ⟨fun f _ => trivial, h _ hh⟩
theorem head_inRound {n g : Nat} {L : Array Bool → Act → Prop} {Q' : Exit → Act → World → Prop} (hd : plainB ops.toList = true) (hL : ∀ listed a, L listed a → wpAnyIn (Fence.wide.inRound l) m P md ops Q' g listed a w) :
    ∀ (f : Nat) (listed : Array Bool) (a : Act), wpAnyL P md ops w n L f listed a → wpAnyIn (Fence.wide.inRound l) m P md ops Q' (f + g) listed a w
  | 0, listed, a, h => by rw [Nat.zero_add]; exact hL _ _ h
  | f + 1, listed, a, h => by
    rw [show f + 1 + g = (f + g) + 1 by omega]
    exact ⟨fun h0 => absurd h0 h.1, fun i hi => stOp_inRound hd (fun a' h' => head_inRound hd hL f _ a' h') (h.2 i hi).2⟩
theorem seq_inRound {F : Fence} {Q' : Exit → Act → World → Prop} : ∀ (l : List Oper) (k : Nat) (listed : Array Bool) (a : Act) (w : World), (∀ j, l[j]? = ops[k + j]?) →
    Region.seqB md ops l.length k listed = true → wpListIn F m P ops Q' l a w → wpAnyIn F m P md ops Q' l.length listed a w
  | [], _, _, _, _, _, hB, h => ⟨by simpa [Region.seqB] using hB, h⟩
  | o :: l, k, listed, a, w, hl, hB, h => by
    have h0 : ops[k]? = some o := by simpa using (hl 0).symm
    simp only [List.length_cons, Region.seqB, Bool.and_eq_true, decide_eq_true_eq] at hB
    refine ⟨fun h1 => (by rw [hB.1] at h1; cases h1), fun i hi => ?_⟩
    rw [hB.1] at hi
    have hik : i = k := by simpa using hi
    subst hik
    have hw : wpOpIn F m P ops Q' i (wpListIn F m P ops Q' l) a w := by unfold wpOpIn; simp only [h0]; exact h
    exact wpOpIn_mono (fun a' w' h' => seq_inRound l (i + 1) _ a' w' (fun j => by have := hl (j + 1); simpa [Nat.add_assoc, Nat.add_comm 1 j] using this) hB.2 h') hw
/-- The first n operations only read; the others come one behind the other. -/
theorem wpIn_still_tail {id : Nat} {Q : Exit → Act → World → Prop} {a : Act} {l' : List Oper} (n : Nat) (hm : P.follows .mixedOrders = true) (hd : plainB l' = true) (hB : Region.lexTailB .any l'.toArray n = true)
    (h : wpStill P l'.toArray w.drew (fun a' => wpListIn (Fence.wide.inRound l) m P l'.toArray Q (l'.drop n) a' w.drew) (l'.take n) a) : (Code.region id l'.toArray true).wpIn (Fence.wide.inRound l) m P Q a w := by
  simp only [Region.lexTailB, Bool.and_eq_true, decide_eq_true_eq] at hB
  obtain ⟨⟨⟨⟨hsel, hn⟩, hs⟩, hc⟩, hlex⟩ := hB
  have hn' : n < l'.length := by simpa using hn
  have htl : (l'.take n).length = n := by simp; omega
  have hdl : (l'.drop n).length = l'.toArray.size - n := by simp
  have inv0 : HeadInv .any l'.toArray n (Array.replicate l'.toArray.size false) :=
    ⟨by simp, fun j oj _ hl => (by rw [getD_replicate_false] at hl; cases hl), fun t _ ht => getD_in (by simpa using ht) (getD_replicate_false _ _)⟩
  have H := wpAnyL_lex (md := .any) (g := l'.toArray.size - n) hsel hs hc hn (l'.take n) 0 _ a (fun j hj => by
    have hj' : j < n := by rw [htl] at hj; exact hj
    simp [hj']) (by simpa using htl) inv0 (by rw [htl]; exact hlex) h
  refine wpIn_region_any hm ?_
  have := head_inRound (Q' := Q) (g := l'.toArray.size - n) (m := m) (l := l) (by simpa using hd) (fun listed a' hL => by
    have := seq_inRound (md := .any) (Q' := Q) (m := m) (F := Fence.wide.inRound l) (l'.drop n) n listed a' w.drew (fun j => by simp [List.getElem?_drop]) (by rw [hdl]; exact hL.1) hL.2
    rwa [hdl] at this) _ _ _ H
  rw [htl, show n + (l'.toArray.size - n) = l'.toArray.size by omega] at this
  exact this
end
end Go.Proofs.YtmcdgmiheklbeaaGreatDoor
