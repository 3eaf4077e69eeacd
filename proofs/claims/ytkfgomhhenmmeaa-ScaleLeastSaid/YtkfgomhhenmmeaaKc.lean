/- bits: Open of a reader, Append of a writer: what each call returns. · The reference's bits: Number, Of, Pack: what each call returns. · The reference's bits: a Writer: put, Append, Len, Bytes; Same: what each call returns, and what the writer has then. · The reference's bits: a Reader: Open, next, Take, At, Left, Seek: what each call returns, and where the reader is then. · A drawn region in a round over an iterator: what only reads first, then one chain of operations. · prefix: words: what it returns, for any right lengths and memory. · prefix: Codes, Write: what each call returns. · Maps whose keys are words (a length and a number): what they tell, and what an update does. · prefix: open: which words a book has, and which begin one. · prefix: a book's read, Read: what each call returns, and where the reader is then. · prefix: Encode, Decode: what each call returns. · prefix: Decode: what it returns. · The reference's prefix: Check, Complete, Cost: what each call returns. · The reference's prefix: Cost: what it returns. · The reference's prefix: Codes: what it returns. · The reference's prefix: word, Write, begins: what each call returns. · The reference's prefix: Write, begins: what each call returns. · The reference's prefix: read: what it returns. · The reference's prefix: Read: what it returns. · The reference's prefix: Encode: what it returns. · The reference's prefix: Decode: what it returns. · The reference's Ints: what it returns. · Plain laws of a stable sort: sorted lists, lists of the same elements in the same order among equals. No program is named. · Plain laws: the stable sort as a function; what lies beside a list is sorted with it. No program is named. · append of a row of elements of any kind to a row of the call's own. · Items as they read, and merge of two rows of items. · packages of a row of items. · The reference's rows: packages, merged: what each call returns. -/
import Derived.Test.YtkfgomhhenmmeaaKb
import Derived.StillTailTactics
import Derived.OrdersIn
import Derived.RangeFuncCalls
import Derived.TacticsIn
import Derived.ControlIn
import Derived.Test.YtkfgomhhenmmeaaKa
import Derived.Maps.OwnSet
import Derived.Maps.OwnOps
import Derived.DeepKeys4
import Derived.MapViews
import Derived.WideKeyArgs2
import Derived.Deep.RegionHeld3
import Derived.BigRegion
namespace Go.Proofs.Ytkfgomhhenmmeaa
open Go.RowKit

def openE (m : Nat) (n : Int) : Int := if n < 0 ∨ 8 * (m : Int) < n then 1 else if 1048576 < n then 2 else 0

set_option maxHeartbeats 1000000 in
set_option maxRecDepth 100000 in
theorem ropen_no (A : Option Addr) (c : Nat) (b : List Int) (n : Int) (w : World) (hm : b.length ≤ 1000000000000) (he : openE b.length n ≠ 0) :
    Calls Try.prog 31 #[.slice A b.length c, .int .i64 n] w fun e w' => e = .returned (.tuple #[.pointer none, .int .i64 (openE b.length n)]) ∧ w = w' := by
  have hw1 : IntKind.i64.wrap (8 * (b.length : Int)) = 8 * (b.length : Int) := IntWalk.i64_in _ (by omega)
  by_cases h0 : n < 0
  · have HE := Lib.hid (show openE b.length n = 1 by unfold openE; rw [if_pos (.inl h0)])
    clear he
    go_enter Try.func31, Try.ntmps31
    go_wp2
    go_ret2
    exact ⟨ret_two rfl (by rw [HE.out]; rfl), rfl⟩
  · have hd0 : decide (n < 0) = false := decide_eq_false h0
    by_cases h1 : 8 * (b.length : Int) < n
    · have HE := Lib.hid (show openE b.length n = 1 by unfold openE; rw [if_pos (.inr h1)])
      clear he h0
      go_enter Try.func31, Try.ntmps31
      go_wp2
      go_ret2
      exact ⟨ret_two rfl (by rw [HE.out]; rfl), rfl⟩
    · have h2 : 1048576 < n := by
        unfold openE at he
        rw [if_neg (by omega)] at he
        split at he
        · assumption
        · exact absurd rfl he
      have HE := Lib.hid (show openE b.length n = 2 by unfold openE; rw [if_neg (by omega), if_pos h2])
      have hd1 : decide (8 * (b.length : Int) < n) = false := decide_eq_false h1
      clear he h0 h1
      go_enter Try.func31, Try.ntmps31
      go_wp2
      go_ret2
      exact ⟨ret_two rfl (by rw [HE.out]; rfl), rfl⟩

theorem open_end {w w1 : World} {A : Option Addr} {c m n : Nat} {b : List Int} {g0 : Value} (hB : Below w.heap.size w w1) (hs : Sl (kInt .u8) (fun i => w.heap.size ≤ i ∧ g0.ownBlock = some i) w1 A c ([] ++ b.take m))
    (hl : (b.take m).length = m) (ho : ofB b n = ofB (b.take m) n) (hm : (n + 7) / 8 = m) (hb : ∀ x ∈ b.take m, 0 ≤ x ∧ x < 256) (hn : n ≤ 1048576) :
    ∃ g, Ending.returned (.tuple #[.pointer (some ⟨w1.heap.size, 0, none⟩), .int .i64 0]) = .returned (.tuple #[.pointer (some ⟨g, 0, none⟩), .int .i64 0]) ∧ Rr (fun b => w.heap.size ≤ b) (w1.alloc (.cells #[.slice A m c, .int .i64 (n : Int), .int .i64 0] 81)) g (ofB b n) 0 ∧
      Below w.heap.size w (w1.alloc (.cells #[.slice A m c, .int .i64 (n : Int), .int .i64 0] 81)) ∧ w.heap.size ≤ g := by
  rw [List.nil_append] at hs
  refine ⟨_, rfl, ⟨A, c, b.take m, ?_, ?_, hb, ?_, ?_, ?_, ?_, hB.size⟩, hB.alloc hB.size _, hB.size⟩
  · rw [ofB_length, hl]; exact heap_alloc_new w1 _
  · exact ((hs.weak (ok' := fun i => w.heap.size ≤ i ∧ i < w1.heap.size) fun i hi h => ⟨h.1, hi⟩).below (below_alloc (Below.refl _ _) _)).weak fun i _ h => ⟨h.1, by omega⟩
  · rw [ofB_length, hl]; omega
  · rw [ofB_length]; exact ho
  · exact Nat.zero_le _
  · rw [ofB_length]; exact hn

set_option maxHeartbeats 2000000 in
set_option maxRecDepth 100000 in
theorem ropen_ok (A : Option Addr) (c : Nat) (b : List Int) (n : Nat) (w : World) (hS : RY w A c b) (hb : ∀ x ∈ b, 0 ≤ x ∧ x < 256) (hm : b.length ≤ 1000000000000) (h8 : n ≤ 8 * b.length) (hn : n ≤ 1048576) :
    Calls Try.prog 31 #[.slice A b.length c, .int .i64 (n : Int)] w fun e w' => ∃ g, e = .returned (.tuple #[.pointer (some ⟨g, 0, none⟩), .int .i64 0]) ∧ Rr (fun b => w.heap.size ≤ b) w' g (ofB b n) 0 ∧ Below w.heap.size w w' ∧ w.heap.size ≤ g := by
  have hw1 : IntKind.i64.wrap (8 * (b.length : Int)) = 8 * (b.length : Int) := IntWalk.i64_in _ (by omega)
  have hd0 : decide ((n : Int) < 0) = false := decide_eq_false (by omega)
  have hd1 : decide (8 * (b.length : Int) < (n : Int)) = false := decide_eq_false (by omega)
  have hd2 : decide ((1048576 : Int) < (n : Int)) = false := decide_eq_false (by omega)
  obtain ⟨m, hmn⟩ : ∃ m, (n + 7) / 8 = m := ⟨_, rfl⟩
  have hw2 : IntKind.i64.wrap (((n : Int) + 7) / 8) = (m : Int) := by rw [IntWalk.i64_in _ (by omega)]; omega
  have hw3 : IntKind.i64.wrap ((n : Int) + 7) = (n : Int) + 7 := IntWalk.i64_in _ (by omega)
  have hmc : m ≤ c := by have := hS.le; omega
  have hml : m ≤ b.length := by omega
  have hlen : (b.take m).length = m := by rw [List.length_take]; omega
  have HT := Lib.hid (show Sl (kInt .u8) AnyB w A c (b.take m) from ⟨by rw [hlen]; exact hmc, hS.cap, hS.rd.take m⟩)
  have HB := Lib.hid (fun x (hx : x ∈ b.take m) => hb x (List.mem_of_mem_take hx))
  have hob : ofB b n = ofB (b.take m) n := by
    unfold ofB
    apply List.map_congr_left
    intro i hi
    rw [List.mem_range] at hi
    unfold bitB
    rw [nth_take _ _ _ _ (by omega)]
  have HL := Lib.hid hlen
  have HN := Lib.hid hmn
  have HO := Lib.hid hob
  have hm0 : (0 : Int) ≤ (m : Int) := by omega
  have hq : ((n : Int) + 7) / 8 = (m : Int) := by omega
  clear hmn hlen hob hb hw2
  rcases A with _ | ad
  · go_enter Try.func31, Try.ntmps31
    go_wp2_with (at_builtin; (refine append_row (w0 := w) w.heap.size rfl (.tmp 19) (.tmp 24) 32 5 .u8 1 rfl Try.underlying32 infoY (by decide) (.slice (some ⟨w.heap.size, 0, none⟩) 0 0) [] (b.take m) none c rfl (by rw [HL.out]; rfl) (own_lit w 5 .u8 [] (by simp)) (HT.out.below (below_alloc (Below.refl _ _) _)) (below_alloc (Below.refl _ _) _) (by simp) (by simp; omega) ?_); intro v1 w1 hO1 hB1 hg1 hat1; obtain ⟨A1, c1, hv1, hs1⟩ := hO1.rd; subst hv1)
    go_ret2
    exact open_end hB1 hs1 HL.out HO.out HN.out HB.out hn
  · have hz := add_zero ad
    go_enter Try.func31, Try.ntmps31
    go_wp2_with (at_builtin; (refine append_row (w0 := w) w.heap.size rfl (.tmp 19) (.tmp 24) 32 5 .u8 1 rfl Try.underlying32 infoY (by decide) (.slice (some ⟨w.heap.size, 0, none⟩) 0 0) [] (b.take m) (some ad) c rfl (by rw [HL.out]; rfl) (own_lit w 5 .u8 [] (by simp)) (HT.out.below (below_alloc (Below.refl _ _) _)) (below_alloc (Below.refl _ _) _) (by simp) (by simp; omega) ?_); intro v1 w1 hO1 hB1 hg1 hat1; obtain ⟨A1, c1, hv1, hs1⟩ := hO1.rd; subst hv1)
    go_ret2
    exact open_end hB1 hs1 HL.out HO.out HN.out HB.out hn

set_option maxHeartbeats 2000000 in
set_option maxRecDepth 100000 in
theorem wappend_any (o : Nat → Prop) (g n : Nat) (A : Option Addr) (c : Nat) (b : List Int) (bs : List Bool) (w : World) (h : Wr o w g bs) (hS : Sl (kInt .u8) (fun i => ¬ o i) w A c b) (hb : ∀ x ∈ b, 0 ≤ x ∧ x < 256) (hm : b.length ≤ 1000000000000) (h8 : n ≤ 8 * b.length) (hl : bs.length ≤ 1048576) :
    Calls Try.prog 60 #[.pointer (some ⟨g, 0, none⟩), .slice A b.length c, .int .i64 (n : Int)] w
      fun e w' => e = .returned (.int .i64 (fullE bs.length n)) ∧ Wr (fun b => o b ∨ w.heap.size ≤ b) w' g (fullB bs (ofB b n)) ∧ Upd o w w' := by
  have hw1 : IntKind.i64.wrap (8 * (b.length : Int)) = 8 * (b.length : Int) := IntWalk.i64_in _ (by omega)
  have hd0 : decide ((n : Int) < 0) = false := decide_eq_false (by omega)
  have hd1 : decide (8 * (b.length : Int) < (n : Int)) = false := decide_eq_false (by omega)
  have k1 := (let ⟨_, h⟩ := h; h.blk.cell 1 rfl : w.cell? ⟨g, 1, none⟩ = some (.int .i64 bs.length))
  have HB := Lib.hid hb
  have H := Lib.hid h
  clear hb h
  by_cases hov : 1048576 < bs.length + n
  · have hd : decide ((1048576 : Int) < (bs.length : Int) + (n : Int)) = true := decide_eq_true (by omega)
    have HS := Lib.hid (show fullE bs.length n = 2 ∧ fullB bs (ofB b n) = bs by unfold fullE fullB; rw [ofB_length]; simp [hov])
    clear hov
    go_enter Try.func60, Try.ntmps60
    go_wp2
    go_ret
    exact ⟨ret_int HS.out.1.symm, by rw [HS.out.2]; exact H.out.weak fun b _ h => .inl h, Upd.refl _ _⟩
  · have hd : decide ((1048576 : Int) < (bs.length : Int) + (n : Int)) = false := decide_eq_false (by omega)
    have HS := Lib.hid (show fullE bs.length n = 0 ∧ fullB bs (ofB b n) = bs ++ ofB b n by unfold fullE fullB; rw [ofB_length]; simp [hov])
    have hle : bs.length + n ≤ 1048576 := by omega
    clear hov
    go_enter Try.func60, Try.ntmps60
    go_wp2
    clear hd hd0 hd1 hw1 k1
    go_loopw [31] (fun i wq => ∃ k : Nat, k ≤ n ∧ i = .int .i64 k ∧ Wr (fun b => o b ∨ w.heap.size ≤ b) wq g (bs ++ ofB b k) ∧ Upd o w wq) (fun i _ => n - (intOf i).toNat)
    case atStart => exact ⟨0, Nat.zero_le _, rfl, by simpa [ofB] using H.out.weak fun b _ h => .inl h, Upd.refl _ _⟩
    case round =>
      obtain ⟨k, hk, rfl, hw, hU⟩ := hrel
      by_cases hlt : k < n
      · have hSq := (hS.keep (hU.keep fun b h => h)).any
        obtain ⟨vw, hwf⟩ := hw
        have HC := Lib.hid (bit_any A c b k wr hSq HB.out (by omega))
        have HA := Lib.hid (add_any (foot g vw) g (bitB b k) (bs ++ ofB b k) wr ⟨vw, hwf.exact⟩ (by rw [List.length_append, ofB_length]; omega))
        have HW := Lib.hid hwf
        have HU := Lib.hid hU
        have HOS := Lib.hid (ofB_succ b k)
        clear hSq hwf hU
        go_wp2_with (first
          | (go_at_call 80; refine HC.out.mono ?_; rintro e w2 ⟨rfl, rfl⟩)
          | (go_at_call 79; refine HA.out.mono ?_; rintro e w3 ⟨rfl, hw3, hu3⟩))
        go_roundw
        case rel =>
          refine ⟨k + 1, by omega, by go_num, ?_, ?_⟩
          · rw [HOS.out, ← List.append_assoc]
            refine hw3.weak fun b _ h => ?_
            rcases h with h | h
            · exact (HW.out.foot_in b h).1
            · exact .inr (by have := HU.out.size; omega)
          · refine HU.out.trans hu3 fun b hb h => ?_
            rcases (HW.out.foot_in b h).1 with h | h
            · exact h
            · omega
        case measure => simp [intOf]; omega
      · obtain rfl : k = n := by omega
        have HW := Lib.hid hw
        have HU := Lib.hid hU
        clear hw hU
        go_wp2
        go_ret
        exact ⟨ret_int HS.out.1.symm, by rw [HS.out.2]; exact HW.out, HU.out⟩
end Go.Proofs.Ytkfgomhhenmmeaa

namespace Go.Proofs.Ytkfgomhhenmmeaa
open Go.RowKit

def bitsI (l : List Bool) : List Int := l.map b2i
theorem bitsI_length (l : List Bool) : (bitsI l).length = l.length := by simp [bitsI]
theorem bitsI_nth (l : List Bool) (k : Nat) (h : k < l.length) : nth 0 (bitsI l) k = b2i (nth false l k) := by
  rw [nth_eq 0 _ k (by rw [bitsI_length]; exact h), nth_eq false _ k h]; simp [bitsI]
theorem bitsI_append (a b : List Bool) : bitsI (a ++ b) = bitsI a ++ bitsI b := by simp [bitsI]
theorem bitsI_take (a : List Bool) (n : Nat) : bitsI (a.take n) = (bitsI a).take n := by simp [bitsI, List.map_take]
theorem bitsI_drop (a : List Bool) (n : Nat) : bitsI (a.drop n) = (bitsI a).drop n := by simp [bitsI, List.map_drop]
theorem bitsI_range (l : List Bool) : ∀ x ∈ bitsI l, 0 ≤ x ∧ x < 256 := by
  intro x hx
  simp only [bitsI, List.mem_map] at hx
  obtain ⟨b, _, rfl⟩ := hx
  have := b2i_bd b
  omega
theorem bitsI_inj {a b : List Bool} (h : bitsI a = bitsI b) : a = b := by
  have hl : a.length = b.length := by rw [← bitsI_length a, h, bitsI_length]
  apply List.ext_getElem hl
  intro i h1 h2
  have := congrArg (fun l => nth 0 l i) h
  rw [bitsI_nth _ _ h1, bitsI_nth _ _ h2, nth_eq false _ i h1, nth_eq false _ i h2] at this
  exact b2i_inj this
/-- The first k of a list, the others 0 yet. -/
def upTo (xs : List Int) (k : Nat) : List Int := xs.take k ++ List.replicate (xs.length - k) 0
theorem upTo_zero (xs : List Int) : upTo xs 0 = List.replicate xs.length 0 := by simp [upTo]
theorem upTo_all (xs : List Int) : upTo xs xs.length = xs := by simp [upTo]
theorem upTo_length (xs : List Int) (k : Nat) : (upTo xs k).length = xs.length := by simp [upTo]; omega
theorem upTo_set (xs : List Int) (k : Nat) (h : k < xs.length) : (upTo xs k).set k (nth 0 xs k) = upTo xs (k + 1) := by
  unfold upTo
  have hl : (xs.take k).length = k := by rw [List.length_take]; omega
  rw [List.set_append_right _ _ (by omega), hl, Nat.sub_self, take_succ_nth 0 xs k h, List.append_assoc]
  congr 1
  rw [show xs.length - k = (xs.length - (k + 1)) + 1 by omega, List.replicate_succ]
  rfl

theorem bitB_and8 (b : List Int) (i : Nat) (h0 : 0 ≤ nth 0 b (i / 8)) (h1 : nth 0 b (i / 8) < 256) : Go.bits .and .u8 (nth 0 b (i / 8) / 2 ^ (7 - i % 8)) 1 = b2i (bitB b i) := by
  have hd := div_bd (nth 0 b (i / 8)) (7 - i % 8) h0 h1
  have e1 := bits_mask .u8 8 (by decide) (fun n h0 h1 => wraps_u8 n h0 h1) 1 (by decide) (nth 0 b (i / 8) / 2 ^ (7 - i % 8)) hd.1 (by rw [show (2 : Int) ^ 8 = 256 by decide]; omega)
  have e2 := bitB_and b i h0 h1
  rw [and_one _ hd.1 (by omega)] at e2
  have e3 : (2 : Int) ^ 1 - 1 = 1 := by decide
  rw [e3] at e1
  rw [e1]
  simpa using e2

/-- Bytes of bits, zeros behind them. -/
def padB (bs : List Bool) (L : Nat) : List Int := packB bs ++ List.replicate (L - (packB bs).length) 0
theorem padB_nil (L : Nat) : padB [] L = List.replicate L 0 := by simp [padB, packB]
theorem padB_all (bs : List Bool) : padB bs ((bs.length + 7) / 8) = packB bs := by simp [padB, packB_length]
theorem padB_length (bs : List Bool) (L : Nat) (h : (bs.length + 7) / 8 ≤ L) : (padB bs L).length = L := by simp [padB, packB_length]; omega
theorem padB_room (bs : List Bool) (L : Nat) (h : bs.length / 8 < L) : padB bs L = roomB bs ++ List.replicate (L - (bs.length / 8 + 1)) 0 := by
  unfold padB roomB
  split
  · rename_i h8
    rw [packB_length, List.append_assoc, show L - (bs.length + 7) / 8 = (L - (bs.length / 8 + 1)) + 1 by omega, List.replicate_succ]
    rfl
  · rename_i h8
    rw [packB_length, show (bs.length + 7) / 8 = bs.length / 8 + 1 by omega]
theorem padB_nth (bs : List Bool) (L : Nat) (h : bs.length / 8 < L) : nth 0 (padB bs L) (bs.length / 8) = (byteB bs (bs.length / 8) : Int) := by
  rw [padB_room _ _ h, nth_append_left _ _ _ _ (by rw [roomB_length]; omega), roomB_nth]
theorem padB_snoc (bs : List Bool) (b : Bool) (L : Nat) (h : bs.length / 8 < L) : padB (bs ++ [b]) L = (padB bs L).set (bs.length / 8) ((byteB bs (bs.length / 8) : Int) + b2i b * 2 ^ (7 - bs.length % 8)) := by
  rw [padB_room bs _ h, List.set_append_left _ _ (by rw [roomB_length]; omega), ← packB_snoc]
  unfold padB
  rw [packB_length, List.length_append, List.length_singleton, show (bs.length + 1 + 7) / 8 = bs.length / 8 + 1 by omega]

end Go.Proofs.Ytkfgomhhenmmeaa

namespace Go.Proofs.Ytkfgomhhenmmeaa
open Go.RowKit

section
variable {o o' : Nat → Prop} {w w' : World} {g : Nat} {v : Value} {bs : List Bool}
end
def sameL (a b : List Int) : Bool := decide (a = b)
theorem same_end {a b : List Int} (hl : a.length = b.length) (h : ∀ j, j < a.length → nth 0 a j = nth 0 b j) : sameL a b = true := by
  refine decide_eq_true (List.ext_getElem hl fun i h1 h2 => ?_)
  have := h i h1
  rwa [nth_eq 0 a i h1, nth_eq 0 b i h2] at this
end Go.Proofs.Ytkfgomhhenmmeaa

namespace Go.Proofs.Ytkfgomhhenmmeaa
open Go.RowKit

section
variable {o o' : Nat → Prop} {w w' : World} {g : Nat} {l : List Bool} {at_ : Nat}
end

def cutL (l : List Bool) (i n : Nat) : List Bool := if l.length < i + n then [] else (l.drop i).take n
theorem Sl.part {ok : Nat → Prop} {w : World} {A : Option Addr} {c : Nat} {xs : List Int} {ik : IntKind} (h : Sl (kInt ik) ok w A c xs) (i n : Nat) (hn : i + n ≤ xs.length) : Sl (kInt ik) ok w (A.map fun x => x.add i) (c - i) ((xs.drop i).take n) := by
  have hr := (h.rd.drop i).take n
  rw [show i * (kInt ik).size = i from Nat.mul_one i] at hr
  exact ⟨by rw [List.length_take, List.length_drop]; have := h.le; omega, by have := h.cap; omega, hr⟩
theorem Sl.none {α : Type} {k : Kd α} {ok : Nat → Prop} {w : World} (A : Option Addr) (c : Nat) (hc : c ≤ 9223372036854775807) : Sl k ok w A c [] := ⟨Nat.zero_le _, hc, Kd.Rd.nil _ _ _ _⟩

end Go.Proofs.Ytkfgomhhenmmeaa

namespace Go.Proofs.Ytkfgomhhenmmeaa
open Go

section
variable {P : Program} {ops : Array Oper} {md : Region.Mode} {w : World} {l m : Nat}
def plainB (ops : List Oper) : Bool := ops.all fun o => match o.op with | .defer _ => false | _ => true
theorem plainB_spec {l : List Oper} (h : plainB l = true) (o : Oper) (ho : o ∈ l) : ∀ c, o.op ≠ .defer c := by
  intro c e
  have := List.all_eq_true.1 h o ho
  rw [e] at this
  cases this
theorem wp_inRound {o : Oper} {a : Act} {next : Act → World → Prop} {Q : Exit → Act → World → Prop} (hd : ∀ c, o.op ≠ .defer c) (h : o.wp P a w next Q) : o.wpIn (Fence.wide.inRound l) m P a w next Q := by
  refine ⟨fun f _ => trivial, ?_⟩
  rw [show (Fence.wide.inRound l).round = some l from rfl, Oper.semAt_some l _ _ hd]
  unfold Oper.wp at h
  generalize (execOp a.eval o).run P w = r at h
  cases r with
  | ok x w' =>
    cases x <;> simp only [Oper.upon, Oper.uponIn] at h ⊢ <;> first | exact h | exact h.elim | skip
    · exact ⟨fun h => by simp [Fence.wide] at h, CallsIn.inRound l (callsIn_wide.2 h)⟩
    · refine ⟨fun h => by simp [Fence.wide] at h, ?_⟩
      intro c cs _
      obtain ⟨v, w'', hr, hs⟩ := h c cs
      exact ⟨v, w'', hr, stepsIn_wide.2 hs⟩
  | halt x w' => cases x <;> simp only [Oper.upon, Oper.uponIn] at h ⊢ <;> first | exact h | exact h.elim
theorem stOp_inRound {i : Nat} {a : Act} {K : Act → Prop} {K' : Act → World → Prop} {Q' : Exit → Act → World → Prop} (hd : plainB ops.toList = true) (h : ∀ a, K a → K' a w) (hh : stOp P ops w i K a) : wpOpIn (Fence.wide.inRound l) m P ops Q' i K' a w := by
  unfold stOp at hh
  unfold wpOpIn
  split
  · rename_i ho; simp only [ho] at hh; exact h _ hh
  · rename_i o ho
    simp only [ho] at hh
    have hm : o ∈ ops.toList := by simpa using Array.mem_of_getElem? ho
    split
    · rename_i hw; simp only [hw, if_true] at hh; exact wp_inRound (plainB_spec hd o hm) (Oper.wp_of_still h hh)
    · rename_i hw; simp only [hw] at hh; exact ⟨fun f _ => trivial, h _ hh⟩
theorem head_inRound {n g : Nat} {L : Array Bool → Act → Prop} {Q' : Exit → Act → World → Prop} (hd : plainB ops.toList = true) (hL : ∀ listed a, L listed a → wpAnyIn (Fence.wide.inRound l) m P md ops Q' g listed a w) :
    ∀ (f : Nat) (listed : Array Bool) (a : Act), wpAnyL P md ops w n L f listed a → wpAnyIn (Fence.wide.inRound l) m P md ops Q' (f + g) listed a w
  | 0, listed, a, h => by rw [Nat.zero_add]; exact hL _ _ h
  | f + 1, listed, a, h => by
    rw [show f + 1 + g = (f + g) + 1 by omega]
    exact ⟨fun h0 => absurd h0 h.1, fun i hi => stOp_inRound hd (fun a' h' => head_inRound hd hL f _ a' h') (h.2 i hi).2⟩
theorem seq_inRound {F : Fence} {Q' : Exit → Act → World → Prop} : ∀ (l : List Oper) (k : Nat) (listed : Array Bool) (a : Act) (w : World), (∀ j, l[j]? = ops[k + j]?) →
    Region.seqB md ops l.length k listed = true → wpListIn F m P ops Q' l a w → wpAnyIn F m P md ops Q' l.length listed a w
  | [], _, _, _, _, _, hB, h => ⟨by simpa [Region.seqB] using hB, h⟩
  | o :: l, k, listed, a, w, hl, hB, h => by
    have h0 : ops[k]? = some o := by simpa using (hl 0).symm
    simp only [List.length_cons, Region.seqB, Bool.and_eq_true, decide_eq_true_eq] at hB
    refine ⟨fun h1 => (by rw [hB.1] at h1; cases h1), fun i hi => ?_⟩
    rw [hB.1] at hi
    have hik : i = k := by simpa using hi
    subst hik
    have hw : wpOpIn F m P ops Q' i (wpListIn F m P ops Q' l) a w := by unfold wpOpIn; simp only [h0]; exact h
    exact wpOpIn_mono (fun a' w' h' => seq_inRound l (i + 1) _ a' w' (fun j => by have := hl (j + 1); simpa [Nat.add_assoc, Nat.add_comm 1 j] using this) hB.2 h') hw
/-- The first n operations only read; the others come one behind the other. -/
theorem wpIn_still_tail {id : Nat} {Q : Exit → Act → World → Prop} {a : Act} {l' : List Oper} (n : Nat) (hm : P.follows .mixedOrders = true) (hd : plainB l' = true) (hB : Region.lexTailB .any l'.toArray n = true)
    (h : wpStill P l'.toArray w.drew (fun a' => wpListIn (Fence.wide.inRound l) m P l'.toArray Q (l'.drop n) a' w.drew) (l'.take n) a) : (Code.region id l'.toArray true).wpIn (Fence.wide.inRound l) m P Q a w := by
  simp only [Region.lexTailB, Bool.and_eq_true, decide_eq_true_eq] at hB
  obtain ⟨⟨⟨⟨hsel, hn⟩, hs⟩, hc⟩, hlex⟩ := hB
  have hn' : n < l'.length := by simpa using hn
  have htl : (l'.take n).length = n := by simp; omega
  have hdl : (l'.drop n).length = l'.toArray.size - n := by simp
  have inv0 : HeadInv .any l'.toArray n (Array.replicate l'.toArray.size false) :=
    ⟨by simp, fun j oj _ hl => (by rw [getD_replicate_false] at hl; cases hl), fun t _ ht => getD_in (by simpa using ht) (getD_replicate_false _ _)⟩
  have H := wpAnyL_lex (md := .any) (g := l'.toArray.size - n) hsel hs hc hn (l'.take n) 0 _ a (fun j hj => by
    have hj' : j < n := by rw [htl] at hj; exact hj
    simp [hj']) (by simpa using htl) inv0 (by rw [htl]; exact hlex) h
  refine wpIn_region_any hm ?_
  have := head_inRound (Q' := Q) (g := l'.toArray.size - n) (m := m) (l := l) (by simpa using hd) (fun listed a' hL => by
    have := seq_inRound (md := .any) (Q' := Q) (m := m) (F := Fence.wide.inRound l) (l'.drop n) n listed a' w.drew (fun j => by simp [List.getElem?_drop]) (by rw [hdl]; exact hL.1) hL.2
    rwa [hdl] at this) _ _ _ H
  rw [htl, show n + (l'.toArray.size - n) = l'.toArray.size by omega] at this
  exact this
end
end Go.Proofs.Ytkfgomhhenmmeaa

namespace Go.Proofs.Ytkfgomhhenmmeaa
open Go.RowKit
attribute [local go_sem] Oper.semAt_some

/-! ### Rows of two numbers each -/
def flat2 (xs : List (Int × Int)) : List Value := xs.flatMap fun p => [.int .i64 p.1, .int .i64 p.2]
theorem flat2_length (xs : List (Int × Int)) : (flat2 xs).length = xs.length * 2 := by
  induction xs with
  | nil => rfl
  | cons x xs ih => simp only [flat2, List.flatMap_cons, List.length_append, List.length_cons, List.length_nil] at ih ⊢; omega
theorem flat2_get (xs : List (Int × Int)) (j : Nat) (h : j < xs.length) : (flat2 xs)[j * 2]? = some (.int .i64 (nth (0, 0) xs j).1) ∧ (flat2 xs)[j * 2 + 1]? = some (.int .i64 (nth (0, 0) xs j).2) := by
  induction xs generalizing j with
  | nil => cases h
  | cons x xs ih =>
    cases j with
    | zero => simp [flat2, nth]
    | succ j =>
      have := ih j (by simpa using h)
      have e : (j + 1) * 2 = j * 2 + 1 + 1 := by omega
      rw [e]
      simpa [flat2, nth] using this
theorem flat2_set (xs : List (Int × Int)) (j : Nat) (p : Int × Int) (h : j < xs.length) : ((flat2 xs).set (j * 2) (.int .i64 p.1)).set (j * 2 + 1) (.int .i64 p.2) = flat2 (xs.set j p) := by
  induction xs generalizing j with
  | nil => cases h
  | cons x xs ih =>
    cases j with
    | zero => simp [flat2]
    | succ j =>
      have := ih j (by simpa using h)
      have e : (j + 1) * 2 = j * 2 + 1 + 1 := by omega
      rw [e]
      simpa [flat2] using this
theorem flat2_zero (n : Nat) : (madeCells #[.int .i64 0, .int .i64 0] (n * 2)) = (flat2 (List.replicate n (0, 0))).toArray := by
  apply Array.ext
  · simp [madeCells, flat2_length]
  · intro i h1 h2
    have hi : i < n * 2 := by simpa [madeCells] using h1
    have hz : ∀ j, nth (0, 0) (List.replicate n ((0 : Int), (0 : Int))) j = (0, 0) := fun j => by
      simp only [nth, List.getD_eq_getElem?_getD, List.getElem?_replicate]; split <;> rfl
    have key : (flat2 (List.replicate n (0, 0)))[i]? = some (.int .i64 0) := by
      rcases Nat.mod_two_eq_zero_or_one i with h | h
      · have := (flat2_get (List.replicate n (0, 0)) (i / 2) (by simp; omega)).1
        rw [hz, show i / 2 * 2 = i by omega] at this; exact this
      · have := (flat2_get (List.replicate n (0, 0)) (i / 2) (by simp; omega)).2
        rw [hz, show i / 2 * 2 + 1 = i by omega] at this; exact this
    have e2 : (flat2 (List.replicate n (0, 0))).toArray[i] = .int .i64 0 := by
      have := List.getElem?_eq_some_iff.1 key
      obtain ⟨_, h⟩ := this
      simpa using h
    rw [e2]
    rcases Nat.mod_two_eq_zero_or_one i with h | h <;> simp [madeCells, h]
theorem sl_flat {W : World} {r n : Nat} {xs : List (Int × Int)} {t : TypeId} (h : Blk W r (flat2 xs).toArray t) (hn : xs.length ≤ n) (hc : n ≤ 9223372036854775807) : Sl kField (fun b => b = r) W (some ⟨r, 0, none⟩) n xs := by
  refine ⟨hn, hc, fun j hj => ⟨_, _, rfl, rfl, h.lt, ⟨_, _, rfl, rfl, rfl⟩, fun i v hv => ?_⟩⟩
  obtain ⟨h0, h1⟩ := flat2_get xs j hj
  match i, hv with
  | 0, hv => simp at hv; subst hv; rw [add_plain]; exact h.cell _ (by rw [List.getElem?_toArray]; exact h0)
  | 1, hv => simp at hv; subst hv; rw [add_plain]; exact h.cell _ (by rw [List.getElem?_toArray]; exact h1)
theorem make_words (t e : TypeId) (ht : Try.prog.underlying t = some (.slice e)) (hinfo : (Try.prog.info? e).map (fun i => (i.zero, i.size, i.bytes)) = some (some (.agg #[.int .i64 0, .int .i64 0]), 2, 16)) (n : Nat) (hn : n ≤ 1000000) :
    ∀ W : World, (Instr.makeSlice t (.int .i64 (n : Int)) (.int .i64 (n : Int))).run Try.prog W = .ok (.slice (some ⟨W.heap.size, 0, none⟩) n n) (W.alloc (.cells (flat2 (List.replicate n (0, 0))).toArray e)) := by
  intro W
  obtain ⟨i0, hi, hzz⟩ := Option.map_eq_some_iff.1 hinfo
  simp only [Prod.mk.injEq] at hzz
  obtain ⟨hz0, hz1, hz2⟩ := hzz
  have := run_make (P := Try.prog) W t e i0 _ ht hi hz0 .i64 .i64 (n : Int) (n : Int) (by omega) (by omega) (by rw [hz2]; omega) (by omega)
  rw [hz1, Int.toNat_natCast] at this
  rw [this, ← flat2_zero]
  rfl
theorem infoW : (Try.prog.info? 122).map (fun i => (i.zero, i.size, i.bytes)) = some (some (.agg #[.int .i64 0, .int .i64 0]), 2, 16) := by kernel_rfl

/-! ### What has been written -/
def outL (ls : List Int) (pre : List Nat) : List (Int × Int) := (List.range ls.length).map fun i => if i ∈ pre then ((lenOf ls i : Int), (codeN ls i : Int)) else (0, 0)
def wordsL (ls : List Int) : List (Int × Int) := (List.range ls.length).map fun i => ((lenOf ls i : Int), (codeN ls i : Int))
theorem outL_length (ls : List Int) (pre : List Nat) : (outL ls pre).length = ls.length := by simp [outL]
theorem wordsL_length (ls : List Int) : (wordsL ls).length = ls.length := by simp [wordsL]
theorem wordsL_nth (ls : List Int) (i : Nat) (h : i < ls.length) : nth (0, 0) (wordsL ls) i = ((lenOf ls i : Int), (codeN ls i : Int)) := by
  rw [nth_eq _ _ i (by rw [wordsL_length]; exact h)]; simp [wordsL]
theorem outL_nil (ls : List Int) : outL ls [] = List.replicate ls.length (0, 0) := by
  simp only [outL, List.not_mem_nil, if_false]
  rw [List.map_const', List.length_range]
theorem outL_snoc (ls : List Int) (pre : List Nat) (x : Nat) (_ : x < ls.length) : outL ls (pre ++ [x]) = (outL ls pre).set x ((lenOf ls x : Int), (codeN ls x : Int)) := by
  apply List.ext_getElem
  · simp [outL]
  · intro i h1 h2
    by_cases hi : x = i
    · subst hi
      simp [outL]
    · rw [List.getElem_set_ne hi]
      simp only [outL, List.getElem_map, List.getElem_range, List.mem_append, List.mem_singleton]
      have : (i ∈ pre ∨ i = x) ↔ i ∈ pre := ⟨fun h => h.elim id (fun e => absurd e.symm hi), .inl⟩
      simp only [this]
theorem outL_all {ls : List Int} (h16 : ∀ k, lenOf ls k ≤ 16) : outL ls (ordN ls) = wordsL ls := by
  apply List.map_congr_left
  intro i hi
  rw [List.mem_range] at hi
  by_cases h0 : 0 < lenOf ls i
  · rw [if_pos ((mem_ordN h16 i).2 ⟨hi, h0⟩)]
  · rw [if_neg (fun h => h0 ((mem_ordN h16 i).1 h).2)]
    have : lenOf ls i = 0 := by omega
    rw [this]; unfold codeN; rw [if_pos this]; rfl

structure WoI (w : World) (ls : List Int) (A : Option Addr) (c g1 r g3 g4 : Nat) (pre : List Nat) (W : World) : Prop where
  box : Blk W g1 #[.slice A ls.length c] 22
  row : Blk W r (flat2 (outL ls pre)).toArray 122
  out : Blk W g3 #[.slice (some ⟨r, 0, none⟩) ls.length ls.length] 119
  cur : Blk W g4 #[.int .i64 (wN ls pre).1, .int .i64 (wN ls pre).2] 122
  low : Below w.heap.size w W

theorem words_start {w W3 : World} {ls : List Int} {A : Option Addr} {c gb : Nat}
    (h : Below ((((w.alloc (.cells #[.slice A ls.length c] 22)).alloc (.cells (flat2 (List.replicate ls.length (0, 0))).toArray 122)).alloc (.cells #[.slice (some ⟨w.heap.size + 1, 0, none⟩) ls.length ls.length] 119)).alloc (.cells #[.int .i64 0, .int .i64 0] 122)).heap.size
      ((((w.alloc (.cells #[.slice A ls.length c] 22)).alloc (.cells (flat2 (List.replicate ls.length (0, 0))).toArray 122)).alloc (.cells #[.slice (some ⟨w.heap.size + 1, 0, none⟩) ls.length ls.length] 119)).alloc (.cells #[.int .i64 0, .int .i64 0] 122)) W3)
    (e : gb = ((((w.alloc (.cells #[.slice A ls.length c] 22)).alloc (.cells (flat2 (List.replicate ls.length (0, 0))).toArray 122)).alloc (.cells #[.slice (some ⟨w.heap.size + 1, 0, none⟩) ls.length ls.length] 119)).alloc (.cells #[.int .i64 0, .int .i64 0] 122)).heap.size) :
    WoI w ls A c w.heap.size (w.heap.size + 1) (w.heap.size + 1 + 1) (w.heap.size + 1 + 1 + 1) [] W3 ∧ gb = w.heap.size + 1 + 1 + 1 + 1 := by
  obtain ⟨W1, h1⟩ : ∃ W1, w.alloc (.cells #[.slice A ls.length c] 22) = W1 := ⟨_, rfl⟩
  have a1 : Blk W1 w.heap.size #[.slice A ls.length c] 22 := h1 ▸ heap_alloc_new w _
  have s1 : W1.heap.size = w.heap.size + 1 := h1 ▸ World.size_alloc _ _
  have c1 : Below w.heap.size w W1 := h1 ▸ below_alloc (Below.refl _ _) _
  rw [h1] at h e
  obtain ⟨W2, h2⟩ : ∃ W2, W1.alloc (.cells (flat2 (List.replicate ls.length (0, 0))).toArray 122) = W2 := ⟨_, rfl⟩
  have a2 : Blk W2 W1.heap.size (flat2 (List.replicate ls.length (0, 0))).toArray 122 := h2 ▸ heap_alloc_new W1 _
  have s2 : W2.heap.size = W1.heap.size + 1 := h2 ▸ World.size_alloc _ _
  have c2 : Below W1.heap.size W1 W2 := h2 ▸ below_alloc (Below.refl _ _) _
  rw [h2] at h e
  obtain ⟨W4, h4⟩ : ∃ W4, W2.alloc (.cells #[.slice (some ⟨w.heap.size + 1, 0, none⟩) ls.length ls.length] 119) = W4 := ⟨_, rfl⟩
  have a4 : Blk W4 W2.heap.size #[.slice (some ⟨w.heap.size + 1, 0, none⟩) ls.length ls.length] 119 := h4 ▸ heap_alloc_new W2 _
  have s4 : W4.heap.size = W2.heap.size + 1 := h4 ▸ World.size_alloc _ _
  have c4 : Below W2.heap.size W2 W4 := h4 ▸ below_alloc (Below.refl _ _) _
  rw [h4] at h e
  obtain ⟨W5, h5⟩ : ∃ W5, W4.alloc (.cells #[.int .i64 0, .int .i64 0] 122) = W5 := ⟨_, rfl⟩
  have a5 : Blk W5 W4.heap.size #[.int .i64 0, .int .i64 0] 122 := h5 ▸ heap_alloc_new W4 _
  have s5 : W5.heap.size = W4.heap.size + 1 := h5 ▸ World.size_alloc _ _
  have c5 : Below W4.heap.size W4 W5 := h5 ▸ below_alloc (Below.refl _ _) _
  rw [h5] at h e
  rw [s4, s2, s1] at a5
  rw [s2, s1] at a4
  rw [s1] at a2
  refine ⟨⟨(((a1.below c2).below c4).below c5).below h, ?_, ((a4.below c5).below h), a5.below h, below2 (below2 (below2 (below2 c1 c2) c4) c5) h⟩, by omega⟩
  rw [outL_nil]
  exact ((a2.below c4).below c5).below h
theorem wN_le {ls : List Int} (h16 : ∀ k, lenOf ls k ≤ 16) (A B : List Nat) (i : Nat) (h : ordN ls = A ++ i :: B) : (wN ls A).1 ≤ lenOf ls i := by
  by_cases hA : A = []
  · subst hA; exact Nat.zero_le _
  · obtain ⟨A', p, rfl⟩ : ∃ A' p, A = A' ++ [p] := ⟨A.dropLast, A.getLast hA, (List.dropLast_concat_getLast hA).symm⟩
    have h' : ordN ls = A' ++ p :: i :: B := by rw [h, List.append_assoc]; rfl
    rw [wN_code h16 A' (i :: B) p h']
    have hs := ordN_sorted ls
    rw [h'] at hs
    have := (List.pairwise_cons.1 (List.pairwise_append.1 hs).2.1).1 i (by simp)
    rw [ltW_iff] at this
    show lenOf ls p ≤ _
    omega

theorem wN_pos {ls : List Int} (h16 : ∀ k, lenOf ls k ≤ 16) (A B : List Nat) (i : Nat) (h : ordN ls = A ++ i :: B) : wN ls A = (0, 0) ∨ 0 < (wN ls A).1 := by
  by_cases hA : A = []
  · subst hA; exact .inl rfl
  · right
    obtain ⟨A', p, rfl⟩ : ∃ A' p, A = A' ++ [p] := ⟨A.dropLast, A.getLast hA, (List.dropLast_concat_getLast hA).symm⟩
    have h' : ordN ls = A' ++ p :: i :: B := by rw [h, List.append_assoc]; rfl
    rw [wN_code h16 A' (i :: B) p h']
    exact ((mem_ordN h16 p).1 (by rw [h']; simp)).2
/-- Behind a round. -/
theorem words_round {w W W3 : World} {ls : List Int} {A : Option Addr} {c g1 r g3 g4 x : Nat} {pre : List Nat} {L C : Nat} (h : WoI w ls A c g1 r g3 g4 pre W) (h13 : g1 < r ∧ r < g3 ∧ g3 < g4) (hw : w.heap.size ≤ g1) (hx : x < ls.length)
    (hL : lenOf ls x = L ∧ codeN ls x = C) (hwn : wN ls (pre ++ [x]) = (lenOf ls x, codeN ls x)) (hon : outL ls (pre ++ [x]) = (outL ls pre).set x ((lenOf ls x : Int), (codeN ls x : Int)))
    (hB : Blk W3 g4 #[.int .i64 (L : Int), .int .i64 (C : Int)] 122) (hu : Upd (fun b => b = g4) W W3) :
    WoI w ls A c g1 r g3 g4 (pre ++ [x]) ((W3.setCell ⟨r, x * 2, none⟩ (.int .i64 (L : Int))).setCell ⟨r, x * 2 + 1, none⟩ (.int .i64 (C : Int))) ∧
      Upd (fun b => b = g4 ∨ b = r) W ((W3.setCell ⟨r, x * 2, none⟩ (.int .i64 (L : Int))).setCell ⟨r, x * 2 + 1, none⟩ (.int .i64 (C : Int))) := by
  have hk : Keep (fun b => b ≠ g4) W W3 := hu.keep fun b h => h
  have hs : Upd (fun b => b = r) W3 ((W3.setCell ⟨r, x * 2, none⟩ (.int .i64 (L : Int))).setCell ⟨r, x * 2 + 1, none⟩ (.int .i64 (C : Int))) :=
    (Upd.setCell (fun b => b = r) W3 r (x * 2) _ rfl).trans (Upd.setCell (fun b => b = r) _ r (x * 2 + 1) _ rfl) fun _ _ h => h
  have hk2 : Keep (fun b => b ≠ r) W3 ((W3.setCell ⟨r, x * 2, none⟩ (.int .i64 (L : Int))).setCell ⟨r, x * 2 + 1, none⟩ (.int .i64 (C : Int))) := hs.keep fun b h => h
  have hr := ((h.row.keep hk (by omega)).set (x * 2) (.int .i64 (L : Int))).set (x * 2 + 1) (.int .i64 (C : Int))
  have hu2 : Upd (fun b => b = g4 ∨ b = r) W ((W3.setCell ⟨r, x * 2, none⟩ (.int .i64 (L : Int))).setCell ⟨r, x * 2 + 1, none⟩ (.int .i64 (C : Int))) :=
    (hu.weak (o' := fun b => b = g4 ∨ b = r) fun _ _ h => .inl h).trans (hs.weak (o' := fun b => b = g4 ∨ b = r) fun _ _ h => .inr h) fun _ _ h => h
  refine ⟨⟨(h.box.keep hk (by omega)).keep hk2 (by omega), ?_, (h.out.keep hk (by omega)).keep hk2 (by omega), ?_, ?_⟩, hu2⟩
  · rw [hon, ← flat2_set _ _ _ (by rw [outL_length]; exact hx), hL.1, hL.2]
    have e : (((flat2 (outL ls pre)).toArray.setIfInBounds (x * 2) (.int .i64 (L : Int))).setIfInBounds (x * 2 + 1) (.int .i64 (C : Int))) = (((flat2 (outL ls pre)).set (x * 2) (.int .i64 (L : Int))).set (x * 2 + 1) (.int .i64 (C : Int))).toArray := by simp
    rw [e] at hr
    exact hr
  · rw [hwn, hL.1, hL.2]; exact hB.keep hk2 (by omega)
  · have hlt := h.low.size
    exact h.low.trans (hu2.below hlt (fun b _ e => by rcases e with e | e <;> omega))
theorem WoI.drew {w W : World} {ls : List Int} {A : Option Addr} {c g1 r g3 g4 : Nat} {pre : List Nat} (h : WoI w ls A c g1 r g3 g4 pre W) : WoI w ls A c g1 r g3 g4 pre W.drew := ⟨h.box, h.row, h.out, h.cur, h.low.drew⟩
theorem words_keeps {w W W' : World} {ls : List Int} {A : Option Addr} {c g1 r g3 g4 : Nat} {pre : List Nat} (h : WoI w ls A c g1 r g3 g4 pre W) (hu : Upd (fun b => b = g4 ∨ b = r) W W') : KeepsOthers W W' :=
  ⟨hu.size, fun k x hx hc => (hu.blk k (Array.getElem?_eq_some_iff.1 hx).1 (fun e => by
    rcases e with rfl | rfl
    · rw [show W.heap[k]? = _ from h.cur] at hx; cases hx; cases hc
    · rw [show W.heap[k]? = _ from h.row] at hx; cases hx; cases hc)).trans hx⟩

set_option maxHeartbeats 4000000 in
set_option maxRecDepth 100000 in
theorem words_any (A : Option Addr) (c : Nat) (ls : List Int) (w : World) (hS : RI w A c ls) (hr : Right ls) :
    Calls Try.prog 77 #[.slice A ls.length c] w fun e w' => ∃ r, e = .returned (.slice (some ⟨r, 0, none⟩) ls.length ls.length) ∧ Blk w' r (flat2 (wordsL ls)).toArray 122 ∧ w.heap.size ≤ r ∧ Below w.heap.size w w' := by
  have hmk := make_words 119 122 Try.underlying119 infoW ls.length (by have := hr.len; omega)
  have HR := Lib.hid hr
  have HS := Lib.hid hS
  clear hr hS
  refine (callsIn_wide (n := 9)).1 ?_
  refine callsIn_of_wp_marks Try.func77 rfl trivial ?_ rfl
  simp only [Try.ntmps77, List.size_toArray, List.length_cons, List.length_nil, Nat.reduceAdd, Nat.reduceSub, Array.replicate_succ, Array.replicate_zero, List.push_toArray, List.append_toArray, List.nil_append, List.cons_append]
  gi_wp2_with (refine ⟨trivial, ?_⟩; gi_at_call 88; refine (callsIn_wide.2 (ordered_any _ _ _ _)).mono ?_; rintro e W3 ⟨gb, rfl, e1, e2, bB, b3⟩)
  clear hmk
  obtain ⟨g1, hg1⟩ : ∃ g1, w.heap.size = g1 := ⟨_, rfl⟩
  obtain ⟨r, hgr⟩ : ∃ r, g1 + 1 = r := ⟨_, rfl⟩
  obtain ⟨g3, hg3⟩ : ∃ g3, r + 1 = g3 := ⟨_, rfl⟩
  obtain ⟨g4, hg4⟩ : ∃ g4, g3 + 1 = g4 := ⟨_, rfl⟩
  have hI0 : WoI w ls A c g1 r g3 g4 [] W3 ∧ gb = g4 + 1 := by
    subst hg1 hgr hg3 hg4
    exact words_start b3 e1.out
  obtain ⟨hI0, hgb⟩ := hI0
  simp only [hg1, hgr, hg3, hg4]
  have lB := hI0.box.lt
  have lC := hI0.cur.lt
  have hz3 := e2.out
  have hS3 := (HS.out.weak (ok' := fun b => b < g1 ∨ b = gb) (fun b hb _ => .inl (by omega))).below hI0.low
  have HGB := Lib.hid hgb
  have HZ3 := Lib.hid hz3
  have HG := Lib.hid (show w.heap.size = g1 ∧ g1 + 1 = r ∧ r + 1 = g3 ∧ g3 + 1 = g4 from ⟨hg1, hgr, hg3, hg4⟩)
  have hlt1 : g1 < r ∧ r < g3 ∧ g3 < g4 ∧ g4 < gb ∧ gb < W3.heap.size := by omega
  clear e1 e2 b3
  refine range_next rfl (by decide) (gf := 92) (lb := #[.pointer (some ⟨gb, 0, none⟩)]) rfl trivial (enters_of Try.func92 (by kernel_rfl) rfl)
    (ordered1_yields gb A c ls W3 (fun b => b < g1 ∨ b = gb) hS3 bB (.inr rfl) 8 (by decide)) (fun r h => h.elim) (fun r h => by omega) (Below.refl _ _) (fun _ => rfl)
    (fun pre W => WoI w ls A c g1 r g3 g4 pre W) (fun _ _ _ => False) ?hI (fun _ _ _ _ _ h _ _ => h) hI0
    (fun x a' W => a' = { tmps := (.slice A ls.length c :: .pointer (some ⟨g1, 0, none⟩) :: .slice none 0 0 :: .pointer (some ⟨g3, 0, none⟩) :: .pointer (some ⟨g4, 0, none⟩) :: .int .i64 (x : Int) :: .slice A ls.length c :: .int .i64 ls.length :: .slice (some ⟨r, 0, none⟩) ls.length ls.length :: .agg #[.int .i64 0, .int .i64 0] :: .slice A ls.length c :: .func (.func 92) #[] #[.pointer (some ⟨gb, 0, none⟩)] :: .int .i64 (x : Int) :: undef :: undef :: undef :: undef :: undef :: undef :: undef :: undef :: undef :: undef :: undef :: undef :: undef :: undef :: undef :: undef :: undef :: undef :: undef :: undef :: undef :: undef :: undef :: undef :: undef :: undef :: undef :: []).toArray, defers := [] })
    (fun _ _ _ _ _ _ h _ _ => h) ?assign ?body ?done (fun _ _ _ _ _ _ h _ => h.elim)
  case hI =>
    rintro s X Y row hs hg hr
    have hO : Other X row := fun r e => by
      rcases hr r e with h | ⟨_, x, hx, hc⟩
      · exact h.elim
      · exact ⟨x, hx, hc⟩
    refine ⟨hs.box.firm hg hO, hs.row.firm hg hO, hs.out.firm hg hO, hs.cur.firm hg hO, below_grown hs.low hs.low.size hg (fun k e => ?_)⟩
    rcases hr k e with h | ⟨h, _⟩
    · exact h.elim
    · omega
  case assign =>
    clear hg1 hgr hg3 hg4 hgb hz3
    intro l pre x W K hi _ hK
    gi_wp2
    exact hK _ _ (KeepsOthers.refl _ |>.from _) (Keep.refl _ _) hi rfl
  case body =>
    clear hg1 hgr hg3 hg4 hgb hz3
    rintro l pre x a' W hs rfl ⟨B, hB⟩
    have h16 := HR.out.ok.len16
    have hord : ordN ls = pre ++ x :: B := by rw [← hB, List.append_assoc]; rfl
    obtain ⟨hxl, hxp⟩ := (mem_ordN h16 x).1 (by rw [hord]; simp)
    have hcode := wN_code h16 pre B x hord
    have hle := wN_le h16 pre B x hord
    have hlt := code_lt h16 HR.out.full hxl
    have hL16 := h16 x
    have hsn := wN_snoc ls pre x
    rw [hcode] at hsn
    have HON := Lib.hid (outL_snoc ls pre x hxl)
    obtain ⟨ad, rfl, hc⟩ := rd_int (HS.out.below hs.low) x hxl
    have hnx : nth 0 ls x = ((lenOf ls x : Nat) : Int) := by have := HR.out.ok.at x; unfold lenOf; omega
    rw [hnx] at hc
    have hblk : (ad.add x).block < w.heap.size := by
      obtain ⟨ad', cs, e', _, hl, _⟩ := HS.out.rd x hxl
      rw [add_block, Option.some.inj e']; exact hl
    have hcv : ∀ v, (W.setCell ⟨g4, 1, none⟩ v).cell? (ad.add x) = some (.int .i64 ((lenOf ls x : Nat) : Int)) := fun v => (Keep.of_grown1 (grown_setCell W g4 1 v)).cell (by have := HG.out; omega) hc
    clear hblk
    have k1 := hs.box.cell 0 rfl
    have k3 := hs.out.cell 0 rfl
    have k4 := hs.cur.cell 0 rfl
    have k5 := hs.cur.cell 1 rfl
    have f4 := hs.cur.free 0
    have f5 := hs.cur.free 1
    have HWI := Lib.hid hs
    obtain ⟨a, ha⟩ : ∃ a, (wN ls pre).1 = a := ⟨_, rfl⟩
    obtain ⟨b, hb⟩ : ∃ b, (wN ls pre).2 = b := ⟨_, rfl⟩
    obtain ⟨L, hL⟩ : ∃ L, lenOf ls x = L := ⟨_, rfl⟩
    obtain ⟨C, hC⟩ : ∃ C, codeN ls x = C := ⟨_, rfl⟩
    have hab : wN ls pre = (a, b) := by rw [← ha, ← hb]
    rw [hab, hL, hC] at hsn
    rw [ha] at k4 hle
    rw [hb] at k5
    rw [hL] at hc hle hlt hL16
    simp only [hL] at hcv
    rw [hC] at hlt
    obtain ⟨d, hd⟩ : ∃ d, L - a = d := ⟨_, rfl⟩
    have hw1 : IntKind.i64.wrap ((L : Int) - (a : Int)) = (d : Int) := by rw [IntWalk.i64_in _ (by omega)]; omega
    have HWN := Lib.hid hcode
    have HH := Lib.hid (show lenOf ls x = L ∧ codeN ls x = C from ⟨hL, hC⟩)
    have hpos := wN_pos h16 pre B x hord
    rw [hab] at hpos
    have h2L : 2 ^ L ≤ 65536 := by have := Nat.pow_le_pow_right (n := 2) (by decide) hL16; simpa using this
    have hra := hs.row.free (x * 2)
    have hrb := hs.row.free (x * 2 + 1)
    obtain ⟨va, hva⟩ : ∃ v, W.cell? ⟨r, x * 2, none⟩ = some v := ⟨_, hs.row.cell (x * 2) (by rw [List.getElem?_toArray]; exact (flat2_get _ x (by rw [outL_length]; exact hxl)).1)⟩
    obtain ⟨vb, hvb⟩ : ∃ v, W.cell? ⟨r, x * 2 + 1, none⟩ = some v := ⟨_, hs.row.cell (x * 2 + 1) (by rw [List.getElem?_toArray]; exact (flat2_get _ x (by rw [outL_length]; exact hxl)).2)⟩
    have hxi : (0 : Int) ≤ (x : Int) := by omega
    have hxn : (x : Int) < (ls.length : Int) := by omega
    have n1 : g1 ≠ g4 := by omega
    have n2 : g3 ≠ g4 := by omega
    have n3 : r ≠ g4 := by omega
    rcases hpos with hz | hz
    · injection hz with hz1 hz2
      subst hz1 hz2
      have hC0 : C = 0 := by unfold stepW at hsn; rw [if_pos rfl] at hsn; injection hsn
      subst hC0
      have hw2 : IntKind.i64.wrap ((0 : Int) * 2 ^ L) = 0 := by rw [Int.zero_mul]; rfl
      have hdL : d = L := by omega
      subst hdL
      have hd16 : (d : Int) ≤ 64 := by omega
      have hw1' : IntKind.i64.wrap (d : Int) = (d : Int) := IntWalk.i64_in _ (by omega)
      clear hcode hsn hab ha hb hL hC hd hlt hnx h16 hB hord hxp hS3 hI0 bB hs hcv
      gi_wp2
      refine wpIn_still_tail 15 (by kernel_rfl) (by kernel_rfl) (by kernel_rfl) ?_
      simp only [List.take_succ_cons, List.take_zero, List.drop_succ_cons, List.drop_zero]
      repeat still_step
      try refine wpStill_nil ?_
      rw [show IntKind.i64.wrap 0 = 0 from rfl]
      clear hw1 hw2 hw1'
      gi_wp2
      obtain ⟨W3', hW3'⟩ : ∃ W', (W.setCell ⟨g4, 0, none⟩ (.int .i64 (d : Int))).setCell ⟨g4, 1, none⟩ (.int .i64 0) = W' := ⟨_, rfl⟩
      have hB3 : Blk W3' g4 #[.int .i64 (d : Int), .int .i64 ((0 : Nat) : Int)] 122 := by rw [← hW3']; exact (HWI.out.cur.set 0 (.int .i64 (d : Int))).set 1 (.int .i64 0)
      rw [hW3']
      have hgg := HG.out
      have hu3 : Upd (fun b => b = g4) W W3' := by rw [← hW3']; exact (Upd.setCell (fun b => b = g4) _ g4 0 _ rfl).trans (Upd.setCell (fun b => b = g4) _ g4 1 _ rfl) fun _ _ h => h
      obtain ⟨hwo, huo⟩ := words_round HWI.out (by omega) (by omega) hxl HH.out HWN.out HON.out (W3 := W3') hB3 hu3
      have huo' := huo.trans (Upd.drew (fun b => b = g4 ∨ b = r) _) fun _ _ h => h
      exact ⟨(words_keeps HWI.out huo').from _, huo'.keep (fun i hi e => by rcases e with e | e <;> rcases hi with hi | hi <;> omega), hwo.drew⟩
    · have hCb : C = (b + 1) * 2 ^ d := by
        unfold stepW at hsn
        rw [if_neg (fun e => by injection e with h1 h2; have hz : 0 < a := hz; omega)] at hsn
        injection hsn with h1 h2
        rw [← hd, h2, hL]
      have hb16 : b + 1 ≤ 65536 := by
        have h1 : 1 ≤ 2 ^ d := Nat.one_le_two_pow
        have h3 : (b + 1) * 1 ≤ (b + 1) * 2 ^ d := Nat.mul_le_mul_left _ h1
        omega
      have hw2 : IntKind.i64.wrap (((b : Int) + 1) * 2 ^ d) = (C : Int) := by
        have e1 : (((b : Int) + 1) * 2 ^ d) = (C : Int) := by rw [hCb]; simp
        rw [e1]; exact IntWalk.i64_in _ (by omega)
      have hne : ((a : Int) == 0) = false := by rw [beq_eq_false_iff_ne]; have hz : 0 < a := hz; omega
      have hd16 : (d : Int) ≤ 64 := by omega
      clear hcode hsn hab ha hb hL hC hd hCb hlt hnx h16 hB hord hxp hS3 hI0 bB hs hz
      gi_wp2
      refine wpIn_still_tail 15 (by kernel_rfl) (by kernel_rfl) (by kernel_rfl) ?_
      simp only [List.take_succ_cons, List.take_zero, List.drop_succ_cons, List.drop_zero]
      repeat still_step
      try refine wpStill_nil ?_
      clear hw1 hw2 hne
      have hgg : W.cell? ⟨g4, 0, none⟩ = some (.int .i64 (a : Int)) := k4
      clear hcv
      gi_wp2
      clear hgg
      obtain ⟨W3', hW3'⟩ : ∃ W', ((W.setCell ⟨g4, 1, none⟩ (.int .i64 ((b : Int) + 1))).setCell ⟨g4, 0, none⟩ (.int .i64 (L : Int))).setCell ⟨g4, 1, none⟩ (.int .i64 (C : Int)) = W' := ⟨_, rfl⟩
      have hB3 : Blk W3' g4 #[.int .i64 (L : Int), .int .i64 (C : Int)] 122 := by rw [← hW3']; exact ((HWI.out.cur.set 1 (.int .i64 ((b : Int) + 1))).set 0 (.int .i64 (L : Int))).set 1 (.int .i64 (C : Int))
      rw [hW3']
      have hgg := HG.out
      have hu3 : Upd (fun b => b = g4) W W3' := by rw [← hW3']; exact ((Upd.setCell (fun b => b = g4) _ g4 1 _ rfl).trans (Upd.setCell (fun b => b = g4) _ g4 0 _ rfl) fun _ _ h => h).trans (Upd.setCell (fun b => b = g4) _ g4 1 _ rfl) fun _ _ h => h
      obtain ⟨hwo, huo⟩ := words_round HWI.out (by omega) (by omega) hxl HH.out HWN.out HON.out (W3 := W3') hB3 hu3
      have huo' := huo.trans (Upd.drew (fun b => b = g4 ∨ b = r) _) fun _ _ h => h
      exact ⟨(words_keeps HWI.out huo').from _, huo'.keep (fun i hi e => by rcases e with e | e <;> rcases hi with hi | hi <;> omega), hwo.drew⟩
  case done =>
    clear hg1 hgr hg3 hg4 hgb hz3
    rintro D xs W hD rfl hs hK
    have k3 := hs.out.cell 0 rfl
    have hO : Other W (some D) := fun r e => by cases e; exact ⟨_, hK, rfl⟩
    gi_wp2
    refine ⟨by simp, .inl ⟨_, _, rfl, run_takeDeferred hK, ?_⟩⟩
    refine ⟨_, results_tmp rfl _ _ _, _, rfl, ?_, by have := HG.out; omega, ?_⟩
    · rw [← outL_all HR.out.ok.len16]; exact hs.row.firm (grownBy_putObj' W D _) hO
    · exact below_grown hs.low hs.low.size (grownBy_putObj' W D _) (fun k e => by cases e; have := HG.out; omega)
end Go.Proofs.Ytkfgomhhenmmeaa

namespace Go.Proofs.Ytkfgomhhenmmeaa
open Go.RowKit

theorem rd_flat {W : World} {r : Nat} {xs : List (Int × Int)} {t : TypeId} (h : Blk W r (flat2 xs).toArray t) (j : Nat) (hj : j < xs.length) :
    W.cell? ⟨r, j * 2, none⟩ = some (.int .i64 (nth (0, 0) xs j).1) ∧ W.cell? ⟨r, j * 2 + 1, none⟩ = some (.int .i64 (nth (0, 0) xs j).2) := by
  obtain ⟨h0, h1⟩ := flat2_get xs j hj
  exact ⟨h.cell _ (by rw [List.getElem?_toArray]; exact h0), h.cell _ (by rw [List.getElem?_toArray]; exact h1)⟩

def codesL (ls : List Int) : List Int := (List.range ls.length).map fun i => (codeN ls i : Int)
def codesR (ls : List Int) : List Int := if checkN ls = 0 then codesL ls else []
theorem codesL_length (ls : List Int) : (codesL ls).length = ls.length := by simp [codesL]
theorem codesL_nth (ls : List Int) (i : Nat) (h : i < ls.length) : nth 0 (codesL ls) i = (codeN ls i : Int) := by
  rw [nth_eq 0 _ i (by rw [codesL_length]; exact h)]; simp [codesL]

set_option maxHeartbeats 1000000 in
set_option maxRecDepth 100000 in
theorem codes_any (A : Option Addr) (c : Nat) (ls : List Int) (w : World) (hS : RI w A c ls) :
    Calls Try.prog 58 #[.slice A ls.length c] w fun e w' => ∃ v, e = .returned (.tuple #[v, .int .i64 (checkN ls)]) ∧ OwnI 3 .i64 w.heap.size w' v (codesR ls) ∧ Below w.heap.size w w' := by
  by_cases h : checkN ls = 0
  · have hr := (checkN_right ls).1 h
    have hlen := hr.len
    have HC := Lib.hid (check_any A c ls w hS)
    have HX := Lib.hid h
    have HE := Lib.hid (show codesR ls = codesL ls by simp [codesR, h])
    have HR := Lib.hid hr
    have HS := Lib.hid hS
    clear h hr hS
    go_enter Try.func58, Try.ntmps58
    go_wp2_with (first
      | (go_at_call 76; refine HC.out.mono ?_; rintro e w2 ⟨rfl, b2⟩; rw [HX.out]; have HW := Lib.hid (words_any A c ls w2 (HS.out.below b2) HR.out))
      | (go_at_call 77; refine HW.out.mono ?_; rintro e w3 ⟨r, rfl, hB3, hr3, b3⟩))
    have b23 := below2 b2 b3
    have HB3 := Lib.hid hB3
    clear HW HC hB3
    go_loopw [5, 16] (fun v i wr => ∃ k : Nat, k ≤ ls.length ∧ i = .int .i64 k ∧ OwnI 3 .i64 w3.heap.size wr v ((codesL ls).take k) ∧ Below w3.heap.size w3 wr) (fun _ i _ => ls.length - (intOf i).toNat)
    case atStart => exact ⟨0, Nat.zero_le _, rfl, OwnI.nil _ _ _ _, Below.refl _ _⟩
    case round =>
      obtain ⟨k, hk, rfl, hO, hB⟩ := hrel
      by_cases hlt : k < ls.length
      · obtain ⟨hc0, hc1⟩ := rd_flat (HB3.out.below hB) k (by rw [wordsL_length]; exact hlt)
        rw [wordsL_nth _ _ hlt] at hc0 hc1
        have HT := Lib.hid (take_succ_nth 0 (codesL ls) k (by rw [codesL_length]; exact hlt))
        rw [codesL_nth _ _ hlt] at HT
        have hlk : ((codesL ls).take k).length ≤ k := by rw [List.length_take]; omega
        have HO := Lib.hid hO
        have hal := below_alloc (Below.refl wr.heap.size wr) (.cells #[.int .i64 (lenOf ls k : Int), .int .i64 (codeN ls k : Int)] 122)
        have HA := Lib.hid hal
        clear hO hal
        go_wp2_with (at_builtin; (refine append_one (w0 := w3) w3.heap.size rfl (.tmp 20) (.tmp 23) 22 3 .i64 8 rfl Try.underlying22 infoI (by decide) _ ((codesL ls).take k) (codeN ls k) rfl (by rw [World.size_alloc]; rfl) (HO.out.below HA.out) (hB.trans (HA.out.mono hB.size)) (by have := hB.size; have := HA.out.size; omega) (by omega) ?_); intro v1 w4 hO4 hB4 _ _)
        go_roundw
        case rel => exact ⟨k + 1, by omega, by go_num, by rw [HT.out]; exact hO4, hB4⟩
        case measure => simp [intOf]; omega
      · obtain rfl : k = ls.length := by omega
        have HT := Lib.hid (show (codesL ls).take ls.length = codesL ls by rw [List.take_of_length_le (by rw [codesL_length]; exact Nat.le_refl _)])
        rw [HT.out] at hO
        go_wp2
        go_ret2
        exact ⟨_, ret_two rfl (by rw [HX.out]; rfl), by rw [HE.out]; exact hO.mono b23.size, below2 b23 hB⟩
  · have HC := Lib.hid (check_any A c ls w hS)
    have hb : (checkN ls == 0) = false := by simpa using h
    have hb2 : (checkN ls != 0) = true := by simpa using h
    have HE := Lib.hid (show codesR ls = [] by simp [codesR, h])
    clear h
    go_enter Try.func58, Try.ntmps58
    go_wp2_with (go_at_call 76; refine HC.out.mono ?_; rintro e w2 ⟨rfl, b2⟩)
    go_ret2
    exact ⟨_, ret_two rfl rfl, by rw [HE.out]; exact OwnI.nil _ _ _ _, b2⟩

/-- What Write answers. -/
def writeE (ls : List Int) (n : Nat) (s : Int) : Int := if checkN ls ≠ 0 then checkN ls else if hasB ls s = false then 5 else fullE n (lenOf ls s.toNat)
def wordB (ls : List Int) (s : Int) : List Bool := if checkN ls ≠ 0 ∨ hasB ls s = false then [] else numB (codeN ls s.toNat) (lenOf ls s.toNat)
theorem hasB_spec {ls : List Int} {s : Int} (h : hasB ls s = true) : ∃ k : Nat, s = (k : Int) ∧ k < ls.length ∧ 0 < lenOf ls k := by
  simp only [hasB, Bool.and_eq_true, decide_eq_true_eq] at h
  obtain ⟨h0, h1, h2⟩ := h
  refine ⟨s.toNat, by omega, by omega, ?_⟩
  unfold lenOf; omega
theorem fullB_nil (bs : List Bool) (h : bs.length ≤ 1048576) : fullB bs [] = bs := by unfold fullB; rw [if_neg (by simp; omega)]; simp

end Go.Proofs.Ytkfgomhhenmmeaa

namespace Go.Proofs.Ytkfgomhhenmmeaa
open Go Go.RowKit Go.Maps

theorem laidW : laidOutB Try.prog = true := by kernel_rfl
theorem rowWd : (122 : TypeId) < Try.prog.types.size := of_decide_eq_true (by kernel_rfl)
theorem wideWd : (match Try.prog.underlying 122 with | some (.array _ _) | some (.struct _) => true | _ => false) = true := by kernel_rfl
theorem deepWd : Try.prog.keyTypeAt 3 122 = true := by kernel_rfl
set_option maxRecDepth 100000 in
theorem klawWd : WideMaps.KeyLaw Try.prog 122 := deep_law_laid laidW (m := 3) (by omega) rowWd deepWd wideWd
theorem lawWd : Keyed Try.prog 122 := Keyed.of_law klawWd
def klW (k : Nat × Nat) : Lit := .string (keyBytes [.int .i64 (k.1 : Int), .int .i64 (k.2 : Int)])
def WKey (k : Nat × Nat) : Prop := k.1 ≤ 100000000 ∧ k.2 ≤ 100000000
def kvW (k : Nat × Nat) : Value := .agg #[.int .i64 (k.1 : Int), .int .i64 (k.2 : Int)]
theorem wfN (n : Nat) (h : n ≤ 100000000) : (Lit.int .i64 (n : Int)).wf = true := by
  have h1 : IntKind.i64.min ≤ (n : Int) := by
    have : IntKind.i64.min = -9223372036854775808 := rfl
    omega
  simp [Lit.wf, h1]
  omega
theorem keyTypeWd : Try.prog.keyType 122 = true := by kernel_rfl
theorem cellsWd : Try.prog.cellsOf 122 = 2 := by kernel_rfl
theorem keyW {k : Nat × Nat} (h : WKey k) : keyOf Try.prog 122 (kvW k) = some (klW k) := by
  have h1 := wfN k.1 h.1
  have h2 := wfN k.2 h.2
  obtain ⟨n, hn⟩ : ∃ n, Try.prog.types.size = n + 1 := ⟨Try.prog.types.size - 1, by have : 0 < Try.prog.types.size := of_decide_eq_true (by kernel_rfl); omega⟩
  unfold keyOf
  have hl : Try.prog.keyLits (n + 1 + 1) 122 [.int .i64 (k.1 : Int), .int .i64 (k.2 : Int)] = some [.int .i64 (k.1 : Int), .int .i64 (k.2 : Int)] := by
    have hi : ∀ v, (Lit.int .i64 v).wf = true → Try.prog.keyLits (n + 1) 3 [.int .i64 v] = some [.int .i64 v] := fun v hv => by
      unfold Program.keyLits
      rw [Try.underlying3]
      simp [hv]
    unfold Program.keyLits
    rw [Try.underlying122]
    have hc3 : Try.prog.cellsOf 3 = 1 := by kernel_rfl
    simp [cellsWd, hc3, hi _ h1, hi _ h2]
  have hf : (kvW k).formed Try.prog 122 = true := by
    unfold kvW Value.formed
    rw [Try.underlying122]
    simp [cellsWd]
  have hcells : (kvW k).cells.toList = [.int .i64 (k.1 : Int), .int .i64 (k.2 : Int)] := rfl
  have hsz : Try.prog.types.size + 1 = n + 1 + 1 := by rw [hn]
  rw [Try.underlying122]
  simp only [keyTypeWd, hf, Bool.and_self, if_true, hcells, hsz, hl]
  rfl
theorem kvW_inj {k k' : Nat × Nat} (h : kvW k = kvW k') : k = k' := by
  unfold kvW at h
  simp at h
  exact Prod.ext (by omega) (by omega)
theorem klW_inj {k k' : Nat × Nat} (h : WKey k) (h' : WKey k') (e : klW k = klW k') : k = k' :=
  kvW_inj (lawWd.inj (keyW h) (e ▸ keyW h'))
theorem isKeyW {k : Nat × Nat} (h : WKey k) : WideAt.IsKeyLit (klW k) := lawWd.key (keyW h)

/-- A map from words to numbers. -/
def SymM (n : Nat) (w : World) (b : Nat) (f : Nat × Nat → Option Nat) : Prop :=
  ∃ D : DataW Unit, w.ownsMap Try.prog 122 (plainElem Try.prog 3) b n D ∧ IsMap D ∧ ∀ k, WKey k → Maps.has D (klW k) = (f k).isSome ∧ ∀ x, f k = some x → D.atKey (klW k) (.lit (.int .i64 0)) = .lit (.int .i64 (x : Int))
/-- A set of words, kept as a map to bools. -/
def BegM (n : Nat) (w : World) (b : Nat) (f : Nat × Nat → Bool) : Prop :=
  ∃ D : DataW Unit, w.ownsMap Try.prog 122 (plainElem Try.prog 4) b n D ∧ IsMap D ∧ ∀ k, WKey k → D.atKey (klW k) (.lit (.bool false)) = .lit (.bool (f k))
section
variable {n b : Nat} {w w' : World} {f : Nat × Nat → Option Nat} {g : Nat × Nat → Bool}
theorem SymM.lt (h : SymM n w b f) : b < w.heap.size := let ⟨_, h, _⟩ := h; World.ownsMap.lt h
theorem BegM.lt (h : BegM n w b g) : b < w.heap.size := let ⟨_, h, _⟩ := h; World.ownsMap.lt h
theorem SymM.grown {row : Option Nat} (h : SymM n w b f) (hg : w.grownBy w' row) (hne : some b ≠ row) : SymM n w' b f := let ⟨D, h, r⟩ := h; ⟨D, World.ownsMap.kept h hg hne, r⟩
theorem BegM.grown {row : Option Nat} (h : BegM n w b g) (hg : w.grownBy w' row) (hne : some b ≠ row) : BegM n w' b g := let ⟨D, h, r⟩ := h; ⟨D, World.ownsMap.kept h hg hne, r⟩
theorem ownsMap_blk {P : Program} {k : TypeId} {R : Value → Option (DataW Unit × List MemPlace)} {D : DataW Unit} (h : w.ownsMap P k R b n D) (hb : w'.heap[b]? = w.heap[b]?) : w'.ownsMap P k R b n D := by
  obtain ⟨es, clock, h1, h2⟩ := h
  exact ⟨es, clock, hb.trans h1, h2⟩
theorem SymM.keep {ok : Nat → Prop} (h : SymM n w b f) (hk : Keep ok w w') (ho : ok b) : SymM n w' b f := let ⟨D, h1, r⟩ := h; ⟨D, ownsMap_blk h1 (hk.blk b h.lt ho), r⟩
theorem BegM.keep {ok : Nat → Prop} (h : BegM n w b g) (hk : Keep ok w w') (ho : ok b) : BegM n w' b g := let ⟨D, h1, r⟩ := h; ⟨D, ownsMap_blk h1 (hk.blk b h.lt ho), r⟩
theorem SymM.below (h : SymM n w b f) (hb : Below w.heap.size w w') : SymM n w' b f := let ⟨D, h1, r⟩ := h; ⟨D, ownsMap_blk h1 (hb.block b h.lt), r⟩
theorem BegM.below (h : BegM n w b g) (hb : Below w.heap.size w w') : BegM n w' b g := let ⟨D, h1, r⟩ := h; ⟨D, ownsMap_blk h1 (hb.block b h.lt), r⟩
theorem SymM.mono (h : SymM n w b f) {m : Nat} (hm : n ≤ m) : SymM m w b f := let ⟨D, h, r⟩ := h; ⟨D, World.ownsMap.mono h hm, r⟩
theorem BegM.mono (h : BegM n w b g) {m : Nat} (hm : n ≤ m) : BegM m w b g := let ⟨D, h, r⟩ := h; ⟨D, World.ownsMap.mono h hm, r⟩
end
theorem SymM.new (w : World) : SymM 0 (w.alloc (.map #[] 0)) w.heap.size (fun _ => none) :=
  ⟨_, World.ownsMap_made _ _ _ _, isMap_empty, fun k _ => ⟨rfl, fun x e => by cases e⟩⟩
theorem BegM.new (w : World) : BegM 0 (w.alloc (.map #[] 0)) w.heap.size (fun _ => false) :=
  ⟨_, World.ownsMap_made _ _ _ _, isMap_empty, fun _ _ => rfl⟩
theorem zeroI (w : World) : (zeroValue 3).run Try.prog w = .ok (.int .i64 0) w := by kernel_rfl
theorem zeroB (w : World) : (zeroValue 4).run Try.prog w = .ok (.bool false) w := by kernel_rfl
end Go.Proofs.Ytkfgomhhenmmeaa

namespace Go.Proofs.Ytkfgomhhenmmeaa
open Go.RowKit

/-- Which symbol of the first k has a word. -/
def symF (ls : List Int) : Nat → Nat × Nat → Option Nat
  | 0, _ => none
  | k + 1, p => if 0 < lenOf ls k ∧ p = (lenOf ls k, codeN ls k) then some k else symF ls k p
/-- The beginnings of a word that are longer than m. -/
def begAt (L C m : Nat) (p : Nat × Nat) : Bool := decide (m < p.1 ∧ p.1 ≤ L ∧ p.2 = C / 2 ^ (L - p.1))
def begF (ls : List Int) : Nat → Nat × Nat → Bool
  | 0, _ => false
  | k + 1, p => begF ls k p || begAt (lenOf ls k) (codeN ls k) 0 p
theorem symF_no {ls : List Int} {k : Nat} (h : ¬ 0 < lenOf ls k) : symF ls (k + 1) = symF ls k := by
  funext p
  show (if 0 < lenOf ls k ∧ p = (lenOf ls k, codeN ls k) then some k else symF ls k p) = _
  rw [if_neg (fun e => h e.1)]
theorem symF_yes {ls : List Int} {k : Nat} (h : 0 < lenOf ls k) : symF ls (k + 1) = fun p => if p = (lenOf ls k, codeN ls k) then some k else symF ls k p := by
  funext p
  show (if 0 < lenOf ls k ∧ p = (lenOf ls k, codeN ls k) then some k else symF ls k p) = _
  by_cases e : p = (lenOf ls k, codeN ls k)
  · rw [if_pos ⟨h, e⟩, if_pos e]
  · rw [if_neg (fun h => e h.2), if_neg e]
theorem begAt_full (L C : Nat) (p : Nat × Nat) : begAt L C L p = false := decide_eq_false (by omega)
theorem begAt_step {L C m : Nat} (h : m < L) (p : Nat × Nat) : begAt L C m p = if p = (m + 1, C / 2 ^ (L - (m + 1))) then true else begAt L C (m + 1) p := by
  unfold begAt
  by_cases e : p = (m + 1, C / 2 ^ (L - (m + 1)))
  · subst e
    rw [if_pos rfl]
    exact decide_eq_true ⟨by show m < m + 1; omega, by show m + 1 ≤ L; omega, rfl⟩
  · rw [if_neg e]
    congr 1
    apply propext
    constructor
    · rintro ⟨h1, h2, h3⟩
      refine ⟨?_, h2, h3⟩
      rcases Nat.lt_or_ge (m + 1) p.1 with h4 | h4
      · exact h4
      · have h5 : p.1 = m + 1 := by omega
        exact absurd (Prod.ext h5 (by rw [h3, h5])) e
    · rintro ⟨h1, h2, h3⟩
      exact ⟨by omega, h2, h3⟩

theorem half_pow (C L m : Nat) (h : m < L) : C / 2 ^ (L - (m + 1)) / 2 = C / 2 ^ (L - m) := by
  rw [Nat.div_div_eq_div_mul, ← Nat.pow_succ, Nat.succ_eq_add_one, show L - (m + 1) + 1 = L - m by omega]

end Go.Proofs.Ytkfgomhhenmmeaa

namespace Go.Proofs.Ytkfgomhhenmmeaa
open Go.RowKit

/-- Bits read, one behind the other, till they are a word, or begin none: the symbol, the error, and how many bits. -/
def readF (S : Nat × Nat → Option Nat) (B : Nat × Nat → Bool) (bits : List Bool) : Nat → Nat → Int × Int × Nat
  | 0, _ => (0, 4, 0)
  | fuel + 1, n => if bits.length ≤ n then (0, 3, 0) else
    match S (n + 1, valB (bits.take (n + 1))) with
    | some s => ((s : Int), 0, n + 1)
    | none => if B (n + 1, valB (bits.take (n + 1))) = true then readF S B bits fuel (n + 1) else (0, 4, 0)
def readR (ls : List Int) (bits : List Bool) : Int × Int × Nat := readF (symF ls ls.length) (begF ls ls.length) bits 17 0
theorem begF_short {ls : List Int} (h16 : ∀ k, lenOf ls k ≤ 16) : ∀ (k : Nat) (p : Nat × Nat), begF ls k p = true → p.1 ≤ 16
  | 0, _, h => by cases h
  | k + 1, p, h => by
    simp only [begF, Bool.or_eq_true] at h
    rcases h with h | h
    · exact begF_short h16 k p h
    · have := of_decide_eq_true h
      have := h16 k
      omega
theorem readF_count (S : Nat × Nat → Option Nat) (B : Nat × Nat → Bool) (bits : List Bool) : ∀ (fuel n : Nat), n ≤ bits.length → (readF S B bits fuel n).2.2 ≤ bits.length
  | 0, _, _ => Nat.zero_le _
  | fuel + 1, n, h => by
    unfold readF
    split
    · exact Nat.zero_le _
    · split
      · show n + 1 ≤ _; omega
      · split
        · exact readF_count S B bits fuel (n + 1) (by omega)
        · exact Nat.zero_le _

theorem set_two (w : World) (g : Nat) (u v : Value) : Upd (fun b => b = g) w ((w.setCell ⟨g, 0, none⟩ u).setCell ⟨g, 1, none⟩ v) :=
  (Upd.setCell (fun b => b = g) w g 0 u rfl).trans (Upd.setCell (fun b => b = g) _ g 1 v rfl) fun _ _ h => h
/-- What Read answers: the symbol, the error, and how many bits are read. -/
def readL (ls : List Int) (bits : List Bool) : Int × Int × Nat := if checkN ls ≠ 0 then (0, checkN ls, 0) else readR ls bits

end Go.Proofs.Ytkfgomhhenmmeaa

namespace Go.Proofs.Ytkfgomhhenmmeaa
open Go.RowKit

def encB (ls ss : List Int) : List Bool := ss.flatMap fun s => numB (codeN ls s.toNat) (lenOf ls s.toNat)
def noneS (ls ss : List Int) : Bool := ss.any fun s => !hasB ls s
/-- What Encode answers: the bits, and the error. -/
def encodeR (ls ss : List Int) : List Bool × Int := if checkN ls ≠ 0 then ([], checkN ls) else if noneS ls ss = true then ([], 5) else (encB ls ss, 0)
theorem encB_take {ls ss : List Int} {k : Nat} (h : k < ss.length) : encB ls (ss.take (k + 1)) = encB ls (ss.take k) ++ numB (codeN ls (nth 0 ss k).toNat) (lenOf ls (nth 0 ss k).toNat) := by
  rw [take_succ_nth 0 ss k h]; simp [encB]
theorem encB_len {ls : List Int} (h16 : ∀ k, lenOf ls k ≤ 16) (ss : List Int) : (encB ls ss).length ≤ 16 * ss.length := by
  induction ss with
  | nil => simp [encB]
  | cons s ss ih =>
    simp only [encB, List.flatMap_cons, List.length_append, numB_length, List.length_cons] at ih ⊢
    have := h16 s.toNat
    omega

end Go.Proofs.Ytkfgomhhenmmeaa

namespace Go.Proofs.Ytkfgomhhenmmeaa
open Go.RowKit

def decF (ls : List Int) : Nat → List Bool → List Int × Int
  | 0, _ => ([], 0)
  | c + 1, bits => if (readR ls bits).2.1 ≠ 0 then ([], (readR ls bits).2.1) else
    if (decF ls c (bits.drop (readR ls bits).2.2)).2 ≠ 0 then ([], (decF ls c (bits.drop (readR ls bits).2.2)).2) else ((readR ls bits).1 :: (decF ls c (bits.drop (readR ls bits).2.2)).1, 0)
def catD (xs : List Int) (d : List Int × Int) : List Int × Int := if d.2 ≠ 0 then ([], d.2) else (xs ++ d.1, 0)
/-- What Decode answers. -/
def decodeR (ls b : List Int) (n count : Int) : List Int × Int :=
  if checkN ls ≠ 0 then ([], checkN ls) else if openE b.length n = 1 ∨ count < 0 then ([], 1) else if openE b.length n ≠ 0 then ([], openE b.length n) else decF ls count.toNat (ofB b n.toNat)
theorem decF_snd (ls : List Int) : ∀ (c : Nat) (bits : List Bool), (decF ls c bits).2 ≠ 0 → decF ls c bits = ([], (decF ls c bits).2)
  | 0, _, h => absurd rfl h
  | c + 1, bits, h => by
    unfold decF at h ⊢
    split
    · rfl
    · split
      · rfl
      · rename_i h1 h2; rw [if_neg h1, if_neg h2] at h; exact absurd rfl h
theorem catD_nil (ls : List Int) (c : Nat) (bits : List Bool) : catD [] (decF ls c bits) = decF ls c bits := by
  unfold catD
  split
  · rename_i h; exact (decF_snd ls c bits h).symm
  · rename_i h
    have h0 : (decF ls c bits).2 = 0 := by simpa using h
    rw [List.nil_append]; exact Prod.ext rfl h0.symm
theorem catD_stop {ls : List Int} {c : Nat} {bits : List Bool} {xs : List Int} (h : (readR ls bits).2.1 ≠ 0) : catD xs (decF ls (c + 1) bits) = ([], (readR ls bits).2.1) := by
  unfold catD decF
  rw [if_pos h, if_pos (by exact h)]
theorem catD_step {ls : List Int} {c : Nat} {bits : List Bool} {xs : List Int} (h : (readR ls bits).2.1 = 0) : catD xs (decF ls (c + 1) bits) = catD (xs ++ [(readR ls bits).1]) (decF ls c (bits.drop (readR ls bits).2.2)) := by
  have hd : decF ls (c + 1) bits = if (decF ls c (bits.drop (readR ls bits).2.2)).2 ≠ 0 then ([], (decF ls c (bits.drop (readR ls bits).2.2)).2) else ((readR ls bits).1 :: (decF ls c (bits.drop (readR ls bits).2.2)).1, 0) := by
    conv => lhs; unfold decF
    rw [if_neg (by simp [h])]
  rw [hd]
  unfold catD
  by_cases h2 : (decF ls c (bits.drop (readR ls bits).2.2)).2 ≠ 0
  · rw [if_pos h2, if_pos h2, if_pos (by exact h2)]
  · rw [if_neg h2, if_neg h2, if_neg (by simp), List.append_assoc]; rfl
theorem readF_some (S : Nat × Nat → Option Nat) (B : Nat × Nat → Bool) (bits : List Bool) : ∀ (fuel n : Nat), (readF S B bits fuel n).2.1 = 0 → n < (readF S B bits fuel n).2.2
  | 0, n, h => by simp [readF] at h
  | fuel + 1, n, h => by
    unfold readF at h ⊢
    split
    · rename_i h1; rw [if_pos h1] at h; simp at h
    · rename_i h1
      rw [if_neg h1] at h
      split
      · show n < n + 1; omega
      · rename_i h2
        rw [h2] at h
        split
        · rename_i h3
          simp only [h3, if_true] at h
          have := readF_some S B bits fuel (n + 1) h
          omega
        · rename_i h3
          simp [h3] at h
theorem openE_cases (m : Nat) (n : Int) : openE m n = 0 ∨ openE m n = 1 ∨ openE m n = 2 := by 
  unfold openE; split
  · exact .inr (.inl rfl)
  · split
    · exact .inr (.inr rfl)
    · exact .inl rfl

end Go.Proofs.Ytkfgomhhenmmeaa

namespace Go.Proofs.Ytkfgomhhenmmeaa
open Go.RowKit

theorem share_pos' {n : Nat} (h : 0 < n) : 0 < share n := by rw [share_pos h]; exact Nat.two_pow_pos _
/-- One symbol more. -/
theorem filledK_step (ls : List Int) (k : Nat) : filledK ls (k + 1) = filledK ls k + share (lenOf ls k) := sumTo_succ _ _
theorem filledK_zero (ls : List Int) (k : Nat) (h : nth 0 ls k ≤ 0) : filledK ls (k + 1) = filledK ls k := by
  rw [filledK_step, show lenOf ls k = 0 by unfold lenOf; omega]; rfl

set_option maxHeartbeats 2000000 in
theorem rcheck_any (A : Option Addr) (c : Nat) (ls : List Int) (w : World) (hS : RI w A c ls) :
    Calls Try.prog 81 #[.slice A ls.length c] w fun e w' => e = .returned (.int .i64 (checkN ls)) ∧ w = w' := by
  have hn := hS.len
  by_cases h : 256 < ls.length
  · go_enter Try.func81, Try.ntmps81
    go_wp2
    go_ret
    exact ⟨by simp [checkN, h], rfl⟩
  · have HS := Lib.hid hS
    clear hS
    go_enter Try.func81, Try.ntmps81
    go_wp2
    go_loop [3, 4, 12] (fun b s i => ∃ k : Nat, k ≤ ls.length ∧ i = .int .i64 k ∧ b = .bool (decide (0 < filledK ls k)) ∧ s = .int .i64 (filledK ls k) ∧ Hid (∀ j, j < k → badLen (nth 0 ls j) = false)) (fun _ _ i => ls.length - (intOf i).toNat)
    case atStart => exact ⟨0, Nat.zero_le _, rfl, rfl, rfl, fun j hj => absurd hj (by omega)⟩
    case round =>
      obtain ⟨k, hk, rfl, rfl, rfl, hne⟩ := hrel
      by_cases hlt : k < ls.length
      · obtain ⟨ad, rfl, hc⟩ := rd_int HS.out k hlt
        have hle := filledK_le ls k
        by_cases hb : badLen (nth 0 ls k) = true
        · have HE := Lib.hid (show checkN ls = 1 by
            have : ls.any badLen = true := List.any_eq_true.2 ⟨_, nth_mem 0 ls k hlt, hb⟩
            simp [checkN, this])
          by_cases h0 : nth 0 ls k < 0
          · clear hle
            go_wp2
            go_ret
            exact ⟨ret_int HE.out.symm, rfl⟩
          · have h1 : 16 < nth 0 ls k := by simp [badLen] at hb; omega
            clear hle
            go_wp2
            go_ret
            exact ⟨ret_int HE.out.symm, rfl⟩
        · have hb' := Bool.eq_false_iff.2 hb
          have hne' : Hid (∀ j, j < k + 1 → badLen (nth 0 ls j) = false) := fun j hj => by
            rcases Nat.lt_or_ge j k with h | h
            · exact hne.out j h
            · obtain rfl : j = k := by omega
              exact hb'
          have hr : 0 ≤ nth 0 ls k ∧ nth 0 ls k ≤ 16 := by simp [badLen] at hb'; omega
          clear hb hb'
          obtain ⟨hr0, hr1⟩ := hr
          by_cases hx : 0 < nth 0 ls k
          · have hs := filledK_step ls k
            have hsp := share_pos (n := lenOf ls k) (by unfold lenOf; omega)
            have hsl := share_le (lenOf ls k)
            have hw1 : IntKind.i64.wrap (16 - nth 0 ls k) = 16 - nth 0 ls k := IntWalk.i64_in _ (by omega)
            have hcs : ((1 : Int) * 2 ^ (16 - nth 0 ls k).toNat) = (share (lenOf ls k) : Int) := by
              rw [hsp, Int.one_mul, show (16 - nth 0 ls k).toNat = 16 - lenOf ls k by unfold lenOf; omega]; simp
            have hw2 : IntKind.i64.wrap ((1 : Int) * 2 ^ (16 - nth 0 ls k).toNat) = (share (lenOf ls k) : Int) := by rw [hcs]; exact IntWalk.i64_in _ (by omega)
            have hw2' : IntKind.i64.wrap ((2 : Int) ^ (16 - nth 0 ls k).toNat) = (share (lenOf ls k) : Int) := by rw [Int.one_mul] at hw2; exact hw2
            have hw3 : IntKind.i64.wrap ((filledK ls k : Int) + (share (lenOf ls k) : Int)) = (filledK ls (k + 1) : Int) := by rw [hs, IntWalk.i64_in _ (by omega)]; simp
            have hpos : decide (0 < filledK ls (k + 1)) = true := by rw [hs, hsp]; have := Nat.two_pow_pos (16 - lenOf ls k); simp; omega
            have H := Lib.hid hpos
            clear hs hsp hsl hcs hle hpos
            go_wp2
            go_round
            case rel => exact ⟨k + 1, by omega, by go_num, by rw [H.out], rfl, hne'⟩
            case measure => simp [intOf]; omega
          · have H := Lib.hid (filledK_zero ls k (by omega))
            clear hle
            go_wp2
            go_round
            case rel => exact ⟨k + 1, by omega, by go_num, by rw [H.out], by rw [H.out], hne'⟩
            case measure => simp [intOf]; omega
      · obtain rfl : k = ls.length := by omega
        have ha : ls.any badLen = false := by
          rw [List.any_eq_false]
          intro x hx
          obtain ⟨j, hj, rfl⟩ := List.mem_iff_getElem.1 hx
          have := hne.out j hj
          rw [nth_eq 0 ls j hj] at this
          simp [this]
        have HE := Lib.hid (show checkN ls = if filledN ls = 0 then 5 else if 65536 < filledN ls then 4 else 0 by simp [checkN, h, ha])
        have hf : filledK ls ls.length = filledN ls := rfl
        rw [hf]
        have hle := filledK_le ls ls.length
        rw [hf] at hle
        generalize filledN ls = F at *
        clear ha hf
        by_cases h0 : F = 0
        · subst h0
          clear hle
          go_wp2
          go_ret
          exact ⟨ret_int (by rw [HE.out]; simp), rfl⟩
        · have h0' : 0 < F := by omega
          have hb : decide (0 < F) = true := by simpa using h0'
          by_cases h1 : 65536 < F
          · go_wp2
            go_ret
            exact ⟨ret_int (by rw [HE.out, if_neg h0, if_pos h1]), rfl⟩
          · go_wp2
            go_ret
            exact ⟨ret_int (by rw [HE.out, if_neg h0, if_neg h1]), rfl⟩

end Go.Proofs.Ytkfgomhhenmmeaa

namespace Go.Proofs.Ytkfgomhhenmmeaa
open Go.RowKit

end Go.Proofs.Ytkfgomhhenmmeaa

namespace Go.Proofs.Ytkfgomhhenmmeaa
open Go.RowKit

theorem flatR_prefix {β : Type} (f : Nat → List β) (n d : Nat) : ∃ B, (List.range (n + d)).flatMap f = (List.range n).flatMap f ++ B := by
  induction d with
  | zero => exact ⟨[], by simp⟩
  | succ d ih =>
    obtain ⟨B, hB⟩ := ih
    exact ⟨B ++ f (n + d), by rw [← Nat.add_assoc, List.range_succ, List.flatMap_append, hB]; simp⟩
theorem filtR_prefix (p : Nat → Bool) (n d : Nat) : ∃ B, (List.range (n + d)).filter p = (List.range n).filter p ++ B := by
  induction d with
  | zero => exact ⟨[], by simp⟩
  | succ d ih =>
    obtain ⟨B, hB⟩ := ih
    exact ⟨B ++ [n + d].filter p, by rw [← Nat.add_assoc, List.range_succ, List.filter_append, hB, List.append_assoc]⟩
/-- The words of lengths up to n, and the first k symbols of length n + 1. -/
def preP (ls : List Int) (n k : Nat) : List Nat := ((List.range n).flatMap fun m => (List.range ls.length).filter fun i => lenOf ls i == m + 1) ++ (List.range k).filter fun i => lenOf ls i == n + 1
theorem preP_zero (ls : List Int) : preP ls 0 0 = [] := by simp [preP]
theorem preP_hit (ls : List Int) (n k : Nat) (h : lenOf ls k = n + 1) : preP ls n (k + 1) = preP ls n k ++ [k] := by
  simp [preP, List.range_succ, List.filter_append, h]
theorem preP_miss (ls : List Int) (n k : Nat) (h : lenOf ls k ≠ n + 1) : preP ls n (k + 1) = preP ls n k := by
  simp [preP, List.range_succ, List.filter_append, h]
theorem preP_next (ls : List Int) (n : Nat) : preP ls n ls.length = preP ls (n + 1) 0 := by
  simp [preP, List.range_succ, List.flatMap_append]
theorem preP_all (ls : List Int) : preP ls 16 0 = ordN ls := by simp [preP, ordN]
theorem preP_prefix (ls : List Int) (n k : Nat) (hn : n < 16) (hk : k ≤ ls.length) : ∃ B, ordN ls = preP ls n k ++ B := by
  obtain ⟨B1, h1⟩ := flatR_prefix (fun m => (List.range ls.length).filter fun i => lenOf ls i == m + 1) (n + 1) (15 - n)
  obtain ⟨B2, h2⟩ := filtR_prefix (fun i => lenOf ls i == n + 1) k (ls.length - k)
  rw [show n + 1 + (15 - n) = 16 by omega] at h1
  rw [show k + (ls.length - k) = ls.length by omega] at h2
  refine ⟨B2 ++ B1, ?_⟩
  unfold ordN preP
  rw [h1, List.range_succ, List.flatMap_append]
  simp only [List.flatMap_cons, List.flatMap_nil, List.append_nil]
  rw [h2]
  simp [List.append_assoc]
/-- At a symbol of length n + 1. -/
theorem preP_here (ls : List Int) (n k : Nat) (hn : n < 16) (hk : k < ls.length) (h : lenOf ls k = n + 1) : ∃ B, ordN ls = preP ls n k ++ k :: B := by
  obtain ⟨B, hB⟩ := preP_prefix ls n (k + 1) hn hk
  exact ⟨B, by rw [hB, preP_hit ls n k h, List.append_assoc]; rfl⟩
def outC (ls : List Int) (pre : List Nat) : List Int := (List.range ls.length).map fun i => if i ∈ pre then (codeN ls i : Int) else 0
theorem outC_length (ls : List Int) (pre : List Nat) : (outC ls pre).length = ls.length := by simp [outC]
theorem outC_nil (ls : List Int) : outC ls [] = List.replicate ls.length 0 := by
  simp only [outC, List.not_mem_nil, if_false]
  rw [List.map_const', List.length_range]
theorem outC_snoc (ls : List Int) (pre : List Nat) (x : Nat) (_ : x < ls.length) : outC ls (pre ++ [x]) = (outC ls pre).set x (codeN ls x : Int) := by
  apply List.ext_getElem
  · simp [outC]
  · intro i h1 h2
    by_cases hi : x = i
    · subst hi
      simp [outC]
    · rw [List.getElem_set_ne hi]
      simp only [outC, List.getElem_map, List.getElem_range, List.mem_append, List.mem_singleton]
      by_cases hm : i ∈ pre
      · simp [hm]
      · rw [if_neg hm, if_neg (by rintro (h | h); exact hm h; exact hi h.symm)]
theorem outC_all {ls : List Int} (h16 : ∀ k, lenOf ls k ≤ 16) : outC ls (ordN ls) = codesL ls := by
  unfold outC codesL
  apply List.map_congr_left
  intro i hi
  split
  · rfl
  · rename_i h
    rw [mem_ordN h16] at h
    have : lenOf ls i = 0 := by
      have hl := List.mem_range.1 hi
      rcases Nat.eq_zero_or_pos (lenOf ls i) with h0 | h0
      · exact h0
      · exact absurd ⟨hl, h0⟩ h
    simp [codeN, this]

set_option maxHeartbeats 4000000 in
set_option maxRecDepth 100000 in
theorem rcodes_any (A : Option Addr) (c : Nat) (ls : List Int) (w : World) (hS : RI w A c ls) :
    Calls Try.prog 65 #[.slice A ls.length c] w fun e w' => ∃ v, e = .returned (.tuple #[v, .int .i64 (checkN ls)]) ∧ OwnI 3 .i64 w.heap.size w' v (codesR ls) ∧ Below w.heap.size w w' := by
  have hn := hS.len
  by_cases h : checkN ls = 0
  · have hr := (checkN_right ls).1 h
    have h256 := hr.len
    have hmk := make_row (P := Try.prog) 22 3 .i64 8 Try.underlying22 infoI (by decide) ls.length (by omega)
    have HX := Lib.hid h
    have HE := Lib.hid (show codesR ls = codesL ls by simp [codesR, h])
    have HR := Lib.hid hr
    have HS := Lib.hid hS
    clear h hr hS
    go_enter Try.func65, Try.ntmps65
    go_wp2_with (go_at_call 81; refine (rcheck_any _ _ _ _ HS.out).mono ?_; rintro e w2 ⟨rfl, rfl⟩; rw [HX.out])
    have hO := own_made w 3 .i64 ls.length (by omega)
    have hB := below_alloc (Below.refl w.heap.size w) (.cells (madeCells #[.int .i64 0] ls.length) 3)
    generalize w.alloc (.cells (madeCells #[.int .i64 0] ls.length) 3) = w1 at hO hB ⊢
    clear hmk
    go_loopw [6, 7, 8] (fun nx la l wr => ∃ n : Nat, n ≤ 16 ∧ l = .int .i64 ((n + 1 : Nat) : Int) ∧ nx = .int .i64 ((wN ls (preP ls n 0)).2 : Int) ∧ la = .int .i64 ((wN ls (preP ls n 0)).1 : Int) ∧ OwnI 3 .i64 w.heap.size wr (.slice (some ⟨w.heap.size, 0, none⟩) ls.length ls.length) (outC ls (preP ls n 0)) ∧ Below w.heap.size w wr) (fun _ _ l _ => 17 - (intOf l).toNat)
    case atStart => exact ⟨0, Nat.zero_le _, rfl, rfl, rfl, by rw [preP_zero, outC_nil]; exact hO, hB⟩
    case round =>
      clear hO hB
      obtain ⟨n, hn16, rfl, rfl, rfl, hO, hB⟩ := hrel
      by_cases hlt : n < 16
      · have hnc : ((n + 1 : Nat) : Int) ≤ 16 := by omega
        have hwr : IntKind.i64.wrap (((n + 1 : Nat) : Int) + 1) = ((n + 1 + 1 : Nat) : Int) := by rw [IntWalk.i64_in _ (by omega)]; omega
        have HO := Lib.hid hO
        clear hO
        go_wp2
        go_loopw [6, 7, 25] (fun nx la i wr2 => ∃ k : Nat, k ≤ ls.length ∧ i = .int .i64 (k : Int) ∧ nx = .int .i64 ((wN ls (preP ls n k)).2 : Int) ∧ la = .int .i64 ((wN ls (preP ls n k)).1 : Int) ∧ OwnI 3 .i64 w.heap.size wr2 (.slice (some ⟨w.heap.size, 0, none⟩) ls.length ls.length) (outC ls (preP ls n k)) ∧ Below w.heap.size w wr2) (fun _ _ i _ => ls.length - (intOf i).toNat)
        case atStart => exact ⟨0, Nat.zero_le _, rfl, rfl, rfl, HO.out, hB⟩
        case round =>
          clear hB HO
          obtain ⟨k, hk, rfl, rfl, rfl, hO, hB⟩ := hrel
          by_cases hkl : k < ls.length
          · obtain ⟨ad, rfl, hc⟩ := rd_int (HS.out.below hB) k hkl
            obtain ⟨l0, l1⟩ := HR.out.ok.at k
            have h16 := HR.out.ok.len16
            by_cases hx : lenOf ls k = n + 1
            · have hxi : nth 0 ls k = ((n + 1 : Nat) : Int) := by unfold lenOf at hx; omega
              rw [hxi] at hc
              obtain ⟨B, hord⟩ := preP_here ls n k hlt hkl hx
              have hcode := wN_code h16 _ B k hord
              have hlast := wN_le h16 _ B k hord
              have hsn := wN_snoc ls (preP ls n k) k
              rw [hcode, hx] at hsn
              rw [hx] at hlast
              have hpos := wN_pos h16 _ B k hord
              have hcl := code_lt h16 HR.out.full hkl
              rw [hx] at hcl
              have h2L : 2 ^ (n + 1) ≤ 65536 := by have := Nat.pow_le_pow_right (n := 2) (by decide) (show n + 1 ≤ 16 by omega); simpa using this
              have HP := Lib.hid (preP_hit ls n k hx)
              have HC := Lib.hid hcode
              have HOS := Lib.hid (outC_snoc ls (preP ls n k) k hkl)
              obtain ⟨ka, kf⟩ := hO.at_ k (by rw [outC_length]; exact hkl)
              have HO := Lib.hid hO
              have HLX := Lib.hid hx
              generalize hW : wN ls (preP ls n k) = W at *
              obtain ⟨a, b⟩ := W
              have HW := Lib.hid hW
              generalize hC : codeN ls k = C at *
              have hki : (k : Int) < (ls.length : Int) := by omega
              clear hO hord hcode hx hxi hW hC l0 l1 h16
              rcases hpos with hz | hz
              · injection hz with hz1 hz2
                subst hz1 hz2
                have hC0 : C = 0 := by unfold stepW at hsn; rw [if_pos rfl] at hsn; injection hsn
                subst hC0
                clear hsn hcl
                go_wp2
                go_roundw
                case rel =>
                  have hs := HO.out.set k (0 : Int)
                  exact ⟨k + 1, by omega, by go_num, by rw [HP.out, HC.out], by rw [HP.out, HC.out, HLX.out], by rw [HP.out, HOS.out]; exact hs.1, below_grown hB hB.size hs.2 (fun r e => by have := Option.some.inj e; omega)⟩
                case measure => simp [intOf]; omega
              · have hz : 0 < a := hz
                have hla : a ≤ n + 1 := hlast
                obtain ⟨d, hd⟩ : ∃ d, n + 1 - a = d := ⟨_, rfl⟩
                have hCb : C = (b + 1) * 2 ^ d := by
                  unfold stepW at hsn
                  rw [if_neg (fun e => by injection e with h1 h2; omega)] at hsn
                  injection hsn with h1 h2
                  rw [← hd, h2, HLX.out]
                have hb16 : b + 1 ≤ 65536 := by
                  have h1 : 1 ≤ 2 ^ d := Nat.one_le_two_pow
                  have h3 : (b + 1) * 1 ≤ (b + 1) * 2 ^ d := Nat.mul_le_mul_left _ h1
                  omega
                have hw1 : IntKind.i64.wrap (((n + 1 : Nat) : Int) - (a : Int)) = (d : Int) := by rw [IntWalk.i64_in _ (by omega)]; omega
                have hw2 : IntKind.i64.wrap (((b : Int) + 1) * 2 ^ d) = (C : Int) := by
                  have e1 : (((b : Int) + 1) * 2 ^ d) = (C : Int) := by rw [hCb]; simp
                  rw [e1]; exact IntWalk.i64_in _ (by omega)
                have HWW := Lib.hid (show wrap64 (((b : Int) + 1) * 2 ^ (n + 1 - a)) = (C : Int) by rw [hd]; rw [IntWalk.wrap64_in _ (by rw [show (((b : Int) + 1) * 2 ^ d) = (C : Int) by rw [hCb]; simp]; omega)]; rw [hCb]; simp)
                have hd16 : d ≤ 64 := by omega
                have hai : (0 : Int) < (a : Int) := by omega
                clear hsn hcl hlast hd hCb h2L
                go_wp2
                go_roundw
                case rel =>
                  rw [HWW.out]
                  have hs := HO.out.set k (C : Int)
                  exact ⟨k + 1, by omega, by go_num, by rw [HP.out, HC.out], by rw [HP.out, HC.out, HLX.out], by rw [HP.out, HOS.out]; exact hs.1, below_grown hB hB.size hs.2 (fun r e => by have := Option.some.inj e; omega)⟩
                case measure => simp [intOf]; omega
            · have HP := Lib.hid (preP_miss ls n k hx)
              have hne : (nth 0 ls k != ((n + 1 : Nat) : Int)) = true := by simp only [bne_iff_ne, ne_eq]; unfold lenOf at hx; omega
              have HO := Lib.hid hO
              clear hO hx
              go_wp2
              go_roundw
              case rel => exact ⟨k + 1, by omega, by go_num, by rw [HP.out], by rw [HP.out], by rw [HP.out]; exact HO.out, hB⟩
              case measure => simp [intOf]; omega
          · obtain rfl : k = ls.length := by omega
            have HP := Lib.hid (preP_next ls n)
            have HO := Lib.hid hO
            clear hO
            go_wp2
            go_roundw
            case rel => exact ⟨n + 1, by omega, by go_num, by rw [HP.out], by rw [HP.out], by rw [← HP.out]; exact HO.out, hB⟩
            case measure => simp [intOf]; omega
      · obtain rfl : n = 16 := by omega
        have HP := Lib.hid (show outC ls (preP ls 16 0) = codesL ls by rw [preP_all, outC_all HR.out.ok.len16])
        rw [HP.out] at hO
        go_wp2
        go_ret2
        exact ⟨_, ret_two rfl (by rw [HX.out]; rfl), by rw [HE.out]; exact hO, hB⟩
  · have hb : (checkN ls != 0) = true := by simpa using h
    have HE := Lib.hid (show codesR ls = [] by simp [codesR, h])
    clear h
    go_enter Try.func65, Try.ntmps65
    go_wp2_with (go_at_call 81; refine (rcheck_any _ _ _ _ hS).mono ?_; rintro e w2 ⟨rfl, rfl⟩)
    go_ret2
    exact ⟨_, ret_two rfl rfl, by rw [HE.out]; exact OwnI.nil _ _ _ _, Below.refl _ _⟩
end Go.Proofs.Ytkfgomhhenmmeaa

namespace Go.Proofs.Ytkfgomhhenmmeaa
open Go.RowKit

theorem hasB_zero {ls : List Int} (hr : Right ls) {k : Nat} (hk : k < ls.length) : hasB ls (k : Int) = !(nth 0 ls k == 0) := by
  have := hr.ok.at k
  unfold hasB
  rw [Int.toNat_natCast, decide_eq_true (show (0 : Int) ≤ (k : Int) by omega), decide_eq_true (show (k : Int) < (ls.length : Int) by omega), Bool.true_and, Bool.true_and, Bool.eq_iff_iff]
  simp; omega

end Go.Proofs.Ytkfgomhhenmmeaa

namespace Go.Proofs.Ytkfgomhhenmmeaa
open Go.RowKit

theorem wordB_len (ls : List Int) (h16 : ∀ k, lenOf ls k ≤ 16) (s : Int) : (wordB ls s).length ≤ 16 := by
  unfold wordB
  split
  · simp
  · rw [numB_length]; exact h16 _
theorem writeE_of {ls : List Int} {n : Nat} {s : Int} (hck : checkN ls = 0) (hh : hasB ls s = true) : writeE ls n s = fullE n (wordB ls s).length := by
  unfold writeE wordB
  rw [if_neg (by simp [hck]), if_neg (by simp [hh]), if_neg (by simp [hck, hh]), numB_length]
theorem fullE_ofB (bs : List Bool) : ofB (packB bs) bs.length = bs := by rw [ofB_packB _ _ (Nat.le_refl _), List.take_length]

def preB (x y : List Bool) : Bool := decide (x.length ≤ y.length) && decide (x = y.take x.length)
theorem sameL_bits (x y : List Bool) : sameL (bitsI x) (bitsI y) = decide (x = y) := by
  unfold sameL
  congr 1
  exact propext ⟨bitsI_inj, fun h => by rw [h]⟩
end Go.Proofs.Ytkfgomhhenmmeaa

namespace Go.Proofs.Ytkfgomhhenmmeaa
open Go.RowKit

theorem symF_none {ls : List Int} {p : Nat × Nat} : ∀ {k : Nat}, (∀ j, j < k → ¬ (0 < lenOf ls j ∧ p = (lenOf ls j, codeN ls j))) → symF ls k p = none
  | 0, _ => rfl
  | k + 1, h => by
    unfold symF
    rw [if_neg (h k (by omega))]
    exact symF_none fun j hj => h j (by omega)
theorem code_uniq {ls : List Int} (hr : Right ls) {i j : Nat} (hi : i < ls.length) (hj : j < ls.length) (h0 : 0 < lenOf ls i) (hl : lenOf ls i = lenOf ls j) (hc : codeN ls i = codeN ls j) : i = j := by
  rcases Nat.decEq i j with h | h
  · have := code_free (i := i) (j := j) hr.ok.len16 hi hj h h0 (by omega)
    rw [← hl, Nat.sub_self, Nat.pow_zero, Nat.div_one] at this
    exact absurd hc.symm this
  · exact h
theorem symF_some {ls : List Int} (hr : Right ls) {i : Nat} (h0 : 0 < lenOf ls i) : ∀ {k : Nat}, i < k → k ≤ ls.length → symF ls k (lenOf ls i, codeN ls i) = some i
  | 0, h, _ => absurd h (by omega)
  | k + 1, h, hk => by
    unfold symF
    by_cases e : 0 < lenOf ls k ∧ (lenOf ls i, codeN ls i) = (lenOf ls k, codeN ls k)
    · rw [if_pos e]
      have h1 : lenOf ls i = lenOf ls k := congrArg Prod.fst e.2
      have h2 : codeN ls i = codeN ls k := congrArg Prod.snd e.2
      rw [code_uniq hr (i := i) (j := k) (by omega) (by omega) h0 h1 h2]
    · rw [if_neg e]
      have : i ≠ k := fun h => e ⟨h ▸ h0, by rw [h]⟩
      exact symF_some hr h0 (by omega) (by omega)
theorem begAt_preB {bits : List Bool} {n L C : Nat} (hn : 0 < n) (hnL : n ≤ L) (hnb : n ≤ bits.length) (hC : C < 2 ^ L) : preB (bits.take n) (numB C L) = begAt L C 0 (n, valB (bits.take n)) := by
  have hl : (bits.take n).length = n := by rw [List.length_take]; omega
  unfold preB begAt
  rw [hl, numB_length, decide_eq_true hnL, Bool.true_and, numB_take _ _ _ hnL]
  have hq : C / 2 ^ (L - n) < 2 ^ n := by
    rw [Nat.div_lt_iff_lt_mul (Nat.two_pow_pos _), ← Nat.pow_add, show n + (L - n) = L by omega]; exact hC
  congr 1
  apply propext
  constructor
  · intro h
    refine ⟨hn, hnL, ?_⟩
    show valB (bits.take n) = _
    rw [h, valB_numB, Nat.mod_eq_of_lt hq]
  · rintro ⟨_, _, h⟩
    have h : valB (bits.take n) = C / 2 ^ (L - n) := h
    rw [← h]
    have := numB_valB (bits.take n)
    rw [hl] at this
    exact this.symm
theorem begAt_gt {n L C V : Nat} (h : L < n) : begAt L C 0 (n, V) = false := decide_eq_false (fun ⟨_, h2, _⟩ => by have h2 : n ≤ L := h2; omega)
theorem begAt_eq {n C V : Nat} (h : 0 < n) : begAt n C 0 (n, V) = decide (V = C) := by
  unfold begAt
  congr 1
  apply propext
  show (0 < n ∧ n ≤ n ∧ V = C / 2 ^ (n - n)) ↔ _
  rw [Nat.sub_self, Nat.pow_zero, Nat.div_one]
  exact ⟨fun h => h.2.2, fun e => ⟨h, Nat.le_refl _, e⟩⟩

end Go.Proofs.Ytkfgomhhenmmeaa

namespace Go.Proofs.Ytkfgomhhenmmeaa
open Go.RowKit

theorem begF_16 {ls : List Int} (hr : Right ls) (V : Nat) : ∀ {k : Nat}, k ≤ ls.length → begF ls k (16, V) = true → ∃ i, i < k ∧ lenOf ls i = 16 ∧ codeN ls i = V
  | 0, _, h => by cases h
  | k + 1, hk, h => by
    simp only [begF, Bool.or_eq_true] at h
    rcases h with h | h
    · obtain ⟨i, h1, h2, h3⟩ := begF_16 hr V (by omega) h
      exact ⟨i, by omega, h2, h3⟩
    · have h := of_decide_eq_true h
      obtain ⟨_, h2, h3⟩ := h
      have h2 : 16 ≤ lenOf ls k := h2
      have h3 : V = codeN ls k / 2 ^ (lenOf ls k - 16) := h3
      have hl := hr.ok.len16 k
      have e : lenOf ls k = 16 := by omega
      rw [e, Nat.sub_self, Nat.pow_zero, Nat.div_one] at h3
      exact ⟨k, by omega, e, h3.symm⟩
theorem symF_16 {ls : List Int} (hr : Right ls) (V : Nat) (h : symF ls ls.length (16, V) = none) : begF ls ls.length (16, V) = false := by
  cases hb : begF ls ls.length (16, V)
  · rfl
  · obtain ⟨i, h1, h2, h3⟩ := begF_16 hr V (Nat.le_refl _) hb
    have := symF_some hr (i := i) (by omega) h1 (Nat.le_refl _)
    rw [h2, h3, h] at this
    cases this
theorem readF_cut {ls : List Int} (hr : Right ls) (D : List Bool) : ∀ (fuel n : Nat), n < 16 → readF (symF ls ls.length) (begF ls ls.length) (D.take 16) fuel n = readF (symF ls ls.length) (begF ls ls.length) D fuel n
  | 0, _, _ => rfl
  | fuel + 1, n, h => by
    have e1 : ((D.take 16).length ≤ n) ↔ (D.length ≤ n) := by rw [List.length_take]; omega
    have e2 : (D.take 16).take (n + 1) = D.take (n + 1) := by rw [List.take_take, Nat.min_eq_left (by omega)]
    unfold readF
    rw [e2]
    by_cases hs : D.length ≤ n
    · rw [if_pos hs, if_pos (e1.2 hs)]
    · rw [if_neg hs, if_neg (fun h => hs (e1.1 h))]
      cases hsy : symF ls ls.length (n + 1, valB (D.take (n + 1))) with
      | some s => rfl
      | none =>
        dsimp only
        by_cases hn : n = 15
        · subst hn
          rw [symF_16 hr _ hsy]
          simp
        · rw [readF_cut hr D fuel (n + 1) (by omega)]
theorem readR_cut {ls : List Int} (hr : Right ls) (D : List Bool) : readR ls (D.take 16) = readR ls D := readF_cut hr D 17 0 (by omega)

end Go.Proofs.Ytkfgomhhenmmeaa

namespace Go.Proofs.Ytkfgomhhenmmeaa
open Go.RowKit

end Go.Proofs.Ytkfgomhhenmmeaa

namespace Go.Proofs.Ytkfgomhhenmmeaa
open Go.RowKit

end Go.Proofs.Ytkfgomhhenmmeaa

namespace Go.Proofs.Ytkfgomhhenmmeaa
open Go.RowKit

set_option maxHeartbeats 1000000 in
set_option maxRecDepth 100000 in
theorem ints_ref (A B : Option Addr) (c d : Nat) (a b : List Int) (w : World) (hS : RI w A c a) (hT : RI w B d b) :
    Calls Try.prog 15 #[.slice A a.length c, .slice B b.length d] w fun e w' => e = .returned (.bool (sameL a b)) ∧ Below w.heap.size w w' := by
  have hn := hS.len
  have hm := hT.len
  by_cases hl : a.length = b.length
  · have hb : ((a.length : Int) != (b.length : Int)) = false := by simp [hl]
    have HL := Lib.hid hl
    clear hl
    go_enter Try.func15, Try.ntmps15
    go_wp2
    go_loopw [13] (fun i wr => ∃ k : Nat, k ≤ a.length ∧ i = .int .i64 k ∧ Hid (∀ j, j < k → nth 0 a j = nth 0 b j) ∧ Below w.heap.size w wr) (fun i _ => a.length - (intOf i).toNat)
    case atStart => exact ⟨0, Nat.zero_le _, rfl, fun j hj => absurd hj (by omega), Below.refl _ _⟩
    case round =>
      obtain ⟨k, hk, rfl, hne, hB⟩ := hrel
      by_cases hlt : k < a.length
      · have hkb : k < b.length := by rw [← HL.out]; exact hlt
        obtain ⟨ad, rfl, hc⟩ := rd_int (hS.below hB) k hlt
        obtain ⟨ad', rfl, hc'⟩ := rd_int (hT.below hB) k hkb
        have hk0 : (0 : Int) ≤ (k : Int) := by omega
        have hka : (k : Int) < (a.length : Int) := by omega
        have hkb' : (k : Int) < (b.length : Int) := by omega
        by_cases hx : nth 0 a k = nth 0 b k
        · have hxb : (nth 0 a k != nth 0 b k) = false := by simp [hx]
          have hne' : Hid (∀ j, j < k + 1 → nth 0 a j = nth 0 b j) := fun j hj => by
            rcases Nat.lt_or_ge j k with h | h
            · exact hne.out j h
            · obtain rfl : j = k := by omega
              exact hx
          clear hx
          go_wp2
          go_quiet (fail)
          go_wp2
          go_roundw
          case rel => exact ⟨k + 1, by omega, by go_num, hne', below_drewN hB _⟩
          case measure => simp [intOf]; omega
        · have hxb : (nth 0 a k != nth 0 b k) = true := by simp [hx]
          have HN := Lib.hid (show sameL a b = false from decide_eq_false fun e => hx (by rw [e]))
          clear hx
          go_wp2
          go_quiet (fail)
          go_wp2
          go_ret
          exact ⟨ret_bool HN.out.symm, below_drewN hB _⟩
      · obtain rfl : k = a.length := by omega
        have HN := Lib.hid (same_end HL.out hne.out)
        go_wp2
        go_ret
        exact ⟨ret_bool HN.out.symm, hB⟩
  · have hb : ((a.length : Int) != (b.length : Int)) = true := by simp; omega
    have HN := Lib.hid (show sameL a b = false from decide_eq_false fun e => hl (by rw [e]))
    clear hl
    go_enter Try.func15, Try.ntmps15
    go_wp2
    go_ret
    exact ⟨ret_bool HN.out.symm, Below.refl _ _⟩
end Go.Proofs.Ytkfgomhhenmmeaa

namespace Go.Proofs.Ytkfgomhhenmmeaa

section
variable {α : Type} (f : α → Int)
/-- No element is heavier than a later one. -/
def SortedF (l : List α) : Prop := l.Pairwise fun x y => f x ≤ f y
/-- The same elements, equal ones in the same order. -/
def Same (l m : List α) : Prop := ∀ v : Int, l.filter (fun x => f x == v) = m.filter (fun x => f x == v)
end
section
variable {α : Type} {f : α → Int} {l m k : List α}
theorem Same.refl (l : List α) : Same f l l := fun _ => rfl
theorem Same.trans (h : Same f l m) (h2 : Same f m k) : Same f l k := fun v => (h v).trans (h2 v)
theorem Same.symm (h : Same f l m) : Same f m l := fun v => (h v).symm
theorem Same.append {l' m' : List α} (h : Same f l m) (h2 : Same f l' m') : Same f (l ++ l') (m ++ m') := fun v => by
  rw [List.filter_append, List.filter_append, h v, h2 v]
theorem Same.mem (h : Same f l m) (x : α) : x ∈ l ↔ x ∈ m := by
  have e := h (f x)
  constructor
  · intro hx
    have : x ∈ l.filter (fun y => f y == f x) := List.mem_filter.2 ⟨hx, by simp⟩
    rw [e] at this
    exact (List.mem_filter.1 this).1
  · intro hx
    have : x ∈ m.filter (fun y => f y == f x) := List.mem_filter.2 ⟨hx, by simp⟩
    rw [← e] at this
    exact (List.mem_filter.1 this).1
theorem filt_none {v : Int} (h : ∀ x ∈ l, f x ≠ v) : l.filter (fun x => f x == v) = [] := by
  rw [List.filter_eq_nil_iff]
  intro x hx
  have := h x hx
  simpa using this
/-- Lighter ones may go ahead. -/
theorem Same.swap (h : ∀ x ∈ l, ∀ y ∈ m, f y < f x) : Same f (m ++ l) (l ++ m) := fun v => by
  rw [List.filter_append, List.filter_append]
  by_cases hx : ∃ x ∈ l, f x = v
  · obtain ⟨x, hx, rfl⟩ := hx
    rw [filt_none (l := m) fun y hy e => by have := h x hx y hy; omega]
    simp
  · rw [filt_none (l := l) fun x hx' e => hx ⟨x, hx', e⟩]
    simp
theorem SortedF.append (h1 : SortedF f l) (h2 : SortedF f m) (h : ∀ x ∈ l, ∀ y ∈ m, f x ≤ f y) : SortedF f (l ++ m) := List.pairwise_append.2 ⟨h1, h2, h⟩
theorem SortedF.left (h : SortedF f (l ++ m)) : SortedF f l := (List.pairwise_append.1 h).1
theorem SortedF.right (h : SortedF f (l ++ m)) : SortedF f m := (List.pairwise_append.1 h).2.1
theorem SortedF.cross (h : SortedF f (l ++ m)) : ∀ x ∈ l, ∀ y ∈ m, f x ≤ f y := (List.pairwise_append.1 h).2.2
theorem SortedF.one (x : α) : SortedF f [x] := List.pairwise_singleton _ _
theorem SortedF.nil : SortedF f ([] : List α) := List.Pairwise.nil
/-- Sorted lists of the same elements, equal ones in the same order, are one. -/
theorem sorted_uniq : ∀ {l m : List α}, SortedF f l → SortedF f m → Same f l m → l = m
  | [], m, _, _, h => by
    cases m with
    | nil => rfl
    | cons y m => exact absurd ((h.mem y).2 (List.mem_cons_self ..)) (by simp)
  | x :: l, [], _, _, h => absurd ((h.mem x).1 (List.mem_cons_self ..)) (by simp)
  | x :: l, y :: m, h1, h2, h => by
    have hx : ∀ z ∈ x :: l, f x ≤ f z := fun z hz => by
      rcases List.mem_cons.1 hz with rfl | hz
      · exact Int.le_refl _
      · exact (List.pairwise_cons.1 h1).1 z hz
    have hy : ∀ z ∈ y :: m, f y ≤ f z := fun z hz => by
      rcases List.mem_cons.1 hz with rfl | hz
      · exact Int.le_refl _
      · exact (List.pairwise_cons.1 h2).1 z hz
    have e1 := hx y ((h.mem y).2 (List.mem_cons_self ..))
    have e2 := hy x ((h.mem x).1 (List.mem_cons_self ..))
    have e : f x = f y := by omega
    have hh := h (f x)
    rw [List.filter_cons_of_pos (by simp), List.filter_cons_of_pos (by simp [e])] at hh
    injection hh with hh1 hh2
    subst hh1
    have ht : Same f l m := fun v => by
      by_cases hv : f x = v
      · subst hv; exact hh2
      · have := h v
        rwa [List.filter_cons_of_neg (by simpa using hv), List.filter_cons_of_neg (by simpa using hv)] at this
    rw [sorted_uniq (List.pairwise_cons.1 h1).2 (List.pairwise_cons.1 h2).2 ht]
/-- One that is lighter than all behind it, and not lighter than those ahead, put into its place. -/
theorem sorted_ins {A B : List α} {x : α} (h : SortedF f (A ++ B)) (h1 : ∀ y ∈ A, f y ≤ f x) (h2 : ∀ y ∈ B, f x < f y) : SortedF f (A ++ x :: B) ∧ Same f (A ++ x :: B) (A ++ B ++ [x]) := by
  refine ⟨SortedF.append h.left (List.pairwise_cons.2 ⟨fun y hy => Int.le_of_lt (h2 y hy), h.right⟩) fun y hy z hz => ?_, ?_⟩
  · rcases List.mem_cons.1 hz with rfl | hz
    · exact h1 y hy
    · exact h.cross y hy z hz
  · rw [List.append_assoc]
    refine (Same.refl A).append ?_
    exact Same.swap (l := B) (m := [x]) fun y hy z hz => by rw [List.mem_singleton.1 hz]; exact h2 y hy
/-- Two merged halves. -/
theorem sorted_halves {X1 X2 Y1 Y2 Z1 Z2 : List α} (hX : SortedF f (X1 ++ X2)) (hY : SortedF f (Y1 ++ Y2)) (hxy : ∀ x ∈ X1, ∀ y ∈ Y2, f x ≤ f y) (hyx : ∀ y ∈ Y1, ∀ x ∈ X2, f y < f x)
    (hZ1 : SortedF f Z1) (hZ2 : SortedF f Z2) (s1 : Same f Z1 (X1 ++ Y1)) (s2 : Same f Z2 (X2 ++ Y2)) : SortedF f (Z1 ++ Z2) ∧ Same f (Z1 ++ Z2) (X1 ++ X2 ++ (Y1 ++ Y2)) := by
  refine ⟨hZ1.append hZ2 fun x hx y hy => ?_, ?_⟩
  · have hx := (s1.mem x).1 hx
    have hy := (s2.mem y).1 hy
    rcases List.mem_append.1 hx with hx | hx <;> rcases List.mem_append.1 hy with hy | hy
    · exact hX.cross x hx y hy
    · exact hxy x hx y hy
    · exact Int.le_of_lt (hyx x hx y hy)
    · exact hY.cross x hx y hy
  · refine (s1.append s2).trans ?_
    have e1 : X1 ++ Y1 ++ (X2 ++ Y2) = X1 ++ ((Y1 ++ X2) ++ Y2) := by simp [List.append_assoc]
    have e2 : X1 ++ X2 ++ (Y1 ++ Y2) = X1 ++ ((X2 ++ Y1) ++ Y2) := by simp [List.append_assoc]
    rw [e1, e2]
    exact (Same.refl X1).append ((Same.swap fun x hx y hy => hyx y hy x hx).append (Same.refl Y2))
end

/-! ### Two elements change places -/
section
variable {α : Type} {d : α}
def swp (d : α) (L : List α) (i j : Nat) : List α := (L.set i (nth d L j)).set j (nth d L i)
theorem swp_length (L : List α) (i j : Nat) : (swp d L i j).length = L.length := by simp [swp]
theorem nth_mid (A : List α) (x : α) (B : List α) : nth d (A ++ x :: B) A.length = x := by
  rw [nth_append_right _ _ _ _ (Nat.le_refl _), Nat.sub_self]; rfl
theorem set_mid (A : List α) (x y : α) (B : List α) : (A ++ x :: B).set A.length y = A ++ y :: B := by
  rw [List.set_append_right _ _ (Nat.le_refl _), Nat.sub_self]; rfl
theorem swp_two (A : List α) (x : α) (B : List α) (y : α) (C : List α) (i j : Nat) (hi : i = A.length) (hj : j = A.length + 1 + B.length) : swp d (A ++ x :: (B ++ y :: C)) i j = A ++ y :: (B ++ x :: C) := by
  subst hi hj
  have e1 : nth d (A ++ x :: (B ++ y :: C)) (A.length + 1 + B.length) = y := by
    have := nth_mid (d := d) (A ++ x :: B) y C
    rw [List.length_append, List.length_cons, show A.length + (B.length + 1) = A.length + 1 + B.length by omega] at this
    simpa [List.append_assoc] using this
  unfold swp
  rw [e1, nth_mid, set_mid]
  have := set_mid (A ++ y :: B) y x C
  rw [List.length_append, List.length_cons, show A.length + (B.length + 1) = A.length + 1 + B.length by omega] at this
  simpa [List.append_assoc] using this
theorem swp_comm (L : List α) (i j : Nat) (h : i ≠ j) : swp d L i j = swp d L j i := by
  unfold swp
  exact List.set_comm _ _ h
/-- Neighbours. -/
theorem swp_next (A : List α) (x y : α) (C : List α) (i : Nat) (hi : i = A.length) : swp d (A ++ x :: y :: C) i (i + 1) = A ++ y :: x :: C := by
  have := swp_two (d := d) A x [] y C i (i + 1) hi (by subst hi; simp)
  simpa using this
theorem nth_at (A : List α) (x : α) (B : List α) (i : Nat) (hi : i = A.length) : nth d (A ++ x :: B) i = x := by subst hi; exact nth_mid A x B
theorem split_at (l : List α) (k : Nat) (h : k < l.length) : l = l.take k ++ nth d l k :: l.drop (k + 1) := by
  conv => lhs; rw [← List.take_append_drop k l]
  rw [drop_nth d l k h]
end
end Go.Proofs.Ytkfgomhhenmmeaa

namespace Go.Proofs.Ytkfgomhhenmmeaa

section
variable {α : Type} (f : α → Int)
/-- Behind the elements that are no heavier. -/
def insF (x : α) : List α → List α
  | [] => [x]
  | y :: l => if f x < f y then x :: y :: l else y :: insF x l
def isortF (l : List α) : List α := l.foldl (fun a x => insF f x a) []
end
section
variable {α β : Type} {f : α → Int}
theorem insF_split (x : α) : ∀ {l : List α}, SortedF f l → ∃ A B, l = A ++ B ∧ insF f x l = A ++ x :: B ∧ (∀ y ∈ A, f y ≤ f x) ∧ (∀ y ∈ B, f x < f y)
  | [], _ => ⟨[], [], rfl, rfl, by simp, by simp⟩
  | y :: l, h => by
    unfold insF
    by_cases hlt : f x < f y
    · rw [if_pos hlt]
      refine ⟨[], y :: l, rfl, rfl, by simp, fun z hz => ?_⟩
      rcases List.mem_cons.1 hz with rfl | hz
      · exact hlt
      · have := (List.pairwise_cons.1 h).1 z hz; omega
    · rw [if_neg hlt]
      obtain ⟨A, B, e1, e2, h1, h2⟩ := insF_split x (List.pairwise_cons.1 h).2
      refine ⟨y :: A, B, by rw [e1]; rfl, by rw [e2]; rfl, fun z hz => ?_, h2⟩
      rcases List.mem_cons.1 hz with rfl | hz
      · omega
      · exact h1 z hz
theorem insF_ok (x : α) {l : List α} (h : SortedF f l) : SortedF f (insF f x l) ∧ Same f (insF f x l) (l ++ [x]) := by
  obtain ⟨A, B, e1, e2, h1, h2⟩ := insF_split x h
  rw [e2, e1]
  rw [e1] at h
  exact sorted_ins h h1 h2
theorem isortF_snoc (l : List α) (x : α) : isortF f (l ++ [x]) = insF f x (isortF f l) := by simp [isortF]
theorem isortF_ok (l : List α) : SortedF f (isortF f l) ∧ Same f (isortF f l) l := by
  suffices h : ∀ (l acc m : List α), SortedF f acc → Same f acc m → SortedF f (l.foldl (fun a x => insF f x a) acc) ∧ Same f (l.foldl (fun a x => insF f x a) acc) (m ++ l) by
    have := h l [] [] SortedF.nil (Same.refl _)
    rw [List.nil_append] at this
    exact this
  intro l
  induction l with
  | nil => intro acc m h1 h2; simpa using ⟨h1, h2⟩
  | cons x l ih =>
    intro acc m h1 h2
    obtain ⟨q1, q2⟩ := insF_ok x h1
    have := ih (insF f x acc) (m ++ [x]) q1 (q2.trans (h2.append (Same.refl [x])))
    simpa using this
theorem isort_uniq {l m : List α} (h : SortedF f l) (hs : Same f l m) : l = isortF f m := sorted_uniq h (isortF_ok m).1 (hs.trans (isortF_ok m).2.symm)
theorem insF_cons (x y : α) (l : List α) : insF f x (y :: l) = if f x < f y then x :: y :: l else y :: insF f x l := rfl
theorem insF_map {g : α → β} {k : β → Int} (h : ∀ x, k (g x) = f x) (x : α) : ∀ l : List α, (insF f x l).map g = insF k (g x) (l.map g)
  | [] => rfl
  | y :: l => by
    rw [List.map_cons, insF_cons, insF_cons, h, h]
    by_cases hlt : f x < f y
    · rw [if_pos hlt, if_pos hlt]; rfl
    · rw [if_neg hlt, if_neg hlt, List.map_cons, insF_map h x l]
theorem isortF_map {g : α → β} {k : β → Int} (h : ∀ x, k (g x) = f x) (l : List α) : (isortF f l).map g = isortF k (l.map g) := by
  suffices hh : ∀ (l acc : List α), (l.foldl (fun a x => insF f x a) acc).map g = (l.map g).foldl (fun a x => insF k x a) (acc.map g) by
    exact hh l []
  intro l
  induction l with
  | nil => intro acc; rfl
  | cons x l ih => intro acc; rw [List.foldl_cons, ih, insF_map h, List.map_cons, List.foldl_cons]
theorem isortF_mem (l : List α) (x : α) : x ∈ isortF f l ↔ x ∈ l := (isortF_ok l).2.mem x
end
end Go.Proofs.Ytkfgomhhenmmeaa

namespace Go.Proofs.Ytkfgomhhenmmeaa
open Go.RowKit

section
variable {α : Type} {k : Kd α} {ok ok' : Nat → Prop} {w w' : World} {xs ys : List α} {cells cs : List Value}
theorem Reps.append (h : Reps k ok w xs cells) (h2 : Reps k ok w ys cs) : Reps k ok w (xs ++ ys) (cells ++ cs) := by
  refine ⟨by rw [List.length_append, h.1, h2.1, List.length_append, Nat.add_mul], fun j hj => ?_⟩
  rw [List.length_append] at hj
  rcases Nat.lt_or_ge j xs.length with h1 | h1
  · have h3 : j * k.size + k.size ≤ cells.length := by rw [h.1, ← Nat.succ_mul]; exact Nat.mul_le_mul_right _ h1
    rw [nth_append_left _ _ _ _ h1, List.drop_append_of_le_length (by omega), List.take_append_of_le_length (by rw [List.length_drop]; omega)]
    exact h.2 j h1
  · have h3 : xs.length * k.size ≤ j * k.size := Nat.mul_le_mul_right _ h1
    rw [nth_append_right _ _ _ _ h1, List.drop_append, List.drop_of_length_le (by rw [h.1]; exact h3), List.nil_append, h.1, ← Nat.sub_mul]
    exact h2.2 _ (by omega)
theorem Kd.Rd.reps {A : Option Addr} (h : k.Rd ok w A xs) : ∃ cs, Reps k ok w xs cs ∧ ∀ i v, cs[i]? = some v → ∃ ad, A = some ad ∧ w.cell? (ad.add i) = some v := by
  suffices hh : ∀ n, n ≤ xs.length → ∃ cs, Reps k ok w (xs.take n) cs ∧ ∀ i v, cs[i]? = some v → ∃ ad, A = some ad ∧ w.cell? (ad.add i) = some v by
    obtain ⟨cs, h1, h2⟩ := hh xs.length (Nat.le_refl _)
    rw [List.take_length] at h1
    exact ⟨cs, h1, h2⟩
  intro n
  induction n with
  | zero => intro _; exact ⟨[], by rw [List.take_zero]; exact Reps.nil _ _ _, fun i v hv => by simp at hv⟩
  | succ n ih =>
    intro hn
    obtain ⟨cs, h1, h2⟩ := ih (by omega)
    obtain ⟨ad, c1, e, _, _, hK, hc⟩ := h n (by omega)
    refine ⟨cs ++ c1, by rw [take_succ_nth k.dflt xs n (by omega)]; exact h1.snoc hK, fun i v hv => ?_⟩
    have hl : cs.length = n * k.size := by rw [h1.1, List.length_take, Nat.min_eq_left (by omega)]
    rcases Nat.lt_or_ge i cs.length with hi | hi
    · rw [List.getElem?_append_left hi] at hv
      exact h2 i v hv
    · rw [List.getElem?_append_right hi] at hv
      have := hc _ _ hv
      rw [hl, Nat.add_sub_cancel' (by omega)] at this
      exact ⟨ad, e, this⟩
end
section
variable {P : Program} {ops : Array Oper} {rest : List Oper} {o : Oper} {a : Act} {Q : Exit → Act → World → Prop}
theorem run_append_ks {α : Type} {k : Kd α} {W : World} (base : Nat) (t ty e : TypeId) (z : Value) (bytes : Nat) (ok : Nat → Prop)
    (ht : P.underlying t = some (.slice e)) (hinfo : (P.info? e).map (fun i => (i.zero, i.size, i.bytes)) = some (some z, k.size, bytes)) (hz : z.cells.size = k.size) (hk0 : 0 < k.size) (hb0 : 0 < bytes)
    (h1 : ∀ ok w x cs, k.K ok w x cs → ∀ u ∈ cs, u.oneCell' = true)
    (v : Value) (xs ys : List α) (A : Option Addr) (c : Nat)
    (HO : OwnK k e base ok W v xs) (HR : Sl k (fun b => ok b ∧ v.ownBlock ≠ some b) W A c ys) (hbase : base ≤ W.heap.size) (hl : (xs.length + ys.length) * bytes ≤ 140737488355328) :
    ∃ v1 w1, (Builtin.append_ #[t, t] ty #[v, .slice A ys.length c]).run P W = .ok v1 w1 ∧ OwnK k e base ok w1 v1 (xs ++ ys) ∧ W.grownBy w1 v.ownBlock ∧ (v1.ownBlock = v.ownBlock ∨ ∃ b, v1.ownBlock = some b ∧ W.heap.size ≤ b) := by
  obtain ⟨i0, hi, hzz⟩ := Option.map_eq_some_iff.1 hinfo
  simp only [Prod.mk.injEq] at hzz
  obtain ⟨hz0, hz1, hz2⟩ := hzz
  have hlen : xs.length + ys.length ≤ 140737488355328 := Nat.le_trans (Nat.le_mul_of_pos_right _ hb0) hl
  rcases A with _ | ad
  · have h0 : ys = [] := by
      rcases Nat.eq_zero_or_pos ys.length with h0 | h0
      · exact List.eq_nil_of_length_eq_zero h0
      · obtain ⟨ad, _, h, _⟩ := HR.rd 0 h0
        cases h
    subst h0
    refine ⟨v, W, ?_, by simpa using HO, ⟨rfl, rfl, rfl, Nat.le_refl _, fun _ _ _ => rfl⟩, .inl rfl⟩
    obtain ⟨cells, ho, _⟩ := HO
    rcases ho.2 with ⟨rfl, hn⟩ | ⟨g, cap, cur, rfl, _, _, hnc, _⟩
    · simp [Builtin.append_, run_underlying ht, sizeOf, typeInfo, hi, Builtin.lenOf, Builtin.firstCells]
    · simp [Builtin.append_, run_underlying ht, sizeOf, typeInfo, hi, Builtin.lenOf, Builtin.firstCells, hnc, storeCells]
  · obtain ⟨cs, hrp, hcs⟩ := HR.rd.reps
    obtain ⟨cells, hown, hr⟩ := HO
    have hone : ∀ u ∈ cs, u.oneCell' = true := by
      intro u hu
      obtain ⟨i, hi, rfl⟩ := List.mem_iff_getElem.1 hu
      have hq : i / k.size < ys.length := by rw [hrp.1] at hi; exact (Nat.div_lt_iff_lt_mul hk0).2 hi
      have hK := hrp.2 _ hq
      refine h1 _ _ _ _ hK _ ?_
      rw [List.mem_iff_getElem?]
      refine ⟨i % k.size, ?_⟩
      rw [List.getElem?_take, if_pos (Nat.mod_lt _ hk0), List.getElem?_drop, Nat.div_add_mod']
      exact List.getElem?_eq_getElem hi
    obtain ⟨v1, w1, hrun, h2, h3, _, h5⟩ := run_append_own_at (P := P) W base t ty e i0 z k.size bytes ht hi hz0 hz1 hz2 hz hk0 v xs.length cells hown ad ys.length c cs hrp.1 (fun j u hu => by
      obtain ⟨ad', h', hc⟩ := hcs j u hu
      cases h'
      exact hc) hone (by simp only [maxLen]; omega) hl hbase
    have hat : v1.ownBlock = v.ownBlock ∨ ∃ b, v1.ownBlock = some b ∧ W.heap.size ≤ b := by
      rcases h5 with h | h
      · exact .inl h
      · exact .inr ⟨_, h, Nat.le_refl _⟩
    refine ⟨v1, w1, hrun, ⟨cells ++ cs, by rw [List.length_append]; exact h2, ?_⟩, h3, hat⟩
    have hs := (hr.append hrp).weak (ok' := fun b => (ok b ∧ v.ownBlock ≠ some b) ∧ b < W.heap.size) fun b hb ho => ⟨ho, hb⟩
    refine (hs.keep ((Keep.of_grown h3).weak fun b hb => Ne.symm hb.1.2)).weak fun b _ hb => ⟨hb.1.1, fun he => ?_⟩
    rcases hat with h | ⟨b', h, hle⟩
    · exact hb.1.2 (h ▸ he)
    · rw [h] at he
      injection he with he
      omega
theorem append_ks {α : Type} {k : Kd α} {W : World} (base : Nat) (hgd : o.guard = none) (s x0 : Operand) (t e : TypeId) (z : Value) (bytes : Nat) (ok : Nat → Prop)
    (ho : o.op = .call { callee := .builtin .append, args := #[s, x0], argTypes := #[t, t] })
    (ht : P.underlying t = some (.slice e)) (hinfo : (P.info? e).map (fun i => (i.zero, i.size, i.bytes)) = some (some z, k.size, bytes)) (hz : z.cells.size = k.size) (hk0 : 0 < k.size) (hb0 : 0 < bytes)
    (h1 : ∀ ok w x cs, k.K ok w x cs → ∀ u ∈ cs, u.oneCell' = true)
    (v : Value) (xs ys : List α) (A : Option Addr) (c : Nat) (hs : a.eval s = v) (hx0 : a.eval x0 = .slice A ys.length c)
    (HO : OwnK k e base ok W v xs) (HR : Sl k (fun b => ok b ∧ v.ownBlock ≠ some b) W A c ys) (hbase : base ≤ W.heap.size) (hl : (xs.length + ys.length) * bytes ≤ 140737488355328)
    (h : ∀ v1 w1, OwnK k e base ok w1 v1 (xs ++ ys) → W.grownBy w1 v.ownBlock → (v1.ownBlock = v.ownBlock ∨ ∃ b, v1.ownBlock = some b ∧ W.heap.size ≤ b) → wpList P ops Q rest (a.put o.dst v1) w1) :
    wpList P ops Q (o :: rest) a W := by
  obtain ⟨v1, w1, hr, h2, h3, h4⟩ := run_append_ks (P := P) base t o.type e z bytes ok ht hinfo hz hk0 hb0 h1 v xs ys A c HO HR hbase hl
  refine wpList_plain hgd fun K hK => ?_
  unfold Oper.wp execOp
  simp only [ho, resolve, invoke, builtin, Sem.run_bind, Sem.run_pure, Result.andThen_ok, List.map_toArray, List.map_cons, List.map_nil, hs, hx0, hr]
  exact hK _ _ (h v1 w1 h2 h3 h4)
end
end Go.Proofs.Ytkfgomhhenmmeaa

namespace Go.Proofs.Ytkfgomhhenmmeaa
open Go.RowKit

def symI (l : List Nat) : List Int := l.map Int.ofNat
theorem symI_length (l : List Nat) : (symI l).length = l.length := by simp [symI]
theorem symI_append (a b : List Nat) : symI (a ++ b) = symI a ++ symI b := by simp [symI]
/-- An item: its weight, and its coins' symbols. -/
def kIt : Kd It where
  size := 2
  dflt := (0, [])
  K := fun ok w x cs => ∃ A c, cs = [.int .i64 x.1, .slice A x.2.length c] ∧ Sl (kInt .i64) ok w A c (symI x.2)
  len := fun ⟨_, _, h, _⟩ => by rw [h]; rfl
  keep := fun hk ⟨A, c, h, hr⟩ => ⟨A, c, h, hr.keep hk⟩
  weak := fun hk ⟨A, c, h, hr⟩ => ⟨A, c, h, hr.weak hk⟩
theorem rd_it {ok : Nat → Prop} {w : World} {A : Option Addr} {c : Nat} {xs : List It} (h : Sl kIt ok w A c xs) (j : Nat) (hj : j < xs.length) :
    ∃ ad A' c', A = some ad ∧ w.cell? (ad.add (j * 2)) = some (.int .i64 (nth (0, []) xs j).1) ∧ w.cell? ⟨(ad.add (j * 2)).block, (ad.add (j * 2)).off + 1, none⟩ = some (.slice A' (nth (0, []) xs j).2.length c') ∧ Sl (kInt .i64) ok w A' c' (symI (nth (0, []) xs j).2) := by
  obtain ⟨ad, cs, e, _, _, ⟨A', c', rfl, h1⟩, hc⟩ := h.rd j hj
  have h3 := hc 1 _ rfl
  have h2 := hc 0 _ rfl
  rw [← add_add] at h3
  exact ⟨ad, A', c', e, h2, h3, h1⟩
theorem it_one : ∀ (ok : Nat → Prop) (w : World) (x : It) (cs : List Value), kIt.K ok w x cs → ∀ u ∈ cs, u.oneCell' = true := by
  rintro ok w x cs ⟨A, c, rfl, _⟩ u hu
  simp only [List.mem_cons, List.not_mem_nil, or_false] at hu
  rcases hu with rfl | rfl <;> rfl
theorem Sl.tail {ok : Nat → Prop} {w : World} {A : Option Addr} {c : Nat} {x : It} {xs : List It} (h : Sl kIt ok w A c (x :: xs)) : Sl kIt ok w (A.map fun a => a.add 2) (c - 1) xs := by
  have hr := h.rd.drop 1
  exact ⟨by have := h.le; simp at this; omega, by have := h.cap; omega, by simpa [kIt] using hr⟩

theorem Sl.cutA {ok : Nat → Prop} {w : World} {ad : Addr} {c : Nat} {x : It} {xs : List It} (h : Sl kIt ok w (some ad) c (x :: xs)) {A : Option Addr} (hA : (if c = 1 then some ad else some ⟨ad.block, ad.off + 2, Option.none⟩) = A) : Sl kIt ok w A (c - 1) xs := by
  have ht := h.tail
  by_cases h1 : c = 1
  · have h0 : xs = [] := List.eq_nil_of_length_eq_zero (by have := h.le; simp at this; omega)
    subst h0
    exact ⟨Nat.zero_le _, by have := h.cap; omega, Kd.Rd.nil _ _ _ _⟩
  · rw [if_neg h1] at hA
    subst hA
    exact ht

theorem mergeI_cons (x y : It) (a b : List It) : mergeI (x :: a) (y :: b) = if y.1 < x.1 then y :: mergeI (x :: a) b else x :: mergeI a (y :: b) := by rw [mergeI]
def lenV : Value → Nat
  | .slice _ n _ => n
  | _ => 0
end Go.Proofs.Ytkfgomhhenmmeaa

namespace Go.Proofs.Ytkfgomhhenmmeaa
open Go.RowKit

theorem lit_two {ok : Nat → Prop} (W : World) (e : TypeId) {A1 A2 : Option Addr} {c1 c2 n1 n2 : Nat} {xs ys : List Int} (h1 : Sl (kInt .i64) ok W A1 c1 xs) (h2 : Sl (kInt .i64) ok W A2 c2 ys) (e1 : xs.length = n1) (e2 : ys.length = n2) :
    R2 (W.alloc (.cells #[.slice A1 n1 c1, .slice A2 n2 c2] e)) (some ⟨W.heap.size, 0, none⟩) 2 [xs, ys] := by
  subst e1 e2
  have hb := below_alloc (Below.refl W.heap.size W) (.cells #[.slice A1 xs.length c1, .slice A2 ys.length c2] e)
  refine ⟨Nat.le_refl _, by omega, fun j hj => ?_⟩
  match j, hj with
  | 0, _ =>
    refine ⟨_, _, rfl, trivial, by simp, ⟨A1, c1, rfl, (h1.below hb).any⟩, fun i v hv => ?_⟩
    match i, hv with
    | 0, hv => simp at hv; subst hv; simp [kSl, Addr.add, nth]
  | 1, _ =>
    refine ⟨_, _, rfl, trivial, by simp, ⟨A2, c2, rfl, (h2.below hb).any⟩, fun i v hv => ?_⟩
    match i, hv with
    | 0, hv => simp at hv; subst hv; simp [kSl, Addr.add, nth]
theorem pairsI_nil_short {row : List It} {k : Nat} (h : row.length ≤ 2 * k + 1) : (pairsI row).take k = pairsI row := List.take_of_length_le (by rw [pairsI_length]; omega)
theorem pairsI_get : ∀ (l : List It) (k : Nat), 2 * k + 1 < l.length → nth (0, []) (pairsI l) k = ((nth (0, []) l (2 * k)).1 + (nth (0, []) l (2 * k + 1)).1, (nth (0, []) l (2 * k)).2 ++ (nth (0, []) l (2 * k + 1)).2)
  | [], k, h => by simp at h
  | [x], k, h => by simp at h
  | x :: y :: r, k, h => by
    cases k with
    | zero => rfl
    | succ k =>
      have h1 := pairsI_get r k (by simp at h; omega)
      have e1 : nth (0, []) (pairsI (x :: y :: r)) (k + 1) = nth (0, []) (pairsI r) k := by simp [pairsI, nth]
      have e2 : nth (0, []) (x :: y :: r) (2 * (k + 1)) = nth (0, []) r (2 * k) := by rw [show 2 * (k + 1) = 2 * k + 1 + 1 by omega]; simp [nth]
      have e3 : nth (0, []) (x :: y :: r) (2 * (k + 1) + 1) = nth (0, []) r (2 * k + 1) := by rw [show 2 * (k + 1) + 1 = 2 * k + 1 + 1 + 1 by omega]; simp [nth]
      rw [e1, e2, e3, h1]
def okRow (row : List It) : Prop := ∀ z ∈ row, 0 ≤ z.1 ∧ z.1 ≤ 1125899906842624 ∧ z.2.length ≤ 1000000

end Go.Proofs.Ytkfgomhhenmmeaa

namespace Go.Proofs.Ytkfgomhhenmmeaa
open Go.RowKit

/-- An element of the reference's row: its weight, and its symbol; below 0: a package. -/
def pairsR : List (Int × Int) → List (Int × Int)
  | x :: y :: r => (x.1 + y.1, -1) :: pairsR r
  | _ => []
def mergeR : List (Int × Int) → List (Int × Int) → List (Int × Int)
  | [], b => b
  | x :: a, [] => x :: a
  | x :: a, y :: b => if y.1 < x.1 then y :: mergeR (x :: a) b else x :: mergeR a (y :: b)
termination_by a b => a.length + b.length
theorem pairsR_length : ∀ l : List (Int × Int), (pairsR l).length = l.length / 2
  | [] => rfl
  | [x] => by simp [pairsR]
  | x :: y :: r => by rw [pairsR, List.length_cons, pairsR_length r]; simp; omega
theorem pairsR_get : ∀ (l : List (Int × Int)) (k : Nat), 2 * k + 1 < l.length → nth (0, 0) (pairsR l) k = ((nth (0, 0) l (2 * k)).1 + (nth (0, 0) l (2 * k + 1)).1, -1)
  | [], k, h => by simp at h
  | [x], k, h => by simp at h
  | x :: y :: r, k, h => by
    cases k with
    | zero => rfl
    | succ k =>
      have h1 := pairsR_get r k (by simp at h; omega)
      have e1 : nth (0, 0) (pairsR (x :: y :: r)) (k + 1) = nth (0, 0) (pairsR r) k := by simp [pairsR, nth]
      have e2 : nth (0, 0) (x :: y :: r) (2 * (k + 1)) = nth (0, 0) r (2 * k) := by rw [show 2 * (k + 1) = 2 * k + 1 + 1 by omega]; simp [nth]
      have e3 : nth (0, 0) (x :: y :: r) (2 * (k + 1) + 1) = nth (0, 0) r (2 * k + 1) := by rw [show 2 * (k + 1) + 1 = 2 * k + 1 + 1 + 1 by omega]; simp [nth]
      rw [e1, e2, e3, h1]
theorem pairsR_short {row : List (Int × Int)} {k : Nat} (h : row.length ≤ 2 * k + 1) : (pairsR row).take k = pairsR row := List.take_of_length_le (by rw [pairsR_length]; omega)
theorem infoRi : (Try.prog.info? 108).map (fun i => (i.zero, i.size, i.bytes)) = some (some (.agg #[.int .i64 0, .int .i64 0]), 2, 16) := by kernel_rfl

set_option maxHeartbeats 4000000 in
set_option maxRecDepth 100000 in
theorem rpackages_any (A : Option Addr) (c : Nat) (row : List (Int × Int)) (w : World) (hS : Sl kField AnyB w A c row) (hl : row.length ≤ 100000) (hw : ∀ z ∈ row, 0 ≤ z.1 ∧ z.1 ≤ 1125899906842624) :
    Calls Try.prog 68 #[.slice A row.length c] w
      fun e w' => ∃ v, e = .returned v ∧ OwnK kField 108 w.heap.size (fun _ => True) w' v (pairsR row) ∧ Below w.heap.size w w' := by
  have HS := Lib.hid (hS.weak (ok' := fun b => b < w.heap.size) fun b hb _ => hb)
  have HW := Lib.hid hw
  clear hS hw
  go_enter Try.func68, Try.ntmps68
  go_wp2
  go_loopw [3, 4] (fun v iv wr => ∃ (i k : Nat), iv = .int .i64 (i : Int) ∧ Hid (i = 2 * k ∧ i ≤ row.length + 1) ∧ Hid (OwnK kField 108 w.heap.size (fun _ => True) wr v ((pairsR row).take k)) ∧ Below w.heap.size w wr) (fun _ iv _ => row.length + 2 - (intOf iv).toNat)
  case atStart => exact ⟨0, 0, rfl, Lib.hid ⟨rfl, by omega⟩, Lib.hid (OwnK.nil _ _ _ _ _), Below.refl _ _⟩
  case round =>
    obtain ⟨i, k, rfl, hik, hO, hB⟩ := hrel
    have hi := hik.out
    obtain ⟨i1, hi1⟩ : ∃ i1, i + 1 = i1 := ⟨_, rfl⟩
    have hw1 : IntKind.i64.wrap ((i : Int) + 1) = (i1 : Int) := by rw [IntWalk.i64_in _ (by omega)]; omega
    by_cases hlt : i1 < row.length
    · have hd : decide (i1 < row.length) = true := decide_eq_true hlt
      have hil : i < row.length := by omega
      obtain ⟨i2, hi2⟩ : ∃ i2, i + 2 = i2 := ⟨_, rfl⟩
      have hw2 : IntKind.i64.wrap ((i : Int) + 2) = (i2 : Int) := by rw [IntWalk.i64_in _ (by omega)]; omega
      have HSr := Lib.hid ((HS.out.below hB))
      obtain ⟨ad, rfl, x0, _⟩ := rd_field HSr.out i hil
      obtain ⟨ad', e', y0, _⟩ := rd_field HSr.out i1 hlt
      cases e'
      have hbx := HW.out _ (nth_mem (0, 0) row i hil)
      have hby := HW.out _ (nth_mem (0, 0) row i1 hlt)
      have hpg := pairsR_get row k (by omega)
      rw [← hi.1, hi1] at hpg
      have hpt := take_succ_nth (0, 0) (pairsR row) k (by rw [pairsR_length]; omega)
      rw [hpg] at hpt
      obtain ⟨xw, hxe⟩ : ∃ x, (nth (0, 0) row i).1 = x := ⟨_, rfl⟩
      obtain ⟨yw, hye⟩ : ∃ y, (nth (0, 0) row i1).1 = y := ⟨_, rfl⟩
      rw [hxe] at x0 hbx hpt
      rw [hye] at y0 hby hpt
      have hw3 : IntKind.i64.wrap (xw + yw) = xw + yw := IntWalk.i64_in _ (by have := hbx.1; have := hby.1; have := hbx.2; have := hby.2; omega)
      have hsz := hB.size
      have HPT := Lib.hid hpt
      have HII := Lib.hid (show i + 1 = i1 ∧ i + 2 = i2 ∧ i1 < row.length ∧ i = 2 * k from ⟨hi1, hi2, hlt, hi.1⟩)
      have hin : (0 : Int) ≤ (i : Int) := by omega
      have hin1 : (0 : Int) ≤ (i1 : Int) := by omega
      have hinl : (i : Int) < (row.length : Int) := by omega
      have hinl1 : (i1 : Int) < (row.length : Int) := by omega
      have HDR := Lib.hid ((Below.refl wr.heap.size wr).drew)
      have hkl : ((pairsR row).take k).length ≤ 100000 := by rw [List.length_take]; omega
      have HKL := Lib.hid hkl
      have z0 := cell_below HDR.out x0
      have z1 := cell_below HDR.out y0
      clear hi hpg hpt hxe hye hbx hby hi1 hi2 hil hlt hkl
      go_wp2_with fail
      go_region_law ((refine step_append_k (W := wr.drew) (k := kField) w.heap.size ?a1 (.tmp 12) (.tmp 26) 106 108 (.agg #[.int .i64 0, .int .i64 0]) 16 (fun _ => True) ?a2 Try.underlying106 infoRi ?a3 ?a4 ?a5 u3 ((pairsR row).take k) (xw + yw, -1) [.int .i64 (xw + yw), .int .i64 (-1)] ?a6 ?a7 ?a8 ?hO ?hx ?hb ?hl ?_); (case a1 => rfl); (case a2 => rfl); (case a3 => rfl); (case a4 => decide); (case a5 => decide); (case a6 => rfl); (case a7 => rfl); (case a8 => rfl); (case hO => exact hO.out.below HDR.out); (case hx => exact ⟨_, _, rfl, rfl, rfl⟩); (case hb => exact hsz); (case hl => have := HKL.out; omega); intro g9 cap9 w9 hO9 hg9 hb9 ha9; have HO9 := Lib.hid hO9; have HB9 := Lib.hid (hB.drew.grown hg9 hsz hO.out.base_le); clear hO9 hg9 ha9)
      all_goals
        (try simp only [Act.put, List.getElem_toArray, List.getElem_cons_succ, List.getElem_cons_zero, List.setIfInBounds_toArray, List.set_cons_succ, List.set_cons_zero])
        go_wp2
        go_roundw
        case rel => have hh := HII.out; exact ⟨i2, k + 1, rfl, Lib.hid ⟨by omega, by omega⟩, Lib.hid (by rw [HPT.out]; have := HO9.out; simpa using this), HB9.out⟩
        case measure => have hh := HII.out; simp [intOf]; omega
    · have hd : decide (i1 < row.length) = false := decide_eq_false hlt
      have HF := Lib.hid (show OwnK kField 108 w.heap.size (fun _ => True) wr u3 (pairsR row) by
        have h := hO.out
        rwa [pairsR_short (by omega)] at h)
      clear hi hi1 hlt
      go_wp2
      go_ret
      exact ⟨_, rfl, HF.out, hB⟩
end Go.Proofs.Ytkfgomhhenmmeaa
