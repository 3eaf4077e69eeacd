/- bits: Open of a reader, Append of a writer: what each call returns. · A drawn region in a round over an iterator: what only reads first, then one chain of operations. · prefix: words: what it returns, for any right lengths and memory. · slices: Grow of nil, Concat, at lists of ints: what each call returns. · prefix: Codes, Write: what each call returns. · The reference's prefix: Check, Complete, Cost: what each call returns. · The reference's prefix: Cost: what it returns. · The reference's prefix: Codes: what it returns. · Maps whose keys are words (a length and a number): what they tell, and what an update does. · prefix: open: which words a book has, and which begin one. · prefix: a book's read, Read: what each call returns, and where the reader is then. · prefix: Encode, Decode: what each call returns. · prefix: Decode: what it returns. · The reference's bits: Number, Of, Pack: what each call returns. · The reference's bits: a Writer: put, Append, Len, Bytes; Same: what each call returns, and what the writer has then. · The reference's bits: a Reader: Open, next, Take, At, Left, Seek: what each call returns, and where the reader is then. · The reference's prefix: word, Write, begins: what each call returns. · The reference's prefix: Write, begins: what each call returns. -/
import Derived.Test.YtciknejchglmoaaDoorKb
import Derived.StillTailTactics
import Derived.OrdersIn
import Derived.RangeFuncCalls
import Derived.TacticsIn
import Derived.ControlIn
import Derived.Test.YtciknejchglmoaaDoorKa
import Derived.Maps.OwnSet
import Derived.Maps.OwnOps
import Derived.DeepKeys4
import Derived.MapViews
import Derived.WideKeyArgs2
import Derived.Deep.RegionHeld3
namespace Go.Proofs.YtciknejchglmoaaDoor
open Go.RowKit

def openE (m : Nat) (n : Int) : Int := if n < 0 ∨ 8 * (m : Int) < n then 1 else if 1048576 < n then 2 else 0

set_option maxHeartbeats 1000000 in
set_option maxRecDepth 100000 in
theorem ropen_no (A : Option Addr) (c : Nat) (b : List Int) (n : Int) (w : World) (hm : b.length ≤ 1000000000000) (he : openE b.length n ≠ 0) :
    Calls Tryd.prog 36 #[.slice A b.length c, .int .i64 n] w fun e w' => e = .returned (.tuple #[.pointer none, .int .i64 (openE b.length n)]) ∧ w = w' := by
  have hw1 : IntKind.i64.wrap (8 * (b.length : Int)) = 8 * (b.length : Int) := IntWalk.i64_in _ (by omega)
  by_cases h0 : n < 0
  · have HE := Lib.hid (show openE b.length n = 1 by unfold openE; rw [if_pos (.inl h0)])
    clear he
    go_enter Tryd.func36, Tryd.ntmps36
    go_wp2
    go_ret2
    exact ⟨ret_two rfl (by rw [HE.out]; rfl), rfl⟩
  · have hd0 : decide (n < 0) = false := decide_eq_false h0
    by_cases h1 : 8 * (b.length : Int) < n
    · have HE := Lib.hid (show openE b.length n = 1 by unfold openE; rw [if_pos (.inr h1)])
      clear he h0
      go_enter Tryd.func36, Tryd.ntmps36
      go_wp2
      go_ret2
      exact ⟨ret_two rfl (by rw [HE.out]; rfl), rfl⟩
    · have h2 : 1048576 < n := by
        unfold openE at he
        rw [if_neg (by omega)] at he
        split at he
        · assumption
        · exact absurd rfl he
      have HE := Lib.hid (show openE b.length n = 2 by unfold openE; rw [if_neg (by omega), if_pos h2])
      have hd1 : decide (8 * (b.length : Int) < n) = false := decide_eq_false h1
      clear he h0 h1
      go_enter Tryd.func36, Tryd.ntmps36
      go_wp2
      go_ret2
      exact ⟨ret_two rfl (by rw [HE.out]; rfl), rfl⟩

theorem open_end {w w1 : World} {A : Option Addr} {c m n : Nat} {b : List Int} {g0 : Value} (hB : Below w.heap.size w w1) (hs : Sl (kInt .u8) (fun i => w.heap.size ≤ i ∧ g0.ownBlock = some i) w1 A c ([] ++ b.take m))
    (hl : (b.take m).length = m) (ho : ofB b n = ofB (b.take m) n) (hm : (n + 7) / 8 = m) (hb : ∀ x ∈ b.take m, 0 ≤ x ∧ x < 256) (hn : n ≤ 1048576) :
    ∃ g, Ending.returned (.tuple #[.pointer (some ⟨w1.heap.size, 0, none⟩), .int .i64 0]) = .returned (.tuple #[.pointer (some ⟨g, 0, none⟩), .int .i64 0]) ∧ Rr (fun b => w.heap.size ≤ b) (w1.alloc (.cells #[.slice A m c, .int .i64 (n : Int), .int .i64 0] 96)) g (ofB b n) 0 ∧
      Below w.heap.size w (w1.alloc (.cells #[.slice A m c, .int .i64 (n : Int), .int .i64 0] 96)) ∧ w.heap.size ≤ g := by
  rw [List.nil_append] at hs
  refine ⟨_, rfl, ⟨A, c, b.take m, ?_, ?_, hb, ?_, ?_, ?_, ?_, hB.size⟩, hB.alloc hB.size _, hB.size⟩
  · rw [ofB_length, hl]; exact heap_alloc_new w1 _
  · exact ((hs.weak (ok' := fun i => w.heap.size ≤ i ∧ i < w1.heap.size) fun i hi h => ⟨h.1, hi⟩).below (below_alloc (Below.refl _ _) _)).weak fun i _ h => ⟨h.1, by omega⟩
  · rw [ofB_length, hl]; omega
  · rw [ofB_length]; exact ho
  · exact Nat.zero_le _
  · rw [ofB_length]; exact hn

set_option maxHeartbeats 2000000 in
set_option maxRecDepth 100000 in
theorem ropen_ok (A : Option Addr) (c : Nat) (b : List Int) (n : Nat) (w : World) (hS : RY w A c b) (hb : ∀ x ∈ b, 0 ≤ x ∧ x < 256) (hm : b.length ≤ 1000000000000) (h8 : n ≤ 8 * b.length) (hn : n ≤ 1048576) :
    Calls Tryd.prog 36 #[.slice A b.length c, .int .i64 (n : Int)] w fun e w' => ∃ g, e = .returned (.tuple #[.pointer (some ⟨g, 0, none⟩), .int .i64 0]) ∧ Rr (fun b => w.heap.size ≤ b) w' g (ofB b n) 0 ∧ Below w.heap.size w w' ∧ w.heap.size ≤ g := by
  have hw1 : IntKind.i64.wrap (8 * (b.length : Int)) = 8 * (b.length : Int) := IntWalk.i64_in _ (by omega)
  have hd0 : decide ((n : Int) < 0) = false := decide_eq_false (by omega)
  have hd1 : decide (8 * (b.length : Int) < (n : Int)) = false := decide_eq_false (by omega)
  have hd2 : decide ((1048576 : Int) < (n : Int)) = false := decide_eq_false (by omega)
  obtain ⟨m, hmn⟩ : ∃ m, (n + 7) / 8 = m := ⟨_, rfl⟩
  have hw2 : IntKind.i64.wrap (((n : Int) + 7) / 8) = (m : Int) := by rw [IntWalk.i64_in _ (by omega)]; omega
  have hw3 : IntKind.i64.wrap ((n : Int) + 7) = (n : Int) + 7 := IntWalk.i64_in _ (by omega)
  have hmc : m ≤ c := by have := hS.le; omega
  have hml : m ≤ b.length := by omega
  have hlen : (b.take m).length = m := by rw [List.length_take]; omega
  have HT := Lib.hid (show Sl (kInt .u8) AnyB w A c (b.take m) from ⟨by rw [hlen]; exact hmc, hS.cap, hS.rd.take m⟩)
  have HB := Lib.hid (fun x (hx : x ∈ b.take m) => hb x (List.mem_of_mem_take hx))
  have hob : ofB b n = ofB (b.take m) n := by
    unfold ofB
    apply List.map_congr_left
    intro i hi
    rw [List.mem_range] at hi
    unfold bitB
    rw [nth_take _ _ _ _ (by omega)]
  have HL := Lib.hid hlen
  have HN := Lib.hid hmn
  have HO := Lib.hid hob
  have hm0 : (0 : Int) ≤ (m : Int) := by omega
  have hq : ((n : Int) + 7) / 8 = (m : Int) := by omega
  clear hmn hlen hob hb hw2
  rcases A with _ | ad
  · go_enter Tryd.func36, Tryd.ntmps36
    go_wp2_with (at_builtin; (refine append_row (w0 := w) w.heap.size rfl (.tmp 19) (.tmp 24) 38 5 .u8 1 rfl Tryd.underlying38 infoY (by decide) (.slice (some ⟨w.heap.size, 0, none⟩) 0 0) [] (b.take m) none c rfl (by rw [HL.out]; rfl) (own_lit w 5 .u8 [] (by simp)) (HT.out.below (below_alloc (Below.refl _ _) _)) (below_alloc (Below.refl _ _) _) (by simp) (by simp; omega) ?_); intro v1 w1 hO1 hB1 hg1 hat1; obtain ⟨A1, c1, hv1, hs1⟩ := hO1.rd; subst hv1)
    go_ret2
    exact open_end hB1 hs1 HL.out HO.out HN.out HB.out hn
  · have hz := add_zero ad
    go_enter Tryd.func36, Tryd.ntmps36
    go_wp2_with (at_builtin; (refine append_row (w0 := w) w.heap.size rfl (.tmp 19) (.tmp 24) 38 5 .u8 1 rfl Tryd.underlying38 infoY (by decide) (.slice (some ⟨w.heap.size, 0, none⟩) 0 0) [] (b.take m) (some ad) c rfl (by rw [HL.out]; rfl) (own_lit w 5 .u8 [] (by simp)) (HT.out.below (below_alloc (Below.refl _ _) _)) (below_alloc (Below.refl _ _) _) (by simp) (by simp; omega) ?_); intro v1 w1 hO1 hB1 hg1 hat1; obtain ⟨A1, c1, hv1, hs1⟩ := hO1.rd; subst hv1)
    go_ret2
    exact open_end hB1 hs1 HL.out HO.out HN.out HB.out hn

set_option maxHeartbeats 2000000 in
set_option maxRecDepth 100000 in
theorem wappend_any (o : Nat → Prop) (g n : Nat) (A : Option Addr) (c : Nat) (b : List Int) (bs : List Bool) (w : World) (h : Wr o w g bs) (hS : Sl (kInt .u8) (fun i => ¬ o i) w A c b) (hb : ∀ x ∈ b, 0 ≤ x ∧ x < 256) (hm : b.length ≤ 1000000000000) (h8 : n ≤ 8 * b.length) (hl : bs.length ≤ 1048576) :
    Calls Tryd.prog 62 #[.pointer (some ⟨g, 0, none⟩), .slice A b.length c, .int .i64 (n : Int)] w
      fun e w' => e = .returned (.int .i64 (fullE bs.length n)) ∧ Wr (fun b => o b ∨ w.heap.size ≤ b) w' g (fullB bs (ofB b n)) ∧ Upd o w w' := by
  have hw1 : IntKind.i64.wrap (8 * (b.length : Int)) = 8 * (b.length : Int) := IntWalk.i64_in _ (by omega)
  have hd0 : decide ((n : Int) < 0) = false := decide_eq_false (by omega)
  have hd1 : decide (8 * (b.length : Int) < (n : Int)) = false := decide_eq_false (by omega)
  have k1 := (let ⟨_, h⟩ := h; h.blk.cell 1 rfl : w.cell? ⟨g, 1, none⟩ = some (.int .i64 bs.length))
  have HB := Lib.hid hb
  have H := Lib.hid h
  clear hb h
  by_cases hov : 1048576 < bs.length + n
  · have hd : decide ((1048576 : Int) < (bs.length : Int) + (n : Int)) = true := decide_eq_true (by omega)
    have HS := Lib.hid (show fullE bs.length n = 2 ∧ fullB bs (ofB b n) = bs by unfold fullE fullB; rw [ofB_length]; simp [hov])
    clear hov
    go_enter Tryd.func62, Tryd.ntmps62
    go_wp2
    go_ret
    exact ⟨ret_int HS.out.1.symm, by rw [HS.out.2]; exact H.out.weak fun b _ h => .inl h, Upd.refl _ _⟩
  · have hd : decide ((1048576 : Int) < (bs.length : Int) + (n : Int)) = false := decide_eq_false (by omega)
    have HS := Lib.hid (show fullE bs.length n = 0 ∧ fullB bs (ofB b n) = bs ++ ofB b n by unfold fullE fullB; rw [ofB_length]; simp [hov])
    have hle : bs.length + n ≤ 1048576 := by omega
    clear hov
    go_enter Tryd.func62, Tryd.ntmps62
    go_wp2
    clear hd hd0 hd1 hw1 k1
    go_loopw [31] (fun i wq => ∃ k : Nat, k ≤ n ∧ i = .int .i64 k ∧ Wr (fun b => o b ∨ w.heap.size ≤ b) wq g (bs ++ ofB b k) ∧ Upd o w wq) (fun i _ => n - (intOf i).toNat)
    case atStart => exact ⟨0, Nat.zero_le _, rfl, by simpa [ofB] using H.out.weak fun b _ h => .inl h, Upd.refl _ _⟩
    case round =>
      obtain ⟨k, hk, rfl, hw, hU⟩ := hrel
      by_cases hlt : k < n
      · have hSq := (hS.keep (hU.keep fun b h => h)).any
        obtain ⟨vw, hwf⟩ := hw
        have HC := Lib.hid (bit_any A c b k wr hSq HB.out (by omega))
        have HA := Lib.hid (add_any (foot g vw) g (bitB b k) (bs ++ ofB b k) wr ⟨vw, hwf.exact⟩ (by rw [List.length_append, ofB_length]; omega))
        have HW := Lib.hid hwf
        have HU := Lib.hid hU
        have HOS := Lib.hid (ofB_succ b k)
        clear hSq hwf hU
        go_wp2_with (first
          | (go_at_call 81; refine HC.out.mono ?_; rintro e w2 ⟨rfl, rfl⟩)
          | (go_at_call 80; refine HA.out.mono ?_; rintro e w3 ⟨rfl, hw3, hu3⟩))
        go_roundw
        case rel =>
          refine ⟨k + 1, by omega, by go_num, ?_, ?_⟩
          · rw [HOS.out, ← List.append_assoc]
            refine hw3.weak fun b _ h => ?_
            rcases h with h | h
            · exact (HW.out.foot_in b h).1
            · exact .inr (by have := HU.out.size; omega)
          · refine HU.out.trans hu3 fun b hb h => ?_
            rcases (HW.out.foot_in b h).1 with h | h
            · exact h
            · omega
        case measure => simp [intOf]; omega
      · obtain rfl : k = n := by omega
        have HW := Lib.hid hw
        have HU := Lib.hid hU
        clear hw hU
        go_wp2
        go_ret
        exact ⟨ret_int HS.out.1.symm, by rw [HS.out.2]; exact HW.out, HU.out⟩
end Go.Proofs.YtciknejchglmoaaDoor

namespace Go.Proofs.YtciknejchglmoaaDoor
open Go

section
variable {P : Program} {ops : Array Oper} {md : Region.Mode} {w : World} {l m : Nat}
def plainB (ops : List Oper) : Bool := ops.all fun o => match o.op with | .defer _ => false | _ => true
theorem plainB_spec {l : List Oper} (h : plainB l = true) (o : Oper) (ho : o ∈ l) : ∀ c, o.op ≠ .defer c := by
  intro c e
  have := List.all_eq_true.1 h o ho
  rw [e] at this
  cases this
theorem wp_inRound {o : Oper} {a : Act} {next : Act → World → Prop} {Q : Exit → Act → World → Prop} (hd : ∀ c, o.op ≠ .defer c) (h : o.wp P a w next Q) : o.wpIn (Fence.wide.inRound l) m P a w next Q := by
  refine ⟨fun f _ => trivial, ?_⟩
  rw [show (Fence.wide.inRound l).round = some l from rfl, Oper.semAt_some l _ _ hd]
  unfold Oper.wp at h
  generalize (execOp a.eval o).run P w = r at h
  cases r with
  | ok x w' =>
    cases x <;> simp only [Oper.upon, Oper.uponIn] at h ⊢ <;> first | exact h | exact h.elim | skip
    · exact ⟨fun h => by simp [Fence.wide] at h, CallsIn.inRound l (callsIn_wide.2 h)⟩
    · refine ⟨fun h => by simp [Fence.wide] at h, ?_⟩
      intro c cs _
      obtain ⟨v, w'', hr, hs⟩ := h c cs
      exact ⟨v, w'', hr, stepsIn_wide.2 hs⟩
  | halt x w' => cases x <;> simp only [Oper.upon, Oper.uponIn] at h ⊢ <;> first | exact h | exact h.elim
theorem stOp_inRound {i : Nat} {a : Act} {K : Act → Prop} {K' : Act → World → Prop} {Q' : Exit → Act → World → Prop} (hd : plainB ops.toList = true) (h : ∀ a, K a → K' a w) (hh : stOp P ops w i K a) : wpOpIn (Fence.wide.inRound l) m P ops Q' i K' a w := by
  unfold stOp at hh
  unfold wpOpIn
  split
  · rename_i ho; simp only [ho] at hh; exact h _ hh
  · rename_i o ho
    simp only [ho] at hh
    have hm : o ∈ ops.toList := by simpa using Array.mem_of_getElem? ho
    split
    · rename_i hw; simp only [hw, if_true] at hh; exact wp_inRound (plainB_spec hd o hm) (Oper.wp_of_still h hh)
    · rename_i hw; simp only [hw] at hh; exact ⟨fun f _ => trivial, h _ hh⟩
theorem head_inRound {n g : Nat} {L : Array Bool → Act → Prop} {Q' : Exit → Act → World → Prop} (hd : plainB ops.toList = true) (hL : ∀ listed a, L listed a → wpAnyIn (Fence.wide.inRound l) m P md ops Q' g listed a w) :
    ∀ (f : Nat) (listed : Array Bool) (a : Act), wpAnyL P md ops w n L f listed a → wpAnyIn (Fence.wide.inRound l) m P md ops Q' (f + g) listed a w
  | 0, listed, a, h => by rw [Nat.zero_add]; exact hL _ _ h
  | f + 1, listed, a, h => by
    rw [show f + 1 + g = (f + g) + 1 by omega]
    exact ⟨fun h0 => absurd h0 h.1, fun i hi => stOp_inRound hd (fun a' h' => head_inRound hd hL f _ a' h') (h.2 i hi).2⟩
theorem seq_inRound {F : Fence} {Q' : Exit → Act → World → Prop} : ∀ (l : List Oper) (k : Nat) (listed : Array Bool) (a : Act) (w : World), (∀ j, l[j]? = ops[k + j]?) →
    Region.seqB md ops l.length k listed = true → wpListIn F m P ops Q' l a w → wpAnyIn F m P md ops Q' l.length listed a w
  | [], _, _, _, _, _, hB, h => ⟨by simpa [Region.seqB] using hB, h⟩
  | o :: l, k, listed, a, w, hl, hB, h => by
    have h0 : ops[k]? = some o := by simpa using (hl 0).symm
    simp only [List.length_cons, Region.seqB, Bool.and_eq_true, decide_eq_true_eq] at hB
    refine ⟨fun h1 => (by rw [hB.1] at h1; cases h1), fun i hi => ?_⟩
    rw [hB.1] at hi
    have hik : i = k := by simpa using hi
    subst hik
    have hw : wpOpIn F m P ops Q' i (wpListIn F m P ops Q' l) a w := by unfold wpOpIn; simp only [h0]; exact h
    exact wpOpIn_mono (fun a' w' h' => seq_inRound l (i + 1) _ a' w' (fun j => by have := hl (j + 1); simpa [Nat.add_assoc, Nat.add_comm 1 j] using this) hB.2 h') hw
/-- The first n operations only read; the others come one behind the other. -/
theorem wpIn_still_tail {id : Nat} {Q : Exit → Act → World → Prop} {a : Act} {l' : List Oper} (n : Nat) (hm : P.follows .mixedOrders = true) (hd : plainB l' = true) (hB : Region.lexTailB .any l'.toArray n = true)
    (h : wpStill P l'.toArray w.drew (fun a' => wpListIn (Fence.wide.inRound l) m P l'.toArray Q (l'.drop n) a' w.drew) (l'.take n) a) : (Code.region id l'.toArray true).wpIn (Fence.wide.inRound l) m P Q a w := by
  simp only [Region.lexTailB, Bool.and_eq_true, decide_eq_true_eq] at hB
  obtain ⟨⟨⟨⟨hsel, hn⟩, hs⟩, hc⟩, hlex⟩ := hB
  have hn' : n < l'.length := by simpa using hn
  have htl : (l'.take n).length = n := by simp; omega
  have hdl : (l'.drop n).length = l'.toArray.size - n := by simp
  have inv0 : HeadInv .any l'.toArray n (Array.replicate l'.toArray.size false) :=
    ⟨by simp, fun j oj _ hl => (by rw [getD_replicate_false] at hl; cases hl), fun t _ ht => getD_in (by simpa using ht) (getD_replicate_false _ _)⟩
  have H := wpAnyL_lex (md := .any) (g := l'.toArray.size - n) hsel hs hc hn (l'.take n) 0 _ a (fun j hj => by
    have hj' : j < n := by rw [htl] at hj; exact hj
    simp [hj']) (by simpa using htl) inv0 (by rw [htl]; exact hlex) h
  refine wpIn_region_any hm ?_
  have := head_inRound (Q' := Q) (g := l'.toArray.size - n) (m := m) (l := l) (by simpa using hd) (fun listed a' hL => by
    have := seq_inRound (md := .any) (Q' := Q) (m := m) (F := Fence.wide.inRound l) (l'.drop n) n listed a' w.drew (fun j => by simp [List.getElem?_drop]) (by rw [hdl]; exact hL.1) hL.2
    rwa [hdl] at this) _ _ _ H
  rw [htl, show n + (l'.toArray.size - n) = l'.toArray.size by omega] at this
  exact this
end
end Go.Proofs.YtciknejchglmoaaDoor

namespace Go.Proofs.YtciknejchglmoaaDoor
open Go.RowKit
attribute [local go_sem] Oper.semAt_some

/-! ### Rows of two numbers each -/
def flat2 (xs : List (Int × Int)) : List Value := xs.flatMap fun p => [.int .i64 p.1, .int .i64 p.2]
theorem flat2_length (xs : List (Int × Int)) : (flat2 xs).length = xs.length * 2 := by
  induction xs with
  | nil => rfl
  | cons x xs ih => simp only [flat2, List.flatMap_cons, List.length_append, List.length_cons, List.length_nil] at ih ⊢; omega
theorem flat2_get (xs : List (Int × Int)) (j : Nat) (h : j < xs.length) : (flat2 xs)[j * 2]? = some (.int .i64 (nth (0, 0) xs j).1) ∧ (flat2 xs)[j * 2 + 1]? = some (.int .i64 (nth (0, 0) xs j).2) := by
  induction xs generalizing j with
  | nil => cases h
  | cons x xs ih =>
    cases j with
    | zero => simp [flat2, nth]
    | succ j =>
      have := ih j (by simpa using h)
      have e : (j + 1) * 2 = j * 2 + 1 + 1 := by omega
      rw [e]
      simpa [flat2, nth] using this
theorem flat2_set (xs : List (Int × Int)) (j : Nat) (p : Int × Int) (h : j < xs.length) : ((flat2 xs).set (j * 2) (.int .i64 p.1)).set (j * 2 + 1) (.int .i64 p.2) = flat2 (xs.set j p) := by
  induction xs generalizing j with
  | nil => cases h
  | cons x xs ih =>
    cases j with
    | zero => simp [flat2]
    | succ j =>
      have := ih j (by simpa using h)
      have e : (j + 1) * 2 = j * 2 + 1 + 1 := by omega
      rw [e]
      simpa [flat2] using this
theorem flat2_zero (n : Nat) : (madeCells #[.int .i64 0, .int .i64 0] (n * 2)) = (flat2 (List.replicate n (0, 0))).toArray := by
  apply Array.ext
  · simp [madeCells, flat2_length]
  · intro i h1 h2
    have hi : i < n * 2 := by simpa [madeCells] using h1
    have hz : ∀ j, nth (0, 0) (List.replicate n ((0 : Int), (0 : Int))) j = (0, 0) := fun j => by
      simp only [nth, List.getD_eq_getElem?_getD, List.getElem?_replicate]; split <;> rfl
    have key : (flat2 (List.replicate n (0, 0)))[i]? = some (.int .i64 0) := by
      rcases Nat.mod_two_eq_zero_or_one i with h | h
      · have := (flat2_get (List.replicate n (0, 0)) (i / 2) (by simp; omega)).1
        rw [hz, show i / 2 * 2 = i by omega] at this; exact this
      · have := (flat2_get (List.replicate n (0, 0)) (i / 2) (by simp; omega)).2
        rw [hz, show i / 2 * 2 + 1 = i by omega] at this; exact this
    have e2 : (flat2 (List.replicate n (0, 0))).toArray[i] = .int .i64 0 := by
      have := List.getElem?_eq_some_iff.1 key
      obtain ⟨_, h⟩ := this
      simpa using h
    rw [e2]
    rcases Nat.mod_two_eq_zero_or_one i with h | h <;> simp [madeCells, h]
theorem sl_flat {W : World} {r n : Nat} {xs : List (Int × Int)} {t : TypeId} (h : Blk W r (flat2 xs).toArray t) (hn : xs.length ≤ n) (hc : n ≤ 9223372036854775807) : Sl kField (fun b => b = r) W (some ⟨r, 0, none⟩) n xs := by
  refine ⟨hn, hc, fun j hj => ⟨_, _, rfl, rfl, h.lt, ⟨_, _, rfl, rfl, rfl⟩, fun i v hv => ?_⟩⟩
  obtain ⟨h0, h1⟩ := flat2_get xs j hj
  match i, hv with
  | 0, hv => simp at hv; subst hv; rw [add_plain]; exact h.cell _ (by rw [List.getElem?_toArray]; exact h0)
  | 1, hv => simp at hv; subst hv; rw [add_plain]; exact h.cell _ (by rw [List.getElem?_toArray]; exact h1)
theorem make_words (t e : TypeId) (ht : Tryd.prog.underlying t = some (.slice e)) (hinfo : (Tryd.prog.info? e).map (fun i => (i.zero, i.size, i.bytes)) = some (some (.agg #[.int .i64 0, .int .i64 0]), 2, 16)) (n : Nat) (hn : n ≤ 1000000) :
    ∀ W : World, (Instr.makeSlice t (.int .i64 (n : Int)) (.int .i64 (n : Int))).run Tryd.prog W = .ok (.slice (some ⟨W.heap.size, 0, none⟩) n n) (W.alloc (.cells (flat2 (List.replicate n (0, 0))).toArray e)) := by
  intro W
  obtain ⟨i0, hi, hzz⟩ := Option.map_eq_some_iff.1 hinfo
  simp only [Prod.mk.injEq] at hzz
  obtain ⟨hz0, hz1, hz2⟩ := hzz
  have := run_make (P := Tryd.prog) W t e i0 _ ht hi hz0 .i64 .i64 (n : Int) (n : Int) (by omega) (by omega) (by rw [hz2]; omega) (by omega)
  rw [hz1, Int.toNat_natCast] at this
  rw [this, ← flat2_zero]
  rfl
theorem infoW : (Tryd.prog.info? 125).map (fun i => (i.zero, i.size, i.bytes)) = some (some (.agg #[.int .i64 0, .int .i64 0]), 2, 16) := by kernel_rfl

/-! ### What has been written -/
def outL (ls : List Int) (pre : List Nat) : List (Int × Int) := (List.range ls.length).map fun i => if i ∈ pre then ((lenOf ls i : Int), (codeN ls i : Int)) else (0, 0)
def wordsL (ls : List Int) : List (Int × Int) := (List.range ls.length).map fun i => ((lenOf ls i : Int), (codeN ls i : Int))
theorem outL_length (ls : List Int) (pre : List Nat) : (outL ls pre).length = ls.length := by simp [outL]
theorem wordsL_length (ls : List Int) : (wordsL ls).length = ls.length := by simp [wordsL]
theorem wordsL_nth (ls : List Int) (i : Nat) (h : i < ls.length) : nth (0, 0) (wordsL ls) i = ((lenOf ls i : Int), (codeN ls i : Int)) := by
  rw [nth_eq _ _ i (by rw [wordsL_length]; exact h)]; simp [wordsL]
theorem outL_nil (ls : List Int) : outL ls [] = List.replicate ls.length (0, 0) := by
  simp only [outL, List.not_mem_nil, if_false]
  rw [List.map_const', List.length_range]
theorem outL_snoc (ls : List Int) (pre : List Nat) (x : Nat) (_ : x < ls.length) : outL ls (pre ++ [x]) = (outL ls pre).set x ((lenOf ls x : Int), (codeN ls x : Int)) := by
  apply List.ext_getElem
  · simp [outL]
  · intro i h1 h2
    by_cases hi : x = i
    · subst hi
      simp [outL]
    · rw [List.getElem_set_ne hi]
      simp only [outL, List.getElem_map, List.getElem_range, List.mem_append, List.mem_singleton]
      have : (i ∈ pre ∨ i = x) ↔ i ∈ pre := ⟨fun h => h.elim id (fun e => absurd e.symm hi), .inl⟩
      simp only [this]
theorem outL_all {ls : List Int} (h16 : ∀ k, lenOf ls k ≤ 16) : outL ls (ordN ls) = wordsL ls := by
  apply List.map_congr_left
  intro i hi
  rw [List.mem_range] at hi
  by_cases h0 : 0 < lenOf ls i
  · rw [if_pos ((mem_ordN h16 i).2 ⟨hi, h0⟩)]
  · rw [if_neg (fun h => h0 ((mem_ordN h16 i).1 h).2)]
    have : lenOf ls i = 0 := by omega
    rw [this]; unfold codeN; rw [if_pos this]; rfl

structure WoI (w : World) (ls : List Int) (A : Option Addr) (c g1 r g3 g4 : Nat) (pre : List Nat) (W : World) : Prop where
  box : Blk W g1 #[.slice A ls.length c] 25
  row : Blk W r (flat2 (outL ls pre)).toArray 125
  out : Blk W g3 #[.slice (some ⟨r, 0, none⟩) ls.length ls.length] 122
  cur : Blk W g4 #[.int .i64 (wN ls pre).1, .int .i64 (wN ls pre).2] 125
  low : Below w.heap.size w W

theorem words_start {w W3 : World} {ls : List Int} {A : Option Addr} {c gb : Nat}
    (h : Below ((((w.alloc (.cells #[.slice A ls.length c] 25)).alloc (.cells (flat2 (List.replicate ls.length (0, 0))).toArray 125)).alloc (.cells #[.slice (some ⟨w.heap.size + 1, 0, none⟩) ls.length ls.length] 122)).alloc (.cells #[.int .i64 0, .int .i64 0] 125)).heap.size
      ((((w.alloc (.cells #[.slice A ls.length c] 25)).alloc (.cells (flat2 (List.replicate ls.length (0, 0))).toArray 125)).alloc (.cells #[.slice (some ⟨w.heap.size + 1, 0, none⟩) ls.length ls.length] 122)).alloc (.cells #[.int .i64 0, .int .i64 0] 125)) W3)
    (e : gb = ((((w.alloc (.cells #[.slice A ls.length c] 25)).alloc (.cells (flat2 (List.replicate ls.length (0, 0))).toArray 125)).alloc (.cells #[.slice (some ⟨w.heap.size + 1, 0, none⟩) ls.length ls.length] 122)).alloc (.cells #[.int .i64 0, .int .i64 0] 125)).heap.size) :
    WoI w ls A c w.heap.size (w.heap.size + 1) (w.heap.size + 1 + 1) (w.heap.size + 1 + 1 + 1) [] W3 ∧ gb = w.heap.size + 1 + 1 + 1 + 1 := by
  obtain ⟨W1, h1⟩ : ∃ W1, w.alloc (.cells #[.slice A ls.length c] 25) = W1 := ⟨_, rfl⟩
  have a1 : Blk W1 w.heap.size #[.slice A ls.length c] 25 := h1 ▸ heap_alloc_new w _
  have s1 : W1.heap.size = w.heap.size + 1 := h1 ▸ World.size_alloc _ _
  have c1 : Below w.heap.size w W1 := h1 ▸ below_alloc (Below.refl _ _) _
  rw [h1] at h e
  obtain ⟨W2, h2⟩ : ∃ W2, W1.alloc (.cells (flat2 (List.replicate ls.length (0, 0))).toArray 125) = W2 := ⟨_, rfl⟩
  have a2 : Blk W2 W1.heap.size (flat2 (List.replicate ls.length (0, 0))).toArray 125 := h2 ▸ heap_alloc_new W1 _
  have s2 : W2.heap.size = W1.heap.size + 1 := h2 ▸ World.size_alloc _ _
  have c2 : Below W1.heap.size W1 W2 := h2 ▸ below_alloc (Below.refl _ _) _
  rw [h2] at h e
  obtain ⟨W4, h4⟩ : ∃ W4, W2.alloc (.cells #[.slice (some ⟨w.heap.size + 1, 0, none⟩) ls.length ls.length] 122) = W4 := ⟨_, rfl⟩
  have a4 : Blk W4 W2.heap.size #[.slice (some ⟨w.heap.size + 1, 0, none⟩) ls.length ls.length] 122 := h4 ▸ heap_alloc_new W2 _
  have s4 : W4.heap.size = W2.heap.size + 1 := h4 ▸ World.size_alloc _ _
  have c4 : Below W2.heap.size W2 W4 := h4 ▸ below_alloc (Below.refl _ _) _
  rw [h4] at h e
  obtain ⟨W5, h5⟩ : ∃ W5, W4.alloc (.cells #[.int .i64 0, .int .i64 0] 125) = W5 := ⟨_, rfl⟩
  have a5 : Blk W5 W4.heap.size #[.int .i64 0, .int .i64 0] 125 := h5 ▸ heap_alloc_new W4 _
  have s5 : W5.heap.size = W4.heap.size + 1 := h5 ▸ World.size_alloc _ _
  have c5 : Below W4.heap.size W4 W5 := h5 ▸ below_alloc (Below.refl _ _) _
  rw [h5] at h e
  rw [s4, s2, s1] at a5
  rw [s2, s1] at a4
  rw [s1] at a2
  refine ⟨⟨(((a1.below c2).below c4).below c5).below h, ?_, ((a4.below c5).below h), a5.below h, below2 (below2 (below2 (below2 c1 c2) c4) c5) h⟩, by omega⟩
  rw [outL_nil]
  exact ((a2.below c4).below c5).below h
theorem wN_le {ls : List Int} (h16 : ∀ k, lenOf ls k ≤ 16) (A B : List Nat) (i : Nat) (h : ordN ls = A ++ i :: B) : (wN ls A).1 ≤ lenOf ls i := by
  by_cases hA : A = []
  · subst hA; exact Nat.zero_le _
  · obtain ⟨A', p, rfl⟩ : ∃ A' p, A = A' ++ [p] := ⟨A.dropLast, A.getLast hA, (List.dropLast_concat_getLast hA).symm⟩
    have h' : ordN ls = A' ++ p :: i :: B := by rw [h, List.append_assoc]; rfl
    rw [wN_code h16 A' (i :: B) p h']
    have hs := ordN_sorted ls
    rw [h'] at hs
    have := (List.pairwise_cons.1 (List.pairwise_append.1 hs).2.1).1 i (by simp)
    rw [ltW_iff] at this
    show lenOf ls p ≤ _
    omega

theorem wN_pos {ls : List Int} (h16 : ∀ k, lenOf ls k ≤ 16) (A B : List Nat) (i : Nat) (h : ordN ls = A ++ i :: B) : wN ls A = (0, 0) ∨ 0 < (wN ls A).1 := by
  by_cases hA : A = []
  · subst hA; exact .inl rfl
  · right
    obtain ⟨A', p, rfl⟩ : ∃ A' p, A = A' ++ [p] := ⟨A.dropLast, A.getLast hA, (List.dropLast_concat_getLast hA).symm⟩
    have h' : ordN ls = A' ++ p :: i :: B := by rw [h, List.append_assoc]; rfl
    rw [wN_code h16 A' (i :: B) p h']
    exact ((mem_ordN h16 p).1 (by rw [h']; simp)).2
/-- Behind a round. -/
theorem words_round {w W W3 : World} {ls : List Int} {A : Option Addr} {c g1 r g3 g4 x : Nat} {pre : List Nat} {L C : Nat} (h : WoI w ls A c g1 r g3 g4 pre W) (h13 : g1 < r ∧ r < g3 ∧ g3 < g4) (hw : w.heap.size ≤ g1) (hx : x < ls.length)
    (hL : lenOf ls x = L ∧ codeN ls x = C) (hwn : wN ls (pre ++ [x]) = (lenOf ls x, codeN ls x)) (hon : outL ls (pre ++ [x]) = (outL ls pre).set x ((lenOf ls x : Int), (codeN ls x : Int)))
    (hB : Blk W3 g4 #[.int .i64 (L : Int), .int .i64 (C : Int)] 125) (hu : Upd (fun b => b = g4) W W3) :
    WoI w ls A c g1 r g3 g4 (pre ++ [x]) ((W3.setCell ⟨r, x * 2, none⟩ (.int .i64 (L : Int))).setCell ⟨r, x * 2 + 1, none⟩ (.int .i64 (C : Int))) ∧
      Upd (fun b => b = g4 ∨ b = r) W ((W3.setCell ⟨r, x * 2, none⟩ (.int .i64 (L : Int))).setCell ⟨r, x * 2 + 1, none⟩ (.int .i64 (C : Int))) := by
  have hk : Keep (fun b => b ≠ g4) W W3 := hu.keep fun b h => h
  have hs : Upd (fun b => b = r) W3 ((W3.setCell ⟨r, x * 2, none⟩ (.int .i64 (L : Int))).setCell ⟨r, x * 2 + 1, none⟩ (.int .i64 (C : Int))) :=
    (Upd.setCell (fun b => b = r) W3 r (x * 2) _ rfl).trans (Upd.setCell (fun b => b = r) _ r (x * 2 + 1) _ rfl) fun _ _ h => h
  have hk2 : Keep (fun b => b ≠ r) W3 ((W3.setCell ⟨r, x * 2, none⟩ (.int .i64 (L : Int))).setCell ⟨r, x * 2 + 1, none⟩ (.int .i64 (C : Int))) := hs.keep fun b h => h
  have hr := ((h.row.keep hk (by omega)).set (x * 2) (.int .i64 (L : Int))).set (x * 2 + 1) (.int .i64 (C : Int))
  have hu2 : Upd (fun b => b = g4 ∨ b = r) W ((W3.setCell ⟨r, x * 2, none⟩ (.int .i64 (L : Int))).setCell ⟨r, x * 2 + 1, none⟩ (.int .i64 (C : Int))) :=
    (hu.weak (o' := fun b => b = g4 ∨ b = r) fun _ _ h => .inl h).trans (hs.weak (o' := fun b => b = g4 ∨ b = r) fun _ _ h => .inr h) fun _ _ h => h
  refine ⟨⟨(h.box.keep hk (by omega)).keep hk2 (by omega), ?_, (h.out.keep hk (by omega)).keep hk2 (by omega), ?_, ?_⟩, hu2⟩
  · rw [hon, ← flat2_set _ _ _ (by rw [outL_length]; exact hx), hL.1, hL.2]
    have e : (((flat2 (outL ls pre)).toArray.setIfInBounds (x * 2) (.int .i64 (L : Int))).setIfInBounds (x * 2 + 1) (.int .i64 (C : Int))) = (((flat2 (outL ls pre)).set (x * 2) (.int .i64 (L : Int))).set (x * 2 + 1) (.int .i64 (C : Int))).toArray := by simp
    rw [e] at hr
    exact hr
  · rw [hwn, hL.1, hL.2]; exact hB.keep hk2 (by omega)
  · have hlt := h.low.size
    exact h.low.trans (hu2.below hlt (fun b _ e => by rcases e with e | e <;> omega))
theorem WoI.drew {w W : World} {ls : List Int} {A : Option Addr} {c g1 r g3 g4 : Nat} {pre : List Nat} (h : WoI w ls A c g1 r g3 g4 pre W) : WoI w ls A c g1 r g3 g4 pre W.drew := ⟨h.box, h.row, h.out, h.cur, h.low.drew⟩
theorem words_keeps {w W W' : World} {ls : List Int} {A : Option Addr} {c g1 r g3 g4 : Nat} {pre : List Nat} (h : WoI w ls A c g1 r g3 g4 pre W) (hu : Upd (fun b => b = g4 ∨ b = r) W W') : KeepsOthers W W' :=
  ⟨hu.size, fun k x hx hc => (hu.blk k (Array.getElem?_eq_some_iff.1 hx).1 (fun e => by
    rcases e with rfl | rfl
    · rw [show W.heap[k]? = _ from h.cur] at hx; cases hx; cases hc
    · rw [show W.heap[k]? = _ from h.row] at hx; cases hx; cases hc)).trans hx⟩

set_option maxHeartbeats 4000000 in
set_option maxRecDepth 100000 in
theorem words_any (A : Option Addr) (c : Nat) (ls : List Int) (w : World) (hS : RI w A c ls) (hr : Right ls) :
    Calls Tryd.prog 83 #[.slice A ls.length c] w fun e w' => ∃ r, e = .returned (.slice (some ⟨r, 0, none⟩) ls.length ls.length) ∧ Blk w' r (flat2 (wordsL ls)).toArray 125 ∧ w.heap.size ≤ r ∧ Below w.heap.size w w' := by
  have hmk := make_words 122 125 Tryd.underlying122 infoW ls.length (by have := hr.len; omega)
  have HR := Lib.hid hr
  have HS := Lib.hid hS
  clear hr hS
  refine (callsIn_wide (n := 9)).1 ?_
  refine callsIn_of_wp_marks Tryd.func83 rfl trivial ?_ rfl
  simp only [Tryd.ntmps83, List.size_toArray, List.length_cons, List.length_nil, Nat.reduceAdd, Nat.reduceSub, Array.replicate_succ, Array.replicate_zero, List.push_toArray, List.append_toArray, List.nil_append, List.cons_append]
  gi_wp2_with (refine ⟨trivial, ?_⟩; gi_at_call 105; refine (callsIn_wide.2 (ordered_any _ _ _ _)).mono ?_; rintro e W3 ⟨gb, rfl, e1, e2, bB, b3⟩)
  clear hmk
  obtain ⟨g1, hg1⟩ : ∃ g1, w.heap.size = g1 := ⟨_, rfl⟩
  obtain ⟨r, hgr⟩ : ∃ r, g1 + 1 = r := ⟨_, rfl⟩
  obtain ⟨g3, hg3⟩ : ∃ g3, r + 1 = g3 := ⟨_, rfl⟩
  obtain ⟨g4, hg4⟩ : ∃ g4, g3 + 1 = g4 := ⟨_, rfl⟩
  have hI0 : WoI w ls A c g1 r g3 g4 [] W3 ∧ gb = g4 + 1 := by
    subst hg1 hgr hg3 hg4
    exact words_start b3 e1.out
  obtain ⟨hI0, hgb⟩ := hI0
  simp only [hg1, hgr, hg3, hg4]
  have lB := hI0.box.lt
  have lC := hI0.cur.lt
  have hz3 := e2.out
  have hS3 := (HS.out.weak (ok' := fun b => b < g1 ∨ b = gb) (fun b hb _ => .inl (by omega))).below hI0.low
  have HGB := Lib.hid hgb
  have HZ3 := Lib.hid hz3
  have HG := Lib.hid (show w.heap.size = g1 ∧ g1 + 1 = r ∧ r + 1 = g3 ∧ g3 + 1 = g4 from ⟨hg1, hgr, hg3, hg4⟩)
  have hlt1 : g1 < r ∧ r < g3 ∧ g3 < g4 ∧ g4 < gb ∧ gb < W3.heap.size := by omega
  clear e1 e2 b3
  refine range_next rfl (by decide) (gf := 117) (lb := #[.pointer (some ⟨gb, 0, none⟩)]) rfl trivial (enters_of Tryd.func117 (by kernel_rfl) rfl)
    (ordered1_yields gb A c ls W3 (fun b => b < g1 ∨ b = gb) hS3 bB (.inr rfl) 8 (by decide)) (fun r h => h.elim) (fun r h => by omega) (Below.refl _ _) (fun _ => rfl)
    (fun pre W => WoI w ls A c g1 r g3 g4 pre W) (fun _ _ _ => False) ?hI (fun _ _ _ _ _ h _ _ => h) hI0
    (fun x a' W => a' = { tmps := (.slice A ls.length c :: .pointer (some ⟨g1, 0, none⟩) :: .slice none 0 0 :: .pointer (some ⟨g3, 0, none⟩) :: .pointer (some ⟨g4, 0, none⟩) :: .int .i64 (x : Int) :: .slice A ls.length c :: .int .i64 ls.length :: .slice (some ⟨r, 0, none⟩) ls.length ls.length :: .agg #[.int .i64 0, .int .i64 0] :: .slice A ls.length c :: .func (.func 117) #[] #[.pointer (some ⟨gb, 0, none⟩)] :: .int .i64 (x : Int) :: undef :: undef :: undef :: undef :: undef :: undef :: undef :: undef :: undef :: undef :: undef :: undef :: undef :: undef :: undef :: undef :: undef :: undef :: undef :: undef :: undef :: undef :: undef :: undef :: undef :: undef :: undef :: []).toArray, defers := [] })
    (fun _ _ _ _ _ _ h _ _ => h) ?assign ?body ?done (fun _ _ _ _ _ _ h _ => h.elim)
  case hI =>
    rintro s X Y row hs hg hr
    have hO : Other X row := fun r e => by
      rcases hr r e with h | ⟨_, x, hx, hc⟩
      · exact h.elim
      · exact ⟨x, hx, hc⟩
    refine ⟨hs.box.firm hg hO, hs.row.firm hg hO, hs.out.firm hg hO, hs.cur.firm hg hO, below_grown hs.low hs.low.size hg (fun k e => ?_)⟩
    rcases hr k e with h | ⟨h, _⟩
    · exact h.elim
    · omega
  case assign =>
    clear hg1 hgr hg3 hg4 hgb hz3
    intro l pre x W K hi _ hK
    gi_wp2
    exact hK _ _ (KeepsOthers.refl _ |>.from _) (Keep.refl _ _) hi rfl
  case body =>
    clear hg1 hgr hg3 hg4 hgb hz3
    rintro l pre x a' W hs rfl ⟨B, hB⟩
    have h16 := HR.out.ok.len16
    have hord : ordN ls = pre ++ x :: B := by rw [← hB, List.append_assoc]; rfl
    obtain ⟨hxl, hxp⟩ := (mem_ordN h16 x).1 (by rw [hord]; simp)
    have hcode := wN_code h16 pre B x hord
    have hle := wN_le h16 pre B x hord
    have hlt := code_lt h16 HR.out.full hxl
    have hL16 := h16 x
    have hsn := wN_snoc ls pre x
    rw [hcode] at hsn
    have HON := Lib.hid (outL_snoc ls pre x hxl)
    obtain ⟨ad, rfl, hc⟩ := rd_int (HS.out.below hs.low) x hxl
    have hnx : nth 0 ls x = ((lenOf ls x : Nat) : Int) := by have := HR.out.ok.at x; unfold lenOf; omega
    rw [hnx] at hc
    have hblk : (ad.add x).block < w.heap.size := by
      obtain ⟨ad', cs, e', _, hl, _⟩ := HS.out.rd x hxl
      rw [add_block, Option.some.inj e']; exact hl
    have hcv : ∀ v, (W.setCell ⟨g4, 1, none⟩ v).cell? (ad.add x) = some (.int .i64 ((lenOf ls x : Nat) : Int)) := fun v => (Keep.of_grown1 (grown_setCell W g4 1 v)).cell (by have := HG.out; omega) hc
    clear hblk
    have k1 := hs.box.cell 0 rfl
    have k3 := hs.out.cell 0 rfl
    have k4 := hs.cur.cell 0 rfl
    have k5 := hs.cur.cell 1 rfl
    have f4 := hs.cur.free 0
    have f5 := hs.cur.free 1
    have HWI := Lib.hid hs
    obtain ⟨a, ha⟩ : ∃ a, (wN ls pre).1 = a := ⟨_, rfl⟩
    obtain ⟨b, hb⟩ : ∃ b, (wN ls pre).2 = b := ⟨_, rfl⟩
    obtain ⟨L, hL⟩ : ∃ L, lenOf ls x = L := ⟨_, rfl⟩
    obtain ⟨C, hC⟩ : ∃ C, codeN ls x = C := ⟨_, rfl⟩
    have hab : wN ls pre = (a, b) := by rw [← ha, ← hb]
    rw [hab, hL, hC] at hsn
    rw [ha] at k4 hle
    rw [hb] at k5
    rw [hL] at hc hle hlt hL16
    simp only [hL] at hcv
    rw [hC] at hlt
    obtain ⟨d, hd⟩ : ∃ d, L - a = d := ⟨_, rfl⟩
    have hw1 : IntKind.i64.wrap ((L : Int) - (a : Int)) = (d : Int) := by rw [IntWalk.i64_in _ (by omega)]; omega
    have HWN := Lib.hid hcode
    have HH := Lib.hid (show lenOf ls x = L ∧ codeN ls x = C from ⟨hL, hC⟩)
    have hpos := wN_pos h16 pre B x hord
    rw [hab] at hpos
    have h2L : 2 ^ L ≤ 65536 := by have := Nat.pow_le_pow_right (n := 2) (by decide) hL16; simpa using this
    have hra := hs.row.free (x * 2)
    have hrb := hs.row.free (x * 2 + 1)
    obtain ⟨va, hva⟩ : ∃ v, W.cell? ⟨r, x * 2, none⟩ = some v := ⟨_, hs.row.cell (x * 2) (by rw [List.getElem?_toArray]; exact (flat2_get _ x (by rw [outL_length]; exact hxl)).1)⟩
    obtain ⟨vb, hvb⟩ : ∃ v, W.cell? ⟨r, x * 2 + 1, none⟩ = some v := ⟨_, hs.row.cell (x * 2 + 1) (by rw [List.getElem?_toArray]; exact (flat2_get _ x (by rw [outL_length]; exact hxl)).2)⟩
    have hxi : (0 : Int) ≤ (x : Int) := by omega
    have hxn : (x : Int) < (ls.length : Int) := by omega
    have n1 : g1 ≠ g4 := by omega
    have n2 : g3 ≠ g4 := by omega
    have n3 : r ≠ g4 := by omega
    rcases hpos with hz | hz
    · injection hz with hz1 hz2
      subst hz1 hz2
      have hC0 : C = 0 := by unfold stepW at hsn; rw [if_pos rfl] at hsn; injection hsn
      subst hC0
      have hw2 : IntKind.i64.wrap ((0 : Int) * 2 ^ L) = 0 := by rw [Int.zero_mul]; rfl
      have hdL : d = L := by omega
      subst hdL
      have hd16 : (d : Int) ≤ 64 := by omega
      have hw1' : IntKind.i64.wrap (d : Int) = (d : Int) := IntWalk.i64_in _ (by omega)
      clear hcode hsn hab ha hb hL hC hd hlt hnx h16 hB hord hxp hS3 hI0 bB hs hcv
      gi_wp2
      refine wpIn_still_tail 15 (by kernel_rfl) (by kernel_rfl) (by kernel_rfl) ?_
      simp only [List.take_succ_cons, List.take_zero, List.drop_succ_cons, List.drop_zero]
      repeat still_step
      try refine wpStill_nil ?_
      rw [show IntKind.i64.wrap 0 = 0 from rfl]
      clear hw1 hw2 hw1'
      gi_wp2
      obtain ⟨W3', hW3'⟩ : ∃ W', (W.setCell ⟨g4, 0, none⟩ (.int .i64 (d : Int))).setCell ⟨g4, 1, none⟩ (.int .i64 0) = W' := ⟨_, rfl⟩
      have hB3 : Blk W3' g4 #[.int .i64 (d : Int), .int .i64 ((0 : Nat) : Int)] 125 := by rw [← hW3']; exact (HWI.out.cur.set 0 (.int .i64 (d : Int))).set 1 (.int .i64 0)
      rw [hW3']
      have hgg := HG.out
      have hu3 : Upd (fun b => b = g4) W W3' := by rw [← hW3']; exact (Upd.setCell (fun b => b = g4) _ g4 0 _ rfl).trans (Upd.setCell (fun b => b = g4) _ g4 1 _ rfl) fun _ _ h => h
      obtain ⟨hwo, huo⟩ := words_round HWI.out (by omega) (by omega) hxl HH.out HWN.out HON.out (W3 := W3') hB3 hu3
      have huo' := huo.trans (Upd.drew (fun b => b = g4 ∨ b = r) _) fun _ _ h => h
      exact ⟨(words_keeps HWI.out huo').from _, huo'.keep (fun i hi e => by rcases e with e | e <;> rcases hi with hi | hi <;> omega), hwo.drew⟩
    · have hCb : C = (b + 1) * 2 ^ d := by
        unfold stepW at hsn
        rw [if_neg (fun e => by injection e with h1 h2; have hz : 0 < a := hz; omega)] at hsn
        injection hsn with h1 h2
        rw [← hd, h2, hL]
      have hb16 : b + 1 ≤ 65536 := by
        have h1 : 1 ≤ 2 ^ d := Nat.one_le_two_pow
        have h3 : (b + 1) * 1 ≤ (b + 1) * 2 ^ d := Nat.mul_le_mul_left _ h1
        omega
      have hw2 : IntKind.i64.wrap (((b : Int) + 1) * 2 ^ d) = (C : Int) := by
        have e1 : (((b : Int) + 1) * 2 ^ d) = (C : Int) := by rw [hCb]; simp
        rw [e1]; exact IntWalk.i64_in _ (by omega)
      have hne : ((a : Int) == 0) = false := by rw [beq_eq_false_iff_ne]; have hz : 0 < a := hz; omega
      have hd16 : (d : Int) ≤ 64 := by omega
      clear hcode hsn hab ha hb hL hC hd hCb hlt hnx h16 hB hord hxp hS3 hI0 bB hs hz
      gi_wp2
      refine wpIn_still_tail 15 (by kernel_rfl) (by kernel_rfl) (by kernel_rfl) ?_
      simp only [List.take_succ_cons, List.take_zero, List.drop_succ_cons, List.drop_zero]
      repeat still_step
      try refine wpStill_nil ?_
      clear hw1 hw2 hne
      have hgg : W.cell? ⟨g4, 0, none⟩ = some (.int .i64 (a : Int)) := k4
      clear hcv
      gi_wp2
      clear hgg
      obtain ⟨W3', hW3'⟩ : ∃ W', ((W.setCell ⟨g4, 1, none⟩ (.int .i64 ((b : Int) + 1))).setCell ⟨g4, 0, none⟩ (.int .i64 (L : Int))).setCell ⟨g4, 1, none⟩ (.int .i64 (C : Int)) = W' := ⟨_, rfl⟩
      have hB3 : Blk W3' g4 #[.int .i64 (L : Int), .int .i64 (C : Int)] 125 := by rw [← hW3']; exact ((HWI.out.cur.set 1 (.int .i64 ((b : Int) + 1))).set 0 (.int .i64 (L : Int))).set 1 (.int .i64 (C : Int))
      rw [hW3']
      have hgg := HG.out
      have hu3 : Upd (fun b => b = g4) W W3' := by rw [← hW3']; exact ((Upd.setCell (fun b => b = g4) _ g4 1 _ rfl).trans (Upd.setCell (fun b => b = g4) _ g4 0 _ rfl) fun _ _ h => h).trans (Upd.setCell (fun b => b = g4) _ g4 1 _ rfl) fun _ _ h => h
      obtain ⟨hwo, huo⟩ := words_round HWI.out (by omega) (by omega) hxl HH.out HWN.out HON.out (W3 := W3') hB3 hu3
      have huo' := huo.trans (Upd.drew (fun b => b = g4 ∨ b = r) _) fun _ _ h => h
      exact ⟨(words_keeps HWI.out huo').from _, huo'.keep (fun i hi e => by rcases e with e | e <;> rcases hi with hi | hi <;> omega), hwo.drew⟩
  case done =>
    clear hg1 hgr hg3 hg4 hgb hz3
    rintro D xs W hD rfl hs hK
    have k3 := hs.out.cell 0 rfl
    have hO : Other W (some D) := fun r e => by cases e; exact ⟨_, hK, rfl⟩
    gi_wp2
    refine ⟨by simp, .inl ⟨_, _, rfl, run_takeDeferred hK, ?_⟩⟩
    refine ⟨_, results_tmp rfl _ _ _, _, rfl, ?_, by have := HG.out; omega, ?_⟩
    · rw [← outL_all HR.out.ok.len16]; exact hs.row.firm (grownBy_putObj' W D _) hO
    · exact below_grown hs.low hs.low.size (grownBy_putObj' W D _) (fun k e => by cases e; have := HG.out; omega)
end Go.Proofs.YtciknejchglmoaaDoor

namespace Go.Proofs.YtciknejchglmoaaDoor
open Go.RowKit

theorem infoI : (Tryd.prog.info? 3).map (fun i => (i.zero, i.size, i.bytes)) = some (some (.int .i64 0), 1, 8) := by kernel_rfl

def sumLen (vs : List (List Int)) : Nat := (vs.map List.length).sum
theorem sumLen_take (vs : List (List Int)) (k : Nat) (h : k < vs.length) : sumLen (vs.take (k + 1)) = sumLen (vs.take k) + (nth [] vs k).length := by
  rw [take_succ_nth [] vs k h]; simp [sumLen]
theorem sumLen_le (vs : List (List Int)) (k : Nat) : sumLen (vs.take k) ≤ sumLen vs := by
  have h : sumLen vs = sumLen (vs.take k) + sumLen (vs.drop k) := by
    simp [sumLen, ← List.sum_append, List.take_append_drop]
  omega
theorem flat_take (vs : List (List Int)) (k : Nat) (h : k < vs.length) : (vs.take (k + 1)).flatten = (vs.take k).flatten ++ nth [] vs k := by
  rw [take_succ_nth [] vs k h]; simp
theorem flat_len (vs : List (List Int)) : vs.flatten.length = sumLen vs := by simp [sumLen, List.length_flatten]

end Go.Proofs.YtciknejchglmoaaDoor

namespace Go.Proofs.YtciknejchglmoaaDoor
open Go.RowKit

theorem rd_flat {W : World} {r : Nat} {xs : List (Int × Int)} {t : TypeId} (h : Blk W r (flat2 xs).toArray t) (j : Nat) (hj : j < xs.length) :
    W.cell? ⟨r, j * 2, none⟩ = some (.int .i64 (nth (0, 0) xs j).1) ∧ W.cell? ⟨r, j * 2 + 1, none⟩ = some (.int .i64 (nth (0, 0) xs j).2) := by
  obtain ⟨h0, h1⟩ := flat2_get xs j hj
  exact ⟨h.cell _ (by rw [List.getElem?_toArray]; exact h0), h.cell _ (by rw [List.getElem?_toArray]; exact h1)⟩

def codesL (ls : List Int) : List Int := (List.range ls.length).map fun i => (codeN ls i : Int)
def codesR (ls : List Int) : List Int := if checkN ls = 0 then codesL ls else []
theorem codesL_length (ls : List Int) : (codesL ls).length = ls.length := by simp [codesL]
theorem codesL_nth (ls : List Int) (i : Nat) (h : i < ls.length) : nth 0 (codesL ls) i = (codeN ls i : Int) := by
  rw [nth_eq 0 _ i (by rw [codesL_length]; exact h)]; simp [codesL]

set_option maxHeartbeats 1000000 in
set_option maxRecDepth 100000 in
theorem codes_any (A : Option Addr) (c : Nat) (ls : List Int) (w : World) (hS : RI w A c ls) :
    Calls Tryd.prog 63 #[.slice A ls.length c] w fun e w' => ∃ v, e = .returned (.tuple #[v, .int .i64 (checkN ls)]) ∧ OwnI 3 .i64 w.heap.size w' v (codesR ls) ∧ Below w.heap.size w w' := by
  by_cases h : checkN ls = 0
  · have hr := (checkN_right ls).1 h
    have hlen := hr.len
    have HC := Lib.hid (check_any A c ls w hS)
    have HX := Lib.hid h
    have HE := Lib.hid (show codesR ls = codesL ls by simp [codesR, h])
    have HR := Lib.hid hr
    have HS := Lib.hid hS
    clear h hr hS
    go_enter Tryd.func63, Tryd.ntmps63
    go_wp2_with (first
      | (go_at_call 82; refine HC.out.mono ?_; rintro e w2 ⟨rfl, b2⟩; rw [HX.out]; have HW := Lib.hid (words_any A c ls w2 (HS.out.below b2) HR.out))
      | (go_at_call 83; refine HW.out.mono ?_; rintro e w3 ⟨r, rfl, hB3, hr3, b3⟩))
    have b23 := below2 b2 b3
    have HB3 := Lib.hid hB3
    clear HW HC hB3
    go_loopw [5, 16] (fun v i wr => ∃ k : Nat, k ≤ ls.length ∧ i = .int .i64 k ∧ OwnI 3 .i64 w3.heap.size wr v ((codesL ls).take k) ∧ Below w3.heap.size w3 wr) (fun _ i _ => ls.length - (intOf i).toNat)
    case atStart => exact ⟨0, Nat.zero_le _, rfl, OwnI.nil _ _ _ _, Below.refl _ _⟩
    case round =>
      obtain ⟨k, hk, rfl, hO, hB⟩ := hrel
      by_cases hlt : k < ls.length
      · obtain ⟨hc0, hc1⟩ := rd_flat (HB3.out.below hB) k (by rw [wordsL_length]; exact hlt)
        rw [wordsL_nth _ _ hlt] at hc0 hc1
        have HT := Lib.hid (take_succ_nth 0 (codesL ls) k (by rw [codesL_length]; exact hlt))
        rw [codesL_nth _ _ hlt] at HT
        have hlk : ((codesL ls).take k).length ≤ k := by rw [List.length_take]; omega
        have HO := Lib.hid hO
        have hal := below_alloc (Below.refl wr.heap.size wr) (.cells #[.int .i64 (lenOf ls k : Int), .int .i64 (codeN ls k : Int)] 125)
        have HA := Lib.hid hal
        clear hO hal
        go_wp2_with (at_builtin; (refine append_one (w0 := w3) w3.heap.size rfl (.tmp 20) (.tmp 23) 25 3 .i64 8 rfl Tryd.underlying25 infoI (by decide) _ ((codesL ls).take k) (codeN ls k) rfl (by rw [World.size_alloc]; rfl) (HO.out.below HA.out) (hB.trans (HA.out.mono hB.size)) (by have := hB.size; have := HA.out.size; omega) (by omega) ?_); intro v1 w4 hO4 hB4 _ _)
        go_roundw
        case rel => exact ⟨k + 1, by omega, by go_num, by rw [HT.out]; exact hO4, hB4⟩
        case measure => simp [intOf]; omega
      · obtain rfl : k = ls.length := by omega
        have HT := Lib.hid (show (codesL ls).take ls.length = codesL ls by rw [List.take_of_length_le (by rw [codesL_length]; exact Nat.le_refl _)])
        rw [HT.out] at hO
        go_wp2
        go_ret2
        exact ⟨_, ret_two rfl (by rw [HX.out]; rfl), by rw [HE.out]; exact hO.mono b23.size, below2 b23 hB⟩
  · have HC := Lib.hid (check_any A c ls w hS)
    have hb : (checkN ls == 0) = false := by simpa using h
    have hb2 : (checkN ls != 0) = true := by simpa using h
    have HE := Lib.hid (show codesR ls = [] by simp [codesR, h])
    clear h
    go_enter Tryd.func63, Tryd.ntmps63
    go_wp2_with (go_at_call 82; refine HC.out.mono ?_; rintro e w2 ⟨rfl, b2⟩)
    go_ret2
    exact ⟨_, ret_two rfl rfl, by rw [HE.out]; exact OwnI.nil _ _ _ _, b2⟩

/-- What Write answers. -/
def writeE (ls : List Int) (n : Nat) (s : Int) : Int := if checkN ls ≠ 0 then checkN ls else if hasB ls s = false then 5 else fullE n (lenOf ls s.toNat)
def wordB (ls : List Int) (s : Int) : List Bool := if checkN ls ≠ 0 ∨ hasB ls s = false then [] else numB (codeN ls s.toNat) (lenOf ls s.toNat)
theorem hasB_spec {ls : List Int} {s : Int} (h : hasB ls s = true) : ∃ k : Nat, s = (k : Int) ∧ k < ls.length ∧ 0 < lenOf ls k := by
  simp only [hasB, Bool.and_eq_true, decide_eq_true_eq] at h
  obtain ⟨h0, h1, h2⟩ := h
  refine ⟨s.toNat, by omega, by omega, ?_⟩
  unfold lenOf; omega
theorem fullB_nil (bs : List Bool) (h : bs.length ≤ 1048576) : fullB bs [] = bs := by unfold fullB; rw [if_neg (by simp; omega)]; simp

end Go.Proofs.YtciknejchglmoaaDoor

namespace Go.Proofs.YtciknejchglmoaaDoor
open Go.RowKit

theorem share_pos' {n : Nat} (h : 0 < n) : 0 < share n := by rw [share_pos h]; exact Nat.two_pow_pos _
/-- One symbol more. -/
theorem filledK_step (ls : List Int) (k : Nat) : filledK ls (k + 1) = filledK ls k + share (lenOf ls k) := sumTo_succ _ _
theorem filledK_zero (ls : List Int) (k : Nat) (h : nth 0 ls k ≤ 0) : filledK ls (k + 1) = filledK ls k := by
  rw [filledK_step, show lenOf ls k = 0 by unfold lenOf; omega]; rfl

set_option maxHeartbeats 2000000 in
theorem rcheck_any (A : Option Addr) (c : Nat) (ls : List Int) (w : World) (hS : RI w A c ls) :
    Calls Tryd.prog 111 #[.slice A ls.length c] w fun e w' => e = .returned (.int .i64 (checkN ls)) ∧ w = w' := by
  have hn := hS.len
  by_cases h : 256 < ls.length
  · go_enter Tryd.func111, Tryd.ntmps111
    go_wp2
    go_ret
    exact ⟨by simp [checkN, h], rfl⟩
  · have HS := Lib.hid hS
    clear hS
    go_enter Tryd.func111, Tryd.ntmps111
    go_wp2
    go_loop [3, 4, 12] (fun b s i => ∃ k : Nat, k ≤ ls.length ∧ i = .int .i64 k ∧ b = .bool (decide (0 < filledK ls k)) ∧ s = .int .i64 (filledK ls k) ∧ Hid (∀ j, j < k → badLen (nth 0 ls j) = false)) (fun _ _ i => ls.length - (intOf i).toNat)
    case atStart => exact ⟨0, Nat.zero_le _, rfl, rfl, rfl, fun j hj => absurd hj (by omega)⟩
    case round =>
      obtain ⟨k, hk, rfl, rfl, rfl, hne⟩ := hrel
      by_cases hlt : k < ls.length
      · obtain ⟨ad, rfl, hc⟩ := rd_int HS.out k hlt
        have hle := filledK_le ls k
        by_cases hb : badLen (nth 0 ls k) = true
        · have HE := Lib.hid (show checkN ls = 1 by
            have : ls.any badLen = true := List.any_eq_true.2 ⟨_, nth_mem 0 ls k hlt, hb⟩
            simp [checkN, this])
          by_cases h0 : nth 0 ls k < 0
          · clear hle
            go_wp2
            go_ret
            exact ⟨ret_int HE.out.symm, rfl⟩
          · have h1 : 16 < nth 0 ls k := by simp [badLen] at hb; omega
            clear hle
            go_wp2
            go_ret
            exact ⟨ret_int HE.out.symm, rfl⟩
        · have hb' := Bool.eq_false_iff.2 hb
          have hne' : Hid (∀ j, j < k + 1 → badLen (nth 0 ls j) = false) := fun j hj => by
            rcases Nat.lt_or_ge j k with h | h
            · exact hne.out j h
            · obtain rfl : j = k := by omega
              exact hb'
          have hr : 0 ≤ nth 0 ls k ∧ nth 0 ls k ≤ 16 := by simp [badLen] at hb'; omega
          clear hb hb'
          obtain ⟨hr0, hr1⟩ := hr
          by_cases hx : 0 < nth 0 ls k
          · have hs := filledK_step ls k
            have hsp := share_pos (n := lenOf ls k) (by unfold lenOf; omega)
            have hsl := share_le (lenOf ls k)
            have hw1 : IntKind.i64.wrap (16 - nth 0 ls k) = 16 - nth 0 ls k := IntWalk.i64_in _ (by omega)
            have hcs : ((1 : Int) * 2 ^ (16 - nth 0 ls k).toNat) = (share (lenOf ls k) : Int) := by
              rw [hsp, Int.one_mul, show (16 - nth 0 ls k).toNat = 16 - lenOf ls k by unfold lenOf; omega]; simp
            have hw2 : IntKind.i64.wrap ((1 : Int) * 2 ^ (16 - nth 0 ls k).toNat) = (share (lenOf ls k) : Int) := by rw [hcs]; exact IntWalk.i64_in _ (by omega)
            have hw2' : IntKind.i64.wrap ((2 : Int) ^ (16 - nth 0 ls k).toNat) = (share (lenOf ls k) : Int) := by rw [Int.one_mul] at hw2; exact hw2
            have hw3 : IntKind.i64.wrap ((filledK ls k : Int) + (share (lenOf ls k) : Int)) = (filledK ls (k + 1) : Int) := by rw [hs, IntWalk.i64_in _ (by omega)]; simp
            have hpos : decide (0 < filledK ls (k + 1)) = true := by rw [hs, hsp]; have := Nat.two_pow_pos (16 - lenOf ls k); simp; omega
            have H := Lib.hid hpos
            clear hs hsp hsl hcs hle hpos
            go_wp2
            go_round
            case rel => exact ⟨k + 1, by omega, by go_num, by rw [H.out], rfl, hne'⟩
            case measure => simp [intOf]; omega
          · have H := Lib.hid (filledK_zero ls k (by omega))
            clear hle
            go_wp2
            go_round
            case rel => exact ⟨k + 1, by omega, by go_num, by rw [H.out], by rw [H.out], hne'⟩
            case measure => simp [intOf]; omega
      · obtain rfl : k = ls.length := by omega
        have ha : ls.any badLen = false := by
          rw [List.any_eq_false]
          intro x hx
          obtain ⟨j, hj, rfl⟩ := List.mem_iff_getElem.1 hx
          have := hne.out j hj
          rw [nth_eq 0 ls j hj] at this
          simp [this]
        have HE := Lib.hid (show checkN ls = if filledN ls = 0 then 5 else if 65536 < filledN ls then 4 else 0 by simp [checkN, h, ha])
        have hf : filledK ls ls.length = filledN ls := rfl
        rw [hf]
        have hle := filledK_le ls ls.length
        rw [hf] at hle
        generalize filledN ls = F at *
        clear ha hf
        by_cases h0 : F = 0
        · subst h0
          clear hle
          go_wp2
          go_ret
          exact ⟨ret_int (by rw [HE.out]; simp), rfl⟩
        · have h0' : 0 < F := by omega
          have hb : decide (0 < F) = true := by simpa using h0'
          by_cases h1 : 65536 < F
          · go_wp2
            go_ret
            exact ⟨ret_int (by rw [HE.out, if_neg h0, if_pos h1]), rfl⟩
          · go_wp2
            go_ret
            exact ⟨ret_int (by rw [HE.out, if_neg h0, if_neg h1]), rfl⟩

end Go.Proofs.YtciknejchglmoaaDoor

namespace Go.Proofs.YtciknejchglmoaaDoor
open Go.RowKit

end Go.Proofs.YtciknejchglmoaaDoor

namespace Go.Proofs.YtciknejchglmoaaDoor
open Go.RowKit

theorem flatR_prefix {β : Type} (f : Nat → List β) (n d : Nat) : ∃ B, (List.range (n + d)).flatMap f = (List.range n).flatMap f ++ B := by
  induction d with
  | zero => exact ⟨[], by simp⟩
  | succ d ih =>
    obtain ⟨B, hB⟩ := ih
    exact ⟨B ++ f (n + d), by rw [← Nat.add_assoc, List.range_succ, List.flatMap_append, hB]; simp⟩
theorem filtR_prefix (p : Nat → Bool) (n d : Nat) : ∃ B, (List.range (n + d)).filter p = (List.range n).filter p ++ B := by
  induction d with
  | zero => exact ⟨[], by simp⟩
  | succ d ih =>
    obtain ⟨B, hB⟩ := ih
    exact ⟨B ++ [n + d].filter p, by rw [← Nat.add_assoc, List.range_succ, List.filter_append, hB, List.append_assoc]⟩
/-- The words of lengths up to n, and the first k symbols of length n + 1. -/
def preP (ls : List Int) (n k : Nat) : List Nat := ((List.range n).flatMap fun m => (List.range ls.length).filter fun i => lenOf ls i == m + 1) ++ (List.range k).filter fun i => lenOf ls i == n + 1
theorem preP_zero (ls : List Int) : preP ls 0 0 = [] := by simp [preP]
theorem preP_hit (ls : List Int) (n k : Nat) (h : lenOf ls k = n + 1) : preP ls n (k + 1) = preP ls n k ++ [k] := by
  simp [preP, List.range_succ, List.filter_append, h]
theorem preP_miss (ls : List Int) (n k : Nat) (h : lenOf ls k ≠ n + 1) : preP ls n (k + 1) = preP ls n k := by
  simp [preP, List.range_succ, List.filter_append, h]
theorem preP_next (ls : List Int) (n : Nat) : preP ls n ls.length = preP ls (n + 1) 0 := by
  simp [preP, List.range_succ, List.flatMap_append]
theorem preP_all (ls : List Int) : preP ls 16 0 = ordN ls := by simp [preP, ordN]
theorem preP_prefix (ls : List Int) (n k : Nat) (hn : n < 16) (hk : k ≤ ls.length) : ∃ B, ordN ls = preP ls n k ++ B := by
  obtain ⟨B1, h1⟩ := flatR_prefix (fun m => (List.range ls.length).filter fun i => lenOf ls i == m + 1) (n + 1) (15 - n)
  obtain ⟨B2, h2⟩ := filtR_prefix (fun i => lenOf ls i == n + 1) k (ls.length - k)
  rw [show n + 1 + (15 - n) = 16 by omega] at h1
  rw [show k + (ls.length - k) = ls.length by omega] at h2
  refine ⟨B2 ++ B1, ?_⟩
  unfold ordN preP
  rw [h1, List.range_succ, List.flatMap_append]
  simp only [List.flatMap_cons, List.flatMap_nil, List.append_nil]
  rw [h2]
  simp [List.append_assoc]
/-- At a symbol of length n + 1. -/
theorem preP_here (ls : List Int) (n k : Nat) (hn : n < 16) (hk : k < ls.length) (h : lenOf ls k = n + 1) : ∃ B, ordN ls = preP ls n k ++ k :: B := by
  obtain ⟨B, hB⟩ := preP_prefix ls n (k + 1) hn hk
  exact ⟨B, by rw [hB, preP_hit ls n k h, List.append_assoc]; rfl⟩
def outC (ls : List Int) (pre : List Nat) : List Int := (List.range ls.length).map fun i => if i ∈ pre then (codeN ls i : Int) else 0
theorem outC_length (ls : List Int) (pre : List Nat) : (outC ls pre).length = ls.length := by simp [outC]
theorem outC_nil (ls : List Int) : outC ls [] = List.replicate ls.length 0 := by
  simp only [outC, List.not_mem_nil, if_false]
  rw [List.map_const', List.length_range]
theorem outC_snoc (ls : List Int) (pre : List Nat) (x : Nat) (_ : x < ls.length) : outC ls (pre ++ [x]) = (outC ls pre).set x (codeN ls x : Int) := by
  apply List.ext_getElem
  · simp [outC]
  · intro i h1 h2
    by_cases hi : x = i
    · subst hi
      simp [outC]
    · rw [List.getElem_set_ne hi]
      simp only [outC, List.getElem_map, List.getElem_range, List.mem_append, List.mem_singleton]
      by_cases hm : i ∈ pre
      · simp [hm]
      · rw [if_neg hm, if_neg (by rintro (h | h); exact hm h; exact hi h.symm)]
theorem outC_all {ls : List Int} (h16 : ∀ k, lenOf ls k ≤ 16) : outC ls (ordN ls) = codesL ls := by
  unfold outC codesL
  apply List.map_congr_left
  intro i hi
  split
  · rfl
  · rename_i h
    rw [mem_ordN h16] at h
    have : lenOf ls i = 0 := by
      have hl := List.mem_range.1 hi
      rcases Nat.eq_zero_or_pos (lenOf ls i) with h0 | h0
      · exact h0
      · exact absurd ⟨hl, h0⟩ h
    simp [codeN, this]

set_option maxHeartbeats 4000000 in
set_option maxRecDepth 100000 in
theorem rcodes_any (A : Option Addr) (c : Nat) (ls : List Int) (w : World) (hS : RI w A c ls) :
    Calls Tryd.prog 92 #[.slice A ls.length c] w fun e w' => ∃ v, e = .returned (.tuple #[v, .int .i64 (checkN ls)]) ∧ OwnI 3 .i64 w.heap.size w' v (codesR ls) ∧ Below w.heap.size w w' := by
  have hn := hS.len
  by_cases h : checkN ls = 0
  · have hr := (checkN_right ls).1 h
    have h256 := hr.len
    have hmk := make_row (P := Tryd.prog) 25 3 .i64 8 Tryd.underlying25 infoI (by decide) ls.length (by omega)
    have HX := Lib.hid h
    have HE := Lib.hid (show codesR ls = codesL ls by simp [codesR, h])
    have HR := Lib.hid hr
    have HS := Lib.hid hS
    clear h hr hS
    go_enter Tryd.func92, Tryd.ntmps92
    go_wp2_with (go_at_call 111; refine (rcheck_any _ _ _ _ HS.out).mono ?_; rintro e w2 ⟨rfl, rfl⟩; rw [HX.out])
    have hO := own_made w 3 .i64 ls.length (by omega)
    have hB := below_alloc (Below.refl w.heap.size w) (.cells (madeCells #[.int .i64 0] ls.length) 3)
    generalize w.alloc (.cells (madeCells #[.int .i64 0] ls.length) 3) = w1 at hO hB ⊢
    clear hmk
    go_loopw [6, 7, 8] (fun nx la l wr => ∃ n : Nat, n ≤ 16 ∧ l = .int .i64 ((n + 1 : Nat) : Int) ∧ nx = .int .i64 ((wN ls (preP ls n 0)).2 : Int) ∧ la = .int .i64 ((wN ls (preP ls n 0)).1 : Int) ∧ OwnI 3 .i64 w.heap.size wr (.slice (some ⟨w.heap.size, 0, none⟩) ls.length ls.length) (outC ls (preP ls n 0)) ∧ Below w.heap.size w wr) (fun _ _ l _ => 17 - (intOf l).toNat)
    case atStart => exact ⟨0, Nat.zero_le _, rfl, rfl, rfl, by rw [preP_zero, outC_nil]; exact hO, hB⟩
    case round =>
      clear hO hB
      obtain ⟨n, hn16, rfl, rfl, rfl, hO, hB⟩ := hrel
      by_cases hlt : n < 16
      · have hnc : ((n + 1 : Nat) : Int) ≤ 16 := by omega
        have hwr : IntKind.i64.wrap (((n + 1 : Nat) : Int) + 1) = ((n + 1 + 1 : Nat) : Int) := by rw [IntWalk.i64_in _ (by omega)]; omega
        have HO := Lib.hid hO
        clear hO
        go_wp2
        go_loopw [6, 7, 25] (fun nx la i wr2 => ∃ k : Nat, k ≤ ls.length ∧ i = .int .i64 (k : Int) ∧ nx = .int .i64 ((wN ls (preP ls n k)).2 : Int) ∧ la = .int .i64 ((wN ls (preP ls n k)).1 : Int) ∧ OwnI 3 .i64 w.heap.size wr2 (.slice (some ⟨w.heap.size, 0, none⟩) ls.length ls.length) (outC ls (preP ls n k)) ∧ Below w.heap.size w wr2) (fun _ _ i _ => ls.length - (intOf i).toNat)
        case atStart => exact ⟨0, Nat.zero_le _, rfl, rfl, rfl, HO.out, hB⟩
        case round =>
          clear hB HO
          obtain ⟨k, hk, rfl, rfl, rfl, hO, hB⟩ := hrel
          by_cases hkl : k < ls.length
          · obtain ⟨ad, rfl, hc⟩ := rd_int (HS.out.below hB) k hkl
            obtain ⟨l0, l1⟩ := HR.out.ok.at k
            have h16 := HR.out.ok.len16
            by_cases hx : lenOf ls k = n + 1
            · have hxi : nth 0 ls k = ((n + 1 : Nat) : Int) := by unfold lenOf at hx; omega
              rw [hxi] at hc
              obtain ⟨B, hord⟩ := preP_here ls n k hlt hkl hx
              have hcode := wN_code h16 _ B k hord
              have hlast := wN_le h16 _ B k hord
              have hsn := wN_snoc ls (preP ls n k) k
              rw [hcode, hx] at hsn
              rw [hx] at hlast
              have hpos := wN_pos h16 _ B k hord
              have hcl := code_lt h16 HR.out.full hkl
              rw [hx] at hcl
              have h2L : 2 ^ (n + 1) ≤ 65536 := by have := Nat.pow_le_pow_right (n := 2) (by decide) (show n + 1 ≤ 16 by omega); simpa using this
              have HP := Lib.hid (preP_hit ls n k hx)
              have HC := Lib.hid hcode
              have HOS := Lib.hid (outC_snoc ls (preP ls n k) k hkl)
              obtain ⟨ka, kf⟩ := hO.at_ k (by rw [outC_length]; exact hkl)
              have HO := Lib.hid hO
              have HLX := Lib.hid hx
              generalize hW : wN ls (preP ls n k) = W at *
              obtain ⟨a, b⟩ := W
              have HW := Lib.hid hW
              generalize hC : codeN ls k = C at *
              have hki : (k : Int) < (ls.length : Int) := by omega
              clear hO hord hcode hx hxi hW hC l0 l1 h16
              rcases hpos with hz | hz
              · injection hz with hz1 hz2
                subst hz1 hz2
                have hC0 : C = 0 := by unfold stepW at hsn; rw [if_pos rfl] at hsn; injection hsn
                subst hC0
                clear hsn hcl
                go_wp2
                go_roundw
                case rel =>
                  have hs := HO.out.set k (0 : Int)
                  exact ⟨k + 1, by omega, by go_num, by rw [HP.out, HC.out], by rw [HP.out, HC.out, HLX.out], by rw [HP.out, HOS.out]; exact hs.1, below_grown hB hB.size hs.2 (fun r e => by have := Option.some.inj e; omega)⟩
                case measure => simp [intOf]; omega
              · have hz : 0 < a := hz
                have hla : a ≤ n + 1 := hlast
                obtain ⟨d, hd⟩ : ∃ d, n + 1 - a = d := ⟨_, rfl⟩
                have hCb : C = (b + 1) * 2 ^ d := by
                  unfold stepW at hsn
                  rw [if_neg (fun e => by injection e with h1 h2; omega)] at hsn
                  injection hsn with h1 h2
                  rw [← hd, h2, HLX.out]
                have hb16 : b + 1 ≤ 65536 := by
                  have h1 : 1 ≤ 2 ^ d := Nat.one_le_two_pow
                  have h3 : (b + 1) * 1 ≤ (b + 1) * 2 ^ d := Nat.mul_le_mul_left _ h1
                  omega
                have hw1 : IntKind.i64.wrap (((n + 1 : Nat) : Int) - (a : Int)) = (d : Int) := by rw [IntWalk.i64_in _ (by omega)]; omega
                have hw2 : IntKind.i64.wrap (((b : Int) + 1) * 2 ^ d) = (C : Int) := by
                  have e1 : (((b : Int) + 1) * 2 ^ d) = (C : Int) := by rw [hCb]; simp
                  rw [e1]; exact IntWalk.i64_in _ (by omega)
                have HWW := Lib.hid (show wrap64 (((b : Int) + 1) * 2 ^ (n + 1 - a)) = (C : Int) by rw [hd]; rw [IntWalk.wrap64_in _ (by rw [show (((b : Int) + 1) * 2 ^ d) = (C : Int) by rw [hCb]; simp]; omega)]; rw [hCb]; simp)
                have hd16 : d ≤ 64 := by omega
                have hai : (0 : Int) < (a : Int) := by omega
                clear hsn hcl hlast hd hCb h2L
                go_wp2
                go_roundw
                case rel =>
                  rw [HWW.out]
                  have hs := HO.out.set k (C : Int)
                  exact ⟨k + 1, by omega, by go_num, by rw [HP.out, HC.out], by rw [HP.out, HC.out, HLX.out], by rw [HP.out, HOS.out]; exact hs.1, below_grown hB hB.size hs.2 (fun r e => by have := Option.some.inj e; omega)⟩
                case measure => simp [intOf]; omega
            · have HP := Lib.hid (preP_miss ls n k hx)
              have hne : (nth 0 ls k != ((n + 1 : Nat) : Int)) = true := by simp only [bne_iff_ne, ne_eq]; unfold lenOf at hx; omega
              have HO := Lib.hid hO
              clear hO hx
              go_wp2
              go_roundw
              case rel => exact ⟨k + 1, by omega, by go_num, by rw [HP.out], by rw [HP.out], by rw [HP.out]; exact HO.out, hB⟩
              case measure => simp [intOf]; omega
          · obtain rfl : k = ls.length := by omega
            have HP := Lib.hid (preP_next ls n)
            have HO := Lib.hid hO
            clear hO
            go_wp2
            go_roundw
            case rel => exact ⟨n + 1, by omega, by go_num, by rw [HP.out], by rw [HP.out], by rw [← HP.out]; exact HO.out, hB⟩
            case measure => simp [intOf]; omega
      · obtain rfl : n = 16 := by omega
        have HP := Lib.hid (show outC ls (preP ls 16 0) = codesL ls by rw [preP_all, outC_all HR.out.ok.len16])
        rw [HP.out] at hO
        go_wp2
        go_ret2
        exact ⟨_, ret_two rfl (by rw [HX.out]; rfl), by rw [HE.out]; exact hO, hB⟩
  · have hb : (checkN ls != 0) = true := by simpa using h
    have HE := Lib.hid (show codesR ls = [] by simp [codesR, h])
    clear h
    go_enter Tryd.func92, Tryd.ntmps92
    go_wp2_with (go_at_call 111; refine (rcheck_any _ _ _ _ hS).mono ?_; rintro e w2 ⟨rfl, rfl⟩)
    go_ret2
    exact ⟨_, ret_two rfl rfl, by rw [HE.out]; exact OwnI.nil _ _ _ _, Below.refl _ _⟩
end Go.Proofs.YtciknejchglmoaaDoor

namespace Go.Proofs.YtciknejchglmoaaDoor
open Go Go.RowKit Go.Maps

theorem laidW : laidOutB Tryd.prog = true := by kernel_rfl
theorem rowWd : (125 : TypeId) < Tryd.prog.types.size := of_decide_eq_true (by kernel_rfl)
theorem wideWd : (match Tryd.prog.underlying 125 with | some (.array _ _) | some (.struct _) => true | _ => false) = true := by kernel_rfl
theorem deepWd : Tryd.prog.keyTypeAt 3 125 = true := by kernel_rfl
set_option maxRecDepth 100000 in
theorem klawWd : WideMaps.KeyLaw Tryd.prog 125 := deep_law_laid laidW (m := 3) (by omega) rowWd deepWd wideWd
theorem lawWd : Keyed Tryd.prog 125 := Keyed.of_law klawWd
def klW (k : Nat × Nat) : Lit := .string (keyBytes [.int .i64 (k.1 : Int), .int .i64 (k.2 : Int)])
def WKey (k : Nat × Nat) : Prop := k.1 ≤ 100000000 ∧ k.2 ≤ 100000000
def kvW (k : Nat × Nat) : Value := .agg #[.int .i64 (k.1 : Int), .int .i64 (k.2 : Int)]
theorem wfN (n : Nat) (h : n ≤ 100000000) : (Lit.int .i64 (n : Int)).wf = true := by
  have h1 : IntKind.i64.min ≤ (n : Int) := by
    have : IntKind.i64.min = -9223372036854775808 := rfl
    omega
  simp [Lit.wf, h1]
  omega
theorem keyTypeWd : Tryd.prog.keyType 125 = true := by kernel_rfl
theorem cellsWd : Tryd.prog.cellsOf 125 = 2 := by kernel_rfl
theorem keyW {k : Nat × Nat} (h : WKey k) : keyOf Tryd.prog 125 (kvW k) = some (klW k) := by
  have h1 := wfN k.1 h.1
  have h2 := wfN k.2 h.2
  obtain ⟨n, hn⟩ : ∃ n, Tryd.prog.types.size = n + 1 := ⟨Tryd.prog.types.size - 1, by have : 0 < Tryd.prog.types.size := of_decide_eq_true (by kernel_rfl); omega⟩
  unfold keyOf
  have hl : Tryd.prog.keyLits (n + 1 + 1) 125 [.int .i64 (k.1 : Int), .int .i64 (k.2 : Int)] = some [.int .i64 (k.1 : Int), .int .i64 (k.2 : Int)] := by
    have hi : ∀ v, (Lit.int .i64 v).wf = true → Tryd.prog.keyLits (n + 1) 3 [.int .i64 v] = some [.int .i64 v] := fun v hv => by
      unfold Program.keyLits
      rw [Tryd.underlying3]
      simp [hv]
    unfold Program.keyLits
    rw [Tryd.underlying125]
    have hc3 : Tryd.prog.cellsOf 3 = 1 := by kernel_rfl
    simp [cellsWd, hc3, hi _ h1, hi _ h2]
  have hf : (kvW k).formed Tryd.prog 125 = true := by
    unfold kvW Value.formed
    rw [Tryd.underlying125]
    simp [cellsWd]
  have hcells : (kvW k).cells.toList = [.int .i64 (k.1 : Int), .int .i64 (k.2 : Int)] := rfl
  have hsz : Tryd.prog.types.size + 1 = n + 1 + 1 := by rw [hn]
  rw [Tryd.underlying125]
  simp only [keyTypeWd, hf, Bool.and_self, if_true, hcells, hsz, hl]
  rfl
theorem kvW_inj {k k' : Nat × Nat} (h : kvW k = kvW k') : k = k' := by
  unfold kvW at h
  simp at h
  exact Prod.ext (by omega) (by omega)
theorem klW_inj {k k' : Nat × Nat} (h : WKey k) (h' : WKey k') (e : klW k = klW k') : k = k' :=
  kvW_inj (lawWd.inj (keyW h) (e ▸ keyW h'))
theorem isKeyW {k : Nat × Nat} (h : WKey k) : WideAt.IsKeyLit (klW k) := lawWd.key (keyW h)

/-- A map from words to numbers. -/
def SymM (n : Nat) (w : World) (b : Nat) (f : Nat × Nat → Option Nat) : Prop :=
  ∃ D : DataW Unit, w.ownsMap Tryd.prog 125 (plainElem Tryd.prog 3) b n D ∧ IsMap D ∧ ∀ k, WKey k → Maps.has D (klW k) = (f k).isSome ∧ ∀ x, f k = some x → D.atKey (klW k) (.lit (.int .i64 0)) = .lit (.int .i64 (x : Int))
/-- A set of words, kept as a map to bools. -/
def BegM (n : Nat) (w : World) (b : Nat) (f : Nat × Nat → Bool) : Prop :=
  ∃ D : DataW Unit, w.ownsMap Tryd.prog 125 (plainElem Tryd.prog 4) b n D ∧ IsMap D ∧ ∀ k, WKey k → D.atKey (klW k) (.lit (.bool false)) = .lit (.bool (f k))
section
variable {n b : Nat} {w w' : World} {f : Nat × Nat → Option Nat} {g : Nat × Nat → Bool}
theorem SymM.lt (h : SymM n w b f) : b < w.heap.size := let ⟨_, h, _⟩ := h; World.ownsMap.lt h
theorem BegM.lt (h : BegM n w b g) : b < w.heap.size := let ⟨_, h, _⟩ := h; World.ownsMap.lt h
theorem SymM.grown {row : Option Nat} (h : SymM n w b f) (hg : w.grownBy w' row) (hne : some b ≠ row) : SymM n w' b f := let ⟨D, h, r⟩ := h; ⟨D, World.ownsMap.kept h hg hne, r⟩
theorem BegM.grown {row : Option Nat} (h : BegM n w b g) (hg : w.grownBy w' row) (hne : some b ≠ row) : BegM n w' b g := let ⟨D, h, r⟩ := h; ⟨D, World.ownsMap.kept h hg hne, r⟩
theorem ownsMap_blk {P : Program} {k : TypeId} {R : Value → Option (DataW Unit × List MemPlace)} {D : DataW Unit} (h : w.ownsMap P k R b n D) (hb : w'.heap[b]? = w.heap[b]?) : w'.ownsMap P k R b n D := by
  obtain ⟨es, clock, h1, h2⟩ := h
  exact ⟨es, clock, hb.trans h1, h2⟩
theorem SymM.keep {ok : Nat → Prop} (h : SymM n w b f) (hk : Keep ok w w') (ho : ok b) : SymM n w' b f := let ⟨D, h1, r⟩ := h; ⟨D, ownsMap_blk h1 (hk.blk b h.lt ho), r⟩
theorem BegM.keep {ok : Nat → Prop} (h : BegM n w b g) (hk : Keep ok w w') (ho : ok b) : BegM n w' b g := let ⟨D, h1, r⟩ := h; ⟨D, ownsMap_blk h1 (hk.blk b h.lt ho), r⟩
theorem SymM.below (h : SymM n w b f) (hb : Below w.heap.size w w') : SymM n w' b f := let ⟨D, h1, r⟩ := h; ⟨D, ownsMap_blk h1 (hb.block b h.lt), r⟩
theorem BegM.below (h : BegM n w b g) (hb : Below w.heap.size w w') : BegM n w' b g := let ⟨D, h1, r⟩ := h; ⟨D, ownsMap_blk h1 (hb.block b h.lt), r⟩
theorem SymM.mono (h : SymM n w b f) {m : Nat} (hm : n ≤ m) : SymM m w b f := let ⟨D, h, r⟩ := h; ⟨D, World.ownsMap.mono h hm, r⟩
theorem BegM.mono (h : BegM n w b g) {m : Nat} (hm : n ≤ m) : BegM m w b g := let ⟨D, h, r⟩ := h; ⟨D, World.ownsMap.mono h hm, r⟩
end
theorem SymM.new (w : World) : SymM 0 (w.alloc (.map #[] 0)) w.heap.size (fun _ => none) :=
  ⟨_, World.ownsMap_made _ _ _ _, isMap_empty, fun k _ => ⟨rfl, fun x e => by cases e⟩⟩
theorem BegM.new (w : World) : BegM 0 (w.alloc (.map #[] 0)) w.heap.size (fun _ => false) :=
  ⟨_, World.ownsMap_made _ _ _ _, isMap_empty, fun _ _ => rfl⟩
theorem zeroI (w : World) : (zeroValue 3).run Tryd.prog w = .ok (.int .i64 0) w := by kernel_rfl
theorem zeroB (w : World) : (zeroValue 4).run Tryd.prog w = .ok (.bool false) w := by kernel_rfl
end Go.Proofs.YtciknejchglmoaaDoor

namespace Go.Proofs.YtciknejchglmoaaDoor
open Go.RowKit

/-- Which symbol of the first k has a word. -/
def symF (ls : List Int) : Nat → Nat × Nat → Option Nat
  | 0, _ => none
  | k + 1, p => if 0 < lenOf ls k ∧ p = (lenOf ls k, codeN ls k) then some k else symF ls k p
/-- The beginnings of a word that are longer than m. -/
def begAt (L C m : Nat) (p : Nat × Nat) : Bool := decide (m < p.1 ∧ p.1 ≤ L ∧ p.2 = C / 2 ^ (L - p.1))
def begF (ls : List Int) : Nat → Nat × Nat → Bool
  | 0, _ => false
  | k + 1, p => begF ls k p || begAt (lenOf ls k) (codeN ls k) 0 p
theorem symF_no {ls : List Int} {k : Nat} (h : ¬ 0 < lenOf ls k) : symF ls (k + 1) = symF ls k := by
  funext p
  show (if 0 < lenOf ls k ∧ p = (lenOf ls k, codeN ls k) then some k else symF ls k p) = _
  rw [if_neg (fun e => h e.1)]
theorem symF_yes {ls : List Int} {k : Nat} (h : 0 < lenOf ls k) : symF ls (k + 1) = fun p => if p = (lenOf ls k, codeN ls k) then some k else symF ls k p := by
  funext p
  show (if 0 < lenOf ls k ∧ p = (lenOf ls k, codeN ls k) then some k else symF ls k p) = _
  by_cases e : p = (lenOf ls k, codeN ls k)
  · rw [if_pos ⟨h, e⟩, if_pos e]
  · rw [if_neg (fun h => e h.2), if_neg e]
theorem begAt_full (L C : Nat) (p : Nat × Nat) : begAt L C L p = false := decide_eq_false (by omega)
theorem begAt_step {L C m : Nat} (h : m < L) (p : Nat × Nat) : begAt L C m p = if p = (m + 1, C / 2 ^ (L - (m + 1))) then true else begAt L C (m + 1) p := by
  unfold begAt
  by_cases e : p = (m + 1, C / 2 ^ (L - (m + 1)))
  · subst e
    rw [if_pos rfl]
    exact decide_eq_true ⟨by show m < m + 1; omega, by show m + 1 ≤ L; omega, rfl⟩
  · rw [if_neg e]
    congr 1
    apply propext
    constructor
    · rintro ⟨h1, h2, h3⟩
      refine ⟨?_, h2, h3⟩
      rcases Nat.lt_or_ge (m + 1) p.1 with h4 | h4
      · exact h4
      · have h5 : p.1 = m + 1 := by omega
        exact absurd (Prod.ext h5 (by rw [h3, h5])) e
    · rintro ⟨h1, h2, h3⟩
      exact ⟨by omega, h2, h3⟩

theorem half_pow (C L m : Nat) (h : m < L) : C / 2 ^ (L - (m + 1)) / 2 = C / 2 ^ (L - m) := by
  rw [Nat.div_div_eq_div_mul, ← Nat.pow_succ, Nat.succ_eq_add_one, show L - (m + 1) + 1 = L - m by omega]

end Go.Proofs.YtciknejchglmoaaDoor

namespace Go.Proofs.YtciknejchglmoaaDoor
open Go.RowKit

/-- Bits read, one behind the other, till they are a word, or begin none: the symbol, the error, and how many bits. -/
def readF (S : Nat × Nat → Option Nat) (B : Nat × Nat → Bool) (bits : List Bool) : Nat → Nat → Int × Int × Nat
  | 0, _ => (0, 4, 0)
  | fuel + 1, n => if bits.length ≤ n then (0, 3, 0) else
    match S (n + 1, valB (bits.take (n + 1))) with
    | some s => ((s : Int), 0, n + 1)
    | none => if B (n + 1, valB (bits.take (n + 1))) = true then readF S B bits fuel (n + 1) else (0, 4, 0)
def readR (ls : List Int) (bits : List Bool) : Int × Int × Nat := readF (symF ls ls.length) (begF ls ls.length) bits 17 0
theorem begF_short {ls : List Int} (h16 : ∀ k, lenOf ls k ≤ 16) : ∀ (k : Nat) (p : Nat × Nat), begF ls k p = true → p.1 ≤ 16
  | 0, _, h => by cases h
  | k + 1, p, h => by
    simp only [begF, Bool.or_eq_true] at h
    rcases h with h | h
    · exact begF_short h16 k p h
    · have := of_decide_eq_true h
      have := h16 k
      omega
theorem readF_count (S : Nat × Nat → Option Nat) (B : Nat × Nat → Bool) (bits : List Bool) : ∀ (fuel n : Nat), n ≤ bits.length → (readF S B bits fuel n).2.2 ≤ bits.length
  | 0, _, _ => Nat.zero_le _
  | fuel + 1, n, h => by
    unfold readF
    split
    · exact Nat.zero_le _
    · split
      · show n + 1 ≤ _; omega
      · split
        · exact readF_count S B bits fuel (n + 1) (by omega)
        · exact Nat.zero_le _

theorem set_two (w : World) (g : Nat) (u v : Value) : Upd (fun b => b = g) w ((w.setCell ⟨g, 0, none⟩ u).setCell ⟨g, 1, none⟩ v) :=
  (Upd.setCell (fun b => b = g) w g 0 u rfl).trans (Upd.setCell (fun b => b = g) _ g 1 v rfl) fun _ _ h => h
/-- What Read answers: the symbol, the error, and how many bits are read. -/
def readL (ls : List Int) (bits : List Bool) : Int × Int × Nat := if checkN ls ≠ 0 then (0, checkN ls, 0) else readR ls bits

end Go.Proofs.YtciknejchglmoaaDoor

namespace Go.Proofs.YtciknejchglmoaaDoor
open Go.RowKit

def encB (ls ss : List Int) : List Bool := ss.flatMap fun s => numB (codeN ls s.toNat) (lenOf ls s.toNat)
def noneS (ls ss : List Int) : Bool := ss.any fun s => !hasB ls s
/-- What Encode answers: the bits, and the error. -/
def encodeR (ls ss : List Int) : List Bool × Int := if checkN ls ≠ 0 then ([], checkN ls) else if noneS ls ss = true then ([], 5) else (encB ls ss, 0)
theorem encB_take {ls ss : List Int} {k : Nat} (h : k < ss.length) : encB ls (ss.take (k + 1)) = encB ls (ss.take k) ++ numB (codeN ls (nth 0 ss k).toNat) (lenOf ls (nth 0 ss k).toNat) := by
  rw [take_succ_nth 0 ss k h]; simp [encB]
theorem encB_len {ls : List Int} (h16 : ∀ k, lenOf ls k ≤ 16) (ss : List Int) : (encB ls ss).length ≤ 16 * ss.length := by
  induction ss with
  | nil => simp [encB]
  | cons s ss ih =>
    simp only [encB, List.flatMap_cons, List.length_append, numB_length, List.length_cons] at ih ⊢
    have := h16 s.toNat
    omega

end Go.Proofs.YtciknejchglmoaaDoor

namespace Go.Proofs.YtciknejchglmoaaDoor
open Go.RowKit

def decF (ls : List Int) : Nat → List Bool → List Int × Int
  | 0, _ => ([], 0)
  | c + 1, bits => if (readR ls bits).2.1 ≠ 0 then ([], (readR ls bits).2.1) else
    if (decF ls c (bits.drop (readR ls bits).2.2)).2 ≠ 0 then ([], (decF ls c (bits.drop (readR ls bits).2.2)).2) else ((readR ls bits).1 :: (decF ls c (bits.drop (readR ls bits).2.2)).1, 0)
def catD (xs : List Int) (d : List Int × Int) : List Int × Int := if d.2 ≠ 0 then ([], d.2) else (xs ++ d.1, 0)
/-- What Decode answers. -/
def decodeR (ls b : List Int) (n count : Int) : List Int × Int :=
  if checkN ls ≠ 0 then ([], checkN ls) else if openE b.length n = 1 ∨ count < 0 then ([], 1) else if openE b.length n ≠ 0 then ([], openE b.length n) else decF ls count.toNat (ofB b n.toNat)
theorem decF_snd (ls : List Int) : ∀ (c : Nat) (bits : List Bool), (decF ls c bits).2 ≠ 0 → decF ls c bits = ([], (decF ls c bits).2)
  | 0, _, h => absurd rfl h
  | c + 1, bits, h => by
    unfold decF at h ⊢
    split
    · rfl
    · split
      · rfl
      · rename_i h1 h2; rw [if_neg h1, if_neg h2] at h; exact absurd rfl h
theorem catD_nil (ls : List Int) (c : Nat) (bits : List Bool) : catD [] (decF ls c bits) = decF ls c bits := by
  unfold catD
  split
  · rename_i h; exact (decF_snd ls c bits h).symm
  · rename_i h
    have h0 : (decF ls c bits).2 = 0 := by simpa using h
    rw [List.nil_append]; exact Prod.ext rfl h0.symm
theorem catD_stop {ls : List Int} {c : Nat} {bits : List Bool} {xs : List Int} (h : (readR ls bits).2.1 ≠ 0) : catD xs (decF ls (c + 1) bits) = ([], (readR ls bits).2.1) := by
  unfold catD decF
  rw [if_pos h, if_pos (by exact h)]
theorem catD_step {ls : List Int} {c : Nat} {bits : List Bool} {xs : List Int} (h : (readR ls bits).2.1 = 0) : catD xs (decF ls (c + 1) bits) = catD (xs ++ [(readR ls bits).1]) (decF ls c (bits.drop (readR ls bits).2.2)) := by
  have hd : decF ls (c + 1) bits = if (decF ls c (bits.drop (readR ls bits).2.2)).2 ≠ 0 then ([], (decF ls c (bits.drop (readR ls bits).2.2)).2) else ((readR ls bits).1 :: (decF ls c (bits.drop (readR ls bits).2.2)).1, 0) := by
    conv => lhs; unfold decF
    rw [if_neg (by simp [h])]
  rw [hd]
  unfold catD
  by_cases h2 : (decF ls c (bits.drop (readR ls bits).2.2)).2 ≠ 0
  · rw [if_pos h2, if_pos h2, if_pos (by exact h2)]
  · rw [if_neg h2, if_neg h2, if_neg (by simp), List.append_assoc]; rfl
theorem readF_some (S : Nat × Nat → Option Nat) (B : Nat × Nat → Bool) (bits : List Bool) : ∀ (fuel n : Nat), (readF S B bits fuel n).2.1 = 0 → n < (readF S B bits fuel n).2.2
  | 0, n, h => by simp [readF] at h
  | fuel + 1, n, h => by
    unfold readF at h ⊢
    split
    · rename_i h1; rw [if_pos h1] at h; simp at h
    · rename_i h1
      rw [if_neg h1] at h
      split
      · show n < n + 1; omega
      · rename_i h2
        rw [h2] at h
        split
        · rename_i h3
          simp only [h3, if_true] at h
          have := readF_some S B bits fuel (n + 1) h
          omega
        · rename_i h3
          simp [h3] at h
theorem openE_cases (m : Nat) (n : Int) : openE m n = 0 ∨ openE m n = 1 ∨ openE m n = 2 := by 
  unfold openE; split
  · exact .inr (.inl rfl)
  · split
    · exact .inr (.inr rfl)
    · exact .inl rfl

end Go.Proofs.YtciknejchglmoaaDoor

namespace Go.Proofs.YtciknejchglmoaaDoor
open Go.RowKit

def bitsI (l : List Bool) : List Int := l.map b2i
theorem bitsI_length (l : List Bool) : (bitsI l).length = l.length := by simp [bitsI]
theorem bitsI_nth (l : List Bool) (k : Nat) (h : k < l.length) : nth 0 (bitsI l) k = b2i (nth false l k) := by
  rw [nth_eq 0 _ k (by rw [bitsI_length]; exact h), nth_eq false _ k h]; simp [bitsI]
theorem bitsI_append (a b : List Bool) : bitsI (a ++ b) = bitsI a ++ bitsI b := by simp [bitsI]
theorem bitsI_take (a : List Bool) (n : Nat) : bitsI (a.take n) = (bitsI a).take n := by simp [bitsI, List.map_take]
theorem bitsI_drop (a : List Bool) (n : Nat) : bitsI (a.drop n) = (bitsI a).drop n := by simp [bitsI, List.map_drop]
theorem bitsI_range (l : List Bool) : ∀ x ∈ bitsI l, 0 ≤ x ∧ x < 256 := by
  intro x hx
  simp only [bitsI, List.mem_map] at hx
  obtain ⟨b, _, rfl⟩ := hx
  have := b2i_bd b
  omega
theorem bitsI_inj {a b : List Bool} (h : bitsI a = bitsI b) : a = b := by
  have hl : a.length = b.length := by rw [← bitsI_length a, h, bitsI_length]
  apply List.ext_getElem hl
  intro i h1 h2
  have := congrArg (fun l => nth 0 l i) h
  rw [bitsI_nth _ _ h1, bitsI_nth _ _ h2, nth_eq false _ i h1, nth_eq false _ i h2] at this
  exact b2i_inj this
/-- The first k of a list, the others 0 yet. -/
def upTo (xs : List Int) (k : Nat) : List Int := xs.take k ++ List.replicate (xs.length - k) 0
theorem upTo_zero (xs : List Int) : upTo xs 0 = List.replicate xs.length 0 := by simp [upTo]
theorem upTo_all (xs : List Int) : upTo xs xs.length = xs := by simp [upTo]
theorem upTo_length (xs : List Int) (k : Nat) : (upTo xs k).length = xs.length := by simp [upTo]; omega
theorem upTo_set (xs : List Int) (k : Nat) (h : k < xs.length) : (upTo xs k).set k (nth 0 xs k) = upTo xs (k + 1) := by
  unfold upTo
  have hl : (xs.take k).length = k := by rw [List.length_take]; omega
  rw [List.set_append_right _ _ (by omega), hl, Nat.sub_self, take_succ_nth 0 xs k h, List.append_assoc]
  congr 1
  rw [show xs.length - k = (xs.length - (k + 1)) + 1 by omega, List.replicate_succ]
  rfl

theorem bitB_and8 (b : List Int) (i : Nat) (h0 : 0 ≤ nth 0 b (i / 8)) (h1 : nth 0 b (i / 8) < 256) : Go.bits .and .u8 (nth 0 b (i / 8) / 2 ^ (7 - i % 8)) 1 = b2i (bitB b i) := by
  have hd := div_bd (nth 0 b (i / 8)) (7 - i % 8) h0 h1
  have e1 := bits_mask .u8 8 (by decide) (fun n h0 h1 => wraps_u8 n h0 h1) 1 (by decide) (nth 0 b (i / 8) / 2 ^ (7 - i % 8)) hd.1 (by rw [show (2 : Int) ^ 8 = 256 by decide]; omega)
  have e2 := bitB_and b i h0 h1
  rw [and_one _ hd.1 (by omega)] at e2
  have e3 : (2 : Int) ^ 1 - 1 = 1 := by decide
  rw [e3] at e1
  rw [e1]
  simpa using e2

/-- Bytes of bits, zeros behind them. -/
def padB (bs : List Bool) (L : Nat) : List Int := packB bs ++ List.replicate (L - (packB bs).length) 0
theorem padB_nil (L : Nat) : padB [] L = List.replicate L 0 := by simp [padB, packB]
theorem padB_all (bs : List Bool) : padB bs ((bs.length + 7) / 8) = packB bs := by simp [padB, packB_length]
theorem padB_length (bs : List Bool) (L : Nat) (h : (bs.length + 7) / 8 ≤ L) : (padB bs L).length = L := by simp [padB, packB_length]; omega
theorem padB_room (bs : List Bool) (L : Nat) (h : bs.length / 8 < L) : padB bs L = roomB bs ++ List.replicate (L - (bs.length / 8 + 1)) 0 := by
  unfold padB roomB
  split
  · rename_i h8
    rw [packB_length, List.append_assoc, show L - (bs.length + 7) / 8 = (L - (bs.length / 8 + 1)) + 1 by omega, List.replicate_succ]
    rfl
  · rename_i h8
    rw [packB_length, show (bs.length + 7) / 8 = bs.length / 8 + 1 by omega]
theorem padB_nth (bs : List Bool) (L : Nat) (h : bs.length / 8 < L) : nth 0 (padB bs L) (bs.length / 8) = (byteB bs (bs.length / 8) : Int) := by
  rw [padB_room _ _ h, nth_append_left _ _ _ _ (by rw [roomB_length]; omega), roomB_nth]
theorem padB_snoc (bs : List Bool) (b : Bool) (L : Nat) (h : bs.length / 8 < L) : padB (bs ++ [b]) L = (padB bs L).set (bs.length / 8) ((byteB bs (bs.length / 8) : Int) + b2i b * 2 ^ (7 - bs.length % 8)) := by
  rw [padB_room bs _ h, List.set_append_left _ _ (by rw [roomB_length]; omega), ← packB_snoc]
  unfold padB
  rw [packB_length, List.length_append, List.length_singleton, show (bs.length + 1 + 7) / 8 = bs.length / 8 + 1 by omega]

end Go.Proofs.YtciknejchglmoaaDoor

namespace Go.Proofs.YtciknejchglmoaaDoor
open Go.RowKit

section
variable {o o' : Nat → Prop} {w w' : World} {g : Nat} {v : Value} {bs : List Bool}
end
def sameL (a b : List Int) : Bool := decide (a = b)
theorem same_end {a b : List Int} (hl : a.length = b.length) (h : ∀ j, j < a.length → nth 0 a j = nth 0 b j) : sameL a b = true := by
  refine decide_eq_true (List.ext_getElem hl fun i h1 h2 => ?_)
  have := h i h1
  rwa [nth_eq 0 a i h1, nth_eq 0 b i h2] at this
end Go.Proofs.YtciknejchglmoaaDoor

namespace Go.Proofs.YtciknejchglmoaaDoor
open Go.RowKit

section
variable {o o' : Nat → Prop} {w w' : World} {g : Nat} {l : List Bool} {at_ : Nat}
end

def cutL (l : List Bool) (i n : Nat) : List Bool := if l.length < i + n then [] else (l.drop i).take n
theorem Sl.part {ok : Nat → Prop} {w : World} {A : Option Addr} {c : Nat} {xs : List Int} {ik : IntKind} (h : Sl (kInt ik) ok w A c xs) (i n : Nat) (hn : i + n ≤ xs.length) : Sl (kInt ik) ok w (A.map fun x => x.add i) (c - i) ((xs.drop i).take n) := by
  have hr := (h.rd.drop i).take n
  rw [show i * (kInt ik).size = i from Nat.mul_one i] at hr
  exact ⟨by rw [List.length_take, List.length_drop]; have := h.le; omega, by have := h.cap; omega, hr⟩
theorem Sl.none {α : Type} {k : Kd α} {ok : Nat → Prop} {w : World} (A : Option Addr) (c : Nat) (hc : c ≤ 9223372036854775807) : Sl k ok w A c [] := ⟨Nat.zero_le _, hc, Kd.Rd.nil _ _ _ _⟩

end Go.Proofs.YtciknejchglmoaaDoor

namespace Go.Proofs.YtciknejchglmoaaDoor
open Go.RowKit

theorem hasB_zero {ls : List Int} (hr : Right ls) {k : Nat} (hk : k < ls.length) : hasB ls (k : Int) = !(nth 0 ls k == 0) := by
  have := hr.ok.at k
  unfold hasB
  rw [Int.toNat_natCast, decide_eq_true (show (0 : Int) ≤ (k : Int) by omega), decide_eq_true (show (k : Int) < (ls.length : Int) by omega), Bool.true_and, Bool.true_and, Bool.eq_iff_iff]
  simp; omega

end Go.Proofs.YtciknejchglmoaaDoor

namespace Go.Proofs.YtciknejchglmoaaDoor
open Go.RowKit

theorem wordB_len (ls : List Int) (h16 : ∀ k, lenOf ls k ≤ 16) (s : Int) : (wordB ls s).length ≤ 16 := by
  unfold wordB
  split
  · simp
  · rw [numB_length]; exact h16 _
theorem writeE_of {ls : List Int} {n : Nat} {s : Int} (hck : checkN ls = 0) (hh : hasB ls s = true) : writeE ls n s = fullE n (wordB ls s).length := by
  unfold writeE wordB
  rw [if_neg (by simp [hck]), if_neg (by simp [hh]), if_neg (by simp [hck, hh]), numB_length]
theorem fullE_ofB (bs : List Bool) : ofB (packB bs) bs.length = bs := by rw [ofB_packB _ _ (Nat.le_refl _), List.take_length]

def preB (x y : List Bool) : Bool := decide (x.length ≤ y.length) && decide (x = y.take x.length)
theorem sameL_bits (x y : List Bool) : sameL (bitsI x) (bitsI y) = decide (x = y) := by
  unfold sameL
  congr 1
  exact propext ⟨bitsI_inj, fun h => by rw [h]⟩
end Go.Proofs.YtciknejchglmoaaDoor
