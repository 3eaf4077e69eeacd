/- A drawn region in a round over an iterator: what only reads first, then one chain of operations. · prefix: words: what it returns, for any right lengths and memory. · prefix: Codes, Write: what each call returns. · Maps whose keys are words (a length and a number): what they tell, and what an update does. · prefix: open: which words a book has, and which begin one. · prefix: a book's read, Read: what each call returns, and where the reader is then. · prefix: Encode, Decode: what each call returns. · prefix: Decode: what it returns. -/
import Derived.StillTailTactics
import Derived.OrdersIn
import Derived.RangeFuncCalls
import Derived.TacticsIn
import Derived.ControlIn
import Derived.Test.YtlbgkkkcbnagbaaKa
import Derived.Test.YtlbgkkkcbnagbaaKc
import Derived.Test.YtlbgkkkcbnagbaaKd
import Derived.Maps.OwnSet
import Derived.Maps.OwnOps
import Derived.DeepKeys4
import Derived.MapViews
import Derived.WideKeyArgs2
import Derived.Deep.RegionHeld3
namespace Go.Proofs.Ytlbgkkkcbnagbaa
open Go

section
variable {P : Program} {ops : Array Oper} {md : Region.Mode} {w : World} {l m : Nat}
def plainB (ops : List Oper) : Bool := ops.all fun o => match o.op with | .defer _ => false | _ => true
theorem plainB_spec {l : List Oper} (h : plainB l = true) (o : Oper) (ho : o ∈ l) : ∀ c, o.op ≠ .defer c := by
  intro c e
  have := List.all_eq_true.1 h o ho
  rw [e] at this
  cases this
theorem wp_inRound {o : Oper} {a : Act} {next : Act → World → Prop} {Q : Exit → Act → World → Prop} (hd : ∀ c, o.op ≠ .defer c) (h : o.wp P a w next Q) : o.wpIn (Fence.wide.inRound l) m P a w next Q := by
  refine ⟨fun f _ => trivial, ?_⟩
  rw [show (Fence.wide.inRound l).round = some l from rfl, Oper.semAt_some l _ _ hd]
  unfold Oper.wp at h
  generalize (execOp a.eval o).run P w = r at h
  cases r with
  | ok x w' =>
    cases x <;> simp only [Oper.upon, Oper.uponIn] at h ⊢ <;> first | exact h | exact h.elim | skip
    · exact ⟨fun h => by simp [Fence.wide] at h, CallsIn.inRound l (callsIn_wide.2 h)⟩
    · refine ⟨fun h => by simp [Fence.wide] at h, ?_⟩
      intro c cs _
      obtain ⟨v, w'', hr, hs⟩ := h c cs
      exact ⟨v, w'', hr, stepsIn_wide.2 hs⟩
  | halt x w' => cases x <;> simp only [Oper.upon, Oper.uponIn] at h ⊢ <;> first | exact h | exact h.elim
theorem stOp_inRound {i : Nat} {a : Act} {K : Act → Prop} {K' : Act → World → Prop} {Q' : Exit → Act → World → Prop} (hd : plainB ops.toList = true) (h : ∀ a, K a → K' a w) (hh : stOp P ops w i K a) : wpOpIn (Fence.wide.inRound l) m P ops Q' i K' a w := by
  unfold stOp at hh
  unfold wpOpIn
  split
  · rename_i ho; simp only [ho] at hh; exact h _ hh
  · rename_i o ho
    simp only [ho] at hh
    have hm : o ∈ ops.toList := by simpa using Array.mem_of_getElem? ho
    split
    · rename_i hw; simp only [hw, if_true] at hh; exact wp_inRound (plainB_spec hd o hm) (Oper.wp_of_still h hh)
    · rename_i hw; simp only [hw] at hh; exact ⟨fun f _ => trivial, h _ hh⟩
theorem head_inRound {n g : Nat} {L : Array Bool → Act → Prop} {Q' : Exit → Act → World → Prop} (hd : plainB ops.toList = true) (hL : ∀ listed a, L listed a → wpAnyIn (Fence.wide.inRound l) m P md ops Q' g listed a w) :
    ∀ (f : Nat) (listed : Array Bool) (a : Act), wpAnyL P md ops w n L f listed a → wpAnyIn (Fence.wide.inRound l) m P md ops Q' (f + g) listed a w
  | 0, listed, a, h => by rw [Nat.zero_add]; exact hL _ _ h
  | f + 1, listed, a, h => by
    rw [show f + 1 + g = (f + g) + 1 by omega]
    exact ⟨fun h0 => absurd h0 h.1, fun i hi => stOp_inRound hd (fun a' h' => head_inRound hd hL f _ a' h') (h.2 i hi).2⟩
theorem seq_inRound {F : Fence} {Q' : Exit → Act → World → Prop} : ∀ (l : List Oper) (k : Nat) (listed : Array Bool) (a : Act) (w : World), (∀ j, l[j]? = ops[k + j]?) →
    Region.seqB md ops l.length k listed = true → wpListIn F m P ops Q' l a w → wpAnyIn F m P md ops Q' l.length listed a w
  | [], _, _, _, _, _, hB, h => ⟨by simpa [Region.seqB] using hB, h⟩
  | o :: l, k, listed, a, w, hl, hB, h => by
    have h0 : ops[k]? = some o := by simpa using (hl 0).symm
    simp only [List.length_cons, Region.seqB, Bool.and_eq_true, decide_eq_true_eq] at hB
    refine ⟨fun h1 => (by rw [hB.1] at h1; cases h1), fun i hi => ?_⟩
    rw [hB.1] at hi
    have hik : i = k := by simpa using hi
    subst hik
    have hw : wpOpIn F m P ops Q' i (wpListIn F m P ops Q' l) a w := by unfold wpOpIn; simp only [h0]; exact h
    exact wpOpIn_mono (fun a' w' h' => seq_inRound l (i + 1) _ a' w' (fun j => by have := hl (j + 1); simpa [Nat.add_assoc, Nat.add_comm 1 j] using this) hB.2 h') hw
/-- The first n operations only read; the others come one behind the other. -/
theorem wpIn_still_tail {id : Nat} {Q : Exit → Act → World → Prop} {a : Act} {l' : List Oper} (n : Nat) (hm : P.follows .mixedOrders = true) (hd : plainB l' = true) (hB : Region.lexTailB .any l'.toArray n = true)
    (h : wpStill P l'.toArray w.drew (fun a' => wpListIn (Fence.wide.inRound l) m P l'.toArray Q (l'.drop n) a' w.drew) (l'.take n) a) : (Code.region id l'.toArray true).wpIn (Fence.wide.inRound l) m P Q a w := by
  simp only [Region.lexTailB, Bool.and_eq_true, decide_eq_true_eq] at hB
  obtain ⟨⟨⟨⟨hsel, hn⟩, hs⟩, hc⟩, hlex⟩ := hB
  have hn' : n < l'.length := by simpa using hn
  have htl : (l'.take n).length = n := by simp; omega
  have hdl : (l'.drop n).length = l'.toArray.size - n := by simp
  have inv0 : HeadInv .any l'.toArray n (Array.replicate l'.toArray.size false) :=
    ⟨by simp, fun j oj _ hl => (by rw [getD_replicate_false] at hl; cases hl), fun t _ ht => getD_in (by simpa using ht) (getD_replicate_false _ _)⟩
  have H := wpAnyL_lex (md := .any) (g := l'.toArray.size - n) hsel hs hc hn (l'.take n) 0 _ a (fun j hj => by
    have hj' : j < n := by rw [htl] at hj; exact hj
    simp [hj']) (by simpa using htl) inv0 (by rw [htl]; exact hlex) h
  refine wpIn_region_any hm ?_
  have := head_inRound (Q' := Q) (g := l'.toArray.size - n) (m := m) (l := l) (by simpa using hd) (fun listed a' hL => by
    have := seq_inRound (md := .any) (Q' := Q) (m := m) (F := Fence.wide.inRound l) (l'.drop n) n listed a' w.drew (fun j => by simp [List.getElem?_drop]) (by rw [hdl]; exact hL.1) hL.2
    rwa [hdl] at this) _ _ _ H
  rw [htl, show n + (l'.toArray.size - n) = l'.toArray.size by omega] at this
  exact this
end
end Go.Proofs.Ytlbgkkkcbnagbaa

namespace Go.Proofs.Ytlbgkkkcbnagbaa
open Go.RowKit Go.Shelf
attribute [local go_sem] Oper.semAt_some

/-! ### Rows of two numbers each -/
def flat2 (xs : List (Int × Int)) : List Value := xs.flatMap fun p => [.int .i64 p.1, .int .i64 p.2]
theorem flat2_length (xs : List (Int × Int)) : (flat2 xs).length = xs.length * 2 := by
  induction xs with
  | nil => rfl
  | cons x xs ih => simp only [flat2, List.flatMap_cons, List.length_append, List.length_cons, List.length_nil] at ih ⊢; omega
theorem flat2_get (xs : List (Int × Int)) (j : Nat) (h : j < xs.length) : (flat2 xs)[j * 2]? = some (.int .i64 (nth (0, 0) xs j).1) ∧ (flat2 xs)[j * 2 + 1]? = some (.int .i64 (nth (0, 0) xs j).2) := by
  induction xs generalizing j with
  | nil => cases h
  | cons x xs ih =>
    cases j with
    | zero => simp [flat2, nth]
    | succ j =>
      have := ih j (by simpa using h)
      have e : (j + 1) * 2 = j * 2 + 1 + 1 := by omega
      rw [e]
      simpa [flat2, nth] using this
theorem flat2_set (xs : List (Int × Int)) (j : Nat) (p : Int × Int) (h : j < xs.length) : ((flat2 xs).set (j * 2) (.int .i64 p.1)).set (j * 2 + 1) (.int .i64 p.2) = flat2 (xs.set j p) := by
  induction xs generalizing j with
  | nil => cases h
  | cons x xs ih =>
    cases j with
    | zero => simp [flat2]
    | succ j =>
      have := ih j (by simpa using h)
      have e : (j + 1) * 2 = j * 2 + 1 + 1 := by omega
      rw [e]
      simpa [flat2] using this
theorem flat2_zero (n : Nat) : (madeCells #[.int .i64 0, .int .i64 0] (n * 2)) = (flat2 (List.replicate n (0, 0))).toArray := by
  apply Array.ext
  · simp [madeCells, flat2_length]
  · intro i h1 h2
    have hi : i < n * 2 := by simpa [madeCells] using h1
    have hz : ∀ j, nth (0, 0) (List.replicate n ((0 : Int), (0 : Int))) j = (0, 0) := fun j => by
      simp only [nth, List.getD_eq_getElem?_getD, List.getElem?_replicate]; split <;> rfl
    have key : (flat2 (List.replicate n (0, 0)))[i]? = some (.int .i64 0) := by
      rcases Nat.mod_two_eq_zero_or_one i with h | h
      · have := (flat2_get (List.replicate n (0, 0)) (i / 2) (by simp; omega)).1
        rw [hz, show i / 2 * 2 = i by omega] at this; exact this
      · have := (flat2_get (List.replicate n (0, 0)) (i / 2) (by simp; omega)).2
        rw [hz, show i / 2 * 2 + 1 = i by omega] at this; exact this
    have e2 : (flat2 (List.replicate n (0, 0))).toArray[i] = .int .i64 0 := by
      have := List.getElem?_eq_some_iff.1 key
      obtain ⟨_, h⟩ := this
      simpa using h
    rw [e2]
    rcases Nat.mod_two_eq_zero_or_one i with h | h <;> simp [madeCells, h]
theorem sl_flat {W : World} {r n : Nat} {xs : List (Int × Int)} {t : TypeId} (h : Blk W r (flat2 xs).toArray t) (hn : xs.length ≤ n) (hc : n ≤ 9223372036854775807) : Sl kField (fun b => b = r) W (some ⟨r, 0, none⟩) n xs := by
  refine ⟨hn, hc, fun j hj => ⟨_, _, rfl, rfl, h.lt, ⟨_, _, rfl, rfl, rfl⟩, fun i v hv => ?_⟩⟩
  obtain ⟨h0, h1⟩ := flat2_get xs j hj
  match i, hv with
  | 0, hv => simp at hv; subst hv; rw [add_plain]; exact h.cell _ (by rw [List.getElem?_toArray]; exact h0)
  | 1, hv => simp at hv; subst hv; rw [add_plain]; exact h.cell _ (by rw [List.getElem?_toArray]; exact h1)
theorem make_words (t e : TypeId) (ht : Try.prog.underlying t = some (.slice e)) (hinfo : (Try.prog.info? e).map (fun i => (i.zero, i.size, i.bytes)) = some (some (.agg #[.int .i64 0, .int .i64 0]), 2, 16)) (n : Nat) (hn : n ≤ 1000000) :
    ∀ W : World, (Instr.makeSlice t (.int .i64 (n : Int)) (.int .i64 (n : Int))).run Try.prog W = .ok (.slice (some ⟨W.heap.size, 0, none⟩) n n) (W.alloc (.cells (flat2 (List.replicate n (0, 0))).toArray e)) := by
  intro W
  obtain ⟨i0, hi, hzz⟩ := Option.map_eq_some_iff.1 hinfo
  simp only [Prod.mk.injEq] at hzz
  obtain ⟨hz0, hz1, hz2⟩ := hzz
  have := run_make (P := Try.prog) W t e i0 _ ht hi hz0 .i64 .i64 (n : Int) (n : Int) (by omega) (by omega) (by rw [hz2]; omega) (by omega)
  rw [hz1, Int.toNat_natCast] at this
  rw [this, ← flat2_zero]
  rfl
theorem infoW : (Try.prog.info? 68).map (fun i => (i.zero, i.size, i.bytes)) = some (some (.agg #[.int .i64 0, .int .i64 0]), 2, 16) := by kernel_rfl

/-! ### What has been written -/
def outL (ls : List Int) (pre : List Nat) : List (Int × Int) := (List.range ls.length).map fun i => if i ∈ pre then ((lenOf ls i : Int), (codeN ls i : Int)) else (0, 0)
def wordsL (ls : List Int) : List (Int × Int) := (List.range ls.length).map fun i => ((lenOf ls i : Int), (codeN ls i : Int))
theorem outL_length (ls : List Int) (pre : List Nat) : (outL ls pre).length = ls.length := by simp [outL]
theorem wordsL_length (ls : List Int) : (wordsL ls).length = ls.length := by simp [wordsL]
theorem wordsL_nth (ls : List Int) (i : Nat) (h : i < ls.length) : nth (0, 0) (wordsL ls) i = ((lenOf ls i : Int), (codeN ls i : Int)) := by
  rw [nth_eq _ _ i (by rw [wordsL_length]; exact h)]; simp [wordsL]
theorem outL_nil (ls : List Int) : outL ls [] = List.replicate ls.length (0, 0) := by
  simp only [outL, List.not_mem_nil, if_false]
  rw [List.map_const', List.length_range]
theorem outL_snoc (ls : List Int) (pre : List Nat) (x : Nat) (_ : x < ls.length) : outL ls (pre ++ [x]) = (outL ls pre).set x ((lenOf ls x : Int), (codeN ls x : Int)) := by
  apply List.ext_getElem
  · simp [outL]
  · intro i h1 h2
    by_cases hi : x = i
    · subst hi
      simp [outL]
    · rw [List.getElem_set_ne hi]
      simp only [outL, List.getElem_map, List.getElem_range, List.mem_append, List.mem_singleton]
      have : (i ∈ pre ∨ i = x) ↔ i ∈ pre := ⟨fun h => h.elim id (fun e => absurd e.symm hi), .inl⟩
      simp only [this]
theorem outL_all {ls : List Int} (h16 : ∀ k, lenOf ls k ≤ 16) : outL ls (ordN ls) = wordsL ls := by
  apply List.map_congr_left
  intro i hi
  rw [List.mem_range] at hi
  by_cases h0 : 0 < lenOf ls i
  · rw [if_pos ((mem_ordN h16 i).2 ⟨hi, h0⟩)]
  · rw [if_neg (fun h => h0 ((mem_ordN h16 i).1 h).2)]
    have : lenOf ls i = 0 := by omega
    rw [this]; unfold codeN; rw [if_pos this]; rfl

structure WoI (w : World) (ls : List Int) (A : Option Addr) (c g1 r g3 g4 : Nat) (pre : List Nat) (W : World) : Prop where
  box : Blk W g1 #[.slice A ls.length c] 22
  row : Blk W r (flat2 (outL ls pre)).toArray 68
  out : Blk W g3 #[.slice (some ⟨r, 0, none⟩) ls.length ls.length] 65
  cur : Blk W g4 #[.int .i64 (wN ls pre).1, .int .i64 (wN ls pre).2] 68
  low : Below w.heap.size w W

theorem words_start {w W3 : World} {ls : List Int} {A : Option Addr} {c gb : Nat}
    (h : Below ((((w.alloc (.cells #[.slice A ls.length c] 22)).alloc (.cells (flat2 (List.replicate ls.length (0, 0))).toArray 68)).alloc (.cells #[.slice (some ⟨w.heap.size + 1, 0, none⟩) ls.length ls.length] 65)).alloc (.cells #[.int .i64 0, .int .i64 0] 68)).heap.size
      ((((w.alloc (.cells #[.slice A ls.length c] 22)).alloc (.cells (flat2 (List.replicate ls.length (0, 0))).toArray 68)).alloc (.cells #[.slice (some ⟨w.heap.size + 1, 0, none⟩) ls.length ls.length] 65)).alloc (.cells #[.int .i64 0, .int .i64 0] 68)) W3)
    (e : gb = ((((w.alloc (.cells #[.slice A ls.length c] 22)).alloc (.cells (flat2 (List.replicate ls.length (0, 0))).toArray 68)).alloc (.cells #[.slice (some ⟨w.heap.size + 1, 0, none⟩) ls.length ls.length] 65)).alloc (.cells #[.int .i64 0, .int .i64 0] 68)).heap.size) :
    WoI w ls A c w.heap.size (w.heap.size + 1) (w.heap.size + 1 + 1) (w.heap.size + 1 + 1 + 1) [] W3 ∧ gb = w.heap.size + 1 + 1 + 1 + 1 := by
  obtain ⟨W1, h1⟩ : ∃ W1, w.alloc (.cells #[.slice A ls.length c] 22) = W1 := ⟨_, rfl⟩
  have a1 : Blk W1 w.heap.size #[.slice A ls.length c] 22 := h1 ▸ heap_alloc_new w _
  have s1 : W1.heap.size = w.heap.size + 1 := h1 ▸ World.size_alloc _ _
  have c1 : Below w.heap.size w W1 := h1 ▸ below_alloc (Below.refl _ _) _
  rw [h1] at h e
  obtain ⟨W2, h2⟩ : ∃ W2, W1.alloc (.cells (flat2 (List.replicate ls.length (0, 0))).toArray 68) = W2 := ⟨_, rfl⟩
  have a2 : Blk W2 W1.heap.size (flat2 (List.replicate ls.length (0, 0))).toArray 68 := h2 ▸ heap_alloc_new W1 _
  have s2 : W2.heap.size = W1.heap.size + 1 := h2 ▸ World.size_alloc _ _
  have c2 : Below W1.heap.size W1 W2 := h2 ▸ below_alloc (Below.refl _ _) _
  rw [h2] at h e
  obtain ⟨W4, h4⟩ : ∃ W4, W2.alloc (.cells #[.slice (some ⟨w.heap.size + 1, 0, none⟩) ls.length ls.length] 65) = W4 := ⟨_, rfl⟩
  have a4 : Blk W4 W2.heap.size #[.slice (some ⟨w.heap.size + 1, 0, none⟩) ls.length ls.length] 65 := h4 ▸ heap_alloc_new W2 _
  have s4 : W4.heap.size = W2.heap.size + 1 := h4 ▸ World.size_alloc _ _
  have c4 : Below W2.heap.size W2 W4 := h4 ▸ below_alloc (Below.refl _ _) _
  rw [h4] at h e
  obtain ⟨W5, h5⟩ : ∃ W5, W4.alloc (.cells #[.int .i64 0, .int .i64 0] 68) = W5 := ⟨_, rfl⟩
  have a5 : Blk W5 W4.heap.size #[.int .i64 0, .int .i64 0] 68 := h5 ▸ heap_alloc_new W4 _
  have s5 : W5.heap.size = W4.heap.size + 1 := h5 ▸ World.size_alloc _ _
  have c5 : Below W4.heap.size W4 W5 := h5 ▸ below_alloc (Below.refl _ _) _
  rw [h5] at h e
  rw [s4, s2, s1] at a5
  rw [s2, s1] at a4
  rw [s1] at a2
  refine ⟨⟨(((a1.below c2).below c4).below c5).below h, ?_, ((a4.below c5).below h), a5.below h, below2 (below2 (below2 (below2 c1 c2) c4) c5) h⟩, by omega⟩
  rw [outL_nil]
  exact ((a2.below c4).below c5).below h
theorem wN_le {ls : List Int} (h16 : ∀ k, lenOf ls k ≤ 16) (A B : List Nat) (i : Nat) (h : ordN ls = A ++ i :: B) : (wN ls A).1 ≤ lenOf ls i := by
  by_cases hA : A = []
  · subst hA; exact Nat.zero_le _
  · obtain ⟨A', p, rfl⟩ : ∃ A' p, A = A' ++ [p] := ⟨A.dropLast, A.getLast hA, (List.dropLast_concat_getLast hA).symm⟩
    have h' : ordN ls = A' ++ p :: i :: B := by rw [h, List.append_assoc]; rfl
    rw [wN_code h16 A' (i :: B) p h']
    have hs := ordN_sorted ls
    rw [h'] at hs
    have := (List.pairwise_cons.1 (List.pairwise_append.1 hs).2.1).1 i (by simp)
    rw [ltW_iff] at this
    show lenOf ls p ≤ _
    omega

theorem wN_pos {ls : List Int} (h16 : ∀ k, lenOf ls k ≤ 16) (A B : List Nat) (i : Nat) (h : ordN ls = A ++ i :: B) : wN ls A = (0, 0) ∨ 0 < (wN ls A).1 := by
  by_cases hA : A = []
  · subst hA; exact .inl rfl
  · right
    obtain ⟨A', p, rfl⟩ : ∃ A' p, A = A' ++ [p] := ⟨A.dropLast, A.getLast hA, (List.dropLast_concat_getLast hA).symm⟩
    have h' : ordN ls = A' ++ p :: i :: B := by rw [h, List.append_assoc]; rfl
    rw [wN_code h16 A' (i :: B) p h']
    exact ((mem_ordN h16 p).1 (by rw [h']; simp)).2
/-- Behind a round. -/
theorem words_round {w W W3 : World} {ls : List Int} {A : Option Addr} {c g1 r g3 g4 x : Nat} {pre : List Nat} {L C : Nat} (h : WoI w ls A c g1 r g3 g4 pre W) (h13 : g1 < r ∧ r < g3 ∧ g3 < g4) (hw : w.heap.size ≤ g1) (hx : x < ls.length)
    (hL : lenOf ls x = L ∧ codeN ls x = C) (hwn : wN ls (pre ++ [x]) = (lenOf ls x, codeN ls x)) (hon : outL ls (pre ++ [x]) = (outL ls pre).set x ((lenOf ls x : Int), (codeN ls x : Int)))
    (hB : Blk W3 g4 #[.int .i64 (L : Int), .int .i64 (C : Int)] 68) (hu : Upd (fun b => b = g4) W W3) :
    WoI w ls A c g1 r g3 g4 (pre ++ [x]) ((W3.setCell ⟨r, x * 2, none⟩ (.int .i64 (L : Int))).setCell ⟨r, x * 2 + 1, none⟩ (.int .i64 (C : Int))) ∧
      Upd (fun b => b = g4 ∨ b = r) W ((W3.setCell ⟨r, x * 2, none⟩ (.int .i64 (L : Int))).setCell ⟨r, x * 2 + 1, none⟩ (.int .i64 (C : Int))) := by
  have hk : Keep (fun b => b ≠ g4) W W3 := hu.keep fun b h => h
  have hs : Upd (fun b => b = r) W3 ((W3.setCell ⟨r, x * 2, none⟩ (.int .i64 (L : Int))).setCell ⟨r, x * 2 + 1, none⟩ (.int .i64 (C : Int))) :=
    (Upd.setCell (fun b => b = r) W3 r (x * 2) _ rfl).trans (Upd.setCell (fun b => b = r) _ r (x * 2 + 1) _ rfl) fun _ _ h => h
  have hk2 : Keep (fun b => b ≠ r) W3 ((W3.setCell ⟨r, x * 2, none⟩ (.int .i64 (L : Int))).setCell ⟨r, x * 2 + 1, none⟩ (.int .i64 (C : Int))) := hs.keep fun b h => h
  have hr := ((h.row.keep hk (by omega)).set (x * 2) (.int .i64 (L : Int))).set (x * 2 + 1) (.int .i64 (C : Int))
  have hu2 : Upd (fun b => b = g4 ∨ b = r) W ((W3.setCell ⟨r, x * 2, none⟩ (.int .i64 (L : Int))).setCell ⟨r, x * 2 + 1, none⟩ (.int .i64 (C : Int))) :=
    (hu.weak (o' := fun b => b = g4 ∨ b = r) fun _ _ h => .inl h).trans (hs.weak (o' := fun b => b = g4 ∨ b = r) fun _ _ h => .inr h) fun _ _ h => h
  refine ⟨⟨(h.box.keep hk (by omega)).keep hk2 (by omega), ?_, (h.out.keep hk (by omega)).keep hk2 (by omega), ?_, ?_⟩, hu2⟩
  · rw [hon, ← flat2_set _ _ _ (by rw [outL_length]; exact hx), hL.1, hL.2]
    have e : (((flat2 (outL ls pre)).toArray.setIfInBounds (x * 2) (.int .i64 (L : Int))).setIfInBounds (x * 2 + 1) (.int .i64 (C : Int))) = (((flat2 (outL ls pre)).set (x * 2) (.int .i64 (L : Int))).set (x * 2 + 1) (.int .i64 (C : Int))).toArray := by simp
    rw [e] at hr
    exact hr
  · rw [hwn, hL.1, hL.2]; exact hB.keep hk2 (by omega)
  · have hlt := h.low.size
    exact h.low.trans (hu2.below hlt (fun b _ e => by rcases e with e | e <;> omega))
theorem WoI.drew {w W : World} {ls : List Int} {A : Option Addr} {c g1 r g3 g4 : Nat} {pre : List Nat} (h : WoI w ls A c g1 r g3 g4 pre W) : WoI w ls A c g1 r g3 g4 pre W.drew := ⟨h.box, h.row, h.out, h.cur, h.low.drew⟩
theorem words_keeps {w W W' : World} {ls : List Int} {A : Option Addr} {c g1 r g3 g4 : Nat} {pre : List Nat} (h : WoI w ls A c g1 r g3 g4 pre W) (hu : Upd (fun b => b = g4 ∨ b = r) W W') : KeepsOthers W W' :=
  ⟨hu.size, fun k x hx hc => (hu.blk k (Array.getElem?_eq_some_iff.1 hx).1 (fun e => by
    rcases e with rfl | rfl
    · rw [show W.heap[k]? = _ from h.cur] at hx; cases hx; cases hc
    · rw [show W.heap[k]? = _ from h.row] at hx; cases hx; cases hc)).trans hx⟩

set_option maxHeartbeats 4000000 in
set_option maxRecDepth 100000 in
theorem words_any (A : Option Addr) (c : Nat) (ls : List Int) (w : World) (hS : RI w A c ls) (hr : Right ls) :
    Calls Try.prog 50 #[.slice A ls.length c] w fun e w' => ∃ r, e = .returned (.slice (some ⟨r, 0, none⟩) ls.length ls.length) ∧ Blk w' r (flat2 (wordsL ls)).toArray 68 ∧ w.heap.size ≤ r ∧ Below w.heap.size w w' := by
  have hmk := make_words 65 68 Try.underlying65 infoW ls.length (by have := hr.len; omega)
  have HR := Lib.hid hr
  have HS := Lib.hid hS
  clear hr hS
  refine (callsIn_wide (n := 9)).1 ?_
  refine callsIn_of_wp_marks Try.func50 rfl trivial ?_ rfl
  simp only [Try.ntmps50, List.size_toArray, List.length_cons, List.length_nil, Nat.reduceAdd, Nat.reduceSub, Array.replicate_succ, Array.replicate_zero, List.push_toArray, List.append_toArray, List.nil_append, List.cons_append]
  gi_wp2_with (refine ⟨trivial, ?_⟩; gi_at_call 75; refine (callsIn_wide.2 (ordered_any _ _ _ _)).mono ?_; rintro e W3 ⟨gb, rfl, e1, e2, bB, b3⟩)
  clear hmk
  obtain ⟨g1, hg1⟩ : ∃ g1, w.heap.size = g1 := ⟨_, rfl⟩
  obtain ⟨r, hgr⟩ : ∃ r, g1 + 1 = r := ⟨_, rfl⟩
  obtain ⟨g3, hg3⟩ : ∃ g3, r + 1 = g3 := ⟨_, rfl⟩
  obtain ⟨g4, hg4⟩ : ∃ g4, g3 + 1 = g4 := ⟨_, rfl⟩
  have hI0 : WoI w ls A c g1 r g3 g4 [] W3 ∧ gb = g4 + 1 := by
    subst hg1 hgr hg3 hg4
    exact words_start b3 e1.out
  obtain ⟨hI0, hgb⟩ := hI0
  simp only [hg1, hgr, hg3, hg4]
  have lB := hI0.box.lt
  have lC := hI0.cur.lt
  have hz3 := e2.out
  have hS3 := (HS.out.weak (ok' := fun b => b < g1 ∨ b = gb) (fun b hb _ => .inl (by omega))).below hI0.low
  have HGB := Lib.hid hgb
  have HZ3 := Lib.hid hz3
  have HG := Lib.hid (show w.heap.size = g1 ∧ g1 + 1 = r ∧ r + 1 = g3 ∧ g3 + 1 = g4 from ⟨hg1, hgr, hg3, hg4⟩)
  have hlt1 : g1 < r ∧ r < g3 ∧ g3 < g4 ∧ g4 < gb ∧ gb < W3.heap.size := by omega
  clear e1 e2 b3
  refine range_next rfl (by decide) (gf := 86) (lb := #[.pointer (some ⟨gb, 0, none⟩)]) rfl trivial (enters_of Try.func86 (by kernel_rfl) rfl)
    (ordered1_yields gb A c ls W3 (fun b => b < g1 ∨ b = gb) hS3 bB (.inr rfl) 8 (by decide)) (fun r h => h.elim) (fun r h => by omega) (Below.refl _ _) (fun _ => rfl)
    (fun pre W => WoI w ls A c g1 r g3 g4 pre W) (fun _ _ _ => False) ?hI (fun _ _ _ _ _ h _ _ => h) hI0
    (fun x a' W => a' = { tmps := (.slice A ls.length c :: .pointer (some ⟨g1, 0, none⟩) :: .slice none 0 0 :: .pointer (some ⟨g3, 0, none⟩) :: .pointer (some ⟨g4, 0, none⟩) :: .int .i64 (x : Int) :: .slice A ls.length c :: .int .i64 ls.length :: .slice (some ⟨r, 0, none⟩) ls.length ls.length :: .agg #[.int .i64 0, .int .i64 0] :: .slice A ls.length c :: .func (.func 86) #[] #[.pointer (some ⟨gb, 0, none⟩)] :: .int .i64 (x : Int) :: undef :: undef :: undef :: undef :: undef :: undef :: undef :: undef :: undef :: undef :: undef :: undef :: undef :: undef :: undef :: undef :: undef :: undef :: undef :: undef :: undef :: undef :: undef :: undef :: undef :: undef :: undef :: []).toArray, defers := [] })
    (fun _ _ _ _ _ _ h _ _ => h) ?assign ?body ?done (fun _ _ _ _ _ _ h _ => h.elim)
  case hI =>
    rintro s X Y row hs hg hr
    have hO : Other X row := fun r e => by
      rcases hr r e with h | ⟨_, x, hx, hc⟩
      · exact h.elim
      · exact ⟨x, hx, hc⟩
    refine ⟨hs.box.firm hg hO, hs.row.firm hg hO, hs.out.firm hg hO, hs.cur.firm hg hO, below_grown hs.low hs.low.size hg (fun k e => ?_)⟩
    rcases hr k e with h | ⟨h, _⟩
    · exact h.elim
    · omega
  case assign =>
    clear hg1 hgr hg3 hg4 hgb hz3
    intro l pre x W K hi _ hK
    gi_wp2
    exact hK _ _ (KeepsOthers.refl _ |>.from _) (Keep.refl _ _) hi rfl
  case body =>
    clear hg1 hgr hg3 hg4 hgb hz3
    rintro l pre x a' W hs rfl ⟨B, hB⟩
    have h16 := HR.out.ok.len16
    have hord : ordN ls = pre ++ x :: B := by rw [← hB, List.append_assoc]; rfl
    obtain ⟨hxl, hxp⟩ := (mem_ordN h16 x).1 (by rw [hord]; simp)
    have hcode := wN_code h16 pre B x hord
    have hle := wN_le h16 pre B x hord
    have hlt := code_lt h16 HR.out.full hxl
    have hL16 := h16 x
    have hsn := wN_snoc ls pre x
    rw [hcode] at hsn
    have HON := Lib.hid (outL_snoc ls pre x hxl)
    obtain ⟨ad, rfl, hc⟩ := rd_int (HS.out.below hs.low) x hxl
    have hnx : nth 0 ls x = ((lenOf ls x : Nat) : Int) := by have := HR.out.ok.at x; unfold lenOf; omega
    rw [hnx] at hc
    have hblk : (ad.add x).block < w.heap.size := by
      obtain ⟨ad', cs, e', _, hl, _⟩ := HS.out.rd x hxl
      rw [add_block, Option.some.inj e']; exact hl
    have hcv : ∀ v, (W.setCell ⟨g4, 1, none⟩ v).cell? (ad.add x) = some (.int .i64 ((lenOf ls x : Nat) : Int)) := fun v => (Keep.of_grown1 (grown_setCell W g4 1 v)).cell (by have := HG.out; omega) hc
    clear hblk
    have k1 := hs.box.cell 0 rfl
    have k3 := hs.out.cell 0 rfl
    have k4 := hs.cur.cell 0 rfl
    have k5 := hs.cur.cell 1 rfl
    have f4 := hs.cur.free 0
    have f5 := hs.cur.free 1
    have HWI := Lib.hid hs
    obtain ⟨a, ha⟩ : ∃ a, (wN ls pre).1 = a := ⟨_, rfl⟩
    obtain ⟨b, hb⟩ : ∃ b, (wN ls pre).2 = b := ⟨_, rfl⟩
    obtain ⟨L, hL⟩ : ∃ L, lenOf ls x = L := ⟨_, rfl⟩
    obtain ⟨C, hC⟩ : ∃ C, codeN ls x = C := ⟨_, rfl⟩
    have hab : wN ls pre = (a, b) := by rw [← ha, ← hb]
    rw [hab, hL, hC] at hsn
    rw [ha] at k4 hle
    rw [hb] at k5
    rw [hL] at hc hle hlt hL16
    simp only [hL] at hcv
    rw [hC] at hlt
    obtain ⟨d, hd⟩ : ∃ d, L - a = d := ⟨_, rfl⟩
    have hw1 : IntKind.i64.wrap ((L : Int) - (a : Int)) = (d : Int) := by rw [IntWalk.i64_in _ (by omega)]; omega
    have HWN := Lib.hid hcode
    have HH := Lib.hid (show lenOf ls x = L ∧ codeN ls x = C from ⟨hL, hC⟩)
    have hpos := wN_pos h16 pre B x hord
    rw [hab] at hpos
    have h2L : 2 ^ L ≤ 65536 := by have := Nat.pow_le_pow_right (n := 2) (by decide) hL16; simpa using this
    have hra := hs.row.free (x * 2)
    have hrb := hs.row.free (x * 2 + 1)
    obtain ⟨va, hva⟩ : ∃ v, W.cell? ⟨r, x * 2, none⟩ = some v := ⟨_, hs.row.cell (x * 2) (by rw [List.getElem?_toArray]; exact (flat2_get _ x (by rw [outL_length]; exact hxl)).1)⟩
    obtain ⟨vb, hvb⟩ : ∃ v, W.cell? ⟨r, x * 2 + 1, none⟩ = some v := ⟨_, hs.row.cell (x * 2 + 1) (by rw [List.getElem?_toArray]; exact (flat2_get _ x (by rw [outL_length]; exact hxl)).2)⟩
    have hxi : (0 : Int) ≤ (x : Int) := by omega
    have hxn : (x : Int) < (ls.length : Int) := by omega
    have n1 : g1 ≠ g4 := by omega
    have n2 : g3 ≠ g4 := by omega
    have n3 : r ≠ g4 := by omega
    rcases hpos with hz | hz
    · injection hz with hz1 hz2
      subst hz1 hz2
      have hC0 : C = 0 := by unfold stepW at hsn; rw [if_pos rfl] at hsn; injection hsn
      subst hC0
      have hw2 : IntKind.i64.wrap ((0 : Int) * 2 ^ L) = 0 := by rw [Int.zero_mul]; rfl
      have hdL : d = L := by omega
      subst hdL
      have hd16 : (d : Int) ≤ 64 := by omega
      have hw1' : IntKind.i64.wrap (d : Int) = (d : Int) := IntWalk.i64_in _ (by omega)
      clear hcode hsn hab ha hb hL hC hd hlt hnx h16 hB hord hxp hS3 hI0 bB hs hcv
      gi_wp2
      refine wpIn_still_tail 15 (by kernel_rfl) (by kernel_rfl) (by kernel_rfl) ?_
      simp only [List.take_succ_cons, List.take_zero, List.drop_succ_cons, List.drop_zero]
      repeat still_step
      try refine wpStill_nil ?_
      rw [show IntKind.i64.wrap 0 = 0 from rfl]
      clear hw1 hw2 hw1'
      gi_wp2
      obtain ⟨W3', hW3'⟩ : ∃ W', (W.setCell ⟨g4, 0, none⟩ (.int .i64 (d : Int))).setCell ⟨g4, 1, none⟩ (.int .i64 0) = W' := ⟨_, rfl⟩
      have hB3 : Blk W3' g4 #[.int .i64 (d : Int), .int .i64 ((0 : Nat) : Int)] 68 := by rw [← hW3']; exact (HWI.out.cur.set 0 (.int .i64 (d : Int))).set 1 (.int .i64 0)
      rw [hW3']
      have hgg := HG.out
      have hu3 : Upd (fun b => b = g4) W W3' := by rw [← hW3']; exact (Upd.setCell (fun b => b = g4) _ g4 0 _ rfl).trans (Upd.setCell (fun b => b = g4) _ g4 1 _ rfl) fun _ _ h => h
      obtain ⟨hwo, huo⟩ := words_round HWI.out (by omega) (by omega) hxl HH.out HWN.out HON.out (W3 := W3') hB3 hu3
      have huo' := huo.trans (Upd.drew (fun b => b = g4 ∨ b = r) _) fun _ _ h => h
      exact ⟨(words_keeps HWI.out huo').from _, huo'.keep (fun i hi e => by rcases e with e | e <;> rcases hi with hi | hi <;> omega), hwo.drew⟩
    · have hCb : C = (b + 1) * 2 ^ d := by
        unfold stepW at hsn
        rw [if_neg (fun e => by injection e with h1 h2; have hz : 0 < a := hz; omega)] at hsn
        injection hsn with h1 h2
        rw [← hd, h2, hL]
      have hb16 : b + 1 ≤ 65536 := by
        have h1 : 1 ≤ 2 ^ d := Nat.one_le_two_pow
        have h3 : (b + 1) * 1 ≤ (b + 1) * 2 ^ d := Nat.mul_le_mul_left _ h1
        omega
      have hw2 : IntKind.i64.wrap (((b : Int) + 1) * 2 ^ d) = (C : Int) := by
        have e1 : (((b : Int) + 1) * 2 ^ d) = (C : Int) := by rw [hCb]; simp
        rw [e1]; exact IntWalk.i64_in _ (by omega)
      have hne : ((a : Int) == 0) = false := by rw [beq_eq_false_iff_ne]; have hz : 0 < a := hz; omega
      have hd16 : (d : Int) ≤ 64 := by omega
      clear hcode hsn hab ha hb hL hC hd hCb hlt hnx h16 hB hord hxp hS3 hI0 bB hs hz
      gi_wp2
      refine wpIn_still_tail 15 (by kernel_rfl) (by kernel_rfl) (by kernel_rfl) ?_
      simp only [List.take_succ_cons, List.take_zero, List.drop_succ_cons, List.drop_zero]
      repeat still_step
      try refine wpStill_nil ?_
      clear hw1 hw2 hne
      have hgg : W.cell? ⟨g4, 0, none⟩ = some (.int .i64 (a : Int)) := k4
      clear hcv
      gi_wp2
      clear hgg
      obtain ⟨W3', hW3'⟩ : ∃ W', ((W.setCell ⟨g4, 1, none⟩ (.int .i64 ((b : Int) + 1))).setCell ⟨g4, 0, none⟩ (.int .i64 (L : Int))).setCell ⟨g4, 1, none⟩ (.int .i64 (C : Int)) = W' := ⟨_, rfl⟩
      have hB3 : Blk W3' g4 #[.int .i64 (L : Int), .int .i64 (C : Int)] 68 := by rw [← hW3']; exact ((HWI.out.cur.set 1 (.int .i64 ((b : Int) + 1))).set 0 (.int .i64 (L : Int))).set 1 (.int .i64 (C : Int))
      rw [hW3']
      have hgg := HG.out
      have hu3 : Upd (fun b => b = g4) W W3' := by rw [← hW3']; exact ((Upd.setCell (fun b => b = g4) _ g4 1 _ rfl).trans (Upd.setCell (fun b => b = g4) _ g4 0 _ rfl) fun _ _ h => h).trans (Upd.setCell (fun b => b = g4) _ g4 1 _ rfl) fun _ _ h => h
      obtain ⟨hwo, huo⟩ := words_round HWI.out (by omega) (by omega) hxl HH.out HWN.out HON.out (W3 := W3') hB3 hu3
      have huo' := huo.trans (Upd.drew (fun b => b = g4 ∨ b = r) _) fun _ _ h => h
      exact ⟨(words_keeps HWI.out huo').from _, huo'.keep (fun i hi e => by rcases e with e | e <;> rcases hi with hi | hi <;> omega), hwo.drew⟩
  case done =>
    clear hg1 hgr hg3 hg4 hgb hz3
    rintro D xs W hD rfl hs hK
    have k3 := hs.out.cell 0 rfl
    have hO : Other W (some D) := fun r e => by cases e; exact ⟨_, hK, rfl⟩
    gi_wp2
    refine ⟨by simp, .inl ⟨_, _, rfl, run_takeDeferred hK, ?_⟩⟩
    refine ⟨_, results_tmp rfl _ _ _, _, rfl, ?_, by have := HG.out; omega, ?_⟩
    · rw [← outL_all HR.out.ok.len16]; exact hs.row.firm (grownBy_putObj' W D _) hO
    · exact below_grown hs.low hs.low.size (grownBy_putObj' W D _) (fun k e => by cases e; have := HG.out; omega)
end Go.Proofs.Ytlbgkkkcbnagbaa

namespace Go.Proofs.Ytlbgkkkcbnagbaa
open Go.RowKit

theorem rd_flat {W : World} {r : Nat} {xs : List (Int × Int)} {t : TypeId} (h : Blk W r (flat2 xs).toArray t) (j : Nat) (hj : j < xs.length) :
    W.cell? ⟨r, j * 2, none⟩ = some (.int .i64 (nth (0, 0) xs j).1) ∧ W.cell? ⟨r, j * 2 + 1, none⟩ = some (.int .i64 (nth (0, 0) xs j).2) := by
  obtain ⟨h0, h1⟩ := flat2_get xs j hj
  exact ⟨h.cell _ (by rw [List.getElem?_toArray]; exact h0), h.cell _ (by rw [List.getElem?_toArray]; exact h1)⟩

def codesL (ls : List Int) : List Int := (List.range ls.length).map fun i => (codeN ls i : Int)
def codesR (ls : List Int) : List Int := if checkN ls = 0 then codesL ls else []
theorem codesL_length (ls : List Int) : (codesL ls).length = ls.length := by simp [codesL]
theorem codesL_nth (ls : List Int) (i : Nat) (h : i < ls.length) : nth 0 (codesL ls) i = (codeN ls i : Int) := by
  rw [nth_eq 0 _ i (by rw [codesL_length]; exact h)]; simp [codesL]

set_option maxHeartbeats 1000000 in
set_option maxRecDepth 100000 in
theorem codes_any (A : Option Addr) (c : Nat) (ls : List Int) (w : World) (hS : RI w A c ls) :
    Calls Try.prog 17 #[.slice A ls.length c] w fun e w' => ∃ v, e = .returned (.tuple #[v, .int .i64 (checkN ls)]) ∧ OwnI 3 .i64 w.heap.size w' v (codesR ls) ∧ Below w.heap.size w w' := by
  by_cases h : checkN ls = 0
  · have hr := (checkN_right ls).1 h
    have hlen := hr.len
    have HC := Lib.hid (check_any A c ls w hS)
    have HX := Lib.hid h
    have HE := Lib.hid (show codesR ls = codesL ls by simp [codesR, h])
    have HR := Lib.hid hr
    have HS := Lib.hid hS
    clear h hr hS
    go_enter Try.func17, Try.ntmps17
    go_wp2_with (first
      | (go_at_call 19; refine HC.out.mono ?_; rintro e w2 ⟨rfl, b2⟩; rw [HX.out]; have HW := Lib.hid (words_any A c ls w2 (HS.out.below b2) HR.out))
      | (go_at_call 50; refine HW.out.mono ?_; rintro e w3 ⟨r, rfl, hB3, hr3, b3⟩))
    have b23 := below2 b2 b3
    have HB3 := Lib.hid hB3
    clear HW HC hB3
    go_loopw [5, 16] (fun v i wr => ∃ k : Nat, k ≤ ls.length ∧ i = .int .i64 k ∧ OwnI 3 .i64 w3.heap.size wr v ((codesL ls).take k) ∧ Below w3.heap.size w3 wr) (fun _ i _ => ls.length - (intOf i).toNat)
    case atStart => exact ⟨0, Nat.zero_le _, rfl, OwnI.nil _ _ _ _, Below.refl _ _⟩
    case round =>
      obtain ⟨k, hk, rfl, hO, hB⟩ := hrel
      by_cases hlt : k < ls.length
      · obtain ⟨hc0, hc1⟩ := rd_flat (HB3.out.below hB) k (by rw [wordsL_length]; exact hlt)
        rw [wordsL_nth _ _ hlt] at hc0 hc1
        have HT := Lib.hid (take_succ_nth 0 (codesL ls) k (by rw [codesL_length]; exact hlt))
        rw [codesL_nth _ _ hlt] at HT
        have hlk : ((codesL ls).take k).length ≤ k := by rw [List.length_take]; omega
        have HO := Lib.hid hO
        have hal := below_alloc (Below.refl wr.heap.size wr) (.cells #[.int .i64 (lenOf ls k : Int), .int .i64 (codeN ls k : Int)] 68)
        have HA := Lib.hid hal
        clear hO hal
        go_wp2_with (at_builtin; (refine append_one (w0 := w3) w3.heap.size rfl (.tmp 20) (.tmp 23) 22 3 .i64 8 rfl Try.underlying22 infoI (by decide) _ ((codesL ls).take k) (codeN ls k) rfl (by rw [World.size_alloc]; rfl) (HO.out.below HA.out) (hB.trans (HA.out.mono hB.size)) (by have := hB.size; have := HA.out.size; omega) (by omega) ?_); intro v1 w4 hO4 hB4 _ _)
        go_roundw
        case rel => exact ⟨k + 1, by omega, by go_num, by rw [HT.out]; exact hO4, hB4⟩
        case measure => simp [intOf]; omega
      · obtain rfl : k = ls.length := by omega
        have HT := Lib.hid (show (codesL ls).take ls.length = codesL ls by rw [List.take_of_length_le (by rw [codesL_length]; exact Nat.le_refl _)])
        rw [HT.out] at hO
        go_wp2
        go_ret2
        exact ⟨_, ret_two rfl (by rw [HX.out]; rfl), by rw [HE.out]; exact hO.mono b23.size, below2 b23 hB⟩
  · have HC := Lib.hid (check_any A c ls w hS)
    have hb : (checkN ls == 0) = false := by simpa using h
    have hb2 : (checkN ls != 0) = true := by simpa using h
    have HE := Lib.hid (show codesR ls = [] by simp [codesR, h])
    clear h
    go_enter Try.func17, Try.ntmps17
    go_wp2_with (go_at_call 19; refine HC.out.mono ?_; rintro e w2 ⟨rfl, b2⟩)
    go_ret2
    exact ⟨_, ret_two rfl rfl, by rw [HE.out]; exact OwnI.nil _ _ _ _, b2⟩

/-- What Write answers. -/
def writeE (ls : List Int) (n : Nat) (s : Int) : Int := if checkN ls ≠ 0 then checkN ls else if hasB ls s = false then 5 else fullE n (lenOf ls s.toNat)
def wordB (ls : List Int) (s : Int) : List Bool := if checkN ls ≠ 0 ∨ hasB ls s = false then [] else numB (codeN ls s.toNat) (lenOf ls s.toNat)
theorem hasB_spec {ls : List Int} {s : Int} (h : hasB ls s = true) : ∃ k : Nat, s = (k : Int) ∧ k < ls.length ∧ 0 < lenOf ls k := by
  simp only [hasB, Bool.and_eq_true, decide_eq_true_eq] at h
  obtain ⟨h0, h1, h2⟩ := h
  refine ⟨s.toNat, by omega, by omega, ?_⟩
  unfold lenOf; omega
theorem fullB_nil (bs : List Bool) (h : bs.length ≤ 1048576) : fullB bs [] = bs := by unfold fullB; rw [if_neg (by simp; omega)]; simp

set_option maxHeartbeats 2000000 in
set_option maxRecDepth 100000 in
theorem write_any (o : Nat → Prop) (g : Nat) (A : Option Addr) (c : Nat) (ls : List Int) (s : Int) (bs : List Bool) (w : World) (h : Wr o w g bs) (hl : bs.length ≤ 1048576) (hS : RI w A c ls) :
    Calls Try.prog 42 #[.pointer (some ⟨g, 0, none⟩), .slice A ls.length c, .int .i64 s] w
      fun e w' => e = .returned (.int .i64 (writeE ls bs.length s)) ∧ Wr (fun b => o b ∨ w.heap.size ≤ b) w' g (fullB bs (wordB ls s)) ∧ Upd o w w' := by
  have HC := Lib.hid (check_any A c ls w hS)
  have H := Lib.hid h
  have HF := Lib.hid (fullB_nil bs hl)
  clear h
  by_cases hck : checkN ls = 0
  · have hr := (checkN_right ls).1 hck
    have hlen := hr.len
    have HX := Lib.hid hck
    cases hh : hasB ls s
    · have HE := Lib.hid (show writeE ls bs.length s = 5 ∧ wordB ls s = [] by unfold writeE wordB; simp [hck, hh])
      have HB := Lib.hid hh
      clear hck hh hr
      go_enter Try.func42, Try.ntmps42
      go_wp2_with (first
        | (go_at_call 19; refine HC.out.mono ?_; rintro e w2 ⟨rfl, b2⟩; rw [HX.out]; have HH := Lib.hid (has_any A c ls s w2 (hS.below b2)))
        | (go_at_call 62; refine HH.out.mono ?_; rintro e w3 ⟨rfl, rfl⟩; rw [HB.out]))
      go_ret
      exact ⟨ret_int HE.out.1.symm, by rw [HE.out.2, HF.out]; exact (H.out.below b2).weak fun b _ h => .inl h, Upd.of_below b2 o⟩
    · obtain ⟨k, rfl, hk, hk0⟩ := hasB_spec hh
      have HE := Lib.hid (show writeE ls bs.length (k : Int) = fullE bs.length (lenOf ls k) ∧ wordB ls (k : Int) = numB (codeN ls k) (lenOf ls k) by unfold writeE wordB; simp [hck, hh])
      have HB := Lib.hid hh
      have h16 := hr.ok.len16 k
      have HL := Lib.hid (code_lt hr.ok.len16 hr.full hk)
      have HR := Lib.hid hr
      have hk0i : (0 : Int) ≤ (k : Int) := by omega
      have hkn : (k : Int) < (ls.length : Int) := by omega
      have HS := Lib.hid hS
      clear hck hh hr hS
      go_enter Try.func42, Try.ntmps42
      go_wp2_with (first
        | (go_at_call 19; refine HC.out.mono ?_; rintro e w2 ⟨rfl, b2⟩; rw [HX.out]; have HH := Lib.hid (has_any A c ls k w2 (HS.out.below b2)); have HW := Lib.hid (words_any A c ls w2 (HS.out.below b2) HR.out))
        | (go_at_call 62; refine HH.out.mono ?_; rintro e w3 ⟨rfl, rfl⟩; rw [HB.out])
        | (go_at_call 50; refine HW.out.mono ?_; rintro e w4 ⟨r, rfl, hB3, hr3, b3⟩; obtain ⟨hc0, hc1⟩ := rd_flat hB3 k (by rw [wordsL_length]; exact hk); rw [wordsL_nth _ _ hk] at hc0 hc1; clear hB3 HW HC HH; have b24 := below2 b2 b3; have HP := Lib.hid (wput_any (fun b => o b ∧ b < w.heap.size) g (codeN ls k) (lenOf ls k) bs (w4.alloc (.cells #[.int .i64 (lenOf ls k : Int), .int .i64 (codeN ls k : Int)] 68)) (H.out.cut.upd (o2 := fun _ => False) (Upd.of_below (below_alloc b24 _) _) (fun _ _ _ h => h)) hl (by omega) HL.out))
        | (go_at_call 63; refine HP.out.mono ?_; rintro e w5 ⟨rfl, hw5, hu5⟩))
      go_ret
      have b25 := below_alloc b24 (.cells #[.int .i64 (lenOf ls k : Int), .int .i64 (codeN ls k : Int)] 68)
      refine ⟨ret_int HE.out.1.symm, ?_, (Upd.of_below b25 o).trans (hu5.weak (o' := o) fun _ _ h => h.1) fun _ _ h => h⟩
      rw [HE.out.2]
      refine hw5.weak fun b _ h => ?_
      rcases h with h | h
      · exact .inl h.1
      · exact .inr (by have := b25.size; omega)
  · have hb : (checkN ls == 0) = false := by simpa using hck
    have hb2 : (checkN ls != 0) = true := by simpa using hck
    have HE := Lib.hid (show writeE ls bs.length s = checkN ls ∧ wordB ls s = [] by unfold writeE wordB; simp [hck])
    clear hck
    go_enter Try.func42, Try.ntmps42
    go_wp2_with (go_at_call 19; refine HC.out.mono ?_; rintro e w2 ⟨rfl, b2⟩)
    go_ret
    exact ⟨ret_int HE.out.1.symm, by rw [HE.out.2, HF.out]; exact (H.out.below b2).weak fun b _ h => .inl h, Upd.of_below b2 o⟩
end Go.Proofs.Ytlbgkkkcbnagbaa

namespace Go.Proofs.Ytlbgkkkcbnagbaa
open Go Go.RowKit Go.Maps

theorem laidW : laidOutB Try.prog = true := by kernel_rfl
theorem rowWd : (68 : TypeId) < Try.prog.types.size := of_decide_eq_true (by kernel_rfl)
theorem wideWd : (match Try.prog.underlying 68 with | some (.array _ _) | some (.struct _) => true | _ => false) = true := by kernel_rfl
theorem deepWd : Try.prog.keyTypeAt 3 68 = true := by kernel_rfl
set_option maxRecDepth 100000 in
theorem klawWd : WideMaps.KeyLaw Try.prog 68 := deep_law_laid laidW (m := 3) (by omega) rowWd deepWd wideWd
theorem lawWd : Keyed Try.prog 68 := Keyed.of_law klawWd
def klW (k : Nat × Nat) : Lit := .string (keyBytes [.int .i64 (k.1 : Int), .int .i64 (k.2 : Int)])
def WKey (k : Nat × Nat) : Prop := k.1 ≤ 100000000 ∧ k.2 ≤ 100000000
def kvW (k : Nat × Nat) : Value := .agg #[.int .i64 (k.1 : Int), .int .i64 (k.2 : Int)]
theorem wfN (n : Nat) (h : n ≤ 100000000) : (Lit.int .i64 (n : Int)).wf = true := by
  have h1 : IntKind.i64.min ≤ (n : Int) := by
    have : IntKind.i64.min = -9223372036854775808 := rfl
    omega
  simp [Lit.wf, h1]
  omega
theorem keyTypeWd : Try.prog.keyType 68 = true := by kernel_rfl
theorem cellsWd : Try.prog.cellsOf 68 = 2 := by kernel_rfl
theorem keyW {k : Nat × Nat} (h : WKey k) : keyOf Try.prog 68 (kvW k) = some (klW k) := by
  have h1 := wfN k.1 h.1
  have h2 := wfN k.2 h.2
  obtain ⟨n, hn⟩ : ∃ n, Try.prog.types.size = n + 1 := ⟨Try.prog.types.size - 1, by have : 0 < Try.prog.types.size := of_decide_eq_true (by kernel_rfl); omega⟩
  unfold keyOf
  have hl : Try.prog.keyLits (n + 1 + 1) 68 [.int .i64 (k.1 : Int), .int .i64 (k.2 : Int)] = some [.int .i64 (k.1 : Int), .int .i64 (k.2 : Int)] := by
    have hi : ∀ v, (Lit.int .i64 v).wf = true → Try.prog.keyLits (n + 1) 3 [.int .i64 v] = some [.int .i64 v] := fun v hv => by
      unfold Program.keyLits
      rw [Try.underlying3]
      simp [hv]
    unfold Program.keyLits
    rw [Try.underlying68]
    have hc3 : Try.prog.cellsOf 3 = 1 := by kernel_rfl
    simp [cellsWd, hc3, hi _ h1, hi _ h2]
  have hf : (kvW k).formed Try.prog 68 = true := by
    unfold kvW Value.formed
    rw [Try.underlying68]
    simp [cellsWd]
  have hcells : (kvW k).cells.toList = [.int .i64 (k.1 : Int), .int .i64 (k.2 : Int)] := rfl
  have hsz : Try.prog.types.size + 1 = n + 1 + 1 := by rw [hn]
  rw [Try.underlying68]
  simp only [keyTypeWd, hf, Bool.and_self, if_true, hcells, hsz, hl]
  rfl
theorem kvW_inj {k k' : Nat × Nat} (h : kvW k = kvW k') : k = k' := by
  unfold kvW at h
  simp at h
  exact Prod.ext (by omega) (by omega)
theorem klW_inj {k k' : Nat × Nat} (h : WKey k) (h' : WKey k') (e : klW k = klW k') : k = k' :=
  kvW_inj (lawWd.inj (keyW h) (e ▸ keyW h'))
theorem isKeyW {k : Nat × Nat} (h : WKey k) : WideAt.IsKeyLit (klW k) := lawWd.key (keyW h)

/-- A map from words to numbers. -/
def SymM (n : Nat) (w : World) (b : Nat) (f : Nat × Nat → Option Nat) : Prop :=
  ∃ D : DataW Unit, w.ownsMap Try.prog 68 (plainElem Try.prog 3) b n D ∧ IsMap D ∧ ∀ k, WKey k → Maps.has D (klW k) = (f k).isSome ∧ ∀ x, f k = some x → D.atKey (klW k) (.lit (.int .i64 0)) = .lit (.int .i64 (x : Int))
/-- A set of words, kept as a map to bools. -/
def BegM (n : Nat) (w : World) (b : Nat) (f : Nat × Nat → Bool) : Prop :=
  ∃ D : DataW Unit, w.ownsMap Try.prog 68 (plainElem Try.prog 4) b n D ∧ IsMap D ∧ ∀ k, WKey k → D.atKey (klW k) (.lit (.bool false)) = .lit (.bool (f k))
section
variable {n b : Nat} {w w' : World} {f : Nat × Nat → Option Nat} {g : Nat × Nat → Bool}
theorem SymM.lt (h : SymM n w b f) : b < w.heap.size := let ⟨_, h, _⟩ := h; World.ownsMap.lt h
theorem BegM.lt (h : BegM n w b g) : b < w.heap.size := let ⟨_, h, _⟩ := h; World.ownsMap.lt h
theorem SymM.grown {row : Option Nat} (h : SymM n w b f) (hg : w.grownBy w' row) (hne : some b ≠ row) : SymM n w' b f := let ⟨D, h, r⟩ := h; ⟨D, World.ownsMap.kept h hg hne, r⟩
theorem BegM.grown {row : Option Nat} (h : BegM n w b g) (hg : w.grownBy w' row) (hne : some b ≠ row) : BegM n w' b g := let ⟨D, h, r⟩ := h; ⟨D, World.ownsMap.kept h hg hne, r⟩
theorem ownsMap_blk {P : Program} {k : TypeId} {R : Value → Option (DataW Unit × List MemPlace)} {D : DataW Unit} (h : w.ownsMap P k R b n D) (hb : w'.heap[b]? = w.heap[b]?) : w'.ownsMap P k R b n D := by
  obtain ⟨es, clock, h1, h2⟩ := h
  exact ⟨es, clock, hb.trans h1, h2⟩
theorem SymM.keep {ok : Nat → Prop} (h : SymM n w b f) (hk : Keep ok w w') (ho : ok b) : SymM n w' b f := let ⟨D, h1, r⟩ := h; ⟨D, ownsMap_blk h1 (hk.blk b h.lt ho), r⟩
theorem BegM.keep {ok : Nat → Prop} (h : BegM n w b g) (hk : Keep ok w w') (ho : ok b) : BegM n w' b g := let ⟨D, h1, r⟩ := h; ⟨D, ownsMap_blk h1 (hk.blk b h.lt ho), r⟩
theorem SymM.below (h : SymM n w b f) (hb : Below w.heap.size w w') : SymM n w' b f := let ⟨D, h1, r⟩ := h; ⟨D, ownsMap_blk h1 (hb.block b h.lt), r⟩
theorem BegM.below (h : BegM n w b g) (hb : Below w.heap.size w w') : BegM n w' b g := let ⟨D, h1, r⟩ := h; ⟨D, ownsMap_blk h1 (hb.block b h.lt), r⟩
theorem SymM.mono (h : SymM n w b f) {m : Nat} (hm : n ≤ m) : SymM m w b f := let ⟨D, h, r⟩ := h; ⟨D, World.ownsMap.mono h hm, r⟩
theorem BegM.mono (h : BegM n w b g) {m : Nat} (hm : n ≤ m) : BegM m w b g := let ⟨D, h, r⟩ := h; ⟨D, World.ownsMap.mono h hm, r⟩
end
theorem SymM.new (w : World) : SymM 0 (w.alloc (.map #[] 0)) w.heap.size (fun _ => none) :=
  ⟨_, World.ownsMap_made _ _ _ _, isMap_empty, fun k _ => ⟨rfl, fun x e => by cases e⟩⟩
theorem BegM.new (w : World) : BegM 0 (w.alloc (.map #[] 0)) w.heap.size (fun _ => false) :=
  ⟨_, World.ownsMap_made _ _ _ _, isMap_empty, fun _ _ => rfl⟩
theorem zeroI (w : World) : (zeroValue 3).run Try.prog w = .ok (.int .i64 0) w := by kernel_rfl
theorem zeroB (w : World) : (zeroValue 4).run Try.prog w = .ok (.bool false) w := by kernel_rfl
theorem underMS : Try.prog.underlying 86 = some (.map 68 3) := by kernel_rfl
theorem underMB : Try.prog.underlying 87 = some (.map 68 4) := by kernel_rfl
set_option maxRecDepth 100000 in
/-- 'm[k] = x'. -/
theorem SymM.put {n b : Nat} {w : World} {f : Nat × Nat → Option Nat} (h : SymM n w b f) (hn : n < 9000000000) (k : Nat × Nat) (hk : WKey k) (x : Nat) (hx : x ≤ 100000000) :
    ∃ w', (Instr.mapUpdate 86 (.map (some b)) (kvW k) (.int .i64 (x : Int))).run Try.prog w = .ok () w' ∧ SymM (n + 1) w' b (fun j => if j = k then some x else f j) ∧ w.grownBy w' (some b) := by
  obtain ⟨D, h1, h2, h3⟩ := h
  obtain ⟨w', hr, ho, hg⟩ := World.ownsMap.update h1 lawWd underMS (by unfold maxLen; omega) (keyW hk) (plainElem_int Try.underlying3 (wfN x hx))
  refine ⟨w', hr, ⟨_, ho, h2.put _ _, fun j hj => ?_⟩, hg⟩
  dsimp only
  by_cases e : j = k
  · subst e
    rw [if_pos rfl]
    exact ⟨by rw [has_put_same h2 (isKeyW hj)]; rfl, fun y hy => by rw [atKey_put_same h2 (isKeyW hj)]; cases hy; rfl⟩
  · have hne : klW j ≠ klW k := fun he => e (klW_inj hj hk he)
    rw [if_neg e, has_put_other hne, atKey_put_other hne]
    exact h3 j hj
set_option maxRecDepth 100000 in
theorem BegM.put {n b : Nat} {w : World} {g : Nat × Nat → Bool} (h : BegM n w b g) (hn : n < 9000000000) (k : Nat × Nat) (hk : WKey k) :
    ∃ w', (Instr.mapUpdate 87 (.map (some b)) (kvW k) (.bool true)).run Try.prog w = .ok () w' ∧ BegM (n + 1) w' b (fun j => if j = k then true else g j) ∧ w.grownBy w' (some b) := by
  obtain ⟨D, h1, h2, h3⟩ := h
  obtain ⟨w', hr, ho, hg⟩ := World.ownsMap.update h1 lawWd underMB (by unfold maxLen; omega) (keyW hk) (plainElem_bool Try.underlying4 true)
  refine ⟨w', hr, ⟨_, ho, h2.put _ _, fun j hj => ?_⟩, hg⟩
  dsimp only
  by_cases e : j = k
  · subst e
    rw [if_pos rfl, atKey_put_same h2 (isKeyW hj)]
  · have hne : klW j ≠ klW k := fun he => e (klW_inj hj hk he)
    rw [if_neg e, atKey_put_other hne]
    exact h3 j hj
set_option maxRecDepth 100000 in
/-- 'x, ok := m[k]'. -/
theorem SymM.look {n b : Nat} {w : World} {f : Nat × Nat → Option Nat} (h : SymM n w b f) (k : Nat × Nat) (hk : WKey k) :
    ∃ c : Int, (Instr.lookup 86 (.map (some b)) (kvW k) true).run Try.prog w = .ok (.tuple #[.int .i64 c, .bool (f k).isSome]) w ∧ ∀ x, f k = some x → c = (x : Int) := by
  obtain ⟨D, h1, h2, h3⟩ := h
  obtain ⟨v, ps, hr, hv⟩ := World.ownsMap.look_ok h1 lawWd underMS (zeroI w) (plainElem_int Try.underlying3 (by decide)) (keyW hk)
  obtain ⟨c, rfl, hc, hw⟩ := plainElem_int_inv Try.underlying3 hv
  obtain ⟨h4, h5⟩ := h3 k hk
  refine ⟨c, by rw [hr, h4], fun x hx => ?_⟩
  have e1 := h5 x hx
  have e2 : D.atKey (klW k) (.lit (.int .i64 0)) = .lit (.int .i64 c) := congrArg Prod.fst hc
  rw [e1] at e2
  injection e2 with e2
  injection e2 with _ e2
  exact e2.symm
set_option maxRecDepth 100000 in
/-- 'm[k]'. -/
theorem BegM.look {n b : Nat} {w : World} {g : Nat × Nat → Bool} (h : BegM n w b g) (k : Nat × Nat) (hk : WKey k) :
    (Instr.lookup 87 (.map (some b)) (kvW k) false).run Try.prog w = .ok (.bool (g k)) w := by
  obtain ⟨D, h1, h2, h3⟩ := h
  obtain ⟨v, ps, hr, hv⟩ := World.ownsMap.lookup h1 lawWd underMB (zeroB w) (plainElem_bool Try.underlying4 false) (keyW hk)
  rw [h3 k hk] at hv
  rw [hr]
  have : v = .bool (g k) := by
    unfold plainElem at hv
    rw [Try.underlying4] at hv
    cases v <;> simp at hv
    exact congrArg Value.bool hv.1
  rw [this]
end Go.Proofs.Ytlbgkkkcbnagbaa

namespace Go.Proofs.Ytlbgkkkcbnagbaa
open Go.RowKit

/-- Which symbol of the first k has a word. -/
def symF (ls : List Int) : Nat → Nat × Nat → Option Nat
  | 0, _ => none
  | k + 1, p => if 0 < lenOf ls k ∧ p = (lenOf ls k, codeN ls k) then some k else symF ls k p
/-- The beginnings of a word that are longer than m. -/
def begAt (L C m : Nat) (p : Nat × Nat) : Bool := decide (m < p.1 ∧ p.1 ≤ L ∧ p.2 = C / 2 ^ (L - p.1))
def begF (ls : List Int) : Nat → Nat × Nat → Bool
  | 0, _ => false
  | k + 1, p => begF ls k p || begAt (lenOf ls k) (codeN ls k) 0 p
theorem symF_no {ls : List Int} {k : Nat} (h : ¬ 0 < lenOf ls k) : symF ls (k + 1) = symF ls k := by
  funext p
  show (if 0 < lenOf ls k ∧ p = (lenOf ls k, codeN ls k) then some k else symF ls k p) = _
  rw [if_neg (fun e => h e.1)]
theorem symF_yes {ls : List Int} {k : Nat} (h : 0 < lenOf ls k) : symF ls (k + 1) = fun p => if p = (lenOf ls k, codeN ls k) then some k else symF ls k p := by
  funext p
  show (if 0 < lenOf ls k ∧ p = (lenOf ls k, codeN ls k) then some k else symF ls k p) = _
  by_cases e : p = (lenOf ls k, codeN ls k)
  · rw [if_pos ⟨h, e⟩, if_pos e]
  · rw [if_neg (fun h => e h.2), if_neg e]
theorem begAt_full (L C : Nat) (p : Nat × Nat) : begAt L C L p = false := decide_eq_false (by omega)
theorem begAt_step {L C m : Nat} (h : m < L) (p : Nat × Nat) : begAt L C m p = if p = (m + 1, C / 2 ^ (L - (m + 1))) then true else begAt L C (m + 1) p := by
  unfold begAt
  by_cases e : p = (m + 1, C / 2 ^ (L - (m + 1)))
  · subst e
    rw [if_pos rfl]
    exact decide_eq_true ⟨by show m < m + 1; omega, by show m + 1 ≤ L; omega, rfl⟩
  · rw [if_neg e]
    congr 1
    apply propext
    constructor
    · rintro ⟨h1, h2, h3⟩
      refine ⟨?_, h2, h3⟩
      rcases Nat.lt_or_ge (m + 1) p.1 with h4 | h4
      · exact h4
      · have h5 : p.1 = m + 1 := by omega
        exact absurd (Prod.ext h5 (by rw [h3, h5])) e
    · rintro ⟨h1, h2, h3⟩
      exact ⟨by omega, h2, h3⟩

structure OpI (w : World) (ls : List Int) (g2 bs bb g3 r : Nat) (k : Nat) (W : World) : Prop where
  res : Blk W g2 #[.map none, .map none] 89
  var : Blk W g3 #[.map (some bs), .map (some bb)] 89
  row : Blk W r (flat2 (wordsL ls)).toArray 68
  sym : SymM k W bs (symF ls k)
  beg : BegM (17 * k) W bb (begF ls k)
  low : Below w.heap.size w W

theorem open_start {w W3 : World} {ls : List Int} {r : Nat}
    (h : Below ((((w.alloc (.cells #[.map none, .map none] 89)).alloc (.map #[] 0)).alloc (.map #[] 0)).alloc (.cells #[.map (some (w.heap.size + 1)), .map (some (w.heap.size + 1 + 1))] 89)).heap.size
      ((((w.alloc (.cells #[.map none, .map none] 89)).alloc (.map #[] 0)).alloc (.map #[] 0)).alloc (.cells #[.map (some (w.heap.size + 1)), .map (some (w.heap.size + 1 + 1))] 89)) W3)
    (hr : ((((w.alloc (.cells #[.map none, .map none] 89)).alloc (.map #[] 0)).alloc (.map #[] 0)).alloc (.cells #[.map (some (w.heap.size + 1)), .map (some (w.heap.size + 1 + 1))] 89)).heap.size ≤ r)
    (hB : Blk W3 r (flat2 (wordsL ls)).toArray 68) :
    OpI w ls w.heap.size (w.heap.size + 1) (w.heap.size + 1 + 1) (w.heap.size + 1 + 1 + 1) r 0 W3 ∧ w.heap.size + 1 + 1 + 1 + 1 ≤ r := by
  obtain ⟨W1, h1⟩ : ∃ W1, w.alloc (.cells #[.map none, .map none] 89) = W1 := ⟨_, rfl⟩
  have a1 : Blk W1 w.heap.size #[.map none, .map none] 89 := h1 ▸ heap_alloc_new w _
  have s1 : W1.heap.size = w.heap.size + 1 := h1 ▸ World.size_alloc _ _
  have c1 : Below w.heap.size w W1 := h1 ▸ below_alloc (Below.refl _ _) _
  rw [h1] at h hr
  obtain ⟨W2, h2⟩ : ∃ W2, W1.alloc (.map #[] 0) = W2 := ⟨_, rfl⟩
  have a2 : SymM 0 W2 W1.heap.size (fun _ => none) := h2 ▸ SymM.new W1
  have s2 : W2.heap.size = W1.heap.size + 1 := h2 ▸ World.size_alloc _ _
  have c2 : Below W1.heap.size W1 W2 := h2 ▸ below_alloc (Below.refl _ _) _
  rw [h2] at h hr
  obtain ⟨W4, h4⟩ : ∃ W4, W2.alloc (.map #[] 0) = W4 := ⟨_, rfl⟩
  have a4 : BegM 0 W4 W2.heap.size (fun _ => false) := h4 ▸ BegM.new W2
  have s4 : W4.heap.size = W2.heap.size + 1 := h4 ▸ World.size_alloc _ _
  have c4 : Below W2.heap.size W2 W4 := h4 ▸ below_alloc (Below.refl _ _) _
  rw [h4] at h hr
  obtain ⟨W5, h5⟩ : ∃ W5, W4.alloc (.cells #[.map (some (w.heap.size + 1)), .map (some (w.heap.size + 1 + 1))] 89) = W5 := ⟨_, rfl⟩
  have a5 : Blk W5 W4.heap.size #[.map (some (w.heap.size + 1)), .map (some (w.heap.size + 1 + 1))] 89 := h5 ▸ heap_alloc_new W4 _
  have s5 : W5.heap.size = W4.heap.size + 1 := h5 ▸ World.size_alloc _ _
  have c5 : Below W4.heap.size W4 W5 := h5 ▸ below_alloc (Below.refl _ _) _
  rw [h5] at h hr
  rw [s4, s2, s1] at a5
  rw [s2, s1] at a4
  rw [s1] at a2
  exact ⟨⟨(((a1.below c2).below c4).below c5).below h, a5.below h, hB, ((a2.below c4).below c5).below h, (a4.below c5).below h, below2 (below2 (below2 (below2 c1 c2) c4) c5) h⟩, by omega⟩
/-- While the beginnings of one word are kept. -/
structure OpJ (w : World) (ls : List Int) (g2 bs bb g3 r g5 : Nat) (k m : Nat) (W : World) : Prop where
  res : Blk W g2 #[.map none, .map none] 89
  var : Blk W g3 #[.map (some bs), .map (some bb)] 89
  row : Blk W r (flat2 (wordsL ls)).toArray 68
  cur : Blk W g5 #[.int .i64 (m : Int), .int .i64 ((codeN ls k / 2 ^ (lenOf ls k - m) : Nat) : Int)] 68
  sym : SymM (k + 1) W bs (symF ls (k + 1))
  beg : BegM (17 * k + (lenOf ls k - m)) W bb (fun p => begF ls k p || begAt (lenOf ls k) (codeN ls k) m p)
  low : Below w.heap.size w W
theorem OpJ.keep {w W W' : World} {ls : List Int} {g2 bs bb g3 r g5 k m : Nat} (h : OpJ w ls g2 bs bb g3 r g5 k m W) {o : Nat → Prop} (hu : Upd o W W') (h1 : ¬ o g2) (h2 : ¬ o g3) (h3 : ¬ o r) (h4 : ¬ o bs) (hl : ∀ b, b < W.heap.size → o b → w.heap.size ≤ b) :
    Blk W' g2 #[.map none, .map none] 89 ∧ Blk W' g3 #[.map (some bs), .map (some bb)] 89 ∧ Blk W' r (flat2 (wordsL ls)).toArray 68 ∧ SymM (k + 1) W' bs (symF ls (k + 1)) ∧ Below w.heap.size w W' := by
  have hk : Keep (fun b => ¬ o b) W W' := hu.keep fun _ h => h
  exact ⟨h.res.keep hk h1, h.var.keep hk h2, h.row.keep hk h3, h.sym.keep hk h4, h.low.trans (hu.below h.low.size hl)⟩
theorem half_pow (C L m : Nat) (h : m < L) : C / 2 ^ (L - (m + 1)) / 2 = C / 2 ^ (L - m) := by
  rw [Nat.div_div_eq_div_mul, ← Nat.pow_succ, Nat.succ_eq_add_one, show L - (m + 1) + 1 = L - m by omega]

set_option maxHeartbeats 4000000 in
set_option maxRecDepth 100000 in
theorem open_any (A : Option Addr) (c : Nat) (ls : List Int) (w : World) (hS : RI w A c ls) (hr : Right ls) :
    Calls Try.prog 64 #[.slice A ls.length c] w fun e w' => ∃ bs bb, e = .returned (.agg #[.map (some bs), .map (some bb)]) ∧ w.heap.size ≤ bs ∧ w.heap.size ≤ bb ∧ bs ≠ bb ∧ SymM 256 w' bs (symF ls ls.length) ∧ BegM 5000 w' bb (begF ls ls.length) ∧ Below w.heap.size w w' := by
  have hmm := @run_makeMap Try.prog
  have hlen := hr.len
  have HR := Lib.hid hr
  have hb4 : Below w.heap.size w ((((w.alloc (.cells #[.map none, .map none] 89)).alloc (.map #[] 0)).alloc (.map #[] 0)).alloc (.cells #[.map (some (w.heap.size + 1)), .map (some (w.heap.size + 1 + 1))] 89)) :=
    below_alloc (below_alloc (below_alloc (below_alloc (Below.refl _ _) _) _) _) _
  have HW := Lib.hid (words_any A c ls _ (hS.below hb4) hr)
  clear hr hS hb4
  go_enter Try.func64, Try.ntmps64
  go_wp2_with (go_at_call 50; refine HW.out.mono ?_; rintro e w3 ⟨r, rfl, hB3, hr3, b3⟩)
  obtain ⟨hI0, hlt4⟩ := open_start b3 hr3 hB3
  obtain ⟨g2, hg2⟩ : ∃ g2, w.heap.size = g2 := ⟨_, rfl⟩
  obtain ⟨bs, hbs⟩ : ∃ bs, g2 + 1 = bs := ⟨_, rfl⟩
  obtain ⟨bb, hbb⟩ : ∃ bb, bs + 1 = bb := ⟨_, rfl⟩
  obtain ⟨g3, hg3⟩ : ∃ g3, bb + 1 = g3 := ⟨_, rfl⟩
  rw [hg2, hbs, hbb, hg3] at hI0 hlt4
  simp only [hg2, hbs, hbb, hg3]
  have HG := Lib.hid (show w.heap.size = g2 ∧ g2 + 1 = bs ∧ bs + 1 = bb ∧ bb + 1 = g3 ∧ g3 + 1 ≤ r from ⟨hg2, hbs, hbb, hg3, hlt4⟩)
  clear hmm HW b3 hr3 hB3 hlt4 hg2 hbs hbb hg3
  go_loopw [12] (fun i wr => ∃ k : Nat, k ≤ ls.length ∧ i = .int .i64 k ∧ OpI w ls g2 bs bb g3 r k wr) (fun i _ => ls.length - (intOf i).toNat)
  case atStart => exact ⟨0, Nat.zero_le _, rfl, hI0⟩
  case round =>
    clear hI0
    obtain ⟨k, hk, rfl, hI⟩ := hrel
    have v0 := hI.var.cell 0 rfl
    have v1 := hI.var.cell 1 rfl
    by_cases hlt : k < ls.length
    · obtain ⟨hc0, hc1⟩ := rd_flat hI.row k (by rw [wordsL_length]; exact hlt)
      rw [wordsL_nth _ _ hlt] at hc0 hc1
      by_cases hL0 : 0 < lenOf ls k
      · have h16 := HR.out.ok.len16 k
        have hC := code_lt HR.out.ok.len16 HR.out.full hlt
        have h2L : 2 ^ lenOf ls k ≤ 65536 := by have := Nat.pow_le_pow_right (n := 2) (by decide) h16; simpa using this
        have hal := below_alloc (Below.refl wr.heap.size wr) (.cells #[.int .i64 (lenOf ls k : Int), .int .i64 (codeN ls k : Int)] 68)
        have hB5 : Blk (wr.alloc (.cells #[.int .i64 (lenOf ls k : Int), .int .i64 (codeN ls k : Int)] 68)) wr.heap.size #[.int .i64 (lenOf ls k : Int), .int .i64 (codeN ls k : Int)] 68 := heap_alloc_new wr _
        obtain ⟨w1, hr1, hs1, hg1⟩ := (hI.sym.below hal).put (by omega) (lenOf ls k, codeN ls k) ⟨by show lenOf ls k ≤ _; omega, by show codeN ls k ≤ _; omega⟩ k (by omega)
        rw [← symF_yes hL0] at hs1
        have hgz := HG.out
        have l2 := hI.res.lt
        have l3 := hI.var.lt
        have l4 := hI.row.lt
        have l5 := hI.beg.lt
        have l6 := hI.sym.lt
        have hk1 : Keep (fun b => b ≠ bs) _ w1 := Keep.of_grown1 hg1
        have hJ : OpJ w ls g2 bs bb g3 r wr.heap.size k (lenOf ls k) w1 := by
          refine ⟨(hI.res.below hal).keep hk1 (by omega), (hI.var.below hal).keep hk1 (by omega), (hI.row.below hal).keep hk1 (by omega), ?_, hs1, ?_, below_grown (below2 hI.low hal) (below2 hI.low hal).size hg1 (fun j e => by have := Option.some.inj e; omega)⟩
          · rw [Nat.sub_self, Nat.pow_zero, Nat.div_one]; exact hB5.keep hk1 (by omega)
          · rw [Nat.sub_self]
            have e : (fun p => begF ls k p || begAt (lenOf ls k) (codeN ls k) (lenOf ls k) p) = begF ls k := by funext p; rw [begAt_full, Bool.or_false]
            rw [e]
            exact (hI.beg.below hal).keep hk1 (by omega)
        replace hr1 : (Instr.mapUpdate 86 (.map (some bs)) (.agg #[.int .i64 (lenOf ls k : Int), .int .i64 (codeN ls k : Int)]) (.int .i64 (k : Int))).run Try.prog (wr.alloc (.cells #[.int .i64 (lenOf ls k : Int), .int .i64 (codeN ls k : Int)] 68)) = .ok () w1 := hr1
        have HJ := Lib.hid hJ
        have HH := Lib.hid (show 0 < lenOf ls k ∧ lenOf ls k ≤ 16 ∧ codeN ls k < 65536 ∧ r < wr.heap.size ∧ g2 < bs ∧ bs < bb ∧ bb < g3 ∧ g3 < r ∧ w.heap.size ≤ g2 from ⟨hL0, h16, by omega, by omega, by omega, by omega, by omega, by omega, by omega⟩)
        have hcc0 := HJ.out.cur.cell 0 rfl
        have va0 := (hI.var.below hal).cell 0 rfl
        have va1 := (hI.var.below hal).cell 1 rfl
        clear hJ hI h16 hC h2L hal hB5 hs1 hg1 hgz l2 l3 l4 l5 l6 hk1
        go_wp2
        clear hr1 hcc0 hc0 hc1 v0 v1 va0 va1
        obtain ⟨g5, hg5⟩ : ∃ g5, wr.heap.size = g5 := ⟨_, rfl⟩
        rw [hg5] at HJ HH
        simp only [hg5]
        have HG5 := Lib.hid hg5
        clear hg5
        go_loopw [24] (fun _ wq => ∃ m : Nat, m ≤ lenOf ls k ∧ OpJ w ls g2 bs bb g3 r g5 k m wq) (fun _ wq => match wq.cell? ⟨g5, 0, none⟩ with | some (.int _ n) => n.toNat | _ => 0)
        case atStart => exact ⟨_, Nat.le_refl _, HJ.out⟩
        case round =>
          clear HJ
          obtain ⟨m, hm, hJ⟩ := hrel
          have v0 := hJ.var.cell 0 rfl
          have v1 := hJ.var.cell 1 rfl
          have c0 := hJ.cur.cell 0 rfl
          have c1 := hJ.cur.cell 1 rfl
          have f0 := hJ.cur.free 0
          have f1 := hJ.cur.free 1
          by_cases hm0 : 0 < m
          · obtain ⟨m', rfl⟩ : ∃ m', m = m' + 1 := ⟨m - 1, by omega⟩
            obtain ⟨q0, q1, q2, q3, q4, q5, q6, q7, q8⟩ := HH.out
            have hle := Nat.div_le_self (codeN ls k) (2 ^ (lenOf ls k - (m' + 1)))
            obtain ⟨w5, hr5, hs5, hg5⟩ := hJ.beg.put (by omega) (m' + 1, codeN ls k / 2 ^ (lenOf ls k - (m' + 1))) ⟨by show m' + 1 ≤ _; omega, by show codeN ls k / 2 ^ (lenOf ls k - (m' + 1)) ≤ _; omega⟩
            have hX := half_pow (codeN ls k) (lenOf ls k) m' (by omega)
            have hfun : (fun j => if j = (m' + 1, codeN ls k / 2 ^ (lenOf ls k - (m' + 1))) then true else (begF ls k j || begAt (lenOf ls k) (codeN ls k) (m' + 1) j)) = (fun p => begF ls k p || begAt (lenOf ls k) (codeN ls k) m' p) := by
              funext p
              rw [begAt_step (show m' < lenOf ls k by omega)]
              by_cases e : p = (m' + 1, codeN ls k / 2 ^ (lenOf ls k - (m' + 1)))
              · rw [if_pos e, if_pos e, Bool.or_true]
              · rw [if_neg e, if_neg e]
            rw [hfun] at hs5
            have u5 : Upd (fun b => b = bb) wr w5 := Upd.of_grown hg5 (fun r e => (Option.some.inj e).symm)
            obtain ⟨p1, p2, p3, p4, p5⟩ := hJ.keep u5 (by omega) (by omega) (by omega) (by omega) (fun b _ e => by omega)
            have p6 := hJ.cur.keep (u5.keep (ok := fun b => b ≠ bb) fun _ h => h) (by omega)
            obtain ⟨X, hXe⟩ : ∃ X, codeN ls k / 2 ^ (lenOf ls k - (m' + 1)) = X := ⟨_, rfl⟩
            obtain ⟨Y, hYe⟩ : ∃ Y, codeN ls k / 2 ^ (lenOf ls k - m') = Y := ⟨_, rfl⟩
            rw [hXe] at hr5 p6 c0 c1 hX hle
            rw [hYe] at hX
            replace hr5 : (Instr.mapUpdate 87 (.map (some bb)) (.agg #[.int .i64 ((m' + 1 : Nat) : Int), .int .i64 (X : Int)]) (.bool true)).run Try.prog wr = .ok () w5 := hr5
            have HX := Lib.hid hXe
            have HY := Lib.hid hYe
            have HP := Lib.hid (show _ ∧ _ ∧ _ ∧ _ ∧ _ ∧ _ ∧ _ from ⟨p1, p2, p3, p4, p5, p6, hs5⟩)
            have hXY : (X : Int) / 2 = (Y : Int) := by omega
            have k0 := p6.cell 0 rfl
            have k1 := p6.cell 1 rfl
            have fr0 := p6.free 0
            have fr1 := p6.free 1
            have HC0 := Lib.hid c0
            obtain ⟨M, hM⟩ : ∃ M, m' + 1 = M := ⟨_, rfl⟩
            have hw1 : IntKind.i64.wrap ((M : Int) - 1) = (m' : Int) := by rw [IntWalk.i64_in _ (by omega)]; omega
            rw [hM] at hr5 c0 c1 k0 k1 HC0 hm0
            have HM := Lib.hid hM
            have HM0 := Lib.hid hm0
            have HML := Lib.hid hm
            clear p1 p2 p3 p4 p5 p6 hs5 hXe hYe hX hfun hg5 u5 hJ hM hm
            have hM0 : (0 : Int) < (M : Int) := by omega
            clear hm0
            go_wp2
            go_roundw
            case rel =>
              obtain ⟨p1, p2, p3, p4, p5, p6, p7⟩ := HP.out
              have hu : Upd (fun b => b = g5) w5 ((w5.setCell ⟨g5, 0, none⟩ (.int .i64 (m' : Int))).setCell ⟨g5, 1, none⟩ (.int .i64 (Y : Int))) := (Upd.setCell (fun b => b = g5) _ g5 0 _ rfl).trans (Upd.setCell (fun b => b = g5) _ g5 1 _ rfl) fun _ _ h => h
              have hk5 : Keep (fun b => b ≠ g5) w5 _ := hu.keep fun _ h => h
              have hY := HY.out
              have hMM := HM.out
              have hML := HML.out
              have l1 := p4.lt
              refine ⟨m', by omega, p1.keep hk5 (by omega), p2.keep hk5 (by omega), p3.keep hk5 (by omega), ?_, p4.keep hk5 (by omega), ?_, p5.trans (hu.below p5.size (fun b _ e => by omega))⟩
              · rw [hY]; exact (p6.set 0 (.int .i64 (m' : Int))).set 1 (.int .i64 (Y : Int))
              · exact (p7.keep hk5 (by omega)).mono (by omega)
            case measure =>
              have hc := ((HP.out.2.2.2.2.2.1.set 0 (.int .i64 (m' : Int))).set 1 (.int .i64 (Y : Int))).cell 0 (v := .int .i64 (m' : Int)) rfl
              have hc2 : wr.cell? ⟨g5, 0, none⟩ = some (.int .i64 (M : Int)) := HC0.out
              rw [hc, hc2]
              show ((m' : Int)).toNat < ((M : Int)).toNat
              have := HM.out
              omega
          · obtain rfl : m = 0 := by omega
            have HJ := Lib.hid hJ
            clear hJ
            go_wp2
            go_roundw
            case rel =>
              refine ⟨k + 1, by omega, by go_num, ⟨HJ.out.res, HJ.out.var, HJ.out.row, HJ.out.sym, ?_, HJ.out.low⟩⟩
              have hb := HJ.out.beg.mono (m := 17 * (k + 1)) (by have := HH.out; omega)
              exact hb
            case measure => simp [intOf]; omega
      · have hL : lenOf ls k = 0 := by omega
        have HL := Lib.hid hL0
        rw [hL] at hc0
        have HI := Lib.hid hI
        clear hL hL0 hI
        go_wp2
        refine wp_loop_rounds 1 ?_
        rw [rounds_succ]
        go_wp2
        go_roundw
        case rel =>
          have hal := below_alloc (Below.refl wr.heap.size wr) (.cells #[.int .i64 ((0 : Nat) : Int), .int .i64 (codeN ls k : Int)] 68)
          have hI := HI.out
          refine ⟨k + 1, by omega, by go_num, ⟨hI.res.below hal, hI.var.below hal, hI.row.below hal, ?_, ?_, below2 hI.low hal⟩⟩
          · rw [symF_no HL.out]; exact (hI.sym.below hal).mono (by omega)
          · have e : begF ls (k + 1) = begF ls k := by
              funext p
              show (begF ls k p || begAt (lenOf ls k) (codeN ls k) 0 p) = _
              have : begAt (lenOf ls k) (codeN ls k) 0 p = false := decide_eq_false (by have := HL.out; omega)
              rw [this, Bool.or_false]
            rw [e]; exact (hI.beg.below hal).mono (by omega)
        case measure => simp [intOf]; omega
    · obtain rfl : k = ls.length := by omega
      have r0 := hI.res.cell 0 rfl
      have r1 := hI.res.cell 1 rfl
      have f0 := hI.res.free 0
      have f1 := hI.res.free 1
      have HI := Lib.hid hI
      clear hI
      go_wp2
      have z0 : ((wr.setCell ⟨g2, 0, none⟩ (.map (some bs))).setCell ⟨g2, 1, none⟩ (.map (some bb))).cell? ⟨g2, 0, none⟩ = some (.map (some bs)) := ((HI.out.res.set 0 (.map (some bs))).set 1 (.map (some bb))).cell 0 rfl
      have z1 : ((wr.setCell ⟨g2, 0, none⟩ (.map (some bs))).setCell ⟨g2, 1, none⟩ (.map (some bb))).cell? ⟨g2, 1, none⟩ = some (.map (some bb)) := ((HI.out.res.set 0 (.map (some bs))).set 1 (.map (some bb))).cell 1 rfl
      have hu : Upd (fun b => b = g2) wr ((wr.setCell ⟨g2, 0, none⟩ (.map (some bs))).setCell ⟨g2, 1, none⟩ (.map (some bb))) := (Upd.setCell (fun b => b = g2) _ g2 0 _ rfl).trans (Upd.setCell (fun b => b = g2) _ g2 1 _ rfl) fun _ _ h => h
      have hg := HG.out
      refine bodyPost_ret (v := .agg #[.map (some bs), .map (some bb)]) (by simp [results, Try.results64, go_sem, z0, z1]) rfl ⟨bs, bb, rfl, by omega, by omega, by omega, ?_, ?_, ?_⟩
      · exact (HI.out.sym.keep (hu.keep (ok := fun b => b ≠ g2) fun _ h => h) (by omega)).mono hlen
      · exact (HI.out.beg.keep (hu.keep (ok := fun b => b ≠ g2) fun _ h => h) (by omega)).mono (by omega)
      · exact HI.out.low.trans (hu.below HI.out.low.size (fun b _ e => by omega))
end Go.Proofs.Ytlbgkkkcbnagbaa

namespace Go.Proofs.Ytlbgkkkcbnagbaa
open Go.RowKit

/-- Bits read, one behind the other, till they are a word, or begin none: the symbol, the error, and how many bits. -/
def readF (S : Nat × Nat → Option Nat) (B : Nat × Nat → Bool) (bits : List Bool) : Nat → Nat → Int × Int × Nat
  | 0, _ => (0, 4, 0)
  | fuel + 1, n => if bits.length ≤ n then (0, 3, 0) else
    match S (n + 1, valB (bits.take (n + 1))) with
    | some s => ((s : Int), 0, n + 1)
    | none => if B (n + 1, valB (bits.take (n + 1))) = true then readF S B bits fuel (n + 1) else (0, 4, 0)
def readR (ls : List Int) (bits : List Bool) : Int × Int × Nat := readF (symF ls ls.length) (begF ls ls.length) bits 17 0
theorem begF_short {ls : List Int} (h16 : ∀ k, lenOf ls k ≤ 16) : ∀ (k : Nat) (p : Nat × Nat), begF ls k p = true → p.1 ≤ 16
  | 0, _, h => by cases h
  | k + 1, p, h => by
    simp only [begF, Bool.or_eq_true] at h
    rcases h with h | h
    · exact begF_short h16 k p h
    · have := of_decide_eq_true h
      have := h16 k
      omega
theorem readF_count (S : Nat × Nat → Option Nat) (B : Nat × Nat → Bool) (bits : List Bool) : ∀ (fuel n : Nat), n ≤ bits.length → (readF S B bits fuel n).2.2 ≤ bits.length
  | 0, _, _ => Nat.zero_le _
  | fuel + 1, n, h => by
    unfold readF
    split
    · exact Nat.zero_le _
    · split
      · show n + 1 ≤ _; omega
      · split
        · exact readF_count S B bits fuel (n + 1) (by omega)
        · exact Nat.zero_le _

set_option maxHeartbeats 400000 in
theorem back_any (o : Nat → Prop) (g g3 g6 i j : Nat) (er : Int) (l : List Bool) (w : World) (h : Rr o w g l j) (h3 : Blk w g3 #[.pointer (some ⟨g, 0, none⟩)] 41) (h6 : Blk w g6 #[.int .i64 (i : Int)] 3) (hi : i ≤ l.length) :
    Calls Try.prog 81 #[.int .i64 er, .pointer (some ⟨g3, 0, none⟩), .pointer (some ⟨g6, 0, none⟩)] w
      fun e w' => e = .returned (.tuple #[.int .i64 0, .int .i64 er]) ∧ Rr o w' g l i ∧ Upd (fun b => b = g) w w' := by
  have k3 := h3.cell 0 rfl
  have k6 := h6.cell 0 rfl
  have hs : seekI l j (i : Int) = i := by unfold seekI; rw [if_neg (by omega)]; simp
  have HC := Lib.hid (rseek_any o g j (i : Int) l w h)
  rw [hs] at HC
  clear h h3 h6 hs
  go_enter Try.func81, Try.ntmps81
  go_wp2_with (go_at_call 31; refine HC.out.mono ?_; rintro e w2 ⟨rfl, hr2, hu2⟩)
  go_ret2
  exact ⟨rfl, hr2, hu2⟩

structure RbI (o : Nat → Prop) (w : World) (ls : List Int) (l : List Bool) (g i bs bb g2 g3 g6 : Nat) (n g8 : Nat) (W : World) : Prop where
  rd : Rr o W g l (i + n)
  box : Blk W g2 #[.map (some bs), .map (some bb)] 89
  ptr : Blk W g3 #[.pointer (some ⟨g, 0, none⟩)] 41
  at_ : Blk W g6 #[.int .i64 (i : Int)] 3
  cur : Blk W g8 #[.int .i64 (n : Int), .int .i64 ((valB ((l.drop i).take n) : Nat) : Int)] 68
  sym : SymM 256 W bs (symF ls ls.length)
  beg : BegM 5000 W bb (begF ls ls.length)
  upd : Upd (fun b => b = g) w W
  low : g6 < g8
  run : readR ls (l.drop i) = readF (symF ls ls.length) (begF ls ls.length) (l.drop i) (17 - n) n
  n16 : n ≤ 16

theorem set_two (w : World) (g : Nat) (u v : Value) : Upd (fun b => b = g) w ((w.setCell ⟨g, 0, none⟩ u).setCell ⟨g, 1, none⟩ v) :=
  (Upd.setCell (fun b => b = g) w g 0 u rfl).trans (Upd.setCell (fun b => b = g) _ g 1 v rfl) fun _ _ h => h
theorem bread_start {o : Nat → Prop} {w : World} {ls : List Int} {l : List Bool} {g i bs bb : Nat} (h : Rr o w g l i) (hs : SymM 256 w bs (symF ls ls.length)) (hb : BegM 5000 w bb (begF ls ls.length)) (_ : bs ≠ g) (_ : bb ≠ g) :
    RbI o w ls l g i bs bb w.heap.size (w.heap.size + 1) (w.heap.size + 1 + 1) 0 (w.heap.size + 1 + 1 + 1) ((((w.alloc (.cells #[.map (some bs), .map (some bb)] 89)).alloc (.cells #[.pointer (some ⟨g, 0, none⟩)] 41)).alloc (.cells #[.int .i64 (i : Int)] 3)).alloc (.cells #[.int .i64 0, .int .i64 0] 68)) := by
  obtain ⟨W1, h1⟩ : ∃ W1, w.alloc (.cells #[.map (some bs), .map (some bb)] 89) = W1 := ⟨_, rfl⟩
  have a1 : Blk W1 w.heap.size #[.map (some bs), .map (some bb)] 89 := h1 ▸ heap_alloc_new w _
  have s1 : W1.heap.size = w.heap.size + 1 := h1 ▸ World.size_alloc _ _
  have c1 : Below w.heap.size w W1 := h1 ▸ below_alloc (Below.refl _ _) _
  rw [h1]
  obtain ⟨W2, h2⟩ : ∃ W2, W1.alloc (.cells #[.pointer (some ⟨g, 0, none⟩)] 41) = W2 := ⟨_, rfl⟩
  have a2 : Blk W2 W1.heap.size #[.pointer (some ⟨g, 0, none⟩)] 41 := h2 ▸ heap_alloc_new W1 _
  have s2 : W2.heap.size = W1.heap.size + 1 := h2 ▸ World.size_alloc _ _
  have c2 : Below W1.heap.size W1 W2 := h2 ▸ below_alloc (Below.refl _ _) _
  rw [h2]
  obtain ⟨W4, h4⟩ : ∃ W4, W2.alloc (.cells #[.int .i64 (i : Int)] 3) = W4 := ⟨_, rfl⟩
  have a4 : Blk W4 W2.heap.size #[.int .i64 (i : Int)] 3 := h4 ▸ heap_alloc_new W2 _
  have s4 : W4.heap.size = W2.heap.size + 1 := h4 ▸ World.size_alloc _ _
  have c4 : Below W2.heap.size W2 W4 := h4 ▸ below_alloc (Below.refl _ _) _
  rw [h4]
  obtain ⟨W5, h5⟩ : ∃ W5, W4.alloc (.cells #[.int .i64 0, .int .i64 0] 68) = W5 := ⟨_, rfl⟩
  have a5 : Blk W5 W4.heap.size #[.int .i64 0, .int .i64 0] 68 := h5 ▸ heap_alloc_new W4 _
  have c5 : Below W4.heap.size W4 W5 := h5 ▸ below_alloc (Below.refl _ _) _
  rw [h5]
  rw [s4, s2, s1] at a5
  rw [s2, s1] at a4
  rw [s1] at a2
  have hb : Below w.heap.size w W5 := below2 (below2 (below2 c1 c2) c4) c5
  exact ⟨by simpa using h.below hb, ((a1.below c2).below c4).below c5, (a2.below c4).below c5, a4.below c5, by simpa [valB] using a5, hs.below hb, by (have hb' := ‹BegM 5000 w bb (begF ls ls.length)›; exact hb'.below hb), Upd.of_below hb _, by omega, rfl, by omega⟩

set_option maxHeartbeats 4000000 in
set_option maxRecDepth 100000 in
theorem bread0 (o : Nat → Prop) (ls : List Int) (g i bs bb : Nat) (l : List Bool) (w : World) (ho : ∀ b, o b → b < w.heap.size) (h : Rr o w g l i) (hs : SymM 256 w bs (symF ls ls.length)) (hb : BegM 5000 w bb (begF ls ls.length)) (h16 : ∀ k, lenOf ls k ≤ 16) (nbs : bs ≠ g) (nbb : bb ≠ g) :
    Calls Try.prog 65 #[.agg #[.map (some bs), .map (some bb)], .pointer (some ⟨g, 0, none⟩)] w
      fun e w' => e = .returned (.tuple #[.int .i64 (readR ls (l.drop i)).1, .int .i64 (readR ls (l.drop i)).2.1]) ∧ Rr o w' g l (i + (readR ls (l.drop i)).2.2) ∧ Upd (fun b => b = g) w w' := by
  have HO := Lib.hid ho
  clear ho
  have hal := below_alloc (below_alloc (Below.refl w.heap.size w) (.cells #[.map (some bs), .map (some bb)] 89)) (.cells #[.pointer (some ⟨g, 0, none⟩)] 41)
  have HA := Lib.hid (rat_any o g i l _ (h.below hal))
  have H := Lib.hid h
  have HS := Lib.hid hs
  have HB := Lib.hid hb
  have H16 := Lib.hid h16
  clear h hs hb hal h16
  go_enter Try.func65, Try.ntmps65
  go_wp2_with (go_at_call 35; refine HA.out.mono ?_; rintro e w2 ⟨rfl, rfl⟩)
  have hI0 := bread_start H.out HS.out HB.out nbs nbb
  obtain ⟨g2, hg2⟩ : ∃ g2, w.heap.size = g2 := ⟨_, rfl⟩
  obtain ⟨g3, hg3⟩ : ∃ g3, g2 + 1 = g3 := ⟨_, rfl⟩
  obtain ⟨g6, hg6⟩ : ∃ g6, g3 + 1 = g6 := ⟨_, rfl⟩
  obtain ⟨g7, hg7⟩ : ∃ g7, g6 + 1 = g7 := ⟨_, rfl⟩
  have hgl : g < g2 ∧ bs < g2 ∧ bb < g2 := by have := H.out.lt; have := HS.out.lt; have := HB.out.lt; omega
  rw [hg2, hg3, hg6, hg7] at hI0
  simp only [hg2, hg3, hg6, hg7]
  have HG := Lib.hid (show w.heap.size = g2 ∧ g2 < g3 ∧ g3 < g6 ∧ g6 < g7 ∧ g < g2 ∧ bs < g2 ∧ bb < g2 from ⟨hg2, by omega, by omega, by omega, hgl.1, hgl.2.1, hgl.2.2⟩)
  clear HA hg2 hg3 hg6 hg7 hgl H HS HB
  go_loopw [8] (fun p wr => ∃ n g8 : Nat, p = .pointer (some ⟨g8, 0, none⟩) ∧ RbI o w ls l g i bs bb g2 g3 g6 n g8 wr) (fun p wr => match p with | .pointer (some a) => (match wr.cell? a with | some (.int _ n) => 17 - n.toNat | _ => 0) | _ => 0)
  case atStart => exact ⟨0, g7, rfl, hI0⟩
  case round =>
    clear hI0
    obtain ⟨n, g8, rfl, hI⟩ := hrel
    have b0 := hI.box.cell 0 rfl
    have b1 := hI.box.cell 1 rfl
    have p0 := hI.ptr.cell 0 rfl
    have c0 := hI.cur.cell 0 rfl
    have c1 := hI.cur.cell 1 rfl
    have f0 := hI.cur.free 0
    have f1 := hI.cur.free 1
    have hile := hI.rd.le
    have hn16 := hI.n16
    by_cases hsh : l.length < i + n + 1
    · have hE : getE l (i + n) 1 = 3 ∧ getV l (i + n) 1 = 0 ∧ getI l (i + n) 1 = i + n := by unfold getE getV getI; simp [hsh]
      have hC := rget_any o g (i + n) 1 l wr hI.rd (by decide)
      rw [hE.1, hE.2.1, hE.2.2] at hC
      have hres : readR ls (l.drop i) = (0, 3, 0) := by
        rw [hI.run, show 17 - n = (16 - n) + 1 by omega]
        unfold readF
        rw [if_pos (by rw [List.length_drop]; omega)]
      have HRS := Lib.hid hres
      have HC := Lib.hid hC
      have HI := Lib.hid hI
      have hgz := HG.out
      clear hI hE hC hres hsh
      go_wp2_with (first
        | (go_at_call 82; refine HC.out.mono ?_; rintro e w2 ⟨rfl, hr2, hu2⟩; have hk2 : Keep (fun b => b ≠ g) wr w2 := hu2.keep fun _ h => h; have HK := Lib.hid (back_any o g g3 g6 i (i + n) 3 l w2 hr2 (HI.out.ptr.keep hk2 (by have := HG.out; omega)) (HI.out.at_.keep hk2 (by have := HG.out; omega)) (by omega)))
        | (go_at_call 81; refine HK.out.mono ?_; rintro e w3 ⟨rfl, hr3, hu3⟩))
      go_ret2
      exact ⟨ret_two (by rw [HRS.out]; rfl) (by rw [HRS.out]; rfl), by rw [HRS.out]; exact hr3, (HI.out.upd.trans hu2 fun _ _ h => h).trans hu3 fun _ _ h => h⟩
    · have hE : getE l (i + n) 1 = 0 ∧ (getV l (i + n) 1 : Int) = b2i (nth false l (i + n)) ∧ getI l (i + n) 1 = i + n + 1 := by
        unfold getE getV getI
        rw [if_neg hsh, if_neg hsh, if_neg hsh]
        refine ⟨rfl, ?_, rfl⟩
        rw [drop_nth false l (i + n) (by omega)]
        simp [valB, b2i_nat]
      have hC := rget_any o g (i + n) 1 l wr hI.rd (by decide)
      rw [hE.1, hE.2.1, hE.2.2] at hC
      obtain ⟨x, hx⟩ : ∃ x, valB ((l.drop i).take n) = x := ⟨_, rfl⟩
      obtain ⟨b, hb⟩ : ∃ b, nth false l (i + n) = b := ⟨_, rfl⟩
      have hxl : x < 2 ^ n := by
        have := valB_lt ((l.drop i).take n)
        rw [hx, List.length_take, List.length_drop, Nat.min_eq_left (by omega)] at this
        exact this
      have h2n : 2 ^ n ≤ 65536 := by have := Nat.pow_le_pow_right (n := 2) (by decide) hn16; simpa using this
      have hV : valB ((l.drop i).take (n + 1)) = 2 * x + b.toNat := by
        rw [take_succ_nth false _ n (by rw [List.length_drop]; omega), valB_snoc, hx, nth_drop, hb]
      obtain ⟨V, hVe⟩ : ∃ V, 2 * x + b.toNat = V := ⟨_, rfl⟩
      rw [hVe] at hV
      have hbt := toNat_le b
      have hor := or_two x b (by omega)
      rw [hVe] at hor
      rw [hb] at hC
      rw [hx] at c1
      obtain ⟨N, hN⟩ : ∃ N, n + 1 = N := ⟨_, rfl⟩
      have hNi : (n : Int) + 1 = (N : Int) := by omega
      have hw1 : IntKind.i64.wrap ((n : Int) + 1) = (N : Int) := by rw [IntWalk.i64_in _ (by omega)]; omega
      have hw2 : IntKind.i64.wrap ((x : Int) * 2) = (x : Int) * 2 := IntWalk.i64_in _ (by omega)
      have hrun : readR ls (l.drop i) = match symF ls ls.length (N, V) with
          | some s => ((s : Int), 0, N)
          | none => if begF ls ls.length (N, V) = true then readF (symF ls ls.length) (begF ls ls.length) (l.drop i) (17 - N) N else (0, 4, 0) := by
        rw [hI.run, show 17 - n = (17 - N) + 1 by omega]
        conv => lhs; unfold readF
        rw [if_neg (by rw [List.length_drop]; omega), hV, hN]
      have hNV : WKey (N, V) := ⟨by show N ≤ _; omega, by show V ≤ _; omega⟩
      have HI := Lib.hid hI
      have HC := Lib.hid hC
      have HRUN := Lib.hid hrun
      have HV := Lib.hid hV
      have HN := Lib.hid hN
      have HNV := Lib.hid hNV
      have HX := Lib.hid hx
      have hgz := HG.out
      have hres : ∀ w2, Upd (fun j => j = g) wr w2 → ((w2.setCell ⟨g8, 0, none⟩ (.int .i64 (N : Int))).setCell ⟨g8, 1, none⟩ (.int .i64 (V : Int))).heap.size = w2.heap.size ∧
          Keep (fun j => j ≠ g ∧ j ≠ g8) wr ((w2.setCell ⟨g8, 0, none⟩ (.int .i64 (N : Int))).setCell ⟨g8, 1, none⟩ (.int .i64 (V : Int))) := fun w2 hu => by
        have ka : Keep (fun j => j ≠ g ∧ j ≠ g8) wr w2 := hu.keep fun _ h => h.1
        have kb : Keep (fun j => j ≠ g ∧ j ≠ g8) w2 (w2.setCell ⟨g8, 0, none⟩ (.int .i64 (N : Int))) := (Keep.of_grown1 (grown_setCell w2 g8 0 _)).weak fun j h => h.2
        have kc : Keep (fun j => j ≠ g ∧ j ≠ g8) (w2.setCell ⟨g8, 0, none⟩ (.int .i64 (N : Int))) ((w2.setCell ⟨g8, 0, none⟩ (.int .i64 (N : Int))).setCell ⟨g8, 1, none⟩ (.int .i64 (V : Int))) := (Keep.of_grown1 (grown_setCell _ g8 1 _)).weak fun j h => h.2
        exact ⟨by simp, (ka.trans kb).trans kc⟩
      have HRES := Lib.hid hres
      have hl8 := hI.low
      cases hsy : symF ls ls.length (N, V) with
      | some s =>
        have HSY := Lib.hid hsy
        clear hI hE hC hrun hV hN hNi hNV hres hsh hx hb hxl h2n hVe hbt hsy hile
        go_wp2_with fail
        refine HC.out.mono ?_
        rintro e w2 ⟨rfl, hr2, hu2⟩
        obtain ⟨hz2, hk2⟩ := HRES.out w2 hu2
        obtain ⟨c, hlk, hlc⟩ := (HI.out.sym.keep hk2 (by omega)).look (N, V) HNV.out
        rw [HSY.out] at hlk
        rw [hlc s HSY.out] at hlk
        replace hlk : (Instr.lookup 86 (.map (some bs)) (.agg #[.int .i64 (N : Int), .int .i64 (V : Int)]) true).run Try.prog ((w2.setCell ⟨g8, 0, none⟩ (.int .i64 (N : Int))).setCell ⟨g8, 1, none⟩ (.int .i64 (V : Int))) = .ok (.tuple #[.int .i64 (s : Int), .bool true]) ((w2.setCell ⟨g8, 0, none⟩ (.int .i64 (N : Int))).setCell ⟨g8, 1, none⟩ (.int .i64 (V : Int))) := hlk
        have kk := hu2.keep (ok := fun j => j ≠ g) fun _ h => h
        have d0 := (HI.out.cur.keep kk (by omega)).cell 0 rfl
        have d1 := (HI.out.cur.keep kk (by omega)).cell 1 rfl
        rw [HX.out] at d1
        have e0 := (HI.out.cur.keep kk (by omega)).free 0
        have e1 := (HI.out.cur.keep kk (by omega)).free 1
        have q0 := (HI.out.box.keep kk (by omega)).cell 0 rfl
        have q1 := (HI.out.box.keep kk (by omega)).cell 1 rfl
        have ng : g2 ≠ g8 := by omega
        clear kk hz2 hk2 hlc c0 c1 f0 f1 b0 b1
        go_wp2
        go_ret2
        have hR : readR ls (l.drop i) = ((s : Int), 0, N) := by rw [HRUN.out, HSY.out]
        have hset := set_two w2 g8 (.int .i64 (N : Int)) (.int .i64 (V : Int))
        refine ⟨ret_two (by rw [hR]; rfl) (by rw [hR]; rfl), ?_, ?_⟩
        · rw [hR]
          have hNN := HN.out
          have hr3 := hr2.upd hset (fun b _ h1 h2 => by have := HO.out b h1; omega)
          rw [show i + N = i + n + 1 by omega]
          exact hr3
        · exact ((HI.out.upd.trans hu2 fun _ _ h => h).weak (o' := fun b => b = g) fun _ _ h => h).trans hset (fun b hb e => by omega)
      | none =>
        have HSY := Lib.hid hsy
        cases hby : begF ls ls.length (N, V) with
        | false =>
          have HBY := Lib.hid hby
          clear hI hE hC hrun hV hN hNi hNV hres hsh hx hb hxl h2n hVe hbt hsy hile hby
          go_wp2_with fail
          refine HC.out.mono ?_
          rintro e w2 ⟨rfl, hr2, hu2⟩
          obtain ⟨hz2, hk2⟩ := HRES.out w2 hu2
          obtain ⟨c, hlk, hlc⟩ := (HI.out.sym.keep hk2 (by omega)).look (N, V) HNV.out
          rw [HSY.out] at hlk
          replace hlk : (Instr.lookup 86 (.map (some bs)) (.agg #[.int .i64 (N : Int), .int .i64 (V : Int)]) true).run Try.prog ((w2.setCell ⟨g8, 0, none⟩ (.int .i64 (N : Int))).setCell ⟨g8, 1, none⟩ (.int .i64 (V : Int))) = .ok (.tuple #[.int .i64 c, .bool false]) ((w2.setCell ⟨g8, 0, none⟩ (.int .i64 (N : Int))).setCell ⟨g8, 1, none⟩ (.int .i64 (V : Int))) := hlk
          have hlb := (HI.out.beg.keep hk2 (by omega)).look (N, V) HNV.out
          rw [HBY.out] at hlb
          replace hlb : (Instr.lookup 87 (.map (some bb)) (.agg #[.int .i64 (N : Int), .int .i64 (V : Int)]) false).run Try.prog ((w2.setCell ⟨g8, 0, none⟩ (.int .i64 (N : Int))).setCell ⟨g8, 1, none⟩ (.int .i64 (V : Int))) = .ok (.bool false) ((w2.setCell ⟨g8, 0, none⟩ (.int .i64 (N : Int))).setCell ⟨g8, 1, none⟩ (.int .i64 (V : Int))) := hlb
          have kk := hu2.keep (ok := fun j => j ≠ g) fun _ h => h
          have d0 := (HI.out.cur.keep kk (by omega)).cell 0 rfl
          have d1 := (HI.out.cur.keep kk (by omega)).cell 1 rfl
          rw [HX.out] at d1
          have e0 := (HI.out.cur.keep kk (by omega)).free 0
          have e1 := (HI.out.cur.keep kk (by omega)).free 1
          have q0 := (HI.out.box.keep kk (by omega)).cell 0 rfl
          have q1 := (HI.out.box.keep kk (by omega)).cell 1 rfl
          have ng : g2 ≠ g8 := by omega
          have hset := set_two w2 g8 (.int .i64 (N : Int)) (.int .i64 (V : Int))
          have hr3 := hr2.upd hset (fun b _ h1 h2 => by have := HO.out b h1; omega)
          have HR3 := Lib.hid hr3
          have HSET := Lib.hid hset
          clear kk hz2 hlc c0 c1 f0 f1 b0 b1 hset hr3
          have HKK := Lib.hid hk2
          have HK := Lib.hid (back_any o g g3 g6 i (i + n + 1) 4 l _ HR3.out (HI.out.ptr.keep hk2 ⟨by omega, by omega⟩) (HI.out.at_.keep hk2 ⟨by omega, by omega⟩) (by have := HR3.out.le; omega))
          clear hk2
          go_wp2_with (go_at_call 81; refine HK.out.mono ?_; rintro e w3 ⟨rfl, hr4, hu4⟩)
          go_ret2
          have hR : readR ls (l.drop i) = (0, 4, 0) := by rw [HRUN.out, HSY.out]; simp only; rw [HBY.out]; rfl
          refine ⟨ret_two (by rw [hR]; rfl) (by rw [hR]; rfl), by rw [hR]; exact hr4, ?_⟩
          exact (((HI.out.upd.trans hu2 fun _ _ h => h).weak (o' := fun b => b = g) fun _ _ h => h).trans HSET.out (fun b hb e => by omega)).trans hu4 fun _ _ h => h
        | true =>
          have HBY := Lib.hid hby
          have hN16 : N ≤ 16 := begF_short H16.out _ _ hby
          clear hI hE hC hrun hV hN hNi hNV hres hsh hx hb hxl h2n hVe hbt hsy hile hby
          go_wp2_with fail
          refine HC.out.mono ?_
          rintro e w2 ⟨rfl, hr2, hu2⟩
          obtain ⟨hz2, hk2⟩ := HRES.out w2 hu2
          obtain ⟨c, hlk, hlc⟩ := (HI.out.sym.keep hk2 (by omega)).look (N, V) HNV.out
          rw [HSY.out] at hlk
          replace hlk : (Instr.lookup 86 (.map (some bs)) (.agg #[.int .i64 (N : Int), .int .i64 (V : Int)]) true).run Try.prog ((w2.setCell ⟨g8, 0, none⟩ (.int .i64 (N : Int))).setCell ⟨g8, 1, none⟩ (.int .i64 (V : Int))) = .ok (.tuple #[.int .i64 c, .bool false]) ((w2.setCell ⟨g8, 0, none⟩ (.int .i64 (N : Int))).setCell ⟨g8, 1, none⟩ (.int .i64 (V : Int))) := hlk
          have hlb := (HI.out.beg.keep hk2 (by omega)).look (N, V) HNV.out
          rw [HBY.out] at hlb
          replace hlb : (Instr.lookup 87 (.map (some bb)) (.agg #[.int .i64 (N : Int), .int .i64 (V : Int)]) false).run Try.prog ((w2.setCell ⟨g8, 0, none⟩ (.int .i64 (N : Int))).setCell ⟨g8, 1, none⟩ (.int .i64 (V : Int))) = .ok (.bool true) ((w2.setCell ⟨g8, 0, none⟩ (.int .i64 (N : Int))).setCell ⟨g8, 1, none⟩ (.int .i64 (V : Int))) := hlb
          have kk := hu2.keep (ok := fun j => j ≠ g) fun _ h => h
          have d0 := (HI.out.cur.keep kk (by omega)).cell 0 rfl
          have d1 := (HI.out.cur.keep kk (by omega)).cell 1 rfl
          rw [HX.out] at d1
          have e0 := (HI.out.cur.keep kk (by omega)).free 0
          have e1 := (HI.out.cur.keep kk (by omega)).free 1
          have q0 := (HI.out.box.keep kk (by omega)).cell 0 rfl
          have q1 := (HI.out.box.keep kk (by omega)).cell 1 rfl
          have ng : g2 ≠ g8 := by omega
          have hset := set_two w2 g8 (.int .i64 (N : Int)) (.int .i64 (V : Int))
          have hr3 := hr2.upd hset (fun b _ h1 h2 => by have := HO.out b h1; omega)
          have HR3 := Lib.hid hr3
          have HSET := Lib.hid hset
          clear kk hz2 hlc c0 c1 f0 f1 b0 b1 hset hr3
          have HKK := Lib.hid hk2
          clear hk2
          go_wp2
          go_roundw
          case rel =>
            have hNN := HN.out
            obtain ⟨W3, hW3⟩ : ∃ W3, (w2.setCell ⟨g8, 0, none⟩ (.int .i64 (N : Int))).setCell ⟨g8, 1, none⟩ (.int .i64 (V : Int)) = W3 := ⟨_, rfl⟩
            have hk2 := HKK.out
            have hset := HSET.out
            have hr3 := HR3.out
            rw [hW3] at hk2 hset hr3
            simp only [hW3]
            have hal := below_alloc (Below.refl W3.heap.size W3) (.cells #[.int .i64 (N : Int), .int .i64 (V : Int)] 68)
            have hnew : Blk (W3.alloc (.cells #[.int .i64 (N : Int), .int .i64 (V : Int)] 68)) W3.heap.size #[.int .i64 (N : Int), .int .i64 (V : Int)] 68 := heap_alloc_new W3 _
            have l6 := (HI.out.at_.keep hk2 ⟨by omega, by omega⟩).lt
            refine ⟨N, W3.heap.size, by simp [← hW3], ⟨?_, (HI.out.box.keep hk2 ⟨by omega, by omega⟩).below hal, (HI.out.ptr.keep hk2 ⟨by omega, by omega⟩).below hal, (HI.out.at_.keep hk2 ⟨by omega, by omega⟩).below hal, ?_, (HI.out.sym.keep hk2 ⟨by omega, by omega⟩).below hal, (HI.out.beg.keep hk2 ⟨by omega, by omega⟩).below hal, ?_, l6, ?_, hN16⟩⟩
            · rw [show i + N = i + n + 1 by omega]; exact hr3.below hal
            · have hVV := HV.out
              rw [hNN] at hVV
              rw [hVV]; exact hnew
            · exact (((HI.out.upd.trans hu2 fun _ _ h => h).weak (o' := fun b => b = g) fun _ _ h => h).trans hset (fun b hb e => by omega)).trans (Upd.of_below hal _) fun _ _ h => h
            · rw [HRUN.out, HSY.out]; simp only; rw [HBY.out]; rfl
          case measure =>
            have hNN := HN.out
            obtain ⟨W3, hW3⟩ : ∃ W3, (w2.setCell ⟨g8, 0, none⟩ (.int .i64 (N : Int))).setCell ⟨g8, 1, none⟩ (.int .i64 (V : Int)) = W3 := ⟨_, rfl⟩
            have hz : w2.heap.size = W3.heap.size := by simp [← hW3]
            have hnew : Blk (W3.alloc (.cells #[.int .i64 (N : Int), .int .i64 (V : Int)] 68)) W3.heap.size #[.int .i64 (N : Int), .int .i64 (V : Int)] 68 := heap_alloc_new W3 _
            have hc := hnew.cell 0 (v := .int .i64 (N : Int)) rfl
            have hc2 := HI.out.cur.cell 0 (v := .int .i64 (n : Int)) rfl
            rw [hW3, hz]
            simp only [hc, hc2]
            show 17 - ((N : Int)).toNat < 17 - ((n : Int)).toNat
            omega
theorem bread_any (o : Nat → Prop) (ls : List Int) (g i bs bb : Nat) (l : List Bool) (w : World) (h : Rr o w g l i) (hs : SymM 256 w bs (symF ls ls.length)) (hb : BegM 5000 w bb (begF ls ls.length)) (h16 : ∀ k, lenOf ls k ≤ 16) (nbs : bs ≠ g) (nbb : bb ≠ g) :
    Calls Try.prog 65 #[.agg #[.map (some bs), .map (some bb)], .pointer (some ⟨g, 0, none⟩)] w
      fun e w' => e = .returned (.tuple #[.int .i64 (readR ls (l.drop i)).1, .int .i64 (readR ls (l.drop i)).2.1]) ∧ Rr o w' g l (i + (readR ls (l.drop i)).2.2) ∧ Upd (fun b => b = g) w w' :=
  (bread0 (fun b => o b ∧ b < w.heap.size) ls g i bs bb l w (fun _ h => h.2) h.cut hs hb h16 nbs nbb).mono fun _ _ ⟨h1, h2, h3⟩ => ⟨h1, h2.weak fun _ _ h => h.1, h3⟩

/-- What Read answers: the symbol, the error, and how many bits are read. -/
def readL (ls : List Int) (bits : List Bool) : Int × Int × Nat := if checkN ls ≠ 0 then (0, checkN ls, 0) else readR ls bits

set_option maxHeartbeats 1000000 in
set_option maxRecDepth 100000 in
theorem read_any (o : Nat → Prop) (A : Option Addr) (c : Nat) (ls : List Int) (g i : Nat) (l : List Bool) (w : World) (h : Rr o w g l i) (hS : RI w A c ls) :
    Calls Try.prog 33 #[.pointer (some ⟨g, 0, none⟩), .slice A ls.length c] w
      fun e w' => e = .returned (.tuple #[.int .i64 (readL ls (l.drop i)).1, .int .i64 (readL ls (l.drop i)).2.1]) ∧ Rr o w' g l (i + (readL ls (l.drop i)).2.2) ∧ Upd (fun b => b = g) w w' := by
  have HC := Lib.hid (check_any A c ls w hS)
  have H := Lib.hid h
  clear h
  by_cases hck : checkN ls = 0
  · have hr := (checkN_right ls).1 hck
    have HX := Lib.hid hck
    have HE := Lib.hid (show readL ls (l.drop i) = readR ls (l.drop i) by unfold readL; rw [if_neg (by simp [hck])])
    have HR := Lib.hid hr
    have HS := Lib.hid hS
    clear hck hr hS
    go_enter Try.func33, Try.ntmps33
    go_wp2_with (first
      | (go_at_call 19; refine HC.out.mono ?_; rintro e w2 ⟨rfl, b2⟩; rw [HX.out]; have HO := Lib.hid (open_any A c ls w2 (HS.out.below b2) HR.out))
      | (go_at_call 64; refine HO.out.mono ?_; rintro e w3 ⟨bs, bb, rfl, z1, z2, z3, hs3, hb3, b3⟩; have b23 := below2 b2 b3; have hlt := H.out.lt; have HB := Lib.hid (bread_any o ls g i bs bb l w3 (H.out.below b23) hs3 hb3 HR.out.ok.len16 (by have := b2.size; omega) (by have := b2.size; omega)))
      | (go_at_call 65; refine HB.out.mono ?_; rintro e w4 ⟨rfl, hr4, hu4⟩))
    go_ret2
    exact ⟨ret_two (by rw [HE.out]; rfl) (by rw [HE.out]; rfl), by rw [HE.out]; exact hr4, (Upd.of_below b23 _).trans hu4 fun _ _ h => h⟩
  · have hb : (checkN ls == 0) = false := by simpa using hck
    have hb2 : (checkN ls != 0) = true := by simpa using hck
    have HE := Lib.hid (show readL ls (l.drop i) = (0, checkN ls, 0) by unfold readL; rw [if_pos hck])
    clear hck
    go_enter Try.func33, Try.ntmps33
    go_wp2_with (go_at_call 19; refine HC.out.mono ?_; rintro e w2 ⟨rfl, b2⟩)
    go_ret2
    exact ⟨ret_two (by rw [HE.out]; rfl) (by rw [HE.out]; rfl), by rw [HE.out]; exact H.out.below b2, Upd.of_below b2 _⟩
end Go.Proofs.Ytlbgkkkcbnagbaa

namespace Go.Proofs.Ytlbgkkkcbnagbaa
open Go.RowKit Go.Shelf

def encB (ls ss : List Int) : List Bool := ss.flatMap fun s => numB (codeN ls s.toNat) (lenOf ls s.toNat)
def noneS (ls ss : List Int) : Bool := ss.any fun s => !hasB ls s
/-- What Encode answers: the bits, and the error. -/
def encodeR (ls ss : List Int) : List Bool × Int := if checkN ls ≠ 0 then ([], checkN ls) else if noneS ls ss = true then ([], 5) else (encB ls ss, 0)
theorem encB_take {ls ss : List Int} {k : Nat} (h : k < ss.length) : encB ls (ss.take (k + 1)) = encB ls (ss.take k) ++ numB (codeN ls (nth 0 ss k).toNat) (lenOf ls (nth 0 ss k).toNat) := by
  rw [take_succ_nth 0 ss k h]; simp [encB]
theorem encB_len {ls : List Int} (h16 : ∀ k, lenOf ls k ≤ 16) (ss : List Int) : (encB ls ss).length ≤ 16 * ss.length := by
  induction ss with
  | nil => simp [encB]
  | cons s ss ih =>
    simp only [encB, List.flatMap_cons, List.length_append, numB_length, List.length_cons] at ih ⊢
    have := h16 s.toNat
    omega

set_option maxHeartbeats 400000 in
theorem encode1_any (g2 : Nat) (A : Option Addr) (c : Nat) (ls : List Int) (x : Int) (w : World) (hB : Blk w g2 #[.slice A ls.length c] 22) (hS : RI w A c ls) :
    Calls Try.prog 61 #[.int .i64 x, .pointer (some ⟨g2, 0, none⟩)] w fun e w' => e = .returned (.bool (!hasB ls x)) ∧ w = w' := by
  have k0 := hB.cell 0 rfl
  have HH := Lib.hid (has_any A c ls x w hS)
  clear hB hS
  go_enter Try.func61, Try.ntmps61
  go_wp2_with (go_at_call 62; refine HH.out.mono ?_; rintro e w2 ⟨rfl, rfl⟩)
  go_ret
  exact ⟨rfl, rfl⟩
theorem pred_encode1 {g2 : Nat} {A : Option Addr} {c : Nat} {ls : List Int} {w : World} (hB : Blk w g2 #[.slice A ls.length c] 22) (hS : RI w A c ls) :
    Pred Try.prog 61 #[.pointer (some ⟨g2, 0, none⟩)] (fun s => !hasB ls s) w := fun W hb x =>
  (encode1_any g2 A c ls x W (hB.below hb) (hS.below hb)).mono fun _ _ ⟨h1, h2⟩ => ⟨h1, h2 ▸ Below.refl _ _⟩

set_option maxHeartbeats 4000000 in
set_option maxRecDepth 100000 in
theorem encode_any (A B : Option Addr) (c d : Nat) (ls ss : List Int) (w : World) (hS : RI w A c ls) (hT : RI w B d ss) (hn : ss.length ≤ 60000) :
    Calls Try.prog 24 #[.slice A ls.length c, .slice B ss.length d] w
      fun e w' => ∃ v, e = .returned (.tuple #[v, .int .i64 (encodeR ls ss).1.length, .int .i64 (encodeR ls ss).2]) ∧ OwnI 5 .u8 w.heap.size w' v (packB (encodeR ls ss).1) ∧ Below w.heap.size w w' := by
  have hal := below_alloc (Below.refl w.heap.size w) (.cells #[.slice A ls.length c] 22)
  have hB2 : Blk (w.alloc (.cells #[.slice A ls.length c] 22)) w.heap.size #[.slice A ls.length c] 22 := heap_alloc_new w _
  have HC := Lib.hid (check_any A c ls _ (hS.below hal))
  by_cases hck : checkN ls = 0
  · have hr := (checkN_right ls).1 hck
    have HX := Lib.hid hck
    have HR := Lib.hid hr
    have HS := Lib.hid hS
    have HT := Lib.hid hT
    have HAL := Lib.hid hal
    have HB2 := Lib.hid hB2
    cases hno : noneS ls ss
    · have HE := Lib.hid (show encodeR ls ss = (encB ls ss, 0) by unfold encodeR; rw [if_neg (by simp [hck]), if_neg (by simp [hno])])
      have HN := Lib.hid hno
      clear hck hr hS hT hal hB2 hno
      go_enter Try.func24, Try.ntmps24
      go_wp2_with (first
        | (go_at_call 19; refine HC.out.mono ?_; rintro e w2 ⟨rfl, b2⟩; rw [HX.out]; have k2 := (HB2.out.below b2).cell 0 rfl; have HCF := Lib.hid (containsFunc_any B d ss 61 #[.pointer (some ⟨w.heap.size, 0, none⟩)] (fun s => !hasB ls s) w2 ((HT.out.below HAL.out).below b2) (enters_of Try.func61 (by kernel_rfl) rfl) (pred_encode1 (HB2.out.below b2) ((HS.out.below HAL.out).below b2))))
        | (go_at_call 51; refine HCF.out.mono ?_; rintro e w3 ⟨rfl, b3⟩; rw [show (ss.any fun s => !hasB ls s) = false from HN.out]; clear k2; have k3 := ((HB2.out.below b2).below b3).cell 0 rfl))
      have bw3 : Below w.heap.size w w3 := below2 (below2 HAL.out b2) b3
      have HS3 := Lib.hid (HS.out.below bw3)
      have HT3 := Lib.hid (HT.out.below bw3)
      obtain ⟨g2, hg2⟩ : ∃ g2, w.heap.size = g2 := ⟨_, rfl⟩
      simp only [hg2] at k3 ⊢
      have HBW := Lib.hid bw3
      have HG2 := Lib.hid hg2
      clear HC HCF b2 b3 bw3 hg2 HB2 HAL
      have HWN := Lib.hid wnew_any
      have HWO := Lib.hid (fun W (hB : Below w3.heap.size w3 W) => words_any A c ls W (HS3.out.below hB) HR.out)
      go_region_held3 (fun W => W.cell? ⟨g2, 0, none⟩ = some (.slice A ls.length c)) (first | go_keep | exact cell_below hbw (by assumption) | exact cell_below hbr (by assumption))
        (first
          | (go_at_call 39; refine (HWN.out _).mono ?_; rintro e w5 ⟨gw, rfl, hwr, hbw, hgw⟩)
          | (go_at_call 50; refine (HWO.out _ ?_).mono ?_; (first | exact (Below.refl _ _).drew | exact below2 (Below.refl _ _).drew hbw); rintro e w6 ⟨r, rfl, hBr, hgr, hbr⟩))
      have hw6 := hwr.below hbr
      have b36 : Below w3.heap.size w3 w6 := below2 (below2 (Below.refl w3.heap.size w3).drew hbw) hbr
      have hgw3 : w3.heap.size ≤ gw := hgw
      have hgr6 : gw < r := by have := hwr.lt; omega
      have hr6 := hBr.lt
      have HBB := Lib.hid (below2 HBW.out b36)
      have HT6 := Lib.hid ((HT.out.weak (ok' := fun b => b < w.heap.size) fun b hb _ => hb).below HBB.out)
      have HB6 := Lib.hid hBr
      have HW6 := Lib.hid hw6
      have HL16 := Lib.hid HR.out.ok.len16
      have hlen := HR.out.len
      have HGG := Lib.hid (show w.heap.size ≤ gw ∧ gw < r ∧ r < w6.heap.size from ⟨by have := HBW.out.size; omega, hgr6, hr6⟩)
      clear HWN HWO hwr hbw hgw hBr hgr hbr hw6 b36 hgw3 hgr6 hr6 k3
      go_wp2
      go_loopw [26] (fun i wr => ∃ k : Nat, k ≤ ss.length ∧ i = .int .i64 k ∧ Wr (fun b => b = gw ∨ w6.heap.size ≤ b) wr gw (encB ls (ss.take k)) ∧ Upd (fun b => b = gw) w6 wr) (fun i _ => ss.length - (intOf i).toNat)
      case atStart => exact ⟨0, Nat.zero_le _, rfl, by rw [List.take_zero]; exact HW6.out.weak fun b _ h => .inl h, Upd.refl _ _⟩
      case round =>
        obtain ⟨k, hk, rfl, hW, hU⟩ := hrel
        by_cases hlt : k < ss.length
        · have hgg := HGG.out
          have hkp : Keep (fun b => b ≠ gw) w6 wr := hU.keep fun b h => h
          obtain ⟨ad, rfl, hc⟩ := rd_int (HT6.out.keep (hkp.weak fun b h => by omega)) k hlt
          have hh : hasB ls (nth 0 ss k) = true := by
            have h1 := HN.out
            unfold noneS at h1
            rw [List.any_eq_false] at h1
            have := h1 _ (nth_mem 0 ss k hlt)
            simpa using this
          obtain ⟨x, hx, hxl, hx0⟩ := hasB_spec hh
          have hst := encB_take (ls := ls) hlt
          rw [hx] at hc hst
          rw [Int.toNat_natCast] at hst
          obtain ⟨q0, q1⟩ := rd_flat (HB6.out.keep hkp (by omega)) x (by rw [wordsL_length]; exact hxl)
          rw [wordsL_nth _ _ hxl] at q0 q1
          have h16 := HL16.out x
          have hel := encB_len HL16.out (ss.take k)
          have hkl : (ss.take k).length ≤ k := by rw [List.length_take]; omega
          have hfe : fullE (encB ls (ss.take k)).length (lenOf ls x) = 0 := by unfold fullE; rw [if_neg (by omega)]
          have hfb : fullB (encB ls (ss.take k)) (numB (codeN ls x) (lenOf ls x)) = encB ls (ss.take k) ++ numB (codeN ls x) (lenOf ls x) := by unfold fullB; rw [numB_length, if_neg (by omega)]
          have hP := fun W (hb : Below wr.heap.size wr W) => wput_any (fun b => b = gw ∨ w6.heap.size ≤ b) gw (codeN ls x) (lenOf ls x) (encB ls (ss.take k)) W (hW.below hb) (by omega) (by omega) (code_lt HL16.out HR.out.full hxl)
          rw [hfe, hfb] at hP
          have HP := Lib.hid hP
          have HST := Lib.hid hst
          have HU := Lib.hid hU
          have hx0i : (0 : Int) ≤ (x : Int) := by omega
          have hxn : (x : Int) < (ls.length : Int) := by omega
          clear hW hU hkp hh hx hst hel hkl hfe hfb hP h16
          go_wp2
          go_still_tail 11, (by kernel_rfl)
          change wpList _ _ _ _ _ (World.drew _)
          have HDR := Lib.hid ((Below.refl wr.heap.size wr).drew)
          go_wp2_with (go_at_call 63; refine (HP.out _ HDR.out).mono ?_; rintro e w7 ⟨rfl, hw7, hu7⟩)
          go_roundw
          case rel =>
            have hus := HU.out.size
            refine ⟨k + 1, by omega, by go_num, ?_, ?_⟩
            · rw [HST.out]
              refine hw7.weak fun b _ h => ?_
              rcases h with h | h
              · exact h
              · exact .inr (by have : wr.drew.heap.size = wr.heap.size := rfl; omega)
            · exact HU.out.trans ((Upd.drew (fun b => b = gw ∨ w6.heap.size ≤ b) wr).trans hu7 fun _ _ h => h) fun b hb h => by omega
          case measure => simp [intOf]; omega
        · obtain rfl : k = ss.length := by omega
          rw [List.take_length] at hW
          have hle := encB_len HL16.out ss
          have HB := Lib.hid (wbytes_any _ gw (encB ls ss) wr hW (by omega))
          have HW := Lib.hid hW
          have HU := Lib.hid hU
          clear hW hU
          go_wp2_with (first
            | (go_at_call 46; refine HB.out.mono ?_; rintro e w7 ⟨v7, rfl, hO7, b7⟩; have HLN := Lib.hid (wlen_any _ gw (encB ls ss) w7 (HW.out.below b7)))
            | (go_at_call 44; refine HLN.out.mono ?_; rintro e w8 ⟨rfl, rfl⟩))
          refine bodyPost_ret (v := .tuple #[v7, .int .i64 (encB ls ss).length, .int .i64 0]) (by simp [results, Try.results24, go_sem]) rfl ⟨v7, ?_, ?_, ?_⟩
          · rw [HE.out]
          · rw [HE.out]; exact hO7.mono (by have := HBB.out.size; have := HU.out.size; omega)
          · exact (HBB.out.trans (HU.out.below (by have := HBB.out.size; omega) fun b _ e => by have := HGG.out; omega)).trans (b7.mono (by have := HBB.out.size; have := HU.out.size; omega))
    · have HE := Lib.hid (show encodeR ls ss = ([], 5) by unfold encodeR; rw [if_neg (by simp [hck]), if_pos hno])
      have HN := Lib.hid hno
      clear hck hr hS hT hal hB2 hno
      go_enter Try.func24, Try.ntmps24
      go_wp2_with (first
        | (go_at_call 19; refine HC.out.mono ?_; rintro e w2 ⟨rfl, b2⟩; rw [HX.out]; have k2 := (HB2.out.below b2).cell 0 rfl; have HCF := Lib.hid (containsFunc_any B d ss 61 #[.pointer (some ⟨w.heap.size, 0, none⟩)] (fun s => !hasB ls s) w2 ((HT.out.below HAL.out).below b2) (enters_of Try.func61 (by kernel_rfl) rfl) (pred_encode1 (HB2.out.below b2) ((HS.out.below HAL.out).below b2))))
        | (go_at_call 51; refine HCF.out.mono ?_; rintro e w3 ⟨rfl, b3⟩; rw [show (ss.any fun s => !hasB ls s) = true from HN.out]; clear k2))
      refine bodyPost_ret (v := .tuple #[.slice none 0 0, .int .i64 0, .int .i64 5]) (by simp [results, Try.results24, go_sem]) rfl ⟨.slice none 0 0, ?_, ?_, below2 (below2 HAL.out b2) b3⟩
      · rw [HE.out]; rfl
      · rw [HE.out]; exact OwnI.nil _ _ _ _
  · have hb : (checkN ls == 0) = false := by simpa using hck
    have hb2 : (checkN ls != 0) = true := by simpa using hck
    have HE := Lib.hid (show encodeR ls ss = ([], checkN ls) by unfold encodeR; rw [if_pos hck])
    have HAL := Lib.hid hal
    clear hck hal hB2 hS hT
    go_enter Try.func24, Try.ntmps24
    go_wp2_with (go_at_call 19; refine HC.out.mono ?_; rintro e w2 ⟨rfl, b2⟩)
    refine bodyPost_ret (v := .tuple #[.slice none 0 0, .int .i64 0, .int .i64 (checkN ls)]) (by simp [results, Try.results24, go_sem]) rfl ⟨.slice none 0 0, ?_, ?_, below2 HAL.out b2⟩
    · rw [HE.out]; rfl
    · rw [HE.out]
      show OwnI _ _ _ _ _ (packB [])
      exact OwnI.nil _ _ _ _
end Go.Proofs.Ytlbgkkkcbnagbaa

namespace Go.Proofs.Ytlbgkkkcbnagbaa
open Go.RowKit

def decF (ls : List Int) : Nat → List Bool → List Int × Int
  | 0, _ => ([], 0)
  | c + 1, bits => if (readR ls bits).2.1 ≠ 0 then ([], (readR ls bits).2.1) else
    if (decF ls c (bits.drop (readR ls bits).2.2)).2 ≠ 0 then ([], (decF ls c (bits.drop (readR ls bits).2.2)).2) else ((readR ls bits).1 :: (decF ls c (bits.drop (readR ls bits).2.2)).1, 0)
def catD (xs : List Int) (d : List Int × Int) : List Int × Int := if d.2 ≠ 0 then ([], d.2) else (xs ++ d.1, 0)
/-- What Decode answers. -/
def decodeR (ls b : List Int) (n count : Int) : List Int × Int :=
  if checkN ls ≠ 0 then ([], checkN ls) else if openE b.length n = 1 ∨ count < 0 then ([], 1) else if openE b.length n ≠ 0 then ([], openE b.length n) else decF ls count.toNat (ofB b n.toNat)
theorem decF_snd (ls : List Int) : ∀ (c : Nat) (bits : List Bool), (decF ls c bits).2 ≠ 0 → decF ls c bits = ([], (decF ls c bits).2)
  | 0, _, h => absurd rfl h
  | c + 1, bits, h => by
    unfold decF at h ⊢
    split
    · rfl
    · split
      · rfl
      · rename_i h1 h2; rw [if_neg h1, if_neg h2] at h; exact absurd rfl h
theorem catD_nil (ls : List Int) (c : Nat) (bits : List Bool) : catD [] (decF ls c bits) = decF ls c bits := by
  unfold catD
  split
  · rename_i h; exact (decF_snd ls c bits h).symm
  · rename_i h
    have h0 : (decF ls c bits).2 = 0 := by simpa using h
    rw [List.nil_append]; exact Prod.ext rfl h0.symm
theorem catD_stop {ls : List Int} {c : Nat} {bits : List Bool} {xs : List Int} (h : (readR ls bits).2.1 ≠ 0) : catD xs (decF ls (c + 1) bits) = ([], (readR ls bits).2.1) := by
  unfold catD decF
  rw [if_pos h, if_pos (by exact h)]
theorem catD_step {ls : List Int} {c : Nat} {bits : List Bool} {xs : List Int} (h : (readR ls bits).2.1 = 0) : catD xs (decF ls (c + 1) bits) = catD (xs ++ [(readR ls bits).1]) (decF ls c (bits.drop (readR ls bits).2.2)) := by
  have hd : decF ls (c + 1) bits = if (decF ls c (bits.drop (readR ls bits).2.2)).2 ≠ 0 then ([], (decF ls c (bits.drop (readR ls bits).2.2)).2) else ((readR ls bits).1 :: (decF ls c (bits.drop (readR ls bits).2.2)).1, 0) := by
    conv => lhs; unfold decF
    rw [if_neg (by simp [h])]
  rw [hd]
  unfold catD
  by_cases h2 : (decF ls c (bits.drop (readR ls bits).2.2)).2 ≠ 0
  · rw [if_pos h2, if_pos h2, if_pos (by exact h2)]
  · rw [if_neg h2, if_neg h2, if_neg (by simp), List.append_assoc]; rfl
theorem readF_some (S : Nat × Nat → Option Nat) (B : Nat × Nat → Bool) (bits : List Bool) : ∀ (fuel n : Nat), (readF S B bits fuel n).2.1 = 0 → n < (readF S B bits fuel n).2.2
  | 0, n, h => by simp [readF] at h
  | fuel + 1, n, h => by
    unfold readF at h ⊢
    split
    · rename_i h1; rw [if_pos h1] at h; simp at h
    · rename_i h1
      rw [if_neg h1] at h
      split
      · show n < n + 1; omega
      · rename_i h2
        rw [h2] at h
        split
        · rename_i h3
          simp only [h3, if_true] at h
          have := readF_some S B bits fuel (n + 1) h
          omega
        · rename_i h3
          simp [h3] at h
theorem openE_cases (m : Nat) (n : Int) : openE m n = 0 ∨ openE m n = 1 ∨ openE m n = 2 := by 
  unfold openE; split
  · exact .inr (.inl rfl)
  · split
    · exact .inr (.inr rfl)
    · exact .inl rfl

structure DeI (w w5 : World) (o : Nat → Prop) (ls : List Int) (l : List Bool) (cn g g14 bs bb : Nat) (v : Value) (xs : List Int) (i : Nat) (W : World) : Prop where
  rd : Rr o W g l i
  own : OwnI 3 .i64 w5.heap.size W v xs
  box : Blk W g14 #[.map (some bs), .map (some bb)] 89
  sym : SymM 256 W bs (symF ls ls.length)
  beg : BegM 5000 W bb (begF ls ls.length)
  low : Below w.heap.size w W
  siz : w5.heap.size ≤ W.heap.size
  rel : decF ls cn l = catD xs (decF ls (cn - xs.length) (l.drop i))
  len : xs.length ≤ i
  cnt : xs.length ≤ cn

set_option maxHeartbeats 4000000 in
set_option maxRecDepth 100000 in
theorem decode_any (A B : Option Addr) (c d : Nat) (ls b : List Int) (n count : Int) (w : World) (hS : RI w A c ls) (hT : RY w B d b) (hb : ∀ x ∈ b, 0 ≤ x ∧ x < 256) (hm : b.length ≤ 1000000000000) :
    Calls Try.prog 27 #[.slice A ls.length c, .slice B b.length d, .int .i64 n, .int .i64 count] w
      fun e w' => ∃ v, e = .returned (.tuple #[v, .int .i64 (decodeR ls b n count).2]) ∧ OwnI 3 .i64 w.heap.size w' v (decodeR ls b n count).1 ∧ Below w.heap.size w w' := by
  have HC := Lib.hid (check_any A c ls w hS)
  by_cases hck : checkN ls = 0
  · have hr := (checkN_right ls).1 hck
    have HX := Lib.hid hck
    by_cases ho : openE b.length n = 0
    · obtain ⟨m, rfl⟩ : ∃ m : Nat, n = (m : Int) := by
        refine Int.eq_ofNat_of_zero_le ?_
        unfold openE at ho
        split at ho
        · cases ho
        · omega
      have h8 : m ≤ 8 * b.length ∧ m ≤ 1048576 := by
        unfold openE at ho
        split at ho
        · cases ho
        · split at ho
          · cases ho
          · omega
      have HO := Lib.hid (fun W (hB : Below w.heap.size w W) => ropen_ok B d b m W (hT.below hB) hb hm h8.1 h8.2)
      by_cases hc : count < 0
      · have HE := Lib.hid (show decodeR ls b (m : Int) count = ([], 1) by unfold decodeR; rw [if_neg (by simp [hck]), if_pos (.inr hc)])
        clear hck hr ho hb hS hT h8
        go_enter Try.func27, Try.ntmps27
        go_wp2_with (first
          | (go_at_call 19; refine HC.out.mono ?_; rintro e w2 ⟨rfl, b2⟩; rw [HX.out])
          | (go_at_call 29; refine (HO.out _ b2).mono ?_; rintro e w3 ⟨g, rfl, hr3, b3, hg3⟩))
        go_ret2
        refine ⟨.slice none 0 0, ret_two rfl (by rw [HE.out]; rfl), ?_, below2 b2 b3⟩
        rw [HE.out]; exact OwnI.nil _ _ _ _
      · obtain ⟨cn, rfl⟩ := Int.eq_ofNat_of_zero_le (show 0 ≤ count by omega)
        have hcd : decide ((cn : Int) < 0) = false := decide_eq_false (by omega)
        have HE := Lib.hid (show decodeR ls b (m : Int) (cn : Int) = decF ls cn (ofB b m) by unfold decodeR; rw [if_neg (by simp [hck]), if_neg (by simp [ho]), if_neg (by simp [ho])]; simp)
        have HL := Lib.hid (ofB_length b m)
        obtain ⟨l, hl⟩ : ∃ l, ofB b m = l := ⟨_, rfl⟩
        rw [hl] at HE HO HL
        have HR := Lib.hid hr
        have HS := Lib.hid hS
        have H8 := Lib.hid h8
        clear hck hr ho hb hS hT h8 hl hc
        go_enter Try.func27, Try.ntmps27
        go_wp2_with (first
          | (go_at_call 19; refine HC.out.mono ?_; rintro e w2 ⟨rfl, b2⟩; rw [HX.out])
          | (go_at_call 29; refine (HO.out _ b2).mono ?_; rintro e w3 ⟨g, rfl, hr3, b3, hg3⟩; have HOP := Lib.hid (open_any A c ls w3 (HS.out.below (below2 b2 b3)) HR.out))
          | (go_at_call 64; refine HOP.out.mono ?_; rintro e w4 ⟨bs, bb, rfl, z1, z2, z3, hs4, hb4, b4⟩))
        have hal := below_alloc (Below.refl w4.heap.size w4) (.cells #[.map (some bs), .map (some bb)] 89)
        have hg14 : Blk (w4.alloc (.cells #[.map (some bs), .map (some bb)] 89)) w4.heap.size #[.map (some bs), .map (some bb)] 89 := heap_alloc_new w4 _
        have hz5 : (w4.alloc (.cells #[.map (some bs), .map (some bb)] 89)).heap.size = w4.heap.size + 1 := World.size_alloc _ _
        have hr5 := ((hr3.below b4).below hal).cut
        have l3 := hr3.lt
        have l4 := hs4.lt
        have l5 := hb4.lt
        have hI0 : DeI w (w4.alloc (.cells #[.map (some bs), .map (some bb)] 89)) _ ls l cn g w4.heap.size bs bb (.slice none 0 0) [] 0 (w4.alloc (.cells #[.map (some bs), .map (some bb)] 89)) :=
          ⟨hr5, OwnI.nil _ _ _ _, hg14, hs4.below hal, hb4.below hal, below2 (below2 (below2 b2 b3) b4) hal, Nat.le_refl _, by rw [List.drop_zero, catD_nil]; rfl, Nat.le_refl _, Nat.zero_le _⟩
        obtain ⟨g14, hg⟩ : ∃ g14, w4.heap.size = g14 := ⟨_, rfl⟩
        obtain ⟨w5, hw5⟩ : ∃ w5, w4.alloc (.cells #[.map (some bs), .map (some bb)] 89) = w5 := ⟨_, rfl⟩
        have hlow : w.heap.size ≤ g ∧ g < w3.heap.size ∧ w3.heap.size ≤ bs ∧ w3.heap.size ≤ bb ∧ bs < g14 ∧ bb < g14 ∧ w2.heap.size ≤ g := ⟨by have := b2.size; omega, l3, z1, z2, by omega, by omega, hg3⟩
        rw [hw5] at hI0 hz5
        rw [hg] at hI0 hz5
        simp only [hg, hw5]
        have HG := Lib.hid (show (w.heap.size ≤ g ∧ g < w3.heap.size ∧ w3.heap.size ≤ bs ∧ w3.heap.size ≤ bb ∧ bs < g14 ∧ bb < g14 ∧ w2.heap.size ≤ g) ∧ w5.heap.size = g14 + 1 ∧ w.heap.size ≤ w2.heap.size from ⟨hlow, hz5, b2.size⟩)
        have HLB := Lib.hid hr3.bound
        clear hal hg14 hr5 l3 l4 l5 hg hw5 hlow hz5 hr3 hs4 hb4 z1 z2 z3 hg3 HOP HO HC
        go_loopw [13] (fun v wr => ∃ xs i, DeI w w5 (fun b => w2.heap.size ≤ b ∧ b < w5.heap.size) ls l cn g g14 bs bb v xs i wr) (fun v _ => match v with | .slice _ n _ => cn - n | _ => 0)
        case atStart => exact ⟨[], 0, hI0⟩
        case round =>
          clear hI0
          obtain ⟨xs, i, hI⟩ := hrel
          obtain ⟨Av, cv, rfl⟩ := hI.own.slice
          have q0 := hI.box.cell 0 rfl
          have q1 := hI.box.cell 1 rfl
          have hxl : xs.length ≤ 1048576 := by have := hI.len; have := hI.rd.le; have := HLB.out; omega
          by_cases hlt : xs.length < cn
          · have hd : decide (xs.length < cn) = true := decide_eq_true hlt
            have hgg := HG.out
            have hB := bread_any _ ls g i bs bb l wr hI.rd hI.sym hI.beg HR.out.ok.len16 (by omega) (by omega)
            obtain ⟨R, hR⟩ : ∃ R, readR ls (l.drop i) = R := ⟨_, rfl⟩
            rw [hR] at hB
            obtain ⟨c', hc'⟩ : ∃ c', cn - xs.length = c' + 1 := ⟨cn - xs.length - 1, by omega⟩
            by_cases he : R.2.1 = 0
            · have hst := catD_step (c := c') (xs := xs) (show (readR ls (l.drop i)).2.1 = 0 by rw [hR]; exact he)
              have hcnt := readF_some (symF ls ls.length) (begF ls ls.length) (l.drop i) 17 0 (by have h := he; rw [← hR] at h; exact h)
              have hrr : 0 < R.2.2 := by rw [← hR]; exact hcnt
              rw [hR, List.drop_drop] at hst
              rw [he] at hB
              have HB := Lib.hid hB
              have HI := Lib.hid hI
              have HST := Lib.hid hst
              have HRR := Lib.hid (show 0 < R.2.2 ∧ cn - xs.length = c' + 1 from ⟨hrr, hc'⟩)
              clear hB hI hst hcnt hrr hgg he hR hlt hc'
              go_wp2_with (first
                | (go_at_call 65; refine HB.out.mono ?_; rintro e w6 ⟨rfl, hr6, hu6⟩; have hk6 : Keep (fun b => b ≠ g) wr w6 := hu6.keep fun b h => h; have hO6 := ownI_keep HI.out.own hk6 (fun b e => by have := HI.out.own.base_le b e; have := HG.out; omega); have HO6 := Lib.hid hO6; clear hO6)
                | (at_builtin; (refine append_one (w0 := w6) w5.heap.size rfl (.tmp 54) (.tmp 56) 22 3 .i64 8 rfl Try.underlying22 infoI (by decide) _ xs R.1 rfl rfl HO6.out (Below.refl _ _) (by have := HI.out.siz; have := hu6.size; omega) (by omega) ?_); intro v7 w7 hO7 hB7 hg7 hat7))
              have hs1 := HI.out.siz
              obtain ⟨Av', cv', hv7⟩ := hO7.slice
              subst hv7
              go_roundw
              case rel =>
                have hgz := HG.out
                have hl6 := hr6.lt
                have hkb : Keep (fun b => b < w5.heap.size) w6 w7 := ⟨hB7.size, fun b hb h => hB7.block b h⟩
                refine ⟨xs ++ [R.1], i + R.2.2, hr6.keep hkb (fun b h => h.2), hO7, (HI.out.box.keep hk6 (by omega)).keep hkb (by omega), (HI.out.sym.keep hk6 (by omega)).keep hkb (by omega), (HI.out.beg.keep hk6 (by omega)).keep hkb (by omega), ?_, by have := hu6.size; have := hB7.size; omega, ?_, ?_, ?_⟩
                · exact (HI.out.low.trans (hu6.below (by have := HI.out.low.size; omega) fun b _ e => by omega)).trans (hB7.mono (by omega))
                · have h1 := HI.out.rel
                  have h2 := HRR.out
                  rw [h2.2, HST.out] at h1
                  rw [List.length_append, List.length_singleton, show cn - (xs.length + 1) = c' by omega]
                  exact h1
                · have h1 := HI.out.len; have h2 := HRR.out.1; simp; omega
                · have h2 := HRR.out.2; simp; omega
              case measure => have h2 := HRR.out.2; simp; omega
            · have hst := catD_stop (c := c') (xs := xs) (show (readR ls (l.drop i)).2.1 ≠ 0 by rw [hR]; exact he)
              rw [hR] at hst
              have hrel := hI.rel
              rw [hc', hst] at hrel
              have heb : (R.2.1 != 0) = true := by simpa using he
              have heb2 : (R.2.1 == 0) = false := by simpa using he
              have HB := Lib.hid hB
              have HI := Lib.hid hI
              have HRL := Lib.hid hrel
              clear hB hI hst hrel hR hc' he hgg
              go_wp2_with (go_at_call 65; refine HB.out.mono ?_; rintro e w6 ⟨rfl, hr6, hu6⟩)
              go_ret2
              have hgz := HG.out
              refine ⟨.slice none 0 0, ret_two rfl (by rw [HE.out, HRL.out]; rfl), by rw [HE.out, HRL.out]; exact OwnI.nil _ _ _ _, HI.out.low.trans (hu6.below (by have := HI.out.low.size; omega) fun b _ e => by omega)⟩
          · have hd : decide (xs.length < cn) = false := decide_eq_false hlt
            have hfin : decF ls cn l = (xs, 0) := by
              have h1 := hI.rel
              have h2 := hI.cnt
              rw [show cn - xs.length = 0 by omega] at h1
              rw [h1]; unfold catD decF; simp
            have HF := Lib.hid hfin
            have HI := Lib.hid hI
            clear hI hfin hlt
            go_wp2
            go_ret2
            have hgz := HG.out
            refine ⟨_, ret_two rfl (by rw [HE.out, HF.out]; rfl), by rw [HE.out, HF.out]; exact HI.out.own.mono (by have := b2.size; have := b3.size; have := b4.size; omega), HI.out.low⟩
    · have HO := Lib.hid (fun W => ropen_no B d b n W hm ho)
      rcases openE_cases b.length n with h0 | h1 | h2
      · exact absurd h0 ho
      · have HE := Lib.hid (show decodeR ls b n count = ([], 1) by unfold decodeR; rw [if_neg (by simp [hck]), if_pos (.inl h1)])
        rw [h1] at HO
        clear hck hr ho hb hS hT h1
        go_enter Try.func27, Try.ntmps27
        go_wp2_with (first
          | (go_at_call 19; refine HC.out.mono ?_; rintro e w2 ⟨rfl, b2⟩; rw [HX.out])
          | (go_at_call 29; refine (HO.out _).mono ?_; rintro e w3 ⟨rfl, rfl⟩))
        go_ret2
        refine ⟨.slice none 0 0, ret_two rfl (by rw [HE.out]; rfl), ?_, b2⟩
        rw [HE.out]; exact OwnI.nil _ _ _ _
      · rw [h2] at HO
        by_cases hc : count < 0
        · have HE := Lib.hid (show decodeR ls b n count = ([], 1) by unfold decodeR; rw [if_neg (by simp [hck]), if_pos (.inr hc)])
          clear hck hr ho hb hS hT h2
          go_enter Try.func27, Try.ntmps27
          go_wp2_with (first
            | (go_at_call 19; refine HC.out.mono ?_; rintro e w2 ⟨rfl, b2⟩; rw [HX.out])
            | (go_at_call 29; refine (HO.out _).mono ?_; rintro e w3 ⟨rfl, rfl⟩))
          go_ret2
          refine ⟨.slice none 0 0, ret_two rfl (by rw [HE.out]; rfl), ?_, b2⟩
          rw [HE.out]; exact OwnI.nil _ _ _ _
        · have HE := Lib.hid (show decodeR ls b n count = ([], 2) by unfold decodeR; rw [if_neg (by simp [hck]), if_neg (by rw [h2]; omega), if_pos (by rw [h2]; decide), h2])
          have hcd : decide (count < 0) = false := decide_eq_false hc
          clear hck hr ho hb hS hT h2 hc
          go_enter Try.func27, Try.ntmps27
          go_wp2_with (first
            | (go_at_call 19; refine HC.out.mono ?_; rintro e w2 ⟨rfl, b2⟩; rw [HX.out])
            | (go_at_call 29; refine (HO.out _).mono ?_; rintro e w3 ⟨rfl, rfl⟩))
          go_ret2
          refine ⟨.slice none 0 0, ret_two rfl (by rw [HE.out]; rfl), ?_, b2⟩
          rw [HE.out]; exact OwnI.nil _ _ _ _
  · have hb1 : (checkN ls == 0) = false := by simpa using hck
    have hb2 : (checkN ls != 0) = true := by simpa using hck
    have HE := Lib.hid (show decodeR ls b n count = ([], checkN ls) by unfold decodeR; rw [if_pos hck])
    clear hck hb hS hT
    go_enter Try.func27, Try.ntmps27
    go_wp2_with (go_at_call 19; refine HC.out.mono ?_; rintro e w2 ⟨rfl, b2⟩)
    go_ret2
    refine ⟨.slice none 0 0, ret_two rfl (by rw [HE.out]; rfl), ?_, b2⟩
    rw [HE.out]; exact OwnI.nil _ _ _ _
end Go.Proofs.Ytlbgkkkcbnagbaa
