/- prefix: words: what it returns, for any right lengths and memory. · section: sections as they lie; a row of sections of a call's own. · slices: Grow of nil, Concat, at lists of ints: what each call returns. · A drawn region whose last operation writes a cell that it has read: loads are taken first while that operation is still to come. · slices.Repeat of one element: what it returns. · prefix: Codes, Write: what each call returns. · The reference's prefix: Check, Complete, Cost: what each call returns. · The reference's prefix: Cost: what it returns. · The reference's prefix: Codes: what it returns. · Maps whose keys are words (a length and a number): what they tell, and what an update does. · prefix: open: which words a book has, and which begin one. · prefix: a book's read, Read: what each call returns, and where the reader is then. · prefix: Encode, Decode: what each call returns. · prefix: Decode: what it returns. · The reference's bits: Number, Of, Pack: what each call returns. · The reference's bits: a Writer: put, Append, Len, Bytes; Same: what each call returns, and what the writer has then. · The reference's bits: a Reader: Open, next, Take, At, Left, Seek: what each call returns, and where the reader is then. · The reference's prefix: word, Write, begins: what each call returns. · The reference's prefix: Write, begins: what each call returns. · The reference's prefix: read: what it returns. · The reference's prefix: Read: what it returns. · The reference's prefix: Encode: what it returns. · The reference's prefix: Decode: what it returns. · The reference's Ints: what it returns. -/
import Derived.Test.YtmcdgmiheklbeaaGreatDoorKa
import Derived.Test.YtmcdgmiheklbeaaGreatDoorKb
import Derived.Deep.RegionHeld
import Derived.StillTail
import Derived.WalkSmall
import Derived.Laws.CopyOwn
import Derived.Maps.OwnSet
import Derived.Maps.OwnOps
import Derived.DeepKeys4
import Derived.MapViews
import Derived.WideKeyArgs2
import Derived.Deep.RegionHeld3
namespace Go.Proofs.YtmcdgmiheklbeaaGreatDoor
open Go.RowKit
attribute [local go_sem] Oper.semAt_some

/-! ### Rows of two numbers each -/
def flat2 (xs : List (Int × Int)) : List Value := xs.flatMap fun p => [.int .i64 p.1, .int .i64 p.2]
theorem flat2_length (xs : List (Int × Int)) : (flat2 xs).length = xs.length * 2 := by
  induction xs with
  | nil => rfl
  | cons x xs ih => simp only [flat2, List.flatMap_cons, List.length_append, List.length_cons, List.length_nil] at ih ⊢; omega
theorem flat2_get (xs : List (Int × Int)) (j : Nat) (h : j < xs.length) : (flat2 xs)[j * 2]? = some (.int .i64 (nth (0, 0) xs j).1) ∧ (flat2 xs)[j * 2 + 1]? = some (.int .i64 (nth (0, 0) xs j).2) := by
  induction xs generalizing j with
  | nil => cases h
  | cons x xs ih =>
    cases j with
    | zero => simp [flat2, nth]
    | succ j =>
      have := ih j (by simpa using h)
      have e : (j + 1) * 2 = j * 2 + 1 + 1 := by omega
      rw [e]
      simpa [flat2, nth] using this
theorem flat2_set (xs : List (Int × Int)) (j : Nat) (p : Int × Int) (h : j < xs.length) : ((flat2 xs).set (j * 2) (.int .i64 p.1)).set (j * 2 + 1) (.int .i64 p.2) = flat2 (xs.set j p) := by
  induction xs generalizing j with
  | nil => cases h
  | cons x xs ih =>
    cases j with
    | zero => simp [flat2]
    | succ j =>
      have := ih j (by simpa using h)
      have e : (j + 1) * 2 = j * 2 + 1 + 1 := by omega
      rw [e]
      simpa [flat2] using this
theorem flat2_zero (n : Nat) : (madeCells #[.int .i64 0, .int .i64 0] (n * 2)) = (flat2 (List.replicate n (0, 0))).toArray := by
  apply Array.ext
  · simp [madeCells, flat2_length]
  · intro i h1 h2
    have hi : i < n * 2 := by simpa [madeCells] using h1
    have hz : ∀ j, nth (0, 0) (List.replicate n ((0 : Int), (0 : Int))) j = (0, 0) := fun j => by
      simp only [nth, List.getD_eq_getElem?_getD, List.getElem?_replicate]; split <;> rfl
    have key : (flat2 (List.replicate n (0, 0)))[i]? = some (.int .i64 0) := by
      rcases Nat.mod_two_eq_zero_or_one i with h | h
      · have := (flat2_get (List.replicate n (0, 0)) (i / 2) (by simp; omega)).1
        rw [hz, show i / 2 * 2 = i by omega] at this; exact this
      · have := (flat2_get (List.replicate n (0, 0)) (i / 2) (by simp; omega)).2
        rw [hz, show i / 2 * 2 + 1 = i by omega] at this; exact this
    have e2 : (flat2 (List.replicate n (0, 0))).toArray[i] = .int .i64 0 := by
      have := List.getElem?_eq_some_iff.1 key
      obtain ⟨_, h⟩ := this
      simpa using h
    rw [e2]
    rcases Nat.mod_two_eq_zero_or_one i with h | h <;> simp [madeCells, h]
theorem make_words (t e : TypeId) (ht : Tryz.prog.underlying t = some (.slice e)) (hinfo : (Tryz.prog.info? e).map (fun i => (i.zero, i.size, i.bytes)) = some (some (.agg #[.int .i64 0, .int .i64 0]), 2, 16)) (n : Nat) (hn : n ≤ 1000000) :
    ∀ W : World, (Instr.makeSlice t (.int .i64 (n : Int)) (.int .i64 (n : Int))).run Tryz.prog W = .ok (.slice (some ⟨W.heap.size, 0, none⟩) n n) (W.alloc (.cells (flat2 (List.replicate n (0, 0))).toArray e)) := by
  intro W
  obtain ⟨i0, hi, hzz⟩ := Option.map_eq_some_iff.1 hinfo
  simp only [Prod.mk.injEq] at hzz
  obtain ⟨hz0, hz1, hz2⟩ := hzz
  have := run_make (P := Tryz.prog) W t e i0 _ ht hi hz0 .i64 .i64 (n : Int) (n : Int) (by omega) (by omega) (by rw [hz2]; omega) (by omega)
  rw [hz1, Int.toNat_natCast] at this
  rw [this, ← flat2_zero]
  rfl
theorem infoW : (Tryz.prog.info? 153).map (fun i => (i.zero, i.size, i.bytes)) = some (some (.agg #[.int .i64 0, .int .i64 0]), 2, 16) := by kernel_rfl

/-! ### What has been written -/
def outL (ls : List Int) (pre : List Nat) : List (Int × Int) := (List.range ls.length).map fun i => if i ∈ pre then ((lenOf ls i : Int), (codeN ls i : Int)) else (0, 0)
def wordsL (ls : List Int) : List (Int × Int) := (List.range ls.length).map fun i => ((lenOf ls i : Int), (codeN ls i : Int))
theorem outL_length (ls : List Int) (pre : List Nat) : (outL ls pre).length = ls.length := by simp [outL]
theorem wordsL_length (ls : List Int) : (wordsL ls).length = ls.length := by simp [wordsL]
theorem wordsL_nth (ls : List Int) (i : Nat) (h : i < ls.length) : nth (0, 0) (wordsL ls) i = ((lenOf ls i : Int), (codeN ls i : Int)) := by
  rw [nth_eq _ _ i (by rw [wordsL_length]; exact h)]; simp [wordsL]
theorem outL_nil (ls : List Int) : outL ls [] = List.replicate ls.length (0, 0) := by
  simp only [outL, List.not_mem_nil, if_false]
  rw [List.map_const', List.length_range]
theorem outL_snoc (ls : List Int) (pre : List Nat) (x : Nat) (_ : x < ls.length) : outL ls (pre ++ [x]) = (outL ls pre).set x ((lenOf ls x : Int), (codeN ls x : Int)) := by
  apply List.ext_getElem
  · simp [outL]
  · intro i h1 h2
    by_cases hi : x = i
    · subst hi
      simp [outL]
    · rw [List.getElem_set_ne hi]
      simp only [outL, List.getElem_map, List.getElem_range, List.mem_append, List.mem_singleton]
      have : (i ∈ pre ∨ i = x) ↔ i ∈ pre := ⟨fun h => h.elim id (fun e => absurd e.symm hi), .inl⟩
      simp only [this]
theorem outL_all {ls : List Int} (h16 : ∀ k, lenOf ls k ≤ 16) : outL ls (ordN ls) = wordsL ls := by
  apply List.map_congr_left
  intro i hi
  rw [List.mem_range] at hi
  by_cases h0 : 0 < lenOf ls i
  · rw [if_pos ((mem_ordN h16 i).2 ⟨hi, h0⟩)]
  · rw [if_neg (fun h => h0 ((mem_ordN h16 i).1 h).2)]
    have : lenOf ls i = 0 := by omega
    rw [this]; unfold codeN; rw [if_pos this]; rfl

structure WoI (w : World) (ls : List Int) (A : Option Addr) (c g1 r g3 g4 : Nat) (pre : List Nat) (W : World) : Prop where
  box : Blk W g1 #[.slice A ls.length c] 22
  row : Blk W r (flat2 (outL ls pre)).toArray 153
  out : Blk W g3 #[.slice (some ⟨r, 0, none⟩) ls.length ls.length] 150
  cur : Blk W g4 #[.int .i64 (wN ls pre).1, .int .i64 (wN ls pre).2] 153
  low : Below w.heap.size w W

theorem words_start {w W3 : World} {ls : List Int} {A : Option Addr} {c gb : Nat}
    (h : Below ((((w.alloc (.cells #[.slice A ls.length c] 22)).alloc (.cells (flat2 (List.replicate ls.length (0, 0))).toArray 153)).alloc (.cells #[.slice (some ⟨w.heap.size + 1, 0, none⟩) ls.length ls.length] 150)).alloc (.cells #[.int .i64 0, .int .i64 0] 153)).heap.size
      ((((w.alloc (.cells #[.slice A ls.length c] 22)).alloc (.cells (flat2 (List.replicate ls.length (0, 0))).toArray 153)).alloc (.cells #[.slice (some ⟨w.heap.size + 1, 0, none⟩) ls.length ls.length] 150)).alloc (.cells #[.int .i64 0, .int .i64 0] 153)) W3)
    (e : gb = ((((w.alloc (.cells #[.slice A ls.length c] 22)).alloc (.cells (flat2 (List.replicate ls.length (0, 0))).toArray 153)).alloc (.cells #[.slice (some ⟨w.heap.size + 1, 0, none⟩) ls.length ls.length] 150)).alloc (.cells #[.int .i64 0, .int .i64 0] 153)).heap.size) :
    WoI w ls A c w.heap.size (w.heap.size + 1) (w.heap.size + 1 + 1) (w.heap.size + 1 + 1 + 1) [] W3 ∧ gb = w.heap.size + 1 + 1 + 1 + 1 := by
  obtain ⟨W1, h1⟩ : ∃ W1, w.alloc (.cells #[.slice A ls.length c] 22) = W1 := ⟨_, rfl⟩
  have a1 : Blk W1 w.heap.size #[.slice A ls.length c] 22 := h1 ▸ heap_alloc_new w _
  have s1 : W1.heap.size = w.heap.size + 1 := h1 ▸ World.size_alloc _ _
  have c1 : Below w.heap.size w W1 := h1 ▸ below_alloc (Below.refl _ _) _
  rw [h1] at h e
  obtain ⟨W2, h2⟩ : ∃ W2, W1.alloc (.cells (flat2 (List.replicate ls.length (0, 0))).toArray 153) = W2 := ⟨_, rfl⟩
  have a2 : Blk W2 W1.heap.size (flat2 (List.replicate ls.length (0, 0))).toArray 153 := h2 ▸ heap_alloc_new W1 _
  have s2 : W2.heap.size = W1.heap.size + 1 := h2 ▸ World.size_alloc _ _
  have c2 : Below W1.heap.size W1 W2 := h2 ▸ below_alloc (Below.refl _ _) _
  rw [h2] at h e
  obtain ⟨W4, h4⟩ : ∃ W4, W2.alloc (.cells #[.slice (some ⟨w.heap.size + 1, 0, none⟩) ls.length ls.length] 150) = W4 := ⟨_, rfl⟩
  have a4 : Blk W4 W2.heap.size #[.slice (some ⟨w.heap.size + 1, 0, none⟩) ls.length ls.length] 150 := h4 ▸ heap_alloc_new W2 _
  have s4 : W4.heap.size = W2.heap.size + 1 := h4 ▸ World.size_alloc _ _
  have c4 : Below W2.heap.size W2 W4 := h4 ▸ below_alloc (Below.refl _ _) _
  rw [h4] at h e
  obtain ⟨W5, h5⟩ : ∃ W5, W4.alloc (.cells #[.int .i64 0, .int .i64 0] 153) = W5 := ⟨_, rfl⟩
  have a5 : Blk W5 W4.heap.size #[.int .i64 0, .int .i64 0] 153 := h5 ▸ heap_alloc_new W4 _
  have s5 : W5.heap.size = W4.heap.size + 1 := h5 ▸ World.size_alloc _ _
  have c5 : Below W4.heap.size W4 W5 := h5 ▸ below_alloc (Below.refl _ _) _
  rw [h5] at h e
  rw [s4, s2, s1] at a5
  rw [s2, s1] at a4
  rw [s1] at a2
  refine ⟨⟨(((a1.below c2).below c4).below c5).below h, ?_, ((a4.below c5).below h), a5.below h, below2 (below2 (below2 (below2 c1 c2) c4) c5) h⟩, by omega⟩
  rw [outL_nil]
  exact ((a2.below c4).below c5).below h
theorem wN_le {ls : List Int} (h16 : ∀ k, lenOf ls k ≤ 16) (A B : List Nat) (i : Nat) (h : ordN ls = A ++ i :: B) : (wN ls A).1 ≤ lenOf ls i := by
  by_cases hA : A = []
  · subst hA; exact Nat.zero_le _
  · obtain ⟨A', p, rfl⟩ : ∃ A' p, A = A' ++ [p] := ⟨A.dropLast, A.getLast hA, (List.dropLast_concat_getLast hA).symm⟩
    have h' : ordN ls = A' ++ p :: i :: B := by rw [h, List.append_assoc]; rfl
    rw [wN_code h16 A' (i :: B) p h']
    have hs := ordN_sorted ls
    rw [h'] at hs
    have := (List.pairwise_cons.1 (List.pairwise_append.1 hs).2.1).1 i (by simp)
    rw [ltW_iff] at this
    show lenOf ls p ≤ _
    omega

theorem wN_pos {ls : List Int} (h16 : ∀ k, lenOf ls k ≤ 16) (A B : List Nat) (i : Nat) (h : ordN ls = A ++ i :: B) : wN ls A = (0, 0) ∨ 0 < (wN ls A).1 := by
  by_cases hA : A = []
  · subst hA; exact .inl rfl
  · right
    obtain ⟨A', p, rfl⟩ : ∃ A' p, A = A' ++ [p] := ⟨A.dropLast, A.getLast hA, (List.dropLast_concat_getLast hA).symm⟩
    have h' : ordN ls = A' ++ p :: i :: B := by rw [h, List.append_assoc]; rfl
    rw [wN_code h16 A' (i :: B) p h']
    exact ((mem_ordN h16 p).1 (by rw [h']; simp)).2
/-- Behind a round. -/
theorem words_round {w W W3 : World} {ls : List Int} {A : Option Addr} {c g1 r g3 g4 x : Nat} {pre : List Nat} {L C : Nat} (h : WoI w ls A c g1 r g3 g4 pre W) (h13 : g1 < r ∧ r < g3 ∧ g3 < g4) (hw : w.heap.size ≤ g1) (hx : x < ls.length)
    (hL : lenOf ls x = L ∧ codeN ls x = C) (hwn : wN ls (pre ++ [x]) = (lenOf ls x, codeN ls x)) (hon : outL ls (pre ++ [x]) = (outL ls pre).set x ((lenOf ls x : Int), (codeN ls x : Int)))
    (hB : Blk W3 g4 #[.int .i64 (L : Int), .int .i64 (C : Int)] 153) (hu : Upd (fun b => b = g4) W W3) :
    WoI w ls A c g1 r g3 g4 (pre ++ [x]) ((W3.setCell ⟨r, x * 2, none⟩ (.int .i64 (L : Int))).setCell ⟨r, x * 2 + 1, none⟩ (.int .i64 (C : Int))) ∧
      Upd (fun b => b = g4 ∨ b = r) W ((W3.setCell ⟨r, x * 2, none⟩ (.int .i64 (L : Int))).setCell ⟨r, x * 2 + 1, none⟩ (.int .i64 (C : Int))) := by
  have hk : Keep (fun b => b ≠ g4) W W3 := hu.keep fun b h => h
  have hs : Upd (fun b => b = r) W3 ((W3.setCell ⟨r, x * 2, none⟩ (.int .i64 (L : Int))).setCell ⟨r, x * 2 + 1, none⟩ (.int .i64 (C : Int))) :=
    (Upd.setCell (fun b => b = r) W3 r (x * 2) _ rfl).trans (Upd.setCell (fun b => b = r) _ r (x * 2 + 1) _ rfl) fun _ _ h => h
  have hk2 : Keep (fun b => b ≠ r) W3 ((W3.setCell ⟨r, x * 2, none⟩ (.int .i64 (L : Int))).setCell ⟨r, x * 2 + 1, none⟩ (.int .i64 (C : Int))) := hs.keep fun b h => h
  have hr := ((h.row.keep hk (by omega)).set (x * 2) (.int .i64 (L : Int))).set (x * 2 + 1) (.int .i64 (C : Int))
  have hu2 : Upd (fun b => b = g4 ∨ b = r) W ((W3.setCell ⟨r, x * 2, none⟩ (.int .i64 (L : Int))).setCell ⟨r, x * 2 + 1, none⟩ (.int .i64 (C : Int))) :=
    (hu.weak (o' := fun b => b = g4 ∨ b = r) fun _ _ h => .inl h).trans (hs.weak (o' := fun b => b = g4 ∨ b = r) fun _ _ h => .inr h) fun _ _ h => h
  refine ⟨⟨(h.box.keep hk (by omega)).keep hk2 (by omega), ?_, (h.out.keep hk (by omega)).keep hk2 (by omega), ?_, ?_⟩, hu2⟩
  · rw [hon, ← flat2_set _ _ _ (by rw [outL_length]; exact hx), hL.1, hL.2]
    have e : (((flat2 (outL ls pre)).toArray.setIfInBounds (x * 2) (.int .i64 (L : Int))).setIfInBounds (x * 2 + 1) (.int .i64 (C : Int))) = (((flat2 (outL ls pre)).set (x * 2) (.int .i64 (L : Int))).set (x * 2 + 1) (.int .i64 (C : Int))).toArray := by simp
    rw [e] at hr
    exact hr
  · rw [hwn, hL.1, hL.2]; exact hB.keep hk2 (by omega)
  · have hlt := h.low.size
    exact h.low.trans (hu2.below hlt (fun b _ e => by rcases e with e | e <;> omega))
theorem WoI.drew {w W : World} {ls : List Int} {A : Option Addr} {c g1 r g3 g4 : Nat} {pre : List Nat} (h : WoI w ls A c g1 r g3 g4 pre W) : WoI w ls A c g1 r g3 g4 pre W.drew := ⟨h.box, h.row, h.out, h.cur, h.low.drew⟩
theorem words_keeps {w W W' : World} {ls : List Int} {A : Option Addr} {c g1 r g3 g4 : Nat} {pre : List Nat} (h : WoI w ls A c g1 r g3 g4 pre W) (hu : Upd (fun b => b = g4 ∨ b = r) W W') : KeepsOthers W W' :=
  ⟨hu.size, fun k x hx hc => (hu.blk k (Array.getElem?_eq_some_iff.1 hx).1 (fun e => by
    rcases e with rfl | rfl
    · rw [show W.heap[k]? = _ from h.cur] at hx; cases hx; cases hc
    · rw [show W.heap[k]? = _ from h.row] at hx; cases hx; cases hc)).trans hx⟩

set_option maxHeartbeats 4000000 in
set_option maxRecDepth 100000 in
theorem words_any (A : Option Addr) (c : Nat) (ls : List Int) (w : World) (hS : RI w A c ls) (hr : Right ls) :
    Calls Tryz.prog 90 #[.slice A ls.length c] w fun e w' => ∃ r, e = .returned (.slice (some ⟨r, 0, none⟩) ls.length ls.length) ∧ Blk w' r (flat2 (wordsL ls)).toArray 153 ∧ w.heap.size ≤ r ∧ Below w.heap.size w w' := by
  have hmk := make_words 150 153 Tryz.underlying150 infoW ls.length (by have := hr.len; omega)
  have HR := Lib.hid hr
  have HS := Lib.hid hS
  clear hr hS
  refine (callsIn_wide (n := 9)).1 ?_
  refine callsIn_of_wp_marks Tryz.func90 rfl trivial ?_ rfl
  simp only [Tryz.ntmps90, List.size_toArray, List.length_cons, List.length_nil, Nat.reduceAdd, Nat.reduceSub, Array.replicate_succ, Array.replicate_zero, List.push_toArray, List.append_toArray, List.nil_append, List.cons_append]
  gi_wp2_with (refine ⟨trivial, ?_⟩; gi_at_call 121; refine (callsIn_wide.2 (ordered_any _ _ _ _)).mono ?_; rintro e W3 ⟨gb, rfl, e1, e2, bB, b3⟩)
  clear hmk
  obtain ⟨g1, hg1⟩ : ∃ g1, w.heap.size = g1 := ⟨_, rfl⟩
  obtain ⟨r, hgr⟩ : ∃ r, g1 + 1 = r := ⟨_, rfl⟩
  obtain ⟨g3, hg3⟩ : ∃ g3, r + 1 = g3 := ⟨_, rfl⟩
  obtain ⟨g4, hg4⟩ : ∃ g4, g3 + 1 = g4 := ⟨_, rfl⟩
  have hI0 : WoI w ls A c g1 r g3 g4 [] W3 ∧ gb = g4 + 1 := by
    subst hg1 hgr hg3 hg4
    exact words_start b3 e1.out
  obtain ⟨hI0, hgb⟩ := hI0
  simp only [hg1, hgr, hg3, hg4]
  have lB := hI0.box.lt
  have lC := hI0.cur.lt
  have hz3 := e2.out
  have hS3 := (HS.out.weak (ok' := fun b => b < g1 ∨ b = gb) (fun b hb _ => .inl (by omega))).below hI0.low
  have HGB := Lib.hid hgb
  have HZ3 := Lib.hid hz3
  have HG := Lib.hid (show w.heap.size = g1 ∧ g1 + 1 = r ∧ r + 1 = g3 ∧ g3 + 1 = g4 from ⟨hg1, hgr, hg3, hg4⟩)
  have hlt1 : g1 < r ∧ r < g3 ∧ g3 < g4 ∧ g4 < gb ∧ gb < W3.heap.size := by omega
  clear e1 e2 b3
  refine range_next rfl (by decide) (gf := 133) (lb := #[.pointer (some ⟨gb, 0, none⟩)]) rfl trivial (enters_of Tryz.func133 (by kernel_rfl) rfl)
    (ordered1_yields gb A c ls W3 (fun b => b < g1 ∨ b = gb) hS3 bB (.inr rfl) 8 (by decide)) (fun r h => h.elim) (fun r h => by omega) (Below.refl _ _) (fun _ => rfl)
    (fun pre W => WoI w ls A c g1 r g3 g4 pre W) (fun _ _ _ => False) ?hI (fun _ _ _ _ _ h _ _ => h) hI0
    (fun x a' W => a' = { tmps := (.slice A ls.length c :: .pointer (some ⟨g1, 0, none⟩) :: .slice none 0 0 :: .pointer (some ⟨g3, 0, none⟩) :: .pointer (some ⟨g4, 0, none⟩) :: .int .i64 (x : Int) :: .slice A ls.length c :: .int .i64 ls.length :: .slice (some ⟨r, 0, none⟩) ls.length ls.length :: .agg #[.int .i64 0, .int .i64 0] :: .slice A ls.length c :: .func (.func 133) #[] #[.pointer (some ⟨gb, 0, none⟩)] :: .int .i64 (x : Int) :: undef :: undef :: undef :: undef :: undef :: undef :: undef :: undef :: undef :: undef :: undef :: undef :: undef :: undef :: undef :: undef :: undef :: undef :: undef :: undef :: undef :: undef :: undef :: undef :: undef :: undef :: undef :: []).toArray, defers := [] })
    (fun _ _ _ _ _ _ h _ _ => h) ?assign ?body ?done (fun _ _ _ _ _ _ h _ => h.elim)
  case hI =>
    rintro s X Y row hs hg hr
    have hO : Other X row := fun r e => by
      rcases hr r e with h | ⟨_, x, hx, hc⟩
      · exact h.elim
      · exact ⟨x, hx, hc⟩
    refine ⟨hs.box.firm hg hO, hs.row.firm hg hO, hs.out.firm hg hO, hs.cur.firm hg hO, below_grown hs.low hs.low.size hg (fun k e => ?_)⟩
    rcases hr k e with h | ⟨h, _⟩
    · exact h.elim
    · omega
  case assign =>
    clear hg1 hgr hg3 hg4 hgb hz3
    intro l pre x W K hi _ hK
    gi_wp2
    exact hK _ _ (KeepsOthers.refl _ |>.from _) (Keep.refl _ _) hi rfl
  case body =>
    clear hg1 hgr hg3 hg4 hgb hz3
    rintro l pre x a' W hs rfl ⟨B, hB⟩
    have h16 := HR.out.ok.len16
    have hord : ordN ls = pre ++ x :: B := by rw [← hB, List.append_assoc]; rfl
    obtain ⟨hxl, hxp⟩ := (mem_ordN h16 x).1 (by rw [hord]; simp)
    have hcode := wN_code h16 pre B x hord
    have hle := wN_le h16 pre B x hord
    have hlt := code_lt h16 HR.out.full hxl
    have hL16 := h16 x
    have hsn := wN_snoc ls pre x
    rw [hcode] at hsn
    have HON := Lib.hid (outL_snoc ls pre x hxl)
    obtain ⟨ad, rfl, hc⟩ := rd_int (HS.out.below hs.low) x hxl
    have hnx : nth 0 ls x = ((lenOf ls x : Nat) : Int) := by have := HR.out.ok.at x; unfold lenOf; omega
    rw [hnx] at hc
    have hblk : (ad.add x).block < w.heap.size := by
      obtain ⟨ad', cs, e', _, hl, _⟩ := HS.out.rd x hxl
      rw [add_block, Option.some.inj e']; exact hl
    have hcv : ∀ v, (W.setCell ⟨g4, 1, none⟩ v).cell? (ad.add x) = some (.int .i64 ((lenOf ls x : Nat) : Int)) := fun v => (Keep.of_grown1 (grown_setCell W g4 1 v)).cell (by have := HG.out; omega) hc
    clear hblk
    have k1 := hs.box.cell 0 rfl
    have k3 := hs.out.cell 0 rfl
    have k4 := hs.cur.cell 0 rfl
    have k5 := hs.cur.cell 1 rfl
    have f4 := hs.cur.free 0
    have f5 := hs.cur.free 1
    have HWI := Lib.hid hs
    obtain ⟨a, ha⟩ : ∃ a, (wN ls pre).1 = a := ⟨_, rfl⟩
    obtain ⟨b, hb⟩ : ∃ b, (wN ls pre).2 = b := ⟨_, rfl⟩
    obtain ⟨L, hL⟩ : ∃ L, lenOf ls x = L := ⟨_, rfl⟩
    obtain ⟨C, hC⟩ : ∃ C, codeN ls x = C := ⟨_, rfl⟩
    have hab : wN ls pre = (a, b) := by rw [← ha, ← hb]
    rw [hab, hL, hC] at hsn
    rw [ha] at k4 hle
    rw [hb] at k5
    rw [hL] at hc hle hlt hL16
    simp only [hL] at hcv
    rw [hC] at hlt
    obtain ⟨d, hd⟩ : ∃ d, L - a = d := ⟨_, rfl⟩
    have hw1 : IntKind.i64.wrap ((L : Int) - (a : Int)) = (d : Int) := by rw [IntWalk.i64_in _ (by omega)]; omega
    have HWN := Lib.hid hcode
    have HH := Lib.hid (show lenOf ls x = L ∧ codeN ls x = C from ⟨hL, hC⟩)
    have hpos := wN_pos h16 pre B x hord
    rw [hab] at hpos
    have h2L : 2 ^ L ≤ 65536 := by have := Nat.pow_le_pow_right (n := 2) (by decide) hL16; simpa using this
    have hra := hs.row.free (x * 2)
    have hrb := hs.row.free (x * 2 + 1)
    obtain ⟨va, hva⟩ : ∃ v, W.cell? ⟨r, x * 2, none⟩ = some v := ⟨_, hs.row.cell (x * 2) (by rw [List.getElem?_toArray]; exact (flat2_get _ x (by rw [outL_length]; exact hxl)).1)⟩
    obtain ⟨vb, hvb⟩ : ∃ v, W.cell? ⟨r, x * 2 + 1, none⟩ = some v := ⟨_, hs.row.cell (x * 2 + 1) (by rw [List.getElem?_toArray]; exact (flat2_get _ x (by rw [outL_length]; exact hxl)).2)⟩
    have hxi : (0 : Int) ≤ (x : Int) := by omega
    have hxn : (x : Int) < (ls.length : Int) := by omega
    have n1 : g1 ≠ g4 := by omega
    have n2 : g3 ≠ g4 := by omega
    have n3 : r ≠ g4 := by omega
    rcases hpos with hz | hz
    · injection hz with hz1 hz2
      subst hz1 hz2
      have hC0 : C = 0 := by unfold stepW at hsn; rw [if_pos rfl] at hsn; injection hsn
      subst hC0
      have hw2 : IntKind.i64.wrap ((0 : Int) * 2 ^ L) = 0 := by rw [Int.zero_mul]; rfl
      have hdL : d = L := by omega
      subst hdL
      have hd16 : (d : Int) ≤ 64 := by omega
      have hw1' : IntKind.i64.wrap (d : Int) = (d : Int) := IntWalk.i64_in _ (by omega)
      clear hcode hsn hab ha hb hL hC hd hlt hnx h16 hB hord hxp hS3 hI0 bB hs hcv
      gi_wp2
      refine wpIn_still_tail 15 (by kernel_rfl) (by kernel_rfl) (by kernel_rfl) ?_
      simp only [List.take_succ_cons, List.take_zero, List.drop_succ_cons, List.drop_zero]
      repeat still_step
      try refine wpStill_nil ?_
      rw [show IntKind.i64.wrap 0 = 0 from rfl]
      clear hw1 hw2 hw1'
      gi_wp2
      obtain ⟨W3', hW3'⟩ : ∃ W', (W.setCell ⟨g4, 0, none⟩ (.int .i64 (d : Int))).setCell ⟨g4, 1, none⟩ (.int .i64 0) = W' := ⟨_, rfl⟩
      have hB3 : Blk W3' g4 #[.int .i64 (d : Int), .int .i64 ((0 : Nat) : Int)] 153 := by rw [← hW3']; exact (HWI.out.cur.set 0 (.int .i64 (d : Int))).set 1 (.int .i64 0)
      rw [hW3']
      have hgg := HG.out
      have hu3 : Upd (fun b => b = g4) W W3' := by rw [← hW3']; exact (Upd.setCell (fun b => b = g4) _ g4 0 _ rfl).trans (Upd.setCell (fun b => b = g4) _ g4 1 _ rfl) fun _ _ h => h
      obtain ⟨hwo, huo⟩ := words_round HWI.out (by omega) (by omega) hxl HH.out HWN.out HON.out (W3 := W3') hB3 hu3
      have huo' := huo.trans (Upd.drew (fun b => b = g4 ∨ b = r) _) fun _ _ h => h
      exact ⟨(words_keeps HWI.out huo').from _, huo'.keep (fun i hi e => by rcases e with e | e <;> rcases hi with hi | hi <;> omega), hwo.drew⟩
    · have hCb : C = (b + 1) * 2 ^ d := by
        unfold stepW at hsn
        rw [if_neg (fun e => by injection e with h1 h2; have hz : 0 < a := hz; omega)] at hsn
        injection hsn with h1 h2
        rw [← hd, h2, hL]
      have hb16 : b + 1 ≤ 65536 := by
        have h1 : 1 ≤ 2 ^ d := Nat.one_le_two_pow
        have h3 : (b + 1) * 1 ≤ (b + 1) * 2 ^ d := Nat.mul_le_mul_left _ h1
        omega
      have hw2 : IntKind.i64.wrap (((b : Int) + 1) * 2 ^ d) = (C : Int) := by
        have e1 : (((b : Int) + 1) * 2 ^ d) = (C : Int) := by rw [hCb]; simp
        rw [e1]; exact IntWalk.i64_in _ (by omega)
      have hne : ((a : Int) == 0) = false := by rw [beq_eq_false_iff_ne]; have hz : 0 < a := hz; omega
      have hd16 : (d : Int) ≤ 64 := by omega
      clear hcode hsn hab ha hb hL hC hd hCb hlt hnx h16 hB hord hxp hS3 hI0 bB hs hz
      gi_wp2
      refine wpIn_still_tail 15 (by kernel_rfl) (by kernel_rfl) (by kernel_rfl) ?_
      simp only [List.take_succ_cons, List.take_zero, List.drop_succ_cons, List.drop_zero]
      repeat still_step
      try refine wpStill_nil ?_
      clear hw1 hw2 hne
      have hgg : W.cell? ⟨g4, 0, none⟩ = some (.int .i64 (a : Int)) := k4
      clear hcv
      gi_wp2
      clear hgg
      obtain ⟨W3', hW3'⟩ : ∃ W', ((W.setCell ⟨g4, 1, none⟩ (.int .i64 ((b : Int) + 1))).setCell ⟨g4, 0, none⟩ (.int .i64 (L : Int))).setCell ⟨g4, 1, none⟩ (.int .i64 (C : Int)) = W' := ⟨_, rfl⟩
      have hB3 : Blk W3' g4 #[.int .i64 (L : Int), .int .i64 (C : Int)] 153 := by rw [← hW3']; exact ((HWI.out.cur.set 1 (.int .i64 ((b : Int) + 1))).set 0 (.int .i64 (L : Int))).set 1 (.int .i64 (C : Int))
      rw [hW3']
      have hgg := HG.out
      have hu3 : Upd (fun b => b = g4) W W3' := by rw [← hW3']; exact ((Upd.setCell (fun b => b = g4) _ g4 1 _ rfl).trans (Upd.setCell (fun b => b = g4) _ g4 0 _ rfl) fun _ _ h => h).trans (Upd.setCell (fun b => b = g4) _ g4 1 _ rfl) fun _ _ h => h
      obtain ⟨hwo, huo⟩ := words_round HWI.out (by omega) (by omega) hxl HH.out HWN.out HON.out (W3 := W3') hB3 hu3
      have huo' := huo.trans (Upd.drew (fun b => b = g4 ∨ b = r) _) fun _ _ h => h
      exact ⟨(words_keeps HWI.out huo').from _, huo'.keep (fun i hi e => by rcases e with e | e <;> rcases hi with hi | hi <;> omega), hwo.drew⟩
  case done =>
    clear hg1 hgr hg3 hg4 hgb hz3
    rintro D xs W hD rfl hs hK
    have k3 := hs.out.cell 0 rfl
    have hO : Other W (some D) := fun r e => by cases e; exact ⟨_, hK, rfl⟩
    gi_wp2
    refine ⟨by simp, .inl ⟨_, _, rfl, run_takeDeferred hK, ?_⟩⟩
    refine ⟨_, results_tmp rfl _ _ _, _, rfl, ?_, by have := HG.out; omega, ?_⟩
    · rw [← outL_all HR.out.ok.len16]; exact hs.row.firm (grownBy_putObj' W D _) hO
    · exact below_grown hs.low hs.low.size (grownBy_putObj' W D _) (fun k e => by cases e; have := HG.out; omega)
end Go.Proofs.YtmcdgmiheklbeaaGreatDoor

namespace Go.Proofs.YtmcdgmiheklbeaaGreatDoor
open Go.RowKit

/-- Sections as they lie: the book, the number of bands. -/
def kSe : Kd (Int × Int) where
  size := 2
  dflt := (0, 0)
  K := fun _ _ x cs => cs = [.int .i64 x.1, .int .i64 x.2]
  len := fun h => by rw [h]; rfl
  keep := fun _ h => h
  weak := fun _ h => h
theorem rd_se {ok : Nat → Prop} {w : World} {A : Option Addr} {c : Nat} {xs : List (Int × Int)} (h : Sl kSe ok w A c xs) (j : Nat) (hj : j < xs.length) :
    ∃ ad, A = some ad ∧ ad.block < w.heap.size ∧ w.cell? (ad.add (j * 2)) = some (.int .i64 (nth (0, 0) xs j).1) ∧ w.cell? ⟨(ad.add (j * 2)).block, (ad.add (j * 2)).off + 1, none⟩ = some (.int .i64 (nth (0, 0) xs j).2) := by
  obtain ⟨ad, cs, e, _, hl, rfl, hc⟩ := h.rd j hj
  have h3 := hc 1 _ rfl
  have h2 := hc 0 _ rfl
  rw [← add_add] at h3
  exact ⟨ad, e, hl, h2, h3⟩
theorem infoSe : (Tryz.prog.info? 47).map (fun i => (i.zero, i.size, i.bytes)) = some (some (.agg #[.int .i64 0, .int .i64 0]), 2, 16) := by kernel_rfl
abbrev RS (w : World) (A : Option Addr) (c : Nat) (xs : List (Int × Int)) : Prop := Sl kSe AnyB w A c xs
abbrev OwnS (base : Nat) (w : World) (v : Value) (xs : List (Int × Int)) : Prop := OwnK kSe 47 base (fun _ => False) w v xs
theorem own_rs {base : Nat} {w : World} {v : Value} {xs : List (Int × Int)} (h : OwnS base w v xs) : ∃ A c, v = .slice A xs.length c ∧ Sl kSe (fun b => base ≤ b) w A c xs := by
  obtain ⟨A, c, e, hs⟩ := h.rd
  exact ⟨A, c, e, hs.weak fun b _ hb => hb.elim False.elim fun hb => h.base_le b hb⟩
theorem flat_of {ok : Nat → Prop} {w : World} : ∀ {xs : List (Int × Int)} {cells : List Value}, Reps kSe ok w xs cells → cells = flat2 xs := by
  intro xs cells h
  have hl : cells.length = xs.length * 2 := h.1
  apply List.ext_getElem?
  intro i
  rcases Nat.lt_or_ge i (xs.length * 2) with hi | hi
  · have hj : i / 2 < xs.length := by omega
    have h1 : (cells.drop (i / 2 * 2)).take 2 = [.int .i64 (nth (0, 0) xs (i / 2)).1, .int .i64 (nth (0, 0) xs (i / 2)).2] := h.2 (i / 2) hj
    have g := flat2_get xs (i / 2) hj
    rcases Nat.mod_two_eq_zero_or_one i with hm | hm
    · have e : i = i / 2 * 2 := by omega
      have h2 := congrArg (fun l : List Value => l[0]?) h1
      simp only [List.getElem?_take, List.getElem?_drop, Nat.add_zero, List.getElem?_cons_zero] at h2
      rw [if_pos (by omega), ← e] at h2
      rw [h2, e, Nat.mul_div_cancel _ (by omega)]
      exact g.1.symm
    · have e : i = i / 2 * 2 + 1 := by omega
      have h2 := congrArg (fun l : List Value => l[1]?) h1
      simp only [List.getElem?_take, List.getElem?_drop, List.getElem?_cons_succ, List.getElem?_cons_zero] at h2
      rw [if_pos (by omega), ← e] at h2
      rw [h2, e, show (i / 2 * 2 + 1) / 2 = i / 2 by omega]
      exact g.2.symm
  · rw [List.getElem?_eq_none (by omega), List.getElem?_eq_none (by rw [flat2_length]; omega)]
theorem reps_flat {ok : Nat → Prop} {w : World} (xs : List (Int × Int)) : Reps kSe ok w xs (flat2 xs) := by
  refine ⟨flat2_length xs, fun j hj => ?_⟩
  have g := flat2_get xs j hj
  show ((flat2 xs).drop (j * 2)).take 2 = _
  apply List.ext_getElem?
  intro i
  rw [List.getElem?_take, List.getElem?_drop]
  match i with
  | 0 => rw [if_pos (by show 0 < 2; omega)]; exact g.1
  | 1 => rw [if_pos (by show 1 < 2; omega)]; exact g.2
  | i + 2 => rw [if_neg (by show ¬ i + 2 < 2; omega)]; rfl
theorem OwnS.form {base : Nat} {w : World} {v : Value} {xs : List (Int × Int)} (h : OwnS base w v xs) (h0 : 0 < xs.length) : ∃ g cap, v = .slice (some ⟨g, 0, none⟩) xs.length cap ∧ base ≤ g ∧ g < w.heap.size := by
  obtain ⟨cells, ho, _⟩ := h
  rcases ho.2 with ⟨_, h1⟩ | ⟨g, cap, cur, rfl, hb, hh, _⟩
  · omega
  · exact ⟨g, cap, rfl, hb, (Array.getElem?_eq_some_iff.1 hh).1⟩
/-- The second number of a section. -/
theorem OwnS.at_ {base g cap n : Nat} {w : World} {xs : List (Int × Int)} (h : OwnS base w (.slice (some ⟨g, 0, none⟩) n cap) xs) (j : Nat) (hj : j < xs.length) :
    w.cell? ⟨g, j * 2, none⟩ = some (.int .i64 (nth (0, 0) xs j).1) ∧ w.cell? ⟨g, j * 2 + 1, none⟩ = some (.int .i64 (nth (0, 0) xs j).2) ∧ w.frozen? ⟨g, j * 2 + 1, none⟩ = false := by
  obtain ⟨cells, ho, hr⟩ := h
  have hf := flat_of hr
  subst hf
  have g2 := flat2_get xs j hj
  refine ⟨?_, ?_, ?_⟩
  · have hc := World.ownsRow.cells ho (g := g) rfl (j * 2) _ g2.1
    rwa [add_plain] at hc
  · have hc := World.ownsRow.cells ho (g := g) rfl (j * 2 + 1) _ g2.2
    rwa [add_plain] at hc
  · rcases ho.2 with ⟨h', _⟩ | ⟨g', cap', cur, h', _, hh, _⟩
    · cases h'
    · have : g = g' := by injection h' with h'; injection h' with h'; injection h' with h'
      subst this
      simp [World.frozen?, hh]
/-- 's[j].Bands = y'. -/
theorem OwnS.set {base g cap n : Nat} {w : World} {xs : List (Int × Int)} (h : OwnS base w (.slice (some ⟨g, 0, none⟩) n cap) xs) (j : Nat) (hj : j < xs.length) (y : Int) :
    OwnS base (w.setCell ⟨g, j * 2 + 1, none⟩ (.int .i64 y)) (.slice (some ⟨g, 0, none⟩) n cap) (xs.set j ((nth (0, 0) xs j).1, y)) ∧ w.grownBy (w.setCell ⟨g, j * 2 + 1, none⟩ (.int .i64 y)) (some g) := by
  obtain ⟨cells, ho, hr⟩ := h
  have hf := flat_of hr
  subst hf
  have hn : n = xs.length := by
    rcases ho.2 with ⟨h', _⟩ | ⟨g', cap', cur, h', _⟩
    · cases h'
    · injection h'
  subst hn
  have hs := World.ownsRow.stored ho (j * 2 + 1) (.int .i64 y)
  have e : (flat2 xs).set (j * 2 + 1) (.int .i64 y) = flat2 (xs.set j ((nth (0, 0) xs j).1, y)) := by
    rw [← flat2_set xs j ((nth (0, 0) xs j).1, y) hj]
    congr 1
    apply List.ext_getElem?
    intro i
    rw [List.getElem?_set]
    split
    · rename_i e; subst e
      rw [if_pos (by rw [flat2_length]; omega)]
      exact (flat2_get xs j hj).1
    · rfl
  rw [e] at hs
  exact ⟨⟨_, by rw [List.length_set]; exact hs.1, reps_flat _⟩, hs.2⟩
end Go.Proofs.YtmcdgmiheklbeaaGreatDoor

namespace Go.Proofs.YtmcdgmiheklbeaaGreatDoor
open Go.RowKit

theorem infoI : (Tryz.prog.info? 3).map (fun i => (i.zero, i.size, i.bytes)) = some (some (.int .i64 0), 1, 8) := by kernel_rfl

end Go.Proofs.YtmcdgmiheklbeaaGreatDoor

namespace Go.Proofs.YtmcdgmiheklbeaaGreatDoor
open Go Go.RowKit

section
variable {P : Program} {ops : Array Oper} {Q : Exit → Act → World → Prop} {md : Region.Mode} {S : World → Prop} {N : Nat}

/-- What is listed has all listed that it waits for. -/
structure Shutdown (md : Region.Mode) (ops : Array Oper) (listed : Array Bool) : Prop where
  size : listed.size = ops.size
  closed : ∀ j oj, ops[j]? = some oj → listed.getD j false = true → ∀ e ∈ oj.after, Region.binds md e = true → listed.getD e.on false = true

theorem Shutdown.start : Shutdown md ops (Array.replicate ops.size false) := ⟨by simp, fun j oj _ hl => by rw [getD_replicate_false] at hl; cases hl⟩

theorem Shutdown.set {i : Nat} {listed : Array Bool} (inv : Shutdown md ops listed) (hi : i ∈ Region.ready md ops listed) : Shutdown md ops (listed.setIfInBounds i true) := by
  obtain ⟨_, oi, hoi, hall⟩ := mem_ready.1 hi
  refine ⟨by simp [inv.size], fun j oj hj hl e he hb => ?_⟩
  by_cases hij : i = j
  · subst hij
    have : oj = oi := Option.some.inj (hj.symm.trans hoi)
    subst this
    exact getD_set_true (hall e he hb)
  · rw [getD_set_ne false hij] at hl
    exact getD_set_true (inv.closed j oj hj hl e he hb)

/-- Each of these waits for the one ahead of it. -/
def pathB (md : Region.Mode) (ops : Array Oper) : Nat → List Nat → Bool
  | _, [] => true
  | i, j :: l => Region.waitsFor md ops j i && pathB md ops j l

theorem path_waits {listed : Array Bool} (inv : Shutdown md ops listed) : ∀ (l : List Nat) (i : Nat), pathB md ops i l = true → listed.getD i true = false → l.getLast? = some N → N ∉ Region.ready md ops listed := by
  intro l
  induction l with
  | nil => intro i _ _ h; cases h
  | cons j l ih =>
    intro i hp hu hl hr
    simp only [pathB, Bool.and_eq_true] at hp
    obtain ⟨oj, hoj, e, he, hb, hon⟩ := Region.waitsFor_spec hp.1
    cases l with
    | nil =>
      obtain rfl : j = N := by simpa using hl
      obtain ⟨_, ot, hot, hall⟩ := mem_ready.1 hr
      obtain rfl : oj = ot := Option.some.inj (hoj.symm.trans hot)
      have h2 := hall e he hb
      rw [hon, getD_both hu] at h2
      cases h2
    | cons k l =>
      refine ih j hp.2 ?_ (by simpa using hl) hr
      cases hlj : listed.getD j false with
      | true =>
        have h2 := inv.closed j oj hoj hlj e he hb
        rw [hon, getD_both hu] at h2
        cases h2
      | false =>
        have hjs : j < ops.size := (Array.getElem?_eq_some_iff.1 hoj).1
        exact getD_in (by rw [inv.size]; exact hjs) hlj

/-- Whatever order is picked from here on, and S holds behind every operation while number N is still to come. -/
def wpAnyG (P : Program) (md : Region.Mode) (ops : Array Oper) (Q : Exit → Act → World → Prop) (S : World → Prop) (N : Nat) : Nat → Array Bool → Act → World → Prop
  | 0, listed, a, w => Region.ready md ops listed = [] ∧ Q .normal a w
  | fuel + 1, listed, a, w =>
    (Region.ready md ops listed = [] → Q .normal a w) ∧
    ∀ i ∈ Region.ready md ops listed, wpOp P ops Q i (fun a' w' => ((listed.setIfInBounds i true).getD N true = false → S w') ∧ wpAnyG P md ops Q S N fuel (listed.setIfInBounds i true) a' w') a w

theorem wpAny_of_G : ∀ (fuel : Nat) (listed : Array Bool) (a : Act) (w : World), wpAnyG P md ops Q S N fuel listed a w → wpAny P md ops Q fuel listed a w
  | 0, _, _, _, h => h
  | fuel + 1, _, _, _, h => ⟨h.1, fun i hi => wpOp_mono (fun a' w' h' => wpAny_of_G fuel _ a' w' h'.2) (h.2 i hi)⟩

theorem wpAnyG_first {i : Nat} {oi : Oper} {v : Value} (path : List Nat) (hp : pathB md ops i path = true) (hlast : path.getLast? = some N)
    (hi : ops[i]? = some oi) (hsel : ∀ (j : Nat) (o : Oper) cs b, ops[j]? = some o → o.op ≠ .select cs b)
    (hQ : ∀ c a w, Q (.panic c) (a.put oi.dst v) w → Q (.panic c) a w) :
    ∀ (fuel : Nat) (listed : Array Bool) (a : Act) (w : World), Shutdown md ops listed → listed.getD N true = false → i ≠ N →
      (∀ j oj, ops[j]? = some oj → j ≠ i → listed.getD j true = false → (∀ e ∈ oj.after, Region.binds md e = true → e.on ≠ i) → oi.apart ops oj = true) →
      i ∈ Region.ready md ops listed → YieldsIf P ops S oi v a → S w →
      wpAnyG P md ops Q S N fuel (listed.setIfInBounds i true) (a.put oi.dst v) w → wpAnyG P md ops Q S N (fuel + 1) listed a w := by
  intro fuel
  induction fuel with
  | zero =>
    intro listed a w inv hN hiN _ hr hy hS H
    refine ⟨fun h => (by rw [h] at hr; cases hr), fun j hj => ?_⟩
    by_cases hji : j = i
    · subst hji; exact hy.wpOp hi hS ⟨fun _ => hS, H⟩
    · have := ready_mono hj hji
      rw [H.1] at this
      cases this
  | succ fuel ih =>
    intro listed a w inv hN hiN hfree hr hy hS H
    refine ⟨fun h => (by rw [h] at hr; cases hr), fun j hj => ?_⟩
    by_cases hji : j = i
    · subst hji; exact hy.wpOp hi hS ⟨fun _ => hS, H⟩
    · have hjN : j ≠ N := fun e => by subst e; exact path_waits inv path i hp (mem_ready.1 hr).1 hlast hj
      have h1 := H.2 j (ready_mono hj hji)
      obtain ⟨hjun, oj, hoj, hall⟩ := mem_ready.1 hj
      have hnot : ∀ e ∈ oj.after, Region.binds md e = true → e.on ≠ i := fun e he hb heq => by
        have h1 := hall e he hb
        rw [heq, getD_both (mem_ready.1 hr).1] at h1
        cases h1
      have h2 := wpOp_putIf hoj (hfree j oj hoj hji hjun hnot) (fun cs b => hsel i oi cs b hi) (fun cs b => hsel j oj cs b hoj) hQ hy h1
      have hfree' : ∀ k ok, ops[k]? = some ok → k ≠ i → (listed.setIfInBounds j true).getD k true = false →
          (∀ e ∈ ok.after, Region.binds md e = true → e.on ≠ i) → oi.apart ops ok = true := fun k ok hk hki hun hno => by
        refine hfree k ok hk hki ?_ hno
        by_cases hjk : j = k
        · subst hjk; exact hjun
        · rw [getD_set_ne true hjk] at hun; exact hun
      have hNj : (listed.setIfInBounds j true).getD N true = false := by rw [getD_set_ne true hjN]; exact hN
      have hNij : ((listed.setIfInBounds i true).setIfInBounds j true).getD N true = false := by rw [getD_set_ne true hjN, getD_set_ne true hiN]; exact hN
      refine wpOp_mono (fun a' w' h3 => ⟨fun _ => h3.2.1 hNij, ih (listed.setIfInBounds j true) a' w' (inv.set hj) hNj hiN hfree' (ready_mono hr (Ne.symm hji)) h3.1 (h3.2.1 hNij) ?_⟩) h2
      rw [Array.setIfInBounds_comm _ _ hji]
      exact h3.2.2

/-- Whether an operation can be carried out already, a Bool for the walk. -/
def shutB (md : Region.Mode) (ops : Array Oper) (listed : Array Bool) : Bool :=
  decide (listed.size = ops.size) && (List.range ops.size).all fun j => !listed.getD j false || ((ops[j]?).map fun oj => oj.after.all fun e => !Region.binds md e || listed.getD e.on false).getD true

theorem shutB_spec {listed : Array Bool} (h : shutB md ops listed = true) : Shutdown md ops listed := by
  simp only [shutB, Bool.and_eq_true, decide_eq_true_eq] at h
  refine ⟨h.1, fun j oj hj hl e he hb => ?_⟩
  have h1 := List.all_eq_true.1 h.2 j (List.mem_range.2 (Array.getElem?_eq_some_iff.1 hj).1)
  simp only [hl, hj, Option.map_some, Option.getD_some, Bool.not_true, Bool.false_or, Array.all_eq_true_iff_forall_mem, Bool.or_eq_true, Bool.not_eq_true'] at h1
  rcases h1 e he with h | h
  · rw [hb] at h; cases h
  · exact h

/-- All side conditions of a take, as one Bool. -/
def takeB (md : Region.Mode) (ops : Array Oper) (listed : Array Bool) (i N : Nat) (path : List Nat) : Bool :=
  pathB md ops i path && path.getLast? == some N && Region.noSelect ops && Region.free md ops listed i && (Region.ready md ops listed).contains i && shutB md ops listed && !listed.getD N true && decide (i ≠ N)

/-- Number i is taken first. -/
theorem wpAnyG_take {i : Nat} {oi : Oper} {v : Value} (path : List Nat) {fuel : Nat} {listed : Array Bool} {a : Act} {w : World} (hi : ops[i]? = some oi)
    (hB : takeB md ops listed i N path = true)
    (hQ : ∀ c a w, Q (.panic c) (a.put oi.dst v) w → Q (.panic c) a w) (hS : S w) (hw : Region.wanted oi (yielded ops a.tmps) = true) (hy : ∀ w, S w → (execOp a.eval oi).run P w = .ok (.value v) w)
    (h : wpAnyG P md ops Q S N fuel (listed.setIfInBounds i true) (a.put oi.dst v) w) : wpAnyG P md ops Q S N (fuel + 1) listed a w := by
  simp only [takeB, Bool.and_eq_true, Bool.not_eq_true', decide_eq_true_eq, beq_iff_eq] at hB
  obtain ⟨⟨⟨⟨⟨⟨⟨h1, h2⟩, h3⟩, h4⟩, h5⟩, h6⟩, h7⟩, h8⟩ := hB
  exact wpAnyG_first path h1 h2 hi (Region.noSelect_spec h3) hQ fuel listed a w (shutB_spec h6) h7 h8 (Region.free_spec hi h4) (by simpa using h5) (Or.inl ⟨hw, hy⟩) hS h

/-- Number i alone may come up. -/
theorem wpAnyG_one {i : Nat} {o : Oper} {fuel : Nat} {listed : Array Bool} {a : Act} {w : World} (hr : Region.ready md ops listed = [i]) (ho : ops[i]? = some o)
    (h : ∀ K' : Act → World → Prop, Shut (∀ a w, ((listed.setIfInBounds i true).getD N true = false → S w) → wpAnyG P md ops Q S N fuel (listed.setIfInBounds i true) a w → K' a w) → if Region.wanted o (yielded ops a.tmps) = true then Oper.wp P o a w K' Q else K' (a.put o.dst undef) w) :
    wpAnyG P md ops Q S N (fuel + 1) listed a w := by
  refine ⟨fun h0 => (by rw [hr] at h0; cases h0), fun j hj => ?_⟩
  rw [hr] at hj
  obtain rfl : j = i := by simpa using hj
  exact wpOp_step ho (fun K' hK => h K' (fun a w hS hW => hK a w ⟨hS, hW⟩))

theorem wpAnyG_done {listed : Array Bool} {a : Act} {w : World} (hr : Region.ready md ops listed = []) (h : Q .normal a w) : ∀ fuel, wpAnyG P md ops Q S N fuel listed a w
  | 0 => ⟨hr, h⟩
  | _ + 1 => ⟨fun _ => h, by rw [hr]; simp⟩

theorem ops_at {i : Nat} {oi : Oper} {l : List Oper} (hi : ops.toList.drop i = oi :: l) : ops[i]? = some oi := by
  have h := congrArg (fun x : List Oper => x[0]?) hi
  simpa using h
/-- Number i is taken first, the operations written out. -/
theorem wpAnyG_takeL {i : Nat} {oi : Oper} {l : List Oper} (v : Value) (path : List Nat) {fuel : Nat} {listed : Array Bool} {a : Act} {w : World} (hi : ops.toList.drop i = oi :: l)
    (hB : takeB md ops listed i N path = true)
    (hQ : ∀ c a w, Q (.panic c) (a.put oi.dst v) w → Q (.panic c) a w) (hS : S w) (hw : Region.wanted oi (yielded ops a.tmps) = true) (hy : ∀ w, S w → (execOp a.eval oi).run P w = .ok (.value v) w)
    (h : wpAnyG P md ops Q S N fuel (listed.setIfInBounds i true) (a.put oi.dst v) w) : wpAnyG P md ops Q S N (fuel + 1) listed a w :=
  wpAnyG_take path (ops_at hi) hB hQ hS hw hy h
/-- Number i is guarded off: it is passed first. -/
theorem wpAnyG_dropL {i : Nat} {oi : Oper} {l : List Oper} (path : List Nat) {fuel : Nat} {listed : Array Bool} {a : Act} {w : World} (hi : ops.toList.drop i = oi :: l)
    (hB : takeB md ops listed i N path = true)
    (hQ : ∀ c a w, Q (.panic c) (a.put oi.dst undef) w → Q (.panic c) a w) (hS : S w) (hw : Region.wanted oi (yielded ops a.tmps) = false)
    (h : wpAnyG P md ops Q S N fuel (listed.setIfInBounds i true) (a.put oi.dst undef) w) : wpAnyG P md ops Q S N (fuel + 1) listed a w := by
  simp only [takeB, Bool.and_eq_true, Bool.not_eq_true', decide_eq_true_eq, beq_iff_eq] at hB
  obtain ⟨⟨⟨⟨⟨⟨⟨h1, h2⟩, h3⟩, h4⟩, h5⟩, h6⟩, h7⟩, h8⟩ := hB
  exact wpAnyG_first path h1 h2 (ops_at hi) (Region.noSelect_spec h3) hQ fuel listed a w (shutB_spec h6) h7 h8 (Region.free_spec (ops_at hi) h4) (by simpa using h5) (Or.inr ⟨hw, rfl⟩) hS h
/-- Number i alone may come up, the operations written out. -/
theorem wpAnyG_oneL {i : Nat} {o : Oper} {l : List Oper} {fuel : Nat} {listed : Array Bool} {a : Act} {w : World} (hr : Region.ready md ops listed = [i]) (hi : ops.toList.drop i = o :: l)
    (h : ∀ K' : Act → World → Prop, Shut (∀ a w, ((listed.setIfInBounds i true).getD N true = false → S w) → wpAnyG P md ops Q S N fuel (listed.setIfInBounds i true) a w → K' a w) → if Region.wanted o (yielded ops a.tmps) = true then Oper.wp P o a w K' Q else K' (a.put o.dst undef) w) :
    wpAnyG P md ops Q S N (fuel + 1) listed a w := wpAnyG_one hr (ops_at hi) h

/-- Each of these may come up. -/
def AllG (P : Program) (md : Region.Mode) (ops : Array Oper) (Q : Exit → Act → World → Prop) (S : World → Prop) (N : Nat) (fuel : Nat) (listed : Array Bool) (a : Act) (w : World) (rs : List Nat) : Prop :=
  ∀ i ∈ rs, wpOp P ops Q i (fun a' w' => ((listed.setIfInBounds i true).getD N true = false → S w') ∧ wpAnyG P md ops Q S N fuel (listed.setIfInBounds i true) a' w') a w
theorem AllG.nil {fuel : Nat} {listed : Array Bool} {a : Act} {w : World} : AllG P md ops Q S N fuel listed a w [] := fun _ h => by cases h
theorem AllG.cons {fuel : Nat} {listed : Array Bool} {a : Act} {w : World} {i : Nat} {o : Oper} {l : List Oper} {rs : List Nat} (hi : ops.toList.drop i = o :: l)
    (h : ∀ K' : Act → World → Prop, Shut (∀ a w, ((listed.setIfInBounds i true).getD N true = false → S w) → wpAnyG P md ops Q S N fuel (listed.setIfInBounds i true) a w → K' a w) → if Region.wanted o (yielded ops a.tmps) = true then Oper.wp P o a w K' Q else K' (a.put o.dst undef) w)
    (hs : AllG P md ops Q S N fuel listed a w rs) : AllG P md ops Q S N fuel listed a w (i :: rs) := fun j hj => by
  rcases List.mem_cons.1 hj with rfl | hj
  · exact wpOp_step (ops_at hi) (fun K' hK => h K' (fun a w hS hW => hK a w ⟨hS, hW⟩))
  · exact hs j hj
theorem wpAnyG_br {rs : List Nat} {fuel : Nat} {listed : Array Bool} {a : Act} {w : World} (hr : Region.ready md ops listed = rs) (hne : rs ≠ []) (h : AllG P md ops Q S N fuel listed a w rs) : wpAnyG P md ops Q S N (fuel + 1) listed a w :=
  ⟨fun h0 => absurd (hr ▸ h0) hne, hr ▸ h⟩
/-- A new variable, as one step of a drawn region. -/
theorem step_new {E : Prop} {K : Act → World → Prop} {o : Oper} {a : Act} {W : World} (cs : Array Value) (t : TypeId) (hgd : o.guard = none)
    (hrun : (execOp a.eval o).run P W = .ok (.value (.pointer (some ⟨W.heap.size, 0, none⟩))) (W.alloc (.cells cs t (0, 0))))
    (h : ∀ (g : Nat) (w1 : World), Hid (g = W.heap.size) → Hid (w1.heap.size = g + 1) → Below W.heap.size W w1 → Blk w1 g cs t → K (a.put o.dst (.pointer (some ⟨g, 0, none⟩))) w1) :
    if Region.wanted o (yielded ops a.tmps) = true then Oper.wp P o a W K Q else E := by
  rw [if_pos (by simp [Region.wanted, hgd])]
  unfold Oper.wp
  rw [hrun]
  exact h _ _ (Lib.hid rfl) (Lib.hid (World.size_alloc _ _)) (((Below.refl _ _).alloc (Nat.le_refl _) _)) (heap_alloc_new W _)
/-- The beginning. -/
theorem wp_region_G {id : Nat} {a : Act} {w : World} (N : Nat) (S : World → Prop) (hm : P.follows .mixedOrders = true) (hS : S w.drew)
    (h : S w.drew → wpAnyG P .any ops Q S N ops.size (Array.replicate ops.size false) a w.drew) : (Code.region id ops true).wp P Q a w :=
  wp_region_any hm (wpAny_of_G _ _ _ _ (h hS))
end
end Go.Proofs.YtmcdgmiheklbeaaGreatDoor

namespace Go.Proofs.YtmcdgmiheklbeaaGreatDoor
open Go.RowKit

theorem and_low (n : Nat) (h : n ≤ 100000) : bits BinOp.and IntKind.u64 (n : Int) 4294967295 = (n : Int) := by
  have h1 := bits_and_u64_nat n 4294967295 (by omega) (by omega)
  have h2 : n &&& 4294967295 = n := by
    have := Nat.and_two_pow_sub_one_eq_mod n 32
    rw [show (2 : Nat) ^ 32 - 1 = 4294967295 by decide] at this
    rw [this]; exact Nat.mod_eq_of_lt (by omega)
  rw [h2] at h1
  exact h1
theorem u64_in (x : Int) (h : 0 ≤ x ∧ x ≤ 18446744073709551615) : IntKind.u64.wrap x = x := by
  first | exact IntWalk.u64_in x h | (rw [IntWalk.u64_left]; omega)
set_option maxHeartbeats 1000000 in
theorem mul64_any (n : Nat) (w : World) (h : n ≤ 100000) :
    Calls Tryz.prog 95 #[.int .u64 1, .int .u64 (n : Int)] w fun e w' => e = .returned (.tuple #[.int .u64 0, .int .u64 (n : Int)]) ∧ w = w' := by
  have a1 := and_low n h
  have a2 : bits BinOp.and IntKind.u64 1 4294967295 = 1 := and_low 1 (by omega)
  have a3 : bits BinOp.and IntKind.u64 0 4294967295 = 0 := and_low 0 (by omega)
  have d1 : (n : Int) / 4294967296 = 0 := by omega
  have w1 : IntKind.u64.wrap (n : Int) = (n : Int) := u64_in _ (by omega)
  have w0 : IntKind.u64.wrap 0 = 0 := u64_in _ (by omega)
  go_enter Tryz.func95, Tryz.ntmps95
  go_wp2
  go_ret2
  exact ⟨rfl, rfl⟩
theorem mul_any (n : Nat) (w : World) (h : n ≤ 100000) :
    Calls Tryz.prog 65 #[.int .u64 1, .int .u64 (n : Int)] w fun e w' => e = .returned (.tuple #[.int .u64 0, .int .u64 (n : Int)]) ∧ w = w' := by
  have HM := Lib.hid (mul64_any n w h)
  go_enter Tryz.func65, Tryz.ntmps65
  go_wp2_with (go_at_call 95; refine HM.out.mono ?_; rintro e w2 ⟨rfl, rfl⟩)
  go_ret2
  exact ⟨rfl, rfl⟩
/-- A row, the first m of which are filled. -/
def rowF (k : Int) (n m : Nat) : List Value := nums .i64 (List.replicate m k ++ List.replicate (n - m) 0)
theorem rowF_length (k : Int) (n m : Nat) (h : m ≤ n) : (rowF k n m).length = n := by unfold rowF; rw [nums_length, List.length_append, List.length_replicate, List.length_replicate]; omega
theorem rowF_get (k : Int) (n m j : Nat) (h : j < m) : (rowF k n m)[j]? = some (.int .i64 k) := by
  unfold rowF nums
  rw [List.getElem?_map, List.getElem?_append_left (by rw [List.length_replicate]; exact h), List.getElem?_replicate, if_pos h]; rfl
theorem made_rowF (k : Int) (n : Nat) : madeCells #[Value.int .i64 0] n = (rowF k n 0).toArray := by
  apply Array.toList_inj.1
  apply List.ext_getElem
  · simp [rowF, nums, madeCells]
  · intro i h1 h2
    simp [rowF, nums, madeCells, Nat.mod_one]
theorem rowF_splice (k : Int) (n m c : Nat) (_h : m + c ≤ n) : splice (rowF k n m) m (nums .i64 (List.replicate c k)) = rowF k n (m + c) := by
  unfold splice rowF nums
  rw [List.map_append, List.length_map, List.length_replicate]
  rw [List.take_append_of_le_length (by simp), List.take_of_length_le (by simp)]
  rw [List.drop_append, List.drop_of_length_le (by simp), List.nil_append, ← List.map_drop, ← List.map_append, ← List.map_append]
  congr 1
  rw [List.length_map, List.length_replicate, show m + c - m = c by omega, List.drop_replicate, ← List.append_assoc, List.replicate_append_replicate, show n - m - c = n - (m + c) by omega]
theorem own_rowF {w : World} {g n base : Nat} (k : Int) (h : Blk w g (rowF k n n).toArray 3) (hb : base ≤ g) (hn : n ≤ 9223372036854775807) : OwnI 3 .i64 base w (.slice (some ⟨g, 0, none⟩) n n) (List.replicate n k) := by
  refine ⟨by rw [nums_length, List.length_replicate]; omega, .inr ⟨g, n, _, by rw [List.length_replicate], hb, h, by rw [List.length_replicate]; exact Nat.le_refl _, by simpa [maxLen] using hn, by simp [rowF_length], ?_⟩⟩
  rw [List.length_replicate]
  show (rowF k n n).take (n * 1) = _
  rw [Nat.mul_one, List.take_of_length_le (by rw [rowF_length _ _ _ (Nat.le_refl _)]; exact Nat.le_refl _)]
  unfold rowF; rw [Nat.sub_self, List.replicate_zero, List.append_nil]
theorem sizeI : (Tryz.prog.info? 3).map (·.size) = some 1 := by kernel_rfl

set_option maxHeartbeats 2000000 in
set_option maxRecDepth 100000 in
theorem repeat_any (A : Option Addr) (c : Nat) (k : Int) (n : Nat) (w : World) (hS : RI w A c [k]) (h1 : 1 ≤ n) (hn : n ≤ 100000) :
    Calls Tryz.prog 39 #[.slice A 1 c, .int .i64 (n : Int)] w fun e w' => ∃ v, e = .returned v ∧ OwnI 3 .i64 w.heap.size w' v (List.replicate n k) ∧ Below w.heap.size w w' := by
  have HM := Lib.hid (mul_any n w hn)
  obtain ⟨ad, rfl, hc⟩ := rd_int hS 0 (by simp)
  have hn0 : (0 : Int) ≤ (n : Int) := by omega
  have d0 : decide ((n : Int) < 0) = false := decide_eq_false (by omega)
  have w1 : IntKind.u64.wrap (n : Int) = (n : Int) := u64_in _ (by omega)
  have w2 : IntKind.u64.wrap 1 = 1 := u64_in _ (by omega)
  have w3 : IntKind.i64.wrap (n : Int) = (n : Int) := IntWalk.i64_in _ (by omega)
  have d1 : decide ((9223372036854775807 : Int) < (n : Int)) = false := decide_eq_false (by omega)
  have hmk := make_row (P := Tryz.prog) 22 3 .i64 8 Tryz.underlying22 infoI (by decide) n (by omega)
  go_enter Tryz.func39, Tryz.ntmps39
  obtain ⟨g, hg⟩ : ∃ g, w.heap.size = g := ⟨_, rfl⟩
  have HG := Lib.hid hg
  have HC := Lib.hid (show ∀ j v, (nums .i64 (List.replicate 1 k))[j]? = some v → (w.alloc (.cells (madeCells #[.int .i64 0] n) 3)).cell? (ad.add j) = some v from fun j v hv => by
    have hc2 := cell_below (below_alloc (Below.refl w.heap.size w) (.cells (madeCells #[.int .i64 0] n) 3)) hc
    match j, hv with
    | 0, hv => cases hv; exact hc2)
  have HH := Lib.hid (show (w.alloc (.cells (madeCells #[.int .i64 0] n) 3)).heap[g]? = some (.cells (rowF k n 0).toArray 3 (0, 0)) by rw [← hg, ← made_rowF k n]; exact heap_alloc_new w _)
  have HB := Lib.hid (below_alloc (Below.refl w.heap.size w) (.cells (madeCells #[.int .i64 0] n) 3))
  have H1 := Lib.hid h1
  have HN := Lib.hid hn
  clear hc hg
  go_wp2_with (first
    | (go_at_call 65; refine HM.out.mono ?_; rintro e w2 ⟨rfl, rfl⟩)
    | ((with_reducible refine at_dst (N := 33) rfl ?_); go_loud (refine wpList_copy_splice rfl (.tmp 31) (.tmp 32) 22 22 rfl 3 Tryz.underlying22 sizeI _ _ _ _ _ _ rfl rfl g 0 (rowF k n 0) 3 HH.out (nums .i64 (List.replicate 1 k)) (by have := H1.out; rw [nums_length, List.length_replicate]; show _ = min _ _; omega) (fun _ => ⟨by rw [HG.out], _, rfl, HC.out⟩) (by have := H1.out; rw [rowF_length _ _ _ (Nat.zero_le _), nums_length, List.length_replicate]; omega) (fun v hv => by obtain ⟨_, _, rfl⟩ := List.mem_map.1 hv; rfl) g w (by rw [← HG.out]; exact HB.out) (Nat.le_refl _) ?_); intro W4 hh4 hb4; rw [rowF_splice k n 0 1 (by have := H1.out; omega)] at hh4; have HB4 := Lib.hid hb4; clear hb4))
  clear hmk d0 w1 w2 w3 d1 hS hn h1
  simp only [HG.out]
  go_loopw [8] (fun mv wr => ∃ m : Nat, mv = .int .i64 (m : Int) ∧ 1 ≤ m ∧ m ≤ n ∧ Hid (wr.heap[g]? = some (.cells (rowF k n m).toArray 3 (0, 0))) ∧ Hid (Below g w wr)) (fun mv _ => n - (intOf mv).toNat)
  case atStart => exact ⟨1, rfl, Nat.le_refl _, H1.out, hh4, HB4⟩
  case round =>
    clear hh4
    obtain ⟨m, rfl, hm1, hm, hh, hb⟩ := hrel
    have HM1 := Lib.hid (And.intro hm1 hm)
    by_cases hlt : m < n
    · have hli : (m : Int) < (n : Int) := by omega
      obtain ⟨q, hq⟩ : ∃ q, min m (n - m) = q := ⟨_, rfl⟩
      have HQ := Lib.hid (show 1 ≤ q ∧ m + q ≤ n ∧ q ≤ m ∧ min m (n - m) = q from ⟨by omega, by omega, by omega, hq⟩)
      have hmq : IntKind.i64.wrap ((m : Int) + (q : Int)) = ((m + q : Nat) : Int) := by rw [IntWalk.i64_in _ (by have := HN.out; omega)]; omega
      have hm0 : (0 : Int) ≤ (m : Int) := by omega
      have hmn : (m : Int) ≤ (n : Int) := by omega
      have HSRC := Lib.hid (show ∀ j v, (nums .i64 (List.replicate q k))[j]? = some v → wr.drew.cell? ((⟨g, 0, none⟩ : Addr).add j) = some v from fun j v hv => by
        have hj : j < q := by
          have := (List.getElem?_eq_some_iff.1 hv).1
          simpa [nums] using this
        have e : v = .int .i64 k := by
          unfold nums at hv
          rw [List.getElem?_map, List.getElem?_replicate, if_pos hj] at hv
          exact (Option.some.inj hv).symm
        subst e
        rw [add_plain]
        have h9 := rowF_get k n m j (by have := HQ.out; omega)
        have h8 : wr.heap[g]? = some (.cells (rowF k n m).toArray 3 (0, 0)) := hh.out
        show wr.cell? _ = _
        simp only [World.cell?, h8]
        simpa using h9)
      clear hq
      go_wp2_with fail
      refine wp_region_G 9 (fun _ => True) (by kernel_rfl) trivial (fun hHeld => ?_)
      refine wpAnyG_takeL (i := 0) (.int .i64 (m : Int)) [9] rfl (by kernel_rfl) (fun _ _ _ h => h) hHeld (by rfl) ?_ ?_
      · (intro W' hSw; (try dsimp only at hSw); go_simp)
      try simp only [Act.put, List.setIfInBounds_toArray, List.set_cons_zero, List.set_cons_succ]
      refine wpAnyG_takeL (i := 1) (.slice (some ⟨g, 0, none⟩) n n) [9] rfl (by kernel_rfl) (fun _ _ _ h => h) hHeld (by rfl) ?_ ?_
      · (intro W' hSw; (try dsimp only at hSw); go_simp)
      try simp only [Act.put, List.setIfInBounds_toArray, List.set_cons_zero, List.set_cons_succ]
      refine wpAnyG_takeL (i := 2) (.int .i64 (m : Int)) [9] rfl (by kernel_rfl) (fun _ _ _ h => h) hHeld (by rfl) ?_ ?_
      · (intro W' hSw; (try dsimp only at hSw); go_simp)
      try simp only [Act.put, List.setIfInBounds_toArray, List.set_cons_zero, List.set_cons_succ]
      refine wpAnyG_takeL (i := 3) (.slice (some ⟨g, m, none⟩) (n - m) (n - m)) [9] rfl (by kernel_rfl) (fun _ _ _ h => h) hHeld (by rfl) ?_ ?_
      · (intro W' hSw; have hne : ¬ n = m := (by omega); go_simp)
      try simp only [Act.put, List.setIfInBounds_toArray, List.set_cons_zero, List.set_cons_succ]
      refine wpAnyG_takeL (i := 4) (.slice (some ⟨g, 0, none⟩) n n) [9] rfl (by kernel_rfl) (fun _ _ _ h => h) hHeld (by rfl) ?_ ?_
      · (intro W' hSw; (try dsimp only at hSw); go_simp)
      try simp only [Act.put, List.setIfInBounds_toArray, List.set_cons_zero, List.set_cons_succ]
      refine wpAnyG_takeL (i := 5) (.int .i64 (m : Int)) [9] rfl (by kernel_rfl) (fun _ _ _ h => h) hHeld (by rfl) ?_ ?_
      · (intro W' hSw; (try dsimp only at hSw); go_simp)
      try simp only [Act.put, List.setIfInBounds_toArray, List.set_cons_zero, List.set_cons_succ]
      refine wpAnyG_takeL (i := 6) (.slice (some ⟨g, 0, none⟩) m n) [9] rfl (by kernel_rfl) (fun _ _ _ h => h) hHeld (by rfl) ?_ ?_
      · (intro W' hSw; (try dsimp only at hSw); go_simp)
      try simp only [Act.put, List.setIfInBounds_toArray, List.set_cons_zero, List.set_cons_succ]
      refine wpAnyG_oneL (i := 7) (by kernel_rfl) rfl (fun K hK => ?_)
      refine step_copy_splice rfl (.tmp 41) (.tmp 44) 22 22 rfl 3 Tryz.underlying22 sizeI _ _ _ _ _ _ rfl rfl g m (rowF k n m) 3 hh.out (nums .i64 (List.replicate q k)) (by have := HQ.out.2.2.2; rw [nums_length, List.length_replicate]; exact this.symm) (fun _ => ⟨rfl, _, rfl, HSRC.out⟩) (by have := HQ.out; rw [rowF_length _ _ _ HM1.out.2, nums_length, List.length_replicate]; omega) (fun v hv => by obtain ⟨_, _, rfl⟩ := List.mem_map.1 hv; rfl) g w hb.out.drew (Nat.le_refl _) (fun w4 hg4 hb4 => ?_)
      refine hK.out _ _ (fun _ => trivial) ?_
      clear hK K
      try simp only [Act.put, List.setIfInBounds_toArray, List.set_cons_zero, List.set_cons_succ]
      refine wpAnyG_takeL (i := 8) (.int .i64 ((m + q : Nat) : Int)) [9] rfl (by kernel_rfl) (fun _ _ _ h => h) hHeld (by rfl) ?_ ?_
      · (intro W' hSw; go_simp; rw [nums_length, List.length_replicate, hmq]; omega)
      try simp only [Act.put, List.setIfInBounds_toArray, List.set_cons_zero, List.set_cons_succ]
      clear hHeld
      refine wpAnyG_oneL (i := 9) (by kernel_rfl) rfl (fun K hK => ?_)
      (go_simp)
      refine hK.out _ _ (fun h => Bool.noConfusion (show true = false from h)) ?_
      clear hK K
      refine wpAnyG_done (by kernel_rfl) ?_ _
      go_wp2
      go_roundw
      case rel => exact ⟨m + q, by first | rfl | go_num, by have := HQ.out; omega, by have := HQ.out; omega, Lib.hid (by have h9 := hg4.out; rw [rowF_splice k n m q (by have := HQ.out; omega)] at h9; exact h9), Lib.hid hb4⟩
      case measure => have := HQ.out; simp [intOf] <;> omega
    · obtain rfl : m = n := by omega
      go_wp2
      go_ret
      have hbl := HG.out
      exact ⟨_, rfl, own_rowF k hh.out (by rw [hbl]; exact Nat.le_refl _) (by have := HN.out; omega), by rw [hbl]; exact hb.out⟩
end Go.Proofs.YtmcdgmiheklbeaaGreatDoor

namespace Go.Proofs.YtmcdgmiheklbeaaGreatDoor
open Go.RowKit

theorem rd_flat {W : World} {r : Nat} {xs : List (Int × Int)} {t : TypeId} (h : Blk W r (flat2 xs).toArray t) (j : Nat) (hj : j < xs.length) :
    W.cell? ⟨r, j * 2, none⟩ = some (.int .i64 (nth (0, 0) xs j).1) ∧ W.cell? ⟨r, j * 2 + 1, none⟩ = some (.int .i64 (nth (0, 0) xs j).2) := by
  obtain ⟨h0, h1⟩ := flat2_get xs j hj
  exact ⟨h.cell _ (by rw [List.getElem?_toArray]; exact h0), h.cell _ (by rw [List.getElem?_toArray]; exact h1)⟩

def codesL (ls : List Int) : List Int := (List.range ls.length).map fun i => (codeN ls i : Int)
def codesR (ls : List Int) : List Int := if checkN ls = 0 then codesL ls else []
theorem codesL_length (ls : List Int) : (codesL ls).length = ls.length := by simp [codesL]
theorem codesL_nth (ls : List Int) (i : Nat) (h : i < ls.length) : nth 0 (codesL ls) i = (codeN ls i : Int) := by
  rw [nth_eq 0 _ i (by rw [codesL_length]; exact h)]; simp [codesL]

set_option maxHeartbeats 1000000 in
set_option maxRecDepth 100000 in
theorem codes_any (A : Option Addr) (c : Nat) (ls : List Int) (w : World) (hS : RI w A c ls) :
    Calls Tryz.prog 61 #[.slice A ls.length c] w fun e w' => ∃ v, e = .returned (.tuple #[v, .int .i64 (checkN ls)]) ∧ OwnI 3 .i64 w.heap.size w' v (codesR ls) ∧ Below w.heap.size w w' := by
  by_cases h : checkN ls = 0
  · have hr := (checkN_right ls).1 h
    have hlen := hr.len
    have HC := Lib.hid (check_any A c ls w hS)
    have HX := Lib.hid h
    have HE := Lib.hid (show codesR ls = codesL ls by simp [codesR, h])
    have HR := Lib.hid hr
    have HS := Lib.hid hS
    clear h hr hS
    go_enter Tryz.func61, Tryz.ntmps61
    go_wp2_with (first
      | (go_at_call 89; refine HC.out.mono ?_; rintro e w2 ⟨rfl, b2⟩; rw [HX.out]; have HW := Lib.hid (words_any A c ls w2 (HS.out.below b2) HR.out))
      | (go_at_call 90; refine HW.out.mono ?_; rintro e w3 ⟨r, rfl, hB3, hr3, b3⟩))
    have b23 := below2 b2 b3
    have HB3 := Lib.hid hB3
    clear HW HC hB3
    go_loopw [5, 16] (fun v i wr => ∃ k : Nat, k ≤ ls.length ∧ i = .int .i64 k ∧ OwnI 3 .i64 w3.heap.size wr v ((codesL ls).take k) ∧ Below w3.heap.size w3 wr) (fun _ i _ => ls.length - (intOf i).toNat)
    case atStart => exact ⟨0, Nat.zero_le _, rfl, OwnI.nil _ _ _ _, Below.refl _ _⟩
    case round =>
      obtain ⟨k, hk, rfl, hO, hB⟩ := hrel
      by_cases hlt : k < ls.length
      · obtain ⟨hc0, hc1⟩ := rd_flat (HB3.out.below hB) k (by rw [wordsL_length]; exact hlt)
        rw [wordsL_nth _ _ hlt] at hc0 hc1
        have HT := Lib.hid (take_succ_nth 0 (codesL ls) k (by rw [codesL_length]; exact hlt))
        rw [codesL_nth _ _ hlt] at HT
        have hlk : ((codesL ls).take k).length ≤ k := by rw [List.length_take]; omega
        have HO := Lib.hid hO
        have hal := below_alloc (Below.refl wr.heap.size wr) (.cells #[.int .i64 (lenOf ls k : Int), .int .i64 (codeN ls k : Int)] 153)
        have HA := Lib.hid hal
        clear hO hal
        go_wp2_with (at_builtin; (refine append_one (w0 := w3) w3.heap.size rfl (.tmp 20) (.tmp 23) 22 3 .i64 8 rfl Tryz.underlying22 infoI (by decide) _ ((codesL ls).take k) (codeN ls k) rfl (by rw [World.size_alloc]; rfl) (HO.out.below HA.out) (hB.trans (HA.out.mono hB.size)) (by have := hB.size; have := HA.out.size; omega) (by omega) ?_); intro v1 w4 hO4 hB4 _ _)
        go_roundw
        case rel => exact ⟨k + 1, by omega, by go_num, by rw [HT.out]; exact hO4, hB4⟩
        case measure => simp [intOf]; omega
      · obtain rfl : k = ls.length := by omega
        have HT := Lib.hid (show (codesL ls).take ls.length = codesL ls by rw [List.take_of_length_le (by rw [codesL_length]; exact Nat.le_refl _)])
        rw [HT.out] at hO
        go_wp2
        go_ret2
        exact ⟨_, ret_two rfl (by rw [HX.out]; rfl), by rw [HE.out]; exact hO.mono b23.size, below2 b23 hB⟩
  · have HC := Lib.hid (check_any A c ls w hS)
    have hb : (checkN ls == 0) = false := by simpa using h
    have hb2 : (checkN ls != 0) = true := by simpa using h
    have HE := Lib.hid (show codesR ls = [] by simp [codesR, h])
    clear h
    go_enter Tryz.func61, Tryz.ntmps61
    go_wp2_with (go_at_call 89; refine HC.out.mono ?_; rintro e w2 ⟨rfl, b2⟩)
    go_ret2
    exact ⟨_, ret_two rfl rfl, by rw [HE.out]; exact OwnI.nil _ _ _ _, b2⟩

theorem fullB_nil (bs : List Bool) (h : bs.length ≤ 1048576) : fullB bs [] = bs := by unfold fullB; rw [if_neg (by simp; omega)]; simp

end Go.Proofs.YtmcdgmiheklbeaaGreatDoor

namespace Go.Proofs.YtmcdgmiheklbeaaGreatDoor
open Go.RowKit

/-- One symbol more. -/
theorem filledK_step (ls : List Int) (k : Nat) : filledK ls (k + 1) = filledK ls k + share (lenOf ls k) := sumTo_succ _ _
theorem filledK_zero (ls : List Int) (k : Nat) (h : nth 0 ls k ≤ 0) : filledK ls (k + 1) = filledK ls k := by
  rw [filledK_step, show lenOf ls k = 0 by unfold lenOf; omega]; rfl

set_option maxHeartbeats 2000000 in
theorem rcheck_any (A : Option Addr) (c : Nat) (ls : List Int) (w : World) (hS : RI w A c ls) :
    Calls Tryz.prog 126 #[.slice A ls.length c] w fun e w' => e = .returned (.int .i64 (checkN ls)) ∧ w = w' := by
  have hn := hS.len
  by_cases h : 256 < ls.length
  · go_enter Tryz.func126, Tryz.ntmps126
    go_wp2
    go_ret
    exact ⟨by simp [checkN, h], rfl⟩
  · have HS := Lib.hid hS
    clear hS
    go_enter Tryz.func126, Tryz.ntmps126
    go_wp2
    go_loop [3, 4, 12] (fun b s i => ∃ k : Nat, k ≤ ls.length ∧ i = .int .i64 k ∧ b = .bool (decide (0 < filledK ls k)) ∧ s = .int .i64 (filledK ls k) ∧ Hid (∀ j, j < k → badLen (nth 0 ls j) = false)) (fun _ _ i => ls.length - (intOf i).toNat)
    case atStart => exact ⟨0, Nat.zero_le _, rfl, rfl, rfl, fun j hj => absurd hj (by omega)⟩
    case round =>
      obtain ⟨k, hk, rfl, rfl, rfl, hne⟩ := hrel
      by_cases hlt : k < ls.length
      · obtain ⟨ad, rfl, hc⟩ := rd_int HS.out k hlt
        have hle := filledK_le ls k
        by_cases hb : badLen (nth 0 ls k) = true
        · have HE := Lib.hid (show checkN ls = 1 by
            have : ls.any badLen = true := List.any_eq_true.2 ⟨_, nth_mem 0 ls k hlt, hb⟩
            simp [checkN, this])
          by_cases h0 : nth 0 ls k < 0
          · clear hle
            go_wp2
            go_ret
            exact ⟨ret_int HE.out.symm, rfl⟩
          · have h1 : 16 < nth 0 ls k := by simp [badLen] at hb; omega
            clear hle
            go_wp2
            go_ret
            exact ⟨ret_int HE.out.symm, rfl⟩
        · have hb' := Bool.eq_false_iff.2 hb
          have hne' : Hid (∀ j, j < k + 1 → badLen (nth 0 ls j) = false) := fun j hj => by
            rcases Nat.lt_or_ge j k with h | h
            · exact hne.out j h
            · obtain rfl : j = k := by omega
              exact hb'
          have hr : 0 ≤ nth 0 ls k ∧ nth 0 ls k ≤ 16 := by simp [badLen] at hb'; omega
          clear hb hb'
          obtain ⟨hr0, hr1⟩ := hr
          by_cases hx : 0 < nth 0 ls k
          · have hs := filledK_step ls k
            have hsp := share_pos (n := lenOf ls k) (by unfold lenOf; omega)
            have hsl := share_le (lenOf ls k)
            have hw1 : IntKind.i64.wrap (16 - nth 0 ls k) = 16 - nth 0 ls k := IntWalk.i64_in _ (by omega)
            have hcs : ((1 : Int) * 2 ^ (16 - nth 0 ls k).toNat) = (share (lenOf ls k) : Int) := by
              rw [hsp, Int.one_mul, show (16 - nth 0 ls k).toNat = 16 - lenOf ls k by unfold lenOf; omega]; simp
            have hw2 : IntKind.i64.wrap ((1 : Int) * 2 ^ (16 - nth 0 ls k).toNat) = (share (lenOf ls k) : Int) := by rw [hcs]; exact IntWalk.i64_in _ (by omega)
            have hw2' : IntKind.i64.wrap ((2 : Int) ^ (16 - nth 0 ls k).toNat) = (share (lenOf ls k) : Int) := by rw [Int.one_mul] at hw2; exact hw2
            have hw3 : IntKind.i64.wrap ((filledK ls k : Int) + (share (lenOf ls k) : Int)) = (filledK ls (k + 1) : Int) := by rw [hs, IntWalk.i64_in _ (by omega)]; simp
            have hpos : decide (0 < filledK ls (k + 1)) = true := by rw [hs, hsp]; have := Nat.two_pow_pos (16 - lenOf ls k); simp; omega
            have H := Lib.hid hpos
            clear hs hsp hsl hcs hle hpos
            go_wp2
            go_round
            case rel => exact ⟨k + 1, by omega, by go_num, by rw [H.out], rfl, hne'⟩
            case measure => simp [intOf]; omega
          · have H := Lib.hid (filledK_zero ls k (by omega))
            clear hle
            go_wp2
            go_round
            case rel => exact ⟨k + 1, by omega, by go_num, by rw [H.out], by rw [H.out], hne'⟩
            case measure => simp [intOf]; omega
      · obtain rfl : k = ls.length := by omega
        have ha : ls.any badLen = false := by
          rw [List.any_eq_false]
          intro x hx
          obtain ⟨j, hj, rfl⟩ := List.mem_iff_getElem.1 hx
          have := hne.out j hj
          rw [nth_eq 0 ls j hj] at this
          simp [this]
        have HE := Lib.hid (show checkN ls = if filledN ls = 0 then 5 else if 65536 < filledN ls then 4 else 0 by simp [checkN, h, ha])
        have hf : filledK ls ls.length = filledN ls := rfl
        rw [hf]
        have hle := filledK_le ls ls.length
        rw [hf] at hle
        generalize filledN ls = F at *
        clear ha hf
        by_cases h0 : F = 0
        · subst h0
          clear hle
          go_wp2
          go_ret
          exact ⟨ret_int (by rw [HE.out]; simp), rfl⟩
        · have h0' : 0 < F := by omega
          have hb : decide (0 < F) = true := by simpa using h0'
          by_cases h1 : 65536 < F
          · go_wp2
            go_ret
            exact ⟨ret_int (by rw [HE.out, if_neg h0, if_pos h1]), rfl⟩
          · go_wp2
            go_ret
            exact ⟨ret_int (by rw [HE.out, if_neg h0, if_neg h1]), rfl⟩

end Go.Proofs.YtmcdgmiheklbeaaGreatDoor

namespace Go.Proofs.YtmcdgmiheklbeaaGreatDoor
open Go.RowKit

end Go.Proofs.YtmcdgmiheklbeaaGreatDoor

namespace Go.Proofs.YtmcdgmiheklbeaaGreatDoor
open Go.RowKit

theorem flatR_prefix {β : Type} (f : Nat → List β) (n d : Nat) : ∃ B, (List.range (n + d)).flatMap f = (List.range n).flatMap f ++ B := by
  induction d with
  | zero => exact ⟨[], by simp⟩
  | succ d ih =>
    obtain ⟨B, hB⟩ := ih
    exact ⟨B ++ f (n + d), by rw [← Nat.add_assoc, List.range_succ, List.flatMap_append, hB]; simp⟩
theorem filtR_prefix (p : Nat → Bool) (n d : Nat) : ∃ B, (List.range (n + d)).filter p = (List.range n).filter p ++ B := by
  induction d with
  | zero => exact ⟨[], by simp⟩
  | succ d ih =>
    obtain ⟨B, hB⟩ := ih
    exact ⟨B ++ [n + d].filter p, by rw [← Nat.add_assoc, List.range_succ, List.filter_append, hB, List.append_assoc]⟩
/-- The words of lengths up to n, and the first k symbols of length n + 1. -/
def preP (ls : List Int) (n k : Nat) : List Nat := ((List.range n).flatMap fun m => (List.range ls.length).filter fun i => lenOf ls i == m + 1) ++ (List.range k).filter fun i => lenOf ls i == n + 1
theorem preP_zero (ls : List Int) : preP ls 0 0 = [] := by simp [preP]
theorem preP_hit (ls : List Int) (n k : Nat) (h : lenOf ls k = n + 1) : preP ls n (k + 1) = preP ls n k ++ [k] := by
  simp [preP, List.range_succ, List.filter_append, h]
theorem preP_miss (ls : List Int) (n k : Nat) (h : lenOf ls k ≠ n + 1) : preP ls n (k + 1) = preP ls n k := by
  simp [preP, List.range_succ, List.filter_append, h]
theorem preP_next (ls : List Int) (n : Nat) : preP ls n ls.length = preP ls (n + 1) 0 := by
  simp [preP, List.range_succ, List.flatMap_append]
theorem preP_all (ls : List Int) : preP ls 16 0 = ordN ls := by simp [preP, ordN]
theorem preP_prefix (ls : List Int) (n k : Nat) (hn : n < 16) (hk : k ≤ ls.length) : ∃ B, ordN ls = preP ls n k ++ B := by
  obtain ⟨B1, h1⟩ := flatR_prefix (fun m => (List.range ls.length).filter fun i => lenOf ls i == m + 1) (n + 1) (15 - n)
  obtain ⟨B2, h2⟩ := filtR_prefix (fun i => lenOf ls i == n + 1) k (ls.length - k)
  rw [show n + 1 + (15 - n) = 16 by omega] at h1
  rw [show k + (ls.length - k) = ls.length by omega] at h2
  refine ⟨B2 ++ B1, ?_⟩
  unfold ordN preP
  rw [h1, List.range_succ, List.flatMap_append]
  simp only [List.flatMap_cons, List.flatMap_nil, List.append_nil]
  rw [h2]
  simp [List.append_assoc]
/-- At a symbol of length n + 1. -/
theorem preP_here (ls : List Int) (n k : Nat) (hn : n < 16) (hk : k < ls.length) (h : lenOf ls k = n + 1) : ∃ B, ordN ls = preP ls n k ++ k :: B := by
  obtain ⟨B, hB⟩ := preP_prefix ls n (k + 1) hn hk
  exact ⟨B, by rw [hB, preP_hit ls n k h, List.append_assoc]; rfl⟩
def outC (ls : List Int) (pre : List Nat) : List Int := (List.range ls.length).map fun i => if i ∈ pre then (codeN ls i : Int) else 0
theorem outC_length (ls : List Int) (pre : List Nat) : (outC ls pre).length = ls.length := by simp [outC]
theorem outC_nil (ls : List Int) : outC ls [] = List.replicate ls.length 0 := by
  simp only [outC, List.not_mem_nil, if_false]
  rw [List.map_const', List.length_range]
theorem outC_snoc (ls : List Int) (pre : List Nat) (x : Nat) (_ : x < ls.length) : outC ls (pre ++ [x]) = (outC ls pre).set x (codeN ls x : Int) := by
  apply List.ext_getElem
  · simp [outC]
  · intro i h1 h2
    by_cases hi : x = i
    · subst hi
      simp [outC]
    · rw [List.getElem_set_ne hi]
      simp only [outC, List.getElem_map, List.getElem_range, List.mem_append, List.mem_singleton]
      by_cases hm : i ∈ pre
      · simp [hm]
      · rw [if_neg hm, if_neg (by rintro (h | h); exact hm h; exact hi h.symm)]
theorem outC_all {ls : List Int} (h16 : ∀ k, lenOf ls k ≤ 16) : outC ls (ordN ls) = codesL ls := by
  unfold outC codesL
  apply List.map_congr_left
  intro i hi
  split
  · rfl
  · rename_i h
    rw [mem_ordN h16] at h
    have : lenOf ls i = 0 := by
      have hl := List.mem_range.1 hi
      rcases Nat.eq_zero_or_pos (lenOf ls i) with h0 | h0
      · exact h0
      · exact absurd ⟨hl, h0⟩ h
    simp [codeN, this]

set_option maxHeartbeats 4000000 in
set_option maxRecDepth 100000 in
theorem rcodes_any (A : Option Addr) (c : Nat) (ls : List Int) (w : World) (hS : RI w A c ls) :
    Calls Tryz.prog 102 #[.slice A ls.length c] w fun e w' => ∃ v, e = .returned (.tuple #[v, .int .i64 (checkN ls)]) ∧ OwnI 3 .i64 w.heap.size w' v (codesR ls) ∧ Below w.heap.size w w' := by
  have hn := hS.len
  by_cases h : checkN ls = 0
  · have hr := (checkN_right ls).1 h
    have h256 := hr.len
    have hmk := make_row (P := Tryz.prog) 22 3 .i64 8 Tryz.underlying22 infoI (by decide) ls.length (by omega)
    have HX := Lib.hid h
    have HE := Lib.hid (show codesR ls = codesL ls by simp [codesR, h])
    have HR := Lib.hid hr
    have HS := Lib.hid hS
    clear h hr hS
    go_enter Tryz.func102, Tryz.ntmps102
    go_wp2_with (go_at_call 126; refine (rcheck_any _ _ _ _ HS.out).mono ?_; rintro e w2 ⟨rfl, rfl⟩; rw [HX.out])
    have hO := own_made w 3 .i64 ls.length (by omega)
    have hB := below_alloc (Below.refl w.heap.size w) (.cells (madeCells #[.int .i64 0] ls.length) 3)
    generalize w.alloc (.cells (madeCells #[.int .i64 0] ls.length) 3) = w1 at hO hB ⊢
    clear hmk
    go_loopw [6, 7, 8] (fun nx la l wr => ∃ n : Nat, n ≤ 16 ∧ l = .int .i64 ((n + 1 : Nat) : Int) ∧ nx = .int .i64 ((wN ls (preP ls n 0)).2 : Int) ∧ la = .int .i64 ((wN ls (preP ls n 0)).1 : Int) ∧ OwnI 3 .i64 w.heap.size wr (.slice (some ⟨w.heap.size, 0, none⟩) ls.length ls.length) (outC ls (preP ls n 0)) ∧ Below w.heap.size w wr) (fun _ _ l _ => 17 - (intOf l).toNat)
    case atStart => exact ⟨0, Nat.zero_le _, rfl, rfl, rfl, by rw [preP_zero, outC_nil]; exact hO, hB⟩
    case round =>
      clear hO hB
      obtain ⟨n, hn16, rfl, rfl, rfl, hO, hB⟩ := hrel
      by_cases hlt : n < 16
      · have hnc : ((n + 1 : Nat) : Int) ≤ 16 := by omega
        have hwr : IntKind.i64.wrap (((n + 1 : Nat) : Int) + 1) = ((n + 1 + 1 : Nat) : Int) := by rw [IntWalk.i64_in _ (by omega)]; omega
        have HO := Lib.hid hO
        clear hO
        go_wp2
        go_loopw [6, 7, 25] (fun nx la i wr2 => ∃ k : Nat, k ≤ ls.length ∧ i = .int .i64 (k : Int) ∧ nx = .int .i64 ((wN ls (preP ls n k)).2 : Int) ∧ la = .int .i64 ((wN ls (preP ls n k)).1 : Int) ∧ OwnI 3 .i64 w.heap.size wr2 (.slice (some ⟨w.heap.size, 0, none⟩) ls.length ls.length) (outC ls (preP ls n k)) ∧ Below w.heap.size w wr2) (fun _ _ i _ => ls.length - (intOf i).toNat)
        case atStart => exact ⟨0, Nat.zero_le _, rfl, rfl, rfl, HO.out, hB⟩
        case round =>
          clear hB HO
          obtain ⟨k, hk, rfl, rfl, rfl, hO, hB⟩ := hrel
          by_cases hkl : k < ls.length
          · obtain ⟨ad, rfl, hc⟩ := rd_int (HS.out.below hB) k hkl
            obtain ⟨l0, l1⟩ := HR.out.ok.at k
            have h16 := HR.out.ok.len16
            by_cases hx : lenOf ls k = n + 1
            · have hxi : nth 0 ls k = ((n + 1 : Nat) : Int) := by unfold lenOf at hx; omega
              rw [hxi] at hc
              obtain ⟨B, hord⟩ := preP_here ls n k hlt hkl hx
              have hcode := wN_code h16 _ B k hord
              have hlast := wN_le h16 _ B k hord
              have hsn := wN_snoc ls (preP ls n k) k
              rw [hcode, hx] at hsn
              rw [hx] at hlast
              have hpos := wN_pos h16 _ B k hord
              have hcl := code_lt h16 HR.out.full hkl
              rw [hx] at hcl
              have h2L : 2 ^ (n + 1) ≤ 65536 := by have := Nat.pow_le_pow_right (n := 2) (by decide) (show n + 1 ≤ 16 by omega); simpa using this
              have HP := Lib.hid (preP_hit ls n k hx)
              have HC := Lib.hid hcode
              have HOS := Lib.hid (outC_snoc ls (preP ls n k) k hkl)
              obtain ⟨ka, kf⟩ := hO.at_ k (by rw [outC_length]; exact hkl)
              have HO := Lib.hid hO
              have HLX := Lib.hid hx
              generalize hW : wN ls (preP ls n k) = W at *
              obtain ⟨a, b⟩ := W
              have HW := Lib.hid hW
              generalize hC : codeN ls k = C at *
              have hki : (k : Int) < (ls.length : Int) := by omega
              clear hO hord hcode hx hxi hW hC l0 l1 h16
              rcases hpos with hz | hz
              · injection hz with hz1 hz2
                subst hz1 hz2
                have hC0 : C = 0 := by unfold stepW at hsn; rw [if_pos rfl] at hsn; injection hsn
                subst hC0
                clear hsn hcl
                go_wp2
                go_roundw
                case rel =>
                  have hs := HO.out.set k (0 : Int)
                  exact ⟨k + 1, by omega, by go_num, by rw [HP.out, HC.out], by rw [HP.out, HC.out, HLX.out], by rw [HP.out, HOS.out]; exact hs.1, below_grown hB hB.size hs.2 (fun r e => by have := Option.some.inj e; omega)⟩
                case measure => simp [intOf]; omega
              · have hz : 0 < a := hz
                have hla : a ≤ n + 1 := hlast
                obtain ⟨d, hd⟩ : ∃ d, n + 1 - a = d := ⟨_, rfl⟩
                have hCb : C = (b + 1) * 2 ^ d := by
                  unfold stepW at hsn
                  rw [if_neg (fun e => by injection e with h1 h2; omega)] at hsn
                  injection hsn with h1 h2
                  rw [← hd, h2, HLX.out]
                have hb16 : b + 1 ≤ 65536 := by
                  have h1 : 1 ≤ 2 ^ d := Nat.one_le_two_pow
                  have h3 : (b + 1) * 1 ≤ (b + 1) * 2 ^ d := Nat.mul_le_mul_left _ h1
                  omega
                have hw1 : IntKind.i64.wrap (((n + 1 : Nat) : Int) - (a : Int)) = (d : Int) := by rw [IntWalk.i64_in _ (by omega)]; omega
                have hw2 : IntKind.i64.wrap (((b : Int) + 1) * 2 ^ d) = (C : Int) := by
                  have e1 : (((b : Int) + 1) * 2 ^ d) = (C : Int) := by rw [hCb]; simp
                  rw [e1]; exact IntWalk.i64_in _ (by omega)
                have HWW := Lib.hid (show wrap64 (((b : Int) + 1) * 2 ^ (n + 1 - a)) = (C : Int) by rw [hd]; rw [IntWalk.wrap64_in _ (by rw [show (((b : Int) + 1) * 2 ^ d) = (C : Int) by rw [hCb]; simp]; omega)]; rw [hCb]; simp)
                have hd16 : d ≤ 64 := by omega
                have hai : (0 : Int) < (a : Int) := by omega
                clear hsn hcl hlast hd hCb h2L
                go_wp2
                go_roundw
                case rel =>
                  rw [HWW.out]
                  have hs := HO.out.set k (C : Int)
                  exact ⟨k + 1, by omega, by go_num, by rw [HP.out, HC.out], by rw [HP.out, HC.out, HLX.out], by rw [HP.out, HOS.out]; exact hs.1, below_grown hB hB.size hs.2 (fun r e => by have := Option.some.inj e; omega)⟩
                case measure => simp [intOf]; omega
            · have HP := Lib.hid (preP_miss ls n k hx)
              have hne : (nth 0 ls k != ((n + 1 : Nat) : Int)) = true := by simp only [bne_iff_ne, ne_eq]; unfold lenOf at hx; omega
              have HO := Lib.hid hO
              clear hO hx
              go_wp2
              go_roundw
              case rel => exact ⟨k + 1, by omega, by go_num, by rw [HP.out], by rw [HP.out], by rw [HP.out]; exact HO.out, hB⟩
              case measure => simp [intOf]; omega
          · obtain rfl : k = ls.length := by omega
            have HP := Lib.hid (preP_next ls n)
            have HO := Lib.hid hO
            clear hO
            go_wp2
            go_roundw
            case rel => exact ⟨n + 1, by omega, by go_num, by rw [HP.out], by rw [HP.out], by rw [← HP.out]; exact HO.out, hB⟩
            case measure => simp [intOf]; omega
      · obtain rfl : n = 16 := by omega
        have HP := Lib.hid (show outC ls (preP ls 16 0) = codesL ls by rw [preP_all, outC_all HR.out.ok.len16])
        rw [HP.out] at hO
        go_wp2
        go_ret2
        exact ⟨_, ret_two rfl (by rw [HX.out]; rfl), by rw [HE.out]; exact hO, hB⟩
  · have hb : (checkN ls != 0) = true := by simpa using h
    have HE := Lib.hid (show codesR ls = [] by simp [codesR, h])
    clear h
    go_enter Tryz.func102, Tryz.ntmps102
    go_wp2_with (go_at_call 126; refine (rcheck_any _ _ _ _ hS).mono ?_; rintro e w2 ⟨rfl, rfl⟩)
    go_ret2
    exact ⟨_, ret_two rfl rfl, by rw [HE.out]; exact OwnI.nil _ _ _ _, Below.refl _ _⟩
end Go.Proofs.YtmcdgmiheklbeaaGreatDoor

namespace Go.Proofs.YtmcdgmiheklbeaaGreatDoor
open Go Go.RowKit Go.Maps

def klW (k : Nat × Nat) : Lit := .string (keyBytes [.int .i64 (k.1 : Int), .int .i64 (k.2 : Int)])
def WKey (k : Nat × Nat) : Prop := k.1 ≤ 100000000 ∧ k.2 ≤ 100000000
/-- A map from words to numbers. -/
def SymM (n : Nat) (w : World) (b : Nat) (f : Nat × Nat → Option Nat) : Prop :=
  ∃ D : DataW Unit, w.ownsMap Tryz.prog 153 (plainElem Tryz.prog 3) b n D ∧ IsMap D ∧ ∀ k, WKey k → Maps.has D (klW k) = (f k).isSome ∧ ∀ x, f k = some x → D.atKey (klW k) (.lit (.int .i64 0)) = .lit (.int .i64 (x : Int))
/-- A set of words, kept as a map to bools. -/
def BegM (n : Nat) (w : World) (b : Nat) (f : Nat × Nat → Bool) : Prop :=
  ∃ D : DataW Unit, w.ownsMap Tryz.prog 153 (plainElem Tryz.prog 4) b n D ∧ IsMap D ∧ ∀ k, WKey k → D.atKey (klW k) (.lit (.bool false)) = .lit (.bool (f k))
section
variable {n b : Nat} {w w' : World} {f : Nat × Nat → Option Nat} {g : Nat × Nat → Bool}
theorem SymM.lt (h : SymM n w b f) : b < w.heap.size := let ⟨_, h, _⟩ := h; World.ownsMap.lt h
theorem BegM.lt (h : BegM n w b g) : b < w.heap.size := let ⟨_, h, _⟩ := h; World.ownsMap.lt h
theorem SymM.grown {row : Option Nat} (h : SymM n w b f) (hg : w.grownBy w' row) (hne : some b ≠ row) : SymM n w' b f := let ⟨D, h, r⟩ := h; ⟨D, World.ownsMap.kept h hg hne, r⟩
theorem BegM.grown {row : Option Nat} (h : BegM n w b g) (hg : w.grownBy w' row) (hne : some b ≠ row) : BegM n w' b g := let ⟨D, h, r⟩ := h; ⟨D, World.ownsMap.kept h hg hne, r⟩
theorem ownsMap_blk {P : Program} {k : TypeId} {R : Value → Option (DataW Unit × List MemPlace)} {D : DataW Unit} (h : w.ownsMap P k R b n D) (hb : w'.heap[b]? = w.heap[b]?) : w'.ownsMap P k R b n D := by
  obtain ⟨es, clock, h1, h2⟩ := h
  exact ⟨es, clock, hb.trans h1, h2⟩
theorem SymM.keep {ok : Nat → Prop} (h : SymM n w b f) (hk : Keep ok w w') (ho : ok b) : SymM n w' b f := let ⟨D, h1, r⟩ := h; ⟨D, ownsMap_blk h1 (hk.blk b h.lt ho), r⟩
theorem BegM.keep {ok : Nat → Prop} (h : BegM n w b g) (hk : Keep ok w w') (ho : ok b) : BegM n w' b g := let ⟨D, h1, r⟩ := h; ⟨D, ownsMap_blk h1 (hk.blk b h.lt ho), r⟩
theorem SymM.below (h : SymM n w b f) (hb : Below w.heap.size w w') : SymM n w' b f := let ⟨D, h1, r⟩ := h; ⟨D, ownsMap_blk h1 (hb.block b h.lt), r⟩
theorem BegM.below (h : BegM n w b g) (hb : Below w.heap.size w w') : BegM n w' b g := let ⟨D, h1, r⟩ := h; ⟨D, ownsMap_blk h1 (hb.block b h.lt), r⟩
theorem SymM.mono (h : SymM n w b f) {m : Nat} (hm : n ≤ m) : SymM m w b f := let ⟨D, h, r⟩ := h; ⟨D, World.ownsMap.mono h hm, r⟩
theorem BegM.mono (h : BegM n w b g) {m : Nat} (hm : n ≤ m) : BegM m w b g := let ⟨D, h, r⟩ := h; ⟨D, World.ownsMap.mono h hm, r⟩
end
theorem SymM.new (w : World) : SymM 0 (w.alloc (.map #[] 0)) w.heap.size (fun _ => none) :=
  ⟨_, World.ownsMap_made _ _ _ _, isMap_empty, fun k _ => ⟨rfl, fun x e => by cases e⟩⟩
theorem BegM.new (w : World) : BegM 0 (w.alloc (.map #[] 0)) w.heap.size (fun _ => false) :=
  ⟨_, World.ownsMap_made _ _ _ _, isMap_empty, fun _ _ => rfl⟩
end Go.Proofs.YtmcdgmiheklbeaaGreatDoor

namespace Go.Proofs.YtmcdgmiheklbeaaGreatDoor
open Go.RowKit

/-- Which symbol of the first k has a word. -/
def symF (ls : List Int) : Nat → Nat × Nat → Option Nat
  | 0, _ => none
  | k + 1, p => if 0 < lenOf ls k ∧ p = (lenOf ls k, codeN ls k) then some k else symF ls k p
theorem symF_yes {ls : List Int} {k : Nat} (h : 0 < lenOf ls k) : symF ls (k + 1) = fun p => if p = (lenOf ls k, codeN ls k) then some k else symF ls k p := by
  funext p
  show (if 0 < lenOf ls k ∧ p = (lenOf ls k, codeN ls k) then some k else symF ls k p) = _
  by_cases e : p = (lenOf ls k, codeN ls k)
  · rw [if_pos ⟨h, e⟩, if_pos e]
  · rw [if_neg (fun h => e h.2), if_neg e]
end Go.Proofs.YtmcdgmiheklbeaaGreatDoor

namespace Go.Proofs.YtmcdgmiheklbeaaGreatDoor
open Go.RowKit

theorem set_two (w : World) (g : Nat) (u v : Value) : Upd (fun b => b = g) w ((w.setCell ⟨g, 0, none⟩ u).setCell ⟨g, 1, none⟩ v) :=
  (Upd.setCell (fun b => b = g) w g 0 u rfl).trans (Upd.setCell (fun b => b = g) _ g 1 v rfl) fun _ _ h => h
end Go.Proofs.YtmcdgmiheklbeaaGreatDoor

namespace Go.Proofs.YtmcdgmiheklbeaaGreatDoor
open Go.RowKit

end Go.Proofs.YtmcdgmiheklbeaaGreatDoor

namespace Go.Proofs.YtmcdgmiheklbeaaGreatDoor
open Go.RowKit

end Go.Proofs.YtmcdgmiheklbeaaGreatDoor

namespace Go.Proofs.YtmcdgmiheklbeaaGreatDoor
open Go.RowKit

def bitsI (l : List Bool) : List Int := l.map b2i
theorem bitsI_length (l : List Bool) : (bitsI l).length = l.length := by simp [bitsI]
theorem bitsI_nth (l : List Bool) (k : Nat) (h : k < l.length) : nth 0 (bitsI l) k = b2i (nth false l k) := by
  rw [nth_eq 0 _ k (by rw [bitsI_length]; exact h), nth_eq false _ k h]; simp [bitsI]
theorem bitB_and8 (b : List Int) (i : Nat) (h0 : 0 ≤ nth 0 b (i / 8)) (h1 : nth 0 b (i / 8) < 256) : Go.bits .and .u8 (nth 0 b (i / 8) / 2 ^ (7 - i % 8)) 1 = b2i (bitB b i) := by
  have hd := div_bd (nth 0 b (i / 8)) (7 - i % 8) h0 h1
  have e1 := bits_mask .u8 8 (by decide) (fun n h0 h1 => wraps_u8 n h0 h1) 1 (by decide) (nth 0 b (i / 8) / 2 ^ (7 - i % 8)) hd.1 (by rw [show (2 : Int) ^ 8 = 256 by decide]; omega)
  have e2 := bitB_and b i h0 h1
  rw [and_one _ hd.1 (by omega)] at e2
  have e3 : (2 : Int) ^ 1 - 1 = 1 := by decide
  rw [e3] at e1
  rw [e1]
  simpa using e2

/-- Bytes of bits, zeros behind them. -/
def padB (bs : List Bool) (L : Nat) : List Int := packB bs ++ List.replicate (L - (packB bs).length) 0
theorem padB_nil (L : Nat) : padB [] L = List.replicate L 0 := by simp [padB, packB]
theorem padB_all (bs : List Bool) : padB bs ((bs.length + 7) / 8) = packB bs := by simp [padB, packB_length]
theorem padB_length (bs : List Bool) (L : Nat) (h : (bs.length + 7) / 8 ≤ L) : (padB bs L).length = L := by simp [padB, packB_length]; omega
theorem padB_room (bs : List Bool) (L : Nat) (h : bs.length / 8 < L) : padB bs L = roomB bs ++ List.replicate (L - (bs.length / 8 + 1)) 0 := by
  unfold padB roomB
  split
  · rename_i h8
    rw [packB_length, List.append_assoc, show L - (bs.length + 7) / 8 = (L - (bs.length / 8 + 1)) + 1 by omega, List.replicate_succ]
    rfl
  · rename_i h8
    rw [packB_length, show (bs.length + 7) / 8 = bs.length / 8 + 1 by omega]
theorem padB_nth (bs : List Bool) (L : Nat) (h : bs.length / 8 < L) : nth 0 (padB bs L) (bs.length / 8) = (byteB bs (bs.length / 8) : Int) := by
  rw [padB_room _ _ h, nth_append_left _ _ _ _ (by rw [roomB_length]; omega), roomB_nth]
theorem padB_snoc (bs : List Bool) (b : Bool) (L : Nat) (h : bs.length / 8 < L) : padB (bs ++ [b]) L = (padB bs L).set (bs.length / 8) ((byteB bs (bs.length / 8) : Int) + b2i b * 2 ^ (7 - bs.length % 8)) := by
  rw [padB_room bs _ h, List.set_append_left _ _ (by rw [roomB_length]; omega), ← packB_snoc]
  unfold padB
  rw [packB_length, List.length_append, List.length_singleton, show (bs.length + 1 + 7) / 8 = bs.length / 8 + 1 by omega]

end Go.Proofs.YtmcdgmiheklbeaaGreatDoor

namespace Go.Proofs.YtmcdgmiheklbeaaGreatDoor
open Go.RowKit

section
variable {o o' : Nat → Prop} {w w' : World} {g : Nat} {v : Value} {bs : List Bool}
end
def sameL (a b : List Int) : Bool := decide (a = b)
theorem same_end {a b : List Int} (hl : a.length = b.length) (h : ∀ j, j < a.length → nth 0 a j = nth 0 b j) : sameL a b = true := by
  refine decide_eq_true (List.ext_getElem hl fun i h1 h2 => ?_)
  have := h i h1
  rwa [nth_eq 0 a i h1, nth_eq 0 b i h2] at this
end Go.Proofs.YtmcdgmiheklbeaaGreatDoor

namespace Go.Proofs.YtmcdgmiheklbeaaGreatDoor
open Go.RowKit

section
variable {o o' : Nat → Prop} {w w' : World} {g : Nat} {l : List Bool} {at_ : Nat}
end

theorem Sl.part {ok : Nat → Prop} {w : World} {A : Option Addr} {c : Nat} {xs : List Int} {ik : IntKind} (h : Sl (kInt ik) ok w A c xs) (i n : Nat) (hn : i + n ≤ xs.length) : Sl (kInt ik) ok w (A.map fun x => x.add i) (c - i) ((xs.drop i).take n) := by
  have hr := (h.rd.drop i).take n
  rw [show i * (kInt ik).size = i from Nat.mul_one i] at hr
  exact ⟨by rw [List.length_take, List.length_drop]; have := h.le; omega, by have := h.cap; omega, hr⟩
theorem Sl.none {α : Type} {k : Kd α} {ok : Nat → Prop} {w : World} (A : Option Addr) (c : Nat) (hc : c ≤ 9223372036854775807) : Sl k ok w A c [] := ⟨Nat.zero_le _, hc, Kd.Rd.nil _ _ _ _⟩

end Go.Proofs.YtmcdgmiheklbeaaGreatDoor

namespace Go.Proofs.YtmcdgmiheklbeaaGreatDoor
open Go.RowKit

end Go.Proofs.YtmcdgmiheklbeaaGreatDoor

namespace Go.Proofs.YtmcdgmiheklbeaaGreatDoor
open Go.RowKit

end Go.Proofs.YtmcdgmiheklbeaaGreatDoor

namespace Go.Proofs.YtmcdgmiheklbeaaGreatDoor
open Go.RowKit

theorem code_uniq {ls : List Int} (hr : Right ls) {i j : Nat} (hi : i < ls.length) (hj : j < ls.length) (h0 : 0 < lenOf ls i) (hl : lenOf ls i = lenOf ls j) (hc : codeN ls i = codeN ls j) : i = j := by
  rcases Nat.decEq i j with h | h
  · have := code_free (i := i) (j := j) hr.ok.len16 hi hj h h0 (by omega)
    rw [← hl, Nat.sub_self, Nat.pow_zero, Nat.div_one] at this
    exact absurd hc.symm this
  · exact h
theorem symF_some {ls : List Int} (hr : Right ls) {i : Nat} (h0 : 0 < lenOf ls i) : ∀ {k : Nat}, i < k → k ≤ ls.length → symF ls k (lenOf ls i, codeN ls i) = some i
  | 0, h, _ => absurd h (by omega)
  | k + 1, h, hk => by
    unfold symF
    by_cases e : 0 < lenOf ls k ∧ (lenOf ls i, codeN ls i) = (lenOf ls k, codeN ls k)
    · rw [if_pos e]
      have h1 : lenOf ls i = lenOf ls k := congrArg Prod.fst e.2
      have h2 : codeN ls i = codeN ls k := congrArg Prod.snd e.2
      rw [code_uniq hr (i := i) (j := k) (by omega) (by omega) h0 h1 h2]
    · rw [if_neg e]
      have : i ≠ k := fun h => e ⟨h ▸ h0, by rw [h]⟩
      exact symF_some hr h0 (by omega) (by omega)
end Go.Proofs.YtmcdgmiheklbeaaGreatDoor

namespace Go.Proofs.YtmcdgmiheklbeaaGreatDoor
open Go.RowKit

end Go.Proofs.YtmcdgmiheklbeaaGreatDoor

namespace Go.Proofs.YtmcdgmiheklbeaaGreatDoor
open Go.RowKit

end Go.Proofs.YtmcdgmiheklbeaaGreatDoor

namespace Go.Proofs.YtmcdgmiheklbeaaGreatDoor
open Go.RowKit

end Go.Proofs.YtmcdgmiheklbeaaGreatDoor

namespace Go.Proofs.YtmcdgmiheklbeaaGreatDoor
open Go.RowKit

set_option maxHeartbeats 1000000 in
set_option maxRecDepth 100000 in
theorem ints_ref (A B : Option Addr) (c d : Nat) (a b : List Int) (w : World) (hS : RI w A c a) (hT : RI w B d b) :
    Calls Tryz.prog 25 #[.slice A a.length c, .slice B b.length d] w fun e w' => e = .returned (.bool (sameL a b)) ∧ Below w.heap.size w w' := by
  have hn := hS.len
  have hm := hT.len
  by_cases hl : a.length = b.length
  · have hb : ((a.length : Int) != (b.length : Int)) = false := by simp [hl]
    have HL := Lib.hid hl
    clear hl
    go_enter Tryz.func25, Tryz.ntmps25
    go_wp2
    go_loopw [13] (fun i wr => ∃ k : Nat, k ≤ a.length ∧ i = .int .i64 k ∧ Hid (∀ j, j < k → nth 0 a j = nth 0 b j) ∧ Below w.heap.size w wr) (fun i _ => a.length - (intOf i).toNat)
    case atStart => exact ⟨0, Nat.zero_le _, rfl, fun j hj => absurd hj (by omega), Below.refl _ _⟩
    case round =>
      obtain ⟨k, hk, rfl, hne, hB⟩ := hrel
      by_cases hlt : k < a.length
      · have hkb : k < b.length := by rw [← HL.out]; exact hlt
        obtain ⟨ad, rfl, hc⟩ := rd_int (hS.below hB) k hlt
        obtain ⟨ad', rfl, hc'⟩ := rd_int (hT.below hB) k hkb
        have hk0 : (0 : Int) ≤ (k : Int) := by omega
        have hka : (k : Int) < (a.length : Int) := by omega
        have hkb' : (k : Int) < (b.length : Int) := by omega
        by_cases hx : nth 0 a k = nth 0 b k
        · have hxb : (nth 0 a k != nth 0 b k) = false := by simp [hx]
          have hne' : Hid (∀ j, j < k + 1 → nth 0 a j = nth 0 b j) := fun j hj => by
            rcases Nat.lt_or_ge j k with h | h
            · exact hne.out j h
            · obtain rfl : j = k := by omega
              exact hx
          clear hx
          go_wp2
          go_quiet (fail)
          go_wp2
          go_roundw
          case rel => exact ⟨k + 1, by omega, by go_num, hne', below_drewN hB _⟩
          case measure => simp [intOf]; omega
        · have hxb : (nth 0 a k != nth 0 b k) = true := by simp [hx]
          have HN := Lib.hid (show sameL a b = false from decide_eq_false fun e => hx (by rw [e]))
          clear hx
          go_wp2
          go_quiet (fail)
          go_wp2
          go_ret
          exact ⟨ret_bool HN.out.symm, below_drewN hB _⟩
      · obtain rfl : k = a.length := by omega
        have HN := Lib.hid (same_end HL.out hne.out)
        go_wp2
        go_ret
        exact ⟨ret_bool HN.out.symm, hB⟩
  · have hb : ((a.length : Int) != (b.length : Int)) = true := by simp; omega
    have HN := Lib.hid (show sameL a b = false from decide_eq_false fun e => hl (by rw [e]))
    clear hl
    go_enter Tryz.func25, Tryz.ntmps25
    go_wp2
    go_ret
    exact ⟨ret_bool HN.out.symm, Below.refl _ _⟩
end Go.Proofs.YtmcdgmiheklbeaaGreatDoor
