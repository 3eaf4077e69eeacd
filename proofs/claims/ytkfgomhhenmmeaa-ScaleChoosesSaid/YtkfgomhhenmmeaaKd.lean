/- What the arguments of a law read as: []int, []byte. · Lengths: what its answer is: the rank of each symbol, the sums. Plain; no program is named. · Lengths: its answer is a right code, ordered, and no other code costs less. Plain; no program is named. · The reference's Lengths: order by insertion; what is taken of each level. Plain; no program is named. · append to a full slice: a new row; slices 'xs[m:]' and 'xs[:m:m]'. · The reference's Lengths: its first errors. · The reference's Lengths: what it returns. · The reference's Lengths in general. · Plain laws: what was coded is read again. No program is named. · scale: length, Lengths, is: what each call returns. · scale: checked: what it returns. · scale: walk: what it yields, for any bands and memory. · A drawn region in a round over an iterator, walked by explicit steps (XHeld). -/
import Derived.Test.YtkfgomhhenmmeaaKa
import Derived.Lib.SmallJoins
import Derived.LaidMore
import Derived.Stop.Joined
import Derived.Test.YtkfgomhhenmmeaaKc
import Derived.Test.YtkfgomhhenmmeaaKb
import Derived.ArgAppend
namespace Go.Proofs.Ytkfgomhhenmmeaa
open Go.ChangeShapes Go.WideShapes Go.ChangeAt Go.WideMaps Go.WideElems Go.RowKit Go.Deep

theorem own : ownKnob Try.prog.godebug = none := by kernel_rfl
theorem sl_cells {α : Type} (k : Kd α) (h1 : k.size = 1) {w : World} {a : Addr} {c : Nat} {xs : List α} (V : Nat → Value) (hle : xs.length ≤ c) (hc : c ≤ maxLen) (hcell : ∀ i, i < xs.length → w.cell? (a.add i) = some (V i)) (hK : ∀ i, i < xs.length → k.K AnyB w (nth k.dflt xs i) [V i]) :
    Sl k AnyB w (some a) c xs := by
  refine ⟨hle, by simpa [maxLen] using hc, fun j hj => ?_⟩
  have hcj := hcell j hj
  refine ⟨a, [V j], rfl, trivial, by have := World.block_lt_of_cell? w _ hcj; rwa [add_block] at this, hK j hj, fun i v hv => ?_⟩
  have hi : i = 0 := by
    rcases Nat.eq_zero_or_pos i with h | h
    · exact h
    · rw [List.getElem?_eq_none (by simp; omega)] at hv; cases hv
  subst hi
  injection hv with hv
  rw [h1, Nat.mul_one, Nat.add_zero, ← hv]
  exact hcj

section
variable {H : Type} {enc : TypeId × Value → H} {W : World}
/-- A []int. -/
theorem open_I {fuel : Nat} {v : Value} {x : DataW H × List MemPlace} (h : DataW.trod enc Try.prog W 0 (fun _ => true) true fuel 22 [v] = some x) :
    ∃ A c xs, v = .slice A xs.length c ∧ RI W A c xs ∧ ((∀ n ∈ x.1.weights Try.prog 22, n ≤ reachBytes) → xs.length ≤ 140737488355328) := by
  rcases open_ints Try.underlying22 Try.underlying3 (by kernel_rfl) h with ⟨hcs, _⟩ | ⟨a, len, cap, zs, hcs, _, hl, hm, hz, hx, hcell, _⟩
  · injection hcs with hv _
    exact ⟨none, 0, [], hv, ⟨Nat.le_refl _, by omega, Kd.Rd.nil _ _ _ _⟩, fun _ => by simp⟩
  · injection hcs with hv _
    have hz' : zs.length = cap := by simpa using hz
    have hlen : (zs.take len).length = len := by rw [List.length_take]; omega
    refine ⟨some a, cap, zs.take len, by rw [hlen]; exact hv, sl_cells (kInt .i64) rfl (fun i => .int .i64 (nth 0 zs i)) (by rw [hlen]; exact hl) hm (fun i hi => ?_) (fun i hi => ?_), fun hw => ?_⟩
    · rw [hlen] at hi
      rw [hcell i (by omega)]
      rfl
    · rw [hlen] at hi
      show [Value.int .i64 (nth 0 zs i)] = [.int .i64 (nth 0 (zs.take len) i)]
      rw [nth_take _ _ _ _ hi]
    · rw [hlen]
      have hb : Try.prog.bytesOf 3 = 8 := by kernel_rfl
      have := hw ((zs.take len).length * 8 + (zs.drop len).length * 8) (by rw [hx]; simp [DataW.weights, Try.underlying22, hb, lits, Nat.add_mul])
      have hr : reachBytes = 140737488351232 := rfl
      rw [hlen] at this
      omega

/-- A []byte. -/
theorem open_Y {fuel : Nat} {v : Value} {x : DataW H × List MemPlace} (h : DataW.trod enc Try.prog W 0 (fun _ => true) true fuel 32 [v] = some x) :
    ∃ A c xs, v = .slice A xs.length c ∧ RY W A c xs ∧ (∀ x ∈ xs, 0 ≤ x ∧ x < 256) ∧ ((∀ n ∈ x.1.weights Try.prog 32, n ≤ reachBytes) → xs.length ≤ 140737488355328) := by
  rcases open_ints Try.underlying32 Try.underlying5 (by kernel_rfl) h with ⟨hcs, _⟩ | ⟨a, len, cap, zs, hcs, _, hl, hm, hz, hx, hcell, hwf⟩
  · injection hcs with hv _
    exact ⟨none, 0, [], hv, ⟨Nat.le_refl _, by omega, Kd.Rd.nil _ _ _ _⟩, (fun x hx => by cases hx), fun _ => by simp⟩
  · injection hcs with hv _
    have hz' : zs.length = cap := by simpa using hz
    have hlen : (zs.take len).length = len := by rw [List.length_take]; omega
    refine ⟨some a, cap, zs.take len, by rw [hlen]; exact hv, sl_cells (kInt .u8) rfl (fun i => .int .u8 (nth 0 zs i)) (by rw [hlen]; exact hl) hm (fun i hi => ?_) (fun i hi => ?_), fun y hy => ?_, fun hw => ?_⟩
    · rw [hlen] at hi
      rw [hcell i (by omega)]
      rfl
    · rw [hlen] at hi
      show [Value.int .u8 (nth 0 zs i)] = [.int .u8 (nth 0 (zs.take len) i)]
      rw [nth_take _ _ _ _ hi]
    · have := hwf y (List.mem_of_mem_take hy)
      simp [Lit.wf, IntKind.min, IntKind.max, IntKind.signed, IntKind.bits] at this
      omega
    · rw [hlen]
      have hb : Try.prog.bytesOf 5 = 1 := by kernel_rfl
      have := hw ((zs.take len).length * 1 + (zs.drop len).length * 1) (by rw [hx]; simp [DataW.weights, Try.underlying32, hb, lits])
      have hr : reachBytes = 140737488351232 := rfl
      rw [hlen] at this
      omega
end
end Go.Proofs.Ytkfgomhhenmmeaa

namespace Go.Proofs.Ytkfgomhhenmmeaa
open Go.RowKit

def sym (x : It) : Nat := nth 0 x.2 0
theorem coin_sym {cs : List Int} {k : Nat} {z : It} (h : z ∈ coinsK cs k) : z = (nth 0 cs (sym z), [sym z]) ∧ sym z < k ∧ 0 < nth 0 cs (sym z) := by
  obtain ⟨s, h1, rfl, h2⟩ := coinsK_mem h
  exact ⟨rfl, h1, h2⟩
theorem coins_nodup (cs : List Int) : ∀ k, ((coinsK cs k).map sym).Nodup
  | 0 => by simp [coinsK]
  | k + 1 => by
    unfold coinsK
    split
    · rw [List.map_append, List.nodup_append]
      refine ⟨coins_nodup cs k, by simp, fun a ha b hb => ?_⟩
      obtain ⟨z, hz, rfl⟩ := List.mem_map.1 ha
      have h1 := (coin_sym hz).2.1
      have h2 : b = k := by simpa [sym, nth] using hb
      omega
    · exact coins_nodup cs k
theorem sorted_nodup (cs : List Int) : ((sortedC cs).map sym).Nodup := (((isortF_perm _ _).map sym).nodup_iff).2 (coins_nodup cs cs.length)
theorem sorted_sym {cs : List Int} {z : It} (h : z ∈ sortedC cs) : z = (nth 0 cs (sym z), [sym z]) ∧ sym z < cs.length ∧ 0 < nth 0 cs (sym z) := coin_sym (sortedC_mem h)
theorem sorted_I (cs : List Int) : SortedI (sortedC cs) := by
  have h : SortedF (fun z : It => z.1) (sortedC cs) := (isortF_ok _).1
  intro i j hij hj
  rcases Nat.lt_or_ge i j with h1 | h1
  · have := List.pairwise_iff_getElem.1 h i j (by omega) hj h1
    rw [nth_eq _ _ i (by omega), nth_eq _ _ j hj]
    exact this
  · obtain rfl : i = j := by omega
    exact Int.le_refl _
theorem sorted_pos (cs : List Int) : ∀ z ∈ sortedC cs, 0 ≤ z.1 := fun z hz => by
  have h := sorted_sym hz
  rw [h.1]; show 0 ≤ nth 0 cs (sym z); have := h.2.2; omega
/-! ### Sums over the coins -/
theorem perm_sumN {α : Type} (f : α → Nat) {l m : List α} (h : l.Perm m) : (l.map f).sum = (m.map f).sum := by
  induction h with
  | nil => rfl
  | cons x _ ih => simp [ih]
  | swap x y l => simp; omega
  | trans _ _ h1 h2 => exact h1.trans h2
theorem perm_sumZ {α : Type} (f : α → Int) {l m : List α} (h : l.Perm m) : (l.map f).sum = (m.map f).sum := by
  induction h with
  | nil => rfl
  | cons x _ ih => simp [ih]
  | swap x y l => simp; omega
  | trans _ _ h1 h2 => exact h1.trans h2
theorem coins_sumN (cs : List Int) (h : Nat → Nat) (h0 : ∀ s, ¬ 0 < nth 0 cs s → h s = 0) : ∀ k, ((coinsK cs k).map fun x => h (sym x)).sum = sumTo k h
  | 0 => by simp [coinsK, sumTo]
  | k + 1 => by
    rw [sumTo_succ, ← coins_sumN cs h h0 k, coinsK]
    split
    · simp [sym, nth]
    · rename_i hk; rw [h0 k hk]; omega
theorem coins_sumZ (cs : List Int) (h : Nat → Int) (h0 : ∀ s, ¬ 0 < nth 0 cs s → h s = 0) : ∀ k, ((coinsK cs k).map fun x => h (sym x)).sum = sumI k h
  | 0 => by simp [coinsK, sumI]
  | k + 1 => by
    rw [sumI_succ, ← coins_sumZ cs h h0 k, coinsK]
    split
    · simp [sym, nth]
    · rename_i hk; rw [h0 k hk]; omega
theorem sorted_sumN (cs : List Int) (h : Nat → Nat) (h0 : ∀ s, ¬ 0 < nth 0 cs s → h s = 0) : ((sortedC cs).map fun x => h (sym x)).sum = sumTo cs.length h :=
  (perm_sumN _ (isortF_perm _ _)).trans (coins_sumN cs h h0 cs.length)
theorem sorted_sumZ (cs : List Int) (h : Nat → Int) (h0 : ∀ s, ¬ 0 < nth 0 cs s → h s = 0) : ((sortedC cs).map fun x => h (sym x)).sum = sumI cs.length h :=
  (perm_sumZ _ (isortF_perm _ _)).trans (coins_sumZ cs h h0 cs.length)
theorem sum_ranks (f : It → Nat) : ∀ l : List It, (l.map f).sum = sumTo l.length fun r => f (nth (0, []) l r)
  | [] => rfl
  | x :: l => by
    have h := sum_ranks f l
    rw [List.map_cons, List.sum_cons, h]
    unfold sumTo
    rw [List.length_cons, List.range_succ_eq_map, List.map_cons, List.sum_cons, List.map_map]
    rfl
theorem sum_ranksZ (f : It → Int) : ∀ l : List It, (l.map f).sum = ((List.range l.length).map fun r => f (nth (0, []) l r)).sum
  | [] => rfl
  | x :: l => by
    have h := sum_ranksZ f l
    rw [List.map_cons, List.sum_cons, h]
    rw [List.length_cons, List.range_succ_eq_map, List.map_cons, List.sum_cons, List.map_map]
    rfl
/-! ### Each symbol's length is its rank's depth -/
theorem occ_syms (s : Nat) : ∀ {l : List It}, (∀ z ∈ l, z.2 = [sym z]) → occ s l = (l.map sym).count s
  | [], _ => rfl
  | x :: l, h => by
    have e : occ s (x :: l) = x.2.count s + occ s l := by unfold occ; rw [sumF_cons]
    have h2 : x.2.count s = [sym x].count s := by rw [← h x (by simp)]
    rw [e, occ_syms s fun z hz => h z (by simp [hz]), List.map_cons, List.count_cons, h2, List.count_singleton]
    omega
theorem count_take : ∀ {l : List Nat} {r p : Nat}, l.Nodup → r < l.length → (l.take p).count (nth 0 l r) = if r < p then 1 else 0
  | [], r, p, _, h => by simp at h
  | a :: t, r, 0, _, _ => by simp
  | a :: t, 0, p + 1, hn, _ => by
    have h1 : (t.take p).count a = 0 := List.count_eq_zero.2 fun h => (List.nodup_cons.1 hn).1 (List.mem_of_mem_take h)
    have e : nth 0 (a :: t) 0 = a := rfl
    rw [e, List.take_succ_cons, List.count_cons_self, h1]; simp
  | a :: t, r + 1, p + 1, hn, h => by
    have hr : r < t.length := by simpa using h
    have e : nth 0 (a :: t) (r + 1) = nth 0 t r := by simp [nth]
    have hne : a ≠ nth 0 t r := fun e => (List.nodup_cons.1 hn).1 (by rw [e]; exact nth_mem 0 t r hr)
    rw [e, List.take_succ_cons, List.count_cons_of_ne hne, count_take (List.nodup_cons.1 hn).2 hr]
    by_cases h1 : r < p
    · rw [if_pos h1, if_pos (by omega)]
    · rw [if_neg h1, if_neg (by omega)]
theorem dep_sum (ps : List Nat) (r : Nat) : (ps.map fun p => if r < p then 1 else 0).sum = dep ps r := by
  induction ps with
  | nil => rfl
  | cons p ps ih => rw [List.map_cons, List.sum_cons, ih, dep_cons]
/-- How long the word of a symbol is. -/
def lenN (cs : List Int) (most s : Nat) : Nat := if (sortedC cs).length = 1 then occ s (sortedC cs) else occ s ((rowI (sortedC cs) (most - 1)).take (2 * (sortedC cs).length - 2))
theorem occ_perm (s : Nat) {l m : List It} (h : l.Perm m) : occ s l = occ s m := perm_sumN _ h
theorem lengthsV_nth {cs : List Int} {most : Nat} (hE : lengthsE cs most = 0) : lengthsV cs most = (List.range cs.length).map fun s => ((lenN cs most s : Nat) : Int) := by
  unfold lengthsV lenN outQ
  rw [if_neg (by rw [hE]; decide), sortedC_length, Int.toNat_natCast]
  by_cases h1 : (coinsK cs cs.length).length = 1
  · simp only [if_pos h1]
    apply List.map_congr_left
    intro s _
    have e : occ s (sortedC cs) = occ s (coinsK cs cs.length) := occ_perm s (isortF_perm _ _)
    rw [e]
  · simp only [if_neg h1]
theorem lengthsV_length {cs : List Int} {most : Nat} (hE : lengthsE cs most = 0) : (lengthsV cs most).length = cs.length := by rw [lengthsV_nth hE]; simp
theorem lengthsV_at {cs : List Int} {most s : Nat} (hE : lengthsE cs most = 0) (hs : s < cs.length) : nth 0 (lengthsV cs most) s = ((lenN cs most s : Nat) : Int) := by
  rw [nth_eq 0 _ s (by rw [lengthsV_length hE]; exact hs)]
  simp [lengthsV_nth hE]
/-- The counts and the greatest length are right. -/
structure LenIn (cs : List Int) (most : Nat) : Prop where
  cnt : countsB cs = true
  lo : 1 ≤ most
  hi : most ≤ 16
  some : 1 ≤ (sortedC cs).length
  fit : (sortedC cs).length ≤ 2 ^ most
theorem lengthsE_in {cs : List Int} {most : Int} (h : lengthsE cs most = 0) : ∃ m : Nat, most = (m : Int) ∧ LenIn cs m := by
  unfold lengthsE at h
  split at h
  · cases h
  · rename_i h1
    split at h
    · cases h
    · rename_i h2
      split at h
      · cases h
      · rename_i h3
        have hc : countsB cs = true := by
          cases hc : countsB cs
          · exact absurd (.inl hc) h1
          · rfl
        exact ⟨most.toNat, by omega, hc, by omega, by omega, by rw [sortedC_length]; omega, by rw [sortedC_length]; omega⟩
/-- Of what is taken of each row. -/
def psL (cs : List Int) (most : Nat) : List Nat := if (sortedC cs).length = 1 then [1] else lens (sortedC cs) (most - 1) (2 * (sortedC cs).length - 2)
theorem sorted_syms1 (cs : List Int) : ∀ z ∈ sortedC cs, z.2 = [sym z] := fun z hz => by
  have h := (sorted_sym hz).1
  have : z.2 = (nth 0 cs (sym z), [sym z]).2 := congrArg Prod.snd h
  exact this
theorem lenN_sum {cs : List Int} {most : Nat} (h : LenIn cs most) (s : Nat) : lenN cs most s = ((psL cs most).map fun p => (((sortedC cs).take p).map sym).count s).sum := by
  have hz : ∀ p, occ s ((sortedC cs).take p) = (((sortedC cs).take p).map sym).count s := fun p => occ_syms s fun z hz => sorted_syms1 cs z (List.mem_of_mem_take hz)
  unfold lenN psL
  by_cases h1 : (sortedC cs).length = 1
  · rw [if_pos h1, if_pos h1]
    have := hz 1
    rw [show (sortedC cs).take 1 = sortedC cs from List.take_of_length_le (by omega)] at this
    rw [this]
    have e1 : (sortedC cs).take 1 = sortedC cs := List.take_of_length_le (by omega)
    show _ = ([1].map fun p => (((sortedC cs).take p).map sym).count s).sum
    rw [List.map_cons, List.map_nil, List.sum_cons, List.sum_nil, e1]; rfl
  · rw [if_neg h1, if_neg h1]
    have hf := row_fits (coins := sortedC cs) (k := most - 1) (by rw [show most - 1 + 1 = most by have := h.lo; omega]; exact h.fit)
    show sumF _ _ = _
    rw [lens_sumF (f := fun x => x.2.count s) (fun x y => by simp) _ _ _ hf]
    congr 1
    apply List.map_congr_left
    intro p _
    exact hz p
theorem lenN_rank {cs : List Int} {most : Nat} (h : LenIn cs most) {r : Nat} (hr : r < (sortedC cs).length) : lenN cs most (sym (nth (0, []) (sortedC cs) r)) = dep (psL cs most) r := by
  rw [lenN_sum h, ← dep_sum]
  congr 1
  apply List.map_congr_left
  intro p _
  have e : sym (nth (0, []) (sortedC cs) r) = nth 0 ((sortedC cs).map sym) r := by
    rw [nth_eq _ _ r hr, nth_eq 0 _ r (by simpa using hr)]; simp
  rw [e, List.map_take, count_take (sorted_nodup cs) (by simpa using hr)]
theorem lenN_none {cs : List Int} {most s : Nat} (h : LenIn cs most) (hs : ¬ 0 < nth 0 cs s) : lenN cs most s = 0 := by
  rw [lenN_sum h]
  have : ∀ p, (((sortedC cs).take p).map sym).count s = 0 := fun p => List.count_eq_zero.2 fun hm => by
    obtain ⟨z, hz, rfl⟩ := List.mem_map.1 hm
    exact hs (sorted_sym (List.mem_of_mem_take hz)).2.2
  induction psL cs most with
  | nil => rfl
  | cons p ps ih => rw [List.map_cons, List.sum_cons, this p, ih]
theorem rank_of {cs : List Int} {s : Nat} (hs : 0 < nth 0 cs s) : ∃ r, r < (sortedC cs).length ∧ nth (0, []) (sortedC cs) r = (nth 0 cs s, [s]) ∧ sym (nth (0, []) (sortedC cs) r) = s := by
  have hl : s < cs.length := by
    rcases Nat.lt_or_ge s cs.length with h | h
    · exact h
    · rw [nth_none 0 cs s h] at hs; omega
  have hm : ∀ k, s < k → (nth 0 cs s, [s]) ∈ coinsK cs k := by
    intro k
    induction k with
    | zero => intro h; omega
    | succ k ih =>
      intro h
      unfold coinsK
      by_cases e : s = k
      · subst e; rw [if_pos hs]; simp
      · split
        · exact List.mem_append_left _ (ih (by omega))
        · exact ih (by omega)
  have hms : (nth 0 cs s, [s]) ∈ sortedC cs := (isortF_mem (f := fun z : It => z.1) _ _).2 (hm cs.length hl)
  obtain ⟨r, hr, e⟩ := List.mem_iff_getElem.1 hms
  exact ⟨r, hr, by rw [nth_eq _ _ r hr]; exact e, by rw [nth_eq _ _ r hr]; exact (congrArg sym e).trans rfl⟩
end Go.Proofs.Ytkfgomhhenmmeaa

namespace Go.Proofs.Ytkfgomhhenmmeaa
open Go.RowKit

theorem psL_length {cs : List Int} {most : Nat} (h : LenIn cs most) : (psL cs most).length ≤ most := by
  have := h.lo
  unfold psL
  split
  · simpa using this
  · rw [lens_length]; omega
theorem lenN_le {cs : List Int} {most : Nat} (h : LenIn cs most) (s : Nat) : lenN cs most s ≤ most := by
  by_cases hs : 0 < nth 0 cs s
  · obtain ⟨r, hr, _, e⟩ := rank_of hs
    rw [← e, lenN_rank h hr]
    exact Nat.le_trans (dep_le _ _) (psL_length h)
  · rw [lenN_none h hs]; exact Nat.zero_le _
theorem dep_pos {cs : List Int} {most : Nat} (h : LenIn cs most) {r : Nat} (hr : r < (sortedC cs).length) : 0 < dep (psL cs most) r := by
  unfold psL
  split
  · rename_i h1
    obtain rfl : r = 0 := by omega
    decide
  · rename_i h1
    have := h.some
    exact lens_all (sorted_I cs) (sorted_pos cs) (by omega) (by rw [show most - 1 + 1 = most by have := h.lo; omega]; exact h.fit) hr
theorem lenN_pos {cs : List Int} {most s : Nat} (h : LenIn cs most) (hs : 0 < nth 0 cs s) : 0 < lenN cs most s := by
  obtain ⟨r, hr, _, e⟩ := rank_of hs
  rw [← e, lenN_rank h hr]
  exact dep_pos h hr
theorem lenN_pos_iff {cs : List Int} {most s : Nat} (h : LenIn cs most) : 0 < lenN cs most s ↔ 0 < nth 0 cs s := by
  constructor
  · intro hl
    refine Decidable.byContradiction fun hs => ?_
    rw [lenN_none h hs] at hl; omega
  · exact lenN_pos h
theorem lenN_order {cs : List Int} {most i j : Nat} (h : LenIn cs most) (hj : 0 < nth 0 cs j) (hij : nth 0 cs j < nth 0 cs i) : lenN cs most i ≤ lenN cs most j := by
  obtain ⟨r, hr, er, es⟩ := rank_of (cs := cs) (s := i) (by omega)
  obtain ⟨q, hq, eq, et⟩ := rank_of hj
  have h1 : q ≤ r := by
    refine Decidable.byContradiction fun hn => ?_
    have := sorted_I cs r q (by omega) hq
    rw [er, eq] at this
    have this : nth 0 cs i ≤ nth 0 cs j := this
    omega
  have e1 := lenN_rank h hr
  have e2 := lenN_rank h hq
  rw [es] at e1
  rw [et] at e2
  rw [e1, e2]
  exact dep_mono _ h1
theorem lenOf_V {cs : List Int} {most s : Nat} (hE : lengthsE cs most = 0) (hs : s < cs.length) : lenOf (lengthsV cs most) s = lenN cs most s := by
  unfold lenOf; rw [lengthsV_at hE hs, Int.toNat_natCast]
theorem share_zero : share 0 = 0 := rfl
theorem filled_V {cs : List Int} {most : Nat} (hE : lengthsE cs most = 0) (h : LenIn cs most) : filledN (lengthsV cs most) = if (sortedC cs).length = 1 then 32768 else 65536 := by
  have e1 : filledN (lengthsV cs most) = sumTo cs.length fun s => share (lenN cs most s) := by
    unfold filledN
    rw [lengthsV_length hE]
    exact sumTo_congr fun s hs => by rw [lenOf_V hE hs]
  rw [e1, ← sorted_sumN cs (fun s => share (lenN cs most s)) (fun s hs => by rw [lenN_none h hs]; rfl), sum_ranks]
  have e2 : (sumTo (sortedC cs).length fun r => share (lenN cs most (sym (nth (0, []) (sortedC cs) r)))) = sumTo (sortedC cs).length fun r => 2 ^ (16 - dep (psL cs most) r) := sumTo_congr fun r hr => by
    rw [lenN_rank h hr, share_pos (dep_pos h hr)]
  rw [e2]
  by_cases h1 : (sortedC cs).length = 1
  · rw [if_pos h1, h1]
    unfold psL
    rw [if_pos h1]; rfl
  · rw [if_neg h1]
    have hlo := h.lo
    have hhi := h.hi
    have hk : most - 1 + 1 = most := by omega
    have hc := lens_complete (sorted_I cs) (sorted_pos cs) (k := most - 1) h.some (by rw [hk]; exact h.fit)
    rw [hk] at hc
    have e3 : (sumTo (sortedC cs).length fun r => 2 ^ (16 - dep (psL cs most) r)) = sumTo (sortedC cs).length fun r => 2 ^ (16 - most) * 2 ^ (most - dep (lens (sortedC cs) (most - 1) (2 * (sortedC cs).length - 2)) r) := sumTo_congr fun r hr => by
      have hd := dep_le (psL cs most) r
      have hp := psL_length h
      unfold psL at hd hp ⊢
      rw [if_neg h1] at hd hp ⊢
      rw [← Nat.pow_add]; congr 1; omega
    rw [e3, sumTo_mul, hc, ← Nat.pow_add, show 16 - most + most = 16 by omega]
theorem lensOk_V {cs : List Int} {most : Nat} (hE : lengthsE cs most = 0) (h : LenIn cs most) : LensOk (lengthsV cs most) := by
  refine ⟨by rw [lengthsV_length hE]; exact (counts_bound h.cnt).1, fun x hx => ?_⟩
  rw [lengthsV_nth hE] at hx
  obtain ⟨s, _, rfl⟩ := List.mem_map.1 hx
  have := lenN_le h s
  have := h.hi
  omega
theorem right_V {cs : List Int} {most : Nat} (hE : lengthsE cs most = 0) (h : LenIn cs most) : Right (lengthsV cs most) := by
  have hf := filled_V hE h
  exact ⟨lensOk_V hE h, by rw [hf]; split <;> omega, by rw [hf]; split <;> omega⟩
theorem check_V {cs : List Int} {most : Nat} (hE : lengthsE cs most = 0) (h : LenIn cs most) : checkN (lengthsV cs most) = 0 := (checkN_right _).2 (right_V hE h)
theorem complete_V {cs : List Int} {most : Nat} (hE : lengthsE cs most = 0) (h : LenIn cs most) : completeB (lengthsV cs most) = decide (1 < (coinsK cs cs.length).length) := by
  have hs := h.some
  unfold completeB
  rw [check_V hE h, filled_V hE h, ← sortedC_length]
  by_cases h1 : (sortedC cs).length = 1
  · rw [if_pos h1, h1]; rfl
  · rw [if_neg h1]
    have : 1 < (sortedC cs).length := by omega
    simp [this]
theorem cost_V {cs : List Int} {most : Nat} (hE : lengthsE cs most = 0) (h : LenIn cs most) : costN (lengthsV cs most) cs = (costK (lengthsV cs most) cs cs.length, 0) := by
  unfold costN
  rw [if_neg (by rw [check_V hE h]; simp), if_neg (by rw [lengthsV_length hE, h.cnt]; simp), if_neg]
  intro hn
  obtain ⟨i, hi, h2⟩ := List.any_eq_true.1 hn
  have hi := List.mem_range.1 hi
  simp only [Bool.and_eq_true, decide_eq_true_eq] at h2
  rw [lengthsV_at hE hi] at h2
  have := lenN_pos h h2.1
  omega
/-- What the answer costs, by ranks. -/
theorem cost_ranks {cs : List Int} {most : Nat} (hE : lengthsE cs most = 0) (h : LenIn cs most) : costK (lengthsV cs most) cs cs.length = ((List.range (sortedC cs).length).map fun r => (nth (0, []) (sortedC cs) r).1 * (dep (psL cs most) r : Int)).sum := by
  have e1 : costK (lengthsV cs most) cs cs.length = sumI cs.length fun s => nth 0 cs s * (lenN cs most s : Int) := by
    unfold costK sumI
    congr 1
    apply List.map_congr_left
    intro s hs
    rw [lengthsV_at hE (List.mem_range.1 hs)]
  rw [e1, ← sorted_sumZ cs (fun s => nth 0 cs s * (lenN cs most s : Int)) (fun s hs => by rw [lenN_none h hs]; simp), sum_ranksZ]
  congr 1
  apply List.map_congr_left
  intro r hr
  have hr := List.mem_range.1 hr
  rw [lenN_rank h hr]
  have hz := (sorted_sym (nth_mem (0, []) (sortedC cs) r hr)).1
  have e2 : (nth (0, []) (sortedC cs) r).1 = nth 0 cs (sym (nth (0, []) (sortedC cs) r)) := by
    conv => lhs; rw [hz]
  rw [e2]
theorem counts_pos {cs : List Int} (h : countsB cs = true) (s : Nat) : 0 ≤ nth 0 cs s := (nth_bound (counts_bound h).2 (by decide) s).1
/-- What another code costs, by the coins. -/
theorem cost_other {cs other : List Int} (h : countsB cs = true) (ho : LensOk other) : costK other cs cs.length = wsum (fun x => lenOf other (sym x)) (sortedC cs) := by
  have e1 : costK other cs cs.length = sumI cs.length fun s => nth 0 cs s * (lenOf other s : Int) := by
    unfold costK sumI
    congr 1
    apply List.map_congr_left
    intro s _
    have := (ho.at s).1
    unfold lenOf
    rw [Int.toNat_of_nonneg this]
  rw [e1, ← sorted_sumZ cs (fun s => nth 0 cs s * (lenOf other s : Int)) (fun s hs => by
    have := counts_pos h s
    have h0 : nth 0 cs s = 0 := by omega
    rw [h0]; simp)]
  unfold wsum
  congr 1
  apply List.map_congr_left
  intro x hx
  have hz := (sorted_sym hx).1
  have e2 : x.1 = nth 0 cs (sym x) := by
    conv => lhs; rw [hz]
  rw [e2]
theorem least_V {cs other : List Int} {most : Nat} (hE : lengthsE cs most = 0) (h : LenIn cs most) (ho : ∀ x ∈ other, x ≤ most) (hc : (costN other cs).2 = 0) : costK (lengthsV cs most) cs cs.length ≤ (costN other cs).1 := by
  unfold costN at hc ⊢
  split at hc
  · rename_i h1; exact absurd hc h1
  · rename_i h1
    rw [if_neg h1]
    have hck : checkN other = 0 := by simpa using h1
    have hr := (checkN_right other).1 hck
    split at hc
    · cases hc
    · rename_i h2
      rw [if_neg h2]
      split at hc
      · cases hc
      · rename_i h3
        rw [if_neg h3]
        show _ ≤ costK other cs cs.length
        have hlen : cs.length = other.length := Decidable.byContradiction fun hn => h2 (.inl hn)
        have hpos : ∀ s, 0 < nth 0 cs s → 0 < lenOf other s := fun s hs => by
          have hsl : s < cs.length := by
            rcases Nat.lt_or_ge s cs.length with hh | hh
            · exact hh
            · rw [nth_none 0 cs s hh] at hs; omega
          have h4 : noneB other cs = false := by simpa using h3
          have h5 := List.any_eq_false.1 h4 s (List.mem_range.2 hsl)
          simp only [Bool.and_eq_true, decide_eq_true_eq] at h5
          have := (hr.ok.at s).1
          unfold lenOf
          have : nth 0 other s ≠ 0 := fun e => h5 ⟨hs, e⟩
          omega
        have hle : ∀ s, lenOf other s ≤ most := fun s => by
          unfold lenOf
          rcases Nat.lt_or_ge s other.length with hh | hh
          · have := ho _ (nth_mem 0 other s hh); omega
          · rw [nth_none 0 other s hh]; simp
        rw [cost_ranks hE h, cost_other h.cnt hr.ok]
        have hlo := h.lo
        have hk : most - 1 + 1 = most := by omega
        by_cases h6 : (sortedC cs).length = 1
        · obtain ⟨z, hz⟩ := List.length_eq_one_iff.1 h6
          have hzs := sorted_sym (show z ∈ sortedC cs by rw [hz]; simp)
          have hzp := hpos _ hzs.2.2
          have hz1 := sorted_pos cs z (by rw [hz]; simp)
          have e5 : psL cs most = [1] := by unfold psL; rw [if_pos h6]
          rw [e5, hz]
          have e6 : ((List.range [z].length).map fun r => (nth (0, []) [z] r).1 * (dep [1] r : Int)).sum = z.1 * 1 := by
            show ([z.1 * (dep [1] 0 : Int)]).sum = _
            have : dep [1] 0 = 1 := rfl
            rw [this]; simp
          rw [e6]
          have e7 : wsum (fun x => lenOf other (sym x)) [z] = z.1 * (lenOf other (sym z) : Int) := by simp [wsum]
          rw [e7]
          exact Int.mul_le_mul_of_nonneg_left (by omega) hz1
        · have e5 : psL cs most = lens (sortedC cs) (most - 1) (2 * (sortedC cs).length - 2) := by unfold psL; rw [if_neg h6]
          rw [e5]
          refine code_least (sorted_I cs) (sorted_pos cs) h.some (by rw [hk]; exact h.fit) (fun x _ => by rw [hk]; exact hle _) ?_
          rw [hk]
          -- Kraft's sum of the other code
          have h7 : 2 ^ (16 - most) * sumF (fun x => 2 ^ (most - lenOf other (sym x))) (sortedC cs) ≤ 65536 := by
            refine Nat.le_trans ?_ hr.full
            have e8 : 2 ^ (16 - most) * sumF (fun x => 2 ^ (most - lenOf other (sym x))) (sortedC cs) = ((sortedC cs).map fun x => (fun s => if 0 < nth 0 cs s then share (lenOf other s) else 0) (sym x)).sum := by
              rw [Nat.mul_comm, sumF_mul]
              unfold sumF
              congr 1
              apply List.map_congr_left
              intro x hx
              have hp := (sorted_sym hx).2.2
              have h16 := h.hi
              have := hle (sym x)
              simp only [if_pos hp]
              rw [share_pos (hpos _ hp), ← Nat.pow_add]
              congr 1; omega
            rw [e8, sorted_sumN cs (fun s => if 0 < nth 0 cs s then share (lenOf other s) else 0) (fun s hs => if_neg hs)]
            unfold filledN
            rw [← hlen]
            exact sumTo_le fun s _ => by split <;> omega
          have h8 : (65536 : Nat) = 2 ^ (16 - most) * 2 ^ most := by
            have := h.hi
            rw [← Nat.pow_add, show 16 - most + most = 16 by omega]
          rw [h8] at h7
          exact Nat.le_of_mul_le_mul_left h7 (Nat.two_pow_pos _)
end Go.Proofs.Ytkfgomhhenmmeaa

namespace Go.Proofs.Ytkfgomhhenmmeaa
open Go.RowKit

/-! ### The order -/
theorem insF_at {α : Type} (f : α → Int) (x : α) : ∀ (l : List α) (p : Nat), (∀ y ∈ l.take p, f y ≤ f x) → (∀ y ∈ l.drop p, f x < f y) → insF f x l = l.take p ++ x :: l.drop p
  | [], p, _, _ => by simp [insF]
  | y :: l, 0, _, h => by
    have := h y (by simp)
    unfold insF
    rw [if_pos this]; rfl
  | y :: l, p + 1, h1, h2 => by
    have h3 := h1 y (by simp)
    unfold insF
    rw [if_neg (by omega), insF_at f x l p (fun z hz => h1 z (by simp [hz])) (fun z hz => h2 z (by simpa using hz))]
    rfl
def sortK (cs : List Int) (k : Nat) : List It := isortF (fun z : It => z.1) (coinsK cs k)
theorem sortK_mem {cs : List Int} {k : Nat} {z : It} (h : z ∈ sortK cs k) : z = (nth 0 cs (sym z), [sym z]) ∧ sym z < k ∧ 0 < nth 0 cs (sym z) := coin_sym ((isortF_mem _ _).1 h)
theorem sortK_length (cs : List Int) (k : Nat) : (sortK cs k).length = (coinsK cs k).length := (isortF_perm _ _).length_eq
/-- The symbols of the first counts, in the order of their counts. -/
def ordI (cs : List Int) (k : Nat) : List Int := (sortK cs k).map fun z => ((sym z : Nat) : Int)
theorem ordI_length (cs : List Int) (k : Nat) : (ordI cs k).length = (coinsK cs k).length := by simp [ordI, sortK_length]
theorem ordI_nth {cs : List Int} {k j : Nat} (h : j < (coinsK cs k).length) : ∃ s : Nat, nth 0 (ordI cs k) j = (s : Int) ∧ s < k ∧ 0 < nth 0 cs s ∧ nth (0, []) (sortK cs k) j = (nth 0 cs s, [s]) := by
  have hl : j < (sortK cs k).length := by rw [sortK_length]; exact h
  have hm := sortK_mem (nth_mem (0, []) _ j hl)
  refine ⟨sym (nth (0, []) (sortK cs k) j), ?_, hm.2.1, hm.2.2, hm.1⟩
  rw [nth_eq 0 _ j (by rw [ordI_length]; exact h)]
  simp [ordI, nth_eq _ _ j hl]
theorem ordI_miss {cs : List Int} {k : Nat} (h : ¬ 0 < nth 0 cs k) : ordI cs (k + 1) = ordI cs k := by
  unfold ordI sortK
  rw [show coinsK cs (k + 1) = coinsK cs k by show (if 0 < nth 0 cs k then _ else _) = _; rw [if_neg h]]
theorem ordI_hit {cs : List Int} {k p : Nat} (h : 0 < nth 0 cs k) (hp : p ≤ (coinsK cs k).length) (h1 : p = 0 ∨ ∃ s : Nat, nth 0 (ordI cs k) (p - 1) = (s : Int) ∧ nth 0 cs s ≤ nth 0 cs k)
    (h2 : ∀ j, p ≤ j → j < (coinsK cs k).length → nth 0 cs k < nth 0 cs (nth 0 (ordI cs k) j).toNat) : ordI cs (k + 1) = (ordI cs k).take p ++ (k : Int) :: (ordI cs k).drop p := by
  have hl := sortK_length cs k
  have hs : SortedF (fun z : It => z.1) (sortK cs k) := (isortF_ok _).1
  have e : sortK cs (k + 1) = (sortK cs k).take p ++ (nth 0 cs k, [k]) :: (sortK cs k).drop p := by
    have e0 : sortK cs (k + 1) = insF (fun z : It => z.1) (nth 0 cs k, [k]) (sortK cs k) := by
      unfold sortK
      rw [show coinsK cs (k + 1) = coinsK cs k ++ [(nth 0 cs k, [k])] by show (if 0 < nth 0 cs k then _ else _) = _; rw [if_pos h]]
      exact isortF_snoc _ _
    rw [e0]
    refine insF_at _ _ _ _ (fun y hy => ?_) (fun y hy => ?_)
    · obtain ⟨i, hi, rfl⟩ := List.mem_iff_getElem.1 hy
      rw [List.length_take] at hi
      rcases h1 with h1 | ⟨s, h1, h3⟩
      · omega
      · obtain ⟨t, e1, _, _, e4⟩ := ordI_nth (cs := cs) (k := k) (j := p - 1) (by omega)
        have hst : s = t := by rw [h1] at e1; omega
        subst hst
        rw [List.getElem_take]
        show ((sortK cs k)[i]).1 ≤ nth 0 cs k
        refine Int.le_trans ?_ h3
        have e5 : (nth (0, []) (sortK cs k) (p - 1)).1 = nth 0 cs s := by rw [e4]
        rw [← e5, nth_eq _ _ (p - 1) (by omega)]
        rcases Nat.lt_or_ge i (p - 1) with h6 | h6
        · exact List.pairwise_iff_getElem.1 hs i (p - 1) (by omega) (by omega) h6
        · have : i = p - 1 := by omega
          subst this
          exact Int.le_refl _
    · obtain ⟨i, hi, rfl⟩ := List.mem_iff_getElem.1 hy
      rw [List.length_drop] at hi
      rw [List.getElem_drop]
      show nth 0 cs k < ((sortK cs k)[p + i]).1
      have h3 := h2 (p + i) (by omega) (by omega)
      obtain ⟨t, e1, _, _, e4⟩ := ordI_nth (cs := cs) (k := k) (j := p + i) (by omega)
      rw [e1, Int.toNat_natCast] at h3
      have e5 : (nth (0, []) (sortK cs k) (p + i)).1 = nth 0 cs t := by rw [e4]
      rw [nth_eq _ _ (p + i) (by omega)] at e5
      rw [e5]; exact h3
  unfold ordI
  rw [e, List.map_append, List.map_cons, List.map_take, List.map_drop]
  rfl
theorem ordI_all (cs : List Int) : ordI cs cs.length = (sortedC cs).map fun z => ((sym z : Nat) : Int) := rfl
/-- The coins, tagged. -/
def tagC (cs : List Int) : List (Int × Int) := (sortedC cs).map tag
theorem tag_coin {cs : List Int} {z : It} (h : z ∈ sortedC cs) : tag z = (z.1, ((sym z : Nat) : Int)) := by
  have h1 := sorted_syms1 cs z h
  unfold tag sym
  rw [if_pos (by rw [h1]; rfl)]
theorem tagC_length (cs : List Int) : (tagC cs).length = (sortedC cs).length := by simp [tagC]
theorem tagC_eq (cs : List Int) : tagC cs = (ordI cs cs.length).map fun s => (nth 0 cs s.toNat, s) := by
  unfold tagC
  rw [ordI_all, List.map_map]
  apply List.map_congr_left
  intro z hz
  rw [tag_coin hz]
  have := (sorted_sym hz).1
  have e : z.1 = nth 0 cs (sym z) := by conv => lhs; rw [this]
  simp [e]
theorem coins1 (cs : List Int) : ∀ x ∈ sortedC cs, x.2.length = 1 := fun x hx => by rw [sorted_syms1 cs x hx]; rfl
theorem rowR_eq (cs : List Int) (k : Nat) : rowR (tagC cs) k = (rowI (sortedC cs) k).map tag := (tag_row (coins1 cs) k).symm
theorem rowR_length (cs : List Int) (k : Nat) : (rowR (tagC cs) k).length = (rowI (sortedC cs) k).length := by rw [rowR_eq]; simp
theorem rowR_bound {cs : List Int} (h : countsB cs = true) {k : Nat} (hk : k ≤ 15) : ∀ z ∈ rowR (tagC cs) k, 0 ≤ z.1 ∧ z.1 ≤ 1125899906842624 := by
  intro z hz
  rw [rowR_eq] at hz
  obtain ⟨y, hy, rfl⟩ := List.mem_map.1 hz
  have := rowI_ok (sorted_within h) hk y hy
  exact ⟨this.1, this.2.1⟩
/-! ### What is taken of a level -/
/-- How many of these items are coins of a symbol. -/
def coinsIn (s : Nat) (l : List (Int × Int)) : Nat := (l.filter fun x => x.2 == (s : Int)).length
def packsIn (l : List (Int × Int)) : Nat := (l.filter fun x => decide (x.2 < 0)).length
theorem coinsIn_snoc (s : Nat) (l : List (Int × Int)) (x : Int × Int) : coinsIn s (l ++ [x]) = coinsIn s l + if x.2 = (s : Int) then 1 else 0 := by
  unfold coinsIn
  rw [List.filter_append, List.length_append]
  by_cases h : x.2 = (s : Int)
  · simp [h]
  · simp [h]
theorem packsIn_snoc (l : List (Int × Int)) (x : Int × Int) : packsIn (l ++ [x]) = packsIn l + if x.2 < 0 then 1 else 0 := by
  unfold packsIn
  rw [List.filter_append, List.length_append]
  by_cases h : x.2 < 0
  · simp [h]
  · simp [h]
theorem filter_len {α : Type} (p : α → Bool) (l : List α) : (l.filter p).length = (l.map fun x => if p x then 1 else 0).sum := by
  induction l with
  | nil => rfl
  | cons x l ih =>
    rw [List.filter_cons, List.map_cons, List.sum_cons, ← ih]
    by_cases h : p x = true
    · rw [if_pos h, if_pos h, List.length_cons]; omega
    · rw [if_neg h, if_neg h]; omega
theorem sumF_zero {f : It → Nat} {l : List It} (h : ∀ x ∈ l, f x = 0) : sumF f l = 0 := by
  rw [sumF_congr (g := fun _ => 0) h, sumF_const]; omega
theorem sumF_ones {f : It → Nat} {l : List It} (h : ∀ x ∈ l, f x = 1) : sumF f l = l.length := by
  rw [sumF_congr (g := fun _ => 1) h, sumF_const]; omega
theorem packs_none {cs : List Int} {k : Nat} {z : It} (h : z ∈ pairsI (rowI (sortedC cs) k)) : (tag z).2 = -1 := by
  have := pairsI_coins (rowI_coins (coins1 cs) k) z h
  unfold tag
  rw [if_neg (by omega)]
theorem tag_sym {cs : List Int} {z : It} (h : z ∈ sortedC cs) : (tag z).2 = ((sym z : Nat) : Int) := by rw [tag_coin h]
theorem coinsIn_coins (cs : List Int) (s p : Nat) : coinsIn s (((sortedC cs).take p).map tag) = (((sortedC cs).take p).map sym).count s := by
  unfold coinsIn
  rw [List.filter_map, List.length_map, List.count_eq_countP, List.countP_map, List.countP_eq_length_filter]
  congr 1
  apply List.filter_congr
  intro z hz
  have h1 := tag_sym (List.mem_of_mem_take hz)
  show ((tag z).2 == (s : Int)) = (sym z == s)
  rw [h1]
  by_cases h : sym z = s
  · rw [h]; simp
  · have h2 : ¬ ((sym z : Nat) : Int) = (s : Int) := by omega
    rw [show (((sym z : Nat) : Int) == (s : Int)) = false by simpa using h2]
    rw [show (sym z == s) = false by simpa using h]
/-- The coins of a level. -/
theorem level_coins (cs : List Int) (s k m : Nat) : coinsIn s ((rowR (tagC cs) (k + 1)).take m) = (((sortedC cs).take (fromA (sortedC cs) (pairsI (rowI (sortedC cs) k)) m)).map sym).count s := by
  rw [rowR_eq, ← List.map_take, ← coinsIn_coins]
  unfold coinsIn
  rw [filter_len, filter_len, List.map_map, List.map_map]
  show sumF (fun x => if ((tag x).2 == (s : Int)) = true then 1 else 0) ((rowI (sortedC cs) (k + 1)).take m) = sumF (fun x => if ((tag x).2 == (s : Int)) = true then 1 else 0) _
  rw [rowI, merge_sumF]
  rw [sumF_zero (l := (pairsI (rowI (sortedC cs) k)).take _) fun x hx => by
    rw [packs_none (List.mem_of_mem_take hx)]
    rw [if_neg]
    simp only [beq_iff_eq]; omega]
  rfl
theorem level_packs {cs : List Int} {k m : Nat} (h : m ≤ (rowI (sortedC cs) (k + 1)).length) : packsIn ((rowR (tagC cs) (k + 1)).take m) = m - fromA (sortedC cs) (pairsI (rowI (sortedC cs) k)) m := by
  rw [rowR_eq, ← List.map_take]
  unfold packsIn
  rw [filter_len, List.map_map]
  show sumF (fun x => if (decide ((tag x).2 < 0)) = true then 1 else 0) ((rowI (sortedC cs) (k + 1)).take m) = _
  rw [rowI, mergeI_length] at h
  have hr := fromA_rest _ _ _ h
  rw [rowI, merge_sumF]
  rw [sumF_zero (l := (sortedC cs).take _) fun x hx => by
    rw [tag_sym (List.mem_of_mem_take hx), if_neg]; simp only [decide_eq_true_eq]; omega]
  rw [sumF_ones (l := (pairsI (rowI (sortedC cs) k)).take _) fun x hx => by
    rw [packs_none (List.mem_of_mem_take hx)]; rfl]
  rw [List.length_take, Nat.min_eq_left hr, Nat.zero_add]
theorem level0_coins (cs : List Int) (s m : Nat) : coinsIn s ((rowR (tagC cs) 0).take m) = (((sortedC cs).take m).map sym).count s := by
  rw [rowR_eq, ← List.map_take]; exact coinsIn_coins cs s m
theorem level0_packs (cs : List Int) (m : Nat) : packsIn ((rowR (tagC cs) 0).take m) = 0 := by
  rw [rowR_eq, ← List.map_take]
  unfold packsIn
  rw [filter_len, List.map_map]
  show sumF (fun x => if (decide ((tag x).2 < 0)) = true then 1 else 0) ((sortedC cs).take m) = _
  exact sumF_zero fun x hx => by rw [tag_sym (List.mem_of_mem_take hx), if_neg]; simp only [decide_eq_true_eq]; omega
/-- The answer so far: of levels that are done. -/
def outT (cs : List Int) (ps : List Nat) : List Int := (List.range cs.length).map fun s => (((ps.map fun p => (((sortedC cs).take p).map sym).count s).sum : Nat) : Int)
/-- Within a level. -/
def outU (cs : List Int) (ps : List Nat) (l : List (Int × Int)) : List Int := (List.range cs.length).map fun s => (((ps.map fun p => (((sortedC cs).take p).map sym).count s).sum + coinsIn s l : Nat) : Int)
theorem outT_length (cs : List Int) (ps : List Nat) : (outT cs ps).length = cs.length := by simp [outT]
theorem outU_length (cs : List Int) (ps : List Nat) (l : List (Int × Int)) : (outU cs ps l).length = cs.length := by simp [outU]
theorem outT_nil (cs : List Int) : outT cs [] = List.replicate cs.length 0 := by
  apply List.ext_getElem
  · simp [outT]
  · intro i h1 h2; simp [outT]
theorem outU_nil (cs : List Int) (ps : List Nat) : outU cs ps [] = outT cs ps := by simp [outU, outT, coinsIn]
theorem outU_nth {cs : List Int} {ps : List Nat} {l : List (Int × Int)} {s : Nat} (h : s < cs.length) : nth 0 (outU cs ps l) s = (((ps.map fun p => (((sortedC cs).take p).map sym).count s).sum + coinsIn s l : Nat) : Int) := by
  rw [nth_eq 0 _ s (by rw [outU_length]; exact h)]; simp [outU]
theorem outU_pack {cs : List Int} {ps : List Nat} {l : List (Int × Int)} {x : Int × Int} (h : x.2 < 0) : outU cs ps (l ++ [x]) = outU cs ps l := by
  unfold outU
  apply List.map_congr_left
  intro s _
  rw [coinsIn_snoc, if_neg (by omega)]; rfl
theorem outU_coin {cs : List Int} {ps : List Nat} {l : List (Int × Int)} {x : Int × Int} {s : Nat} (h : x.2 = (s : Int)) (hs : s < cs.length) : (outU cs ps l).set s (nth 0 (outU cs ps l) s + 1) = outU cs ps (l ++ [x]) := by
  apply List.ext_getElem
  · simp [outU]
  · intro i h1 h2
    rw [List.getElem_set]
    have hx : coinsIn i (l ++ [x]) = coinsIn i l + if x.2 = (i : Int) then 1 else 0 := coinsIn_snoc i l x
    split
    · rename_i e
      subst e
      rw [outU_nth hs]
      simp only [outU, List.getElem_map, List.getElem_range]
      rw [hx, if_pos h]; omega
    · rename_i e
      simp only [outU, List.getElem_map, List.getElem_range]
      rw [hx, if_neg (by rw [h]; omega)]; rfl
theorem outU_done {cs : List Int} {ps : List Nat} {l : List (Int × Int)} {p : Nat} (h : ∀ s, coinsIn s l = (((sortedC cs).take p).map sym).count s) : outU cs ps l = outT cs (ps ++ [p]) := by
  unfold outU outT
  apply List.map_congr_left
  intro s _
  rw [h s, List.map_append, List.sum_append]
  simp
theorem outT_all {cs : List Int} {most : Nat} (hE : lengthsE cs most = 0) (h : LenIn cs most) : outT cs (psL cs most) = lengthsV cs most := by
  rw [lengthsV_nth hE]
  unfold outT
  apply List.map_congr_left
  intro s _
  rw [lenN_sum h]
theorem coinsIn_le (s : Nat) (l : List (Int × Int)) : coinsIn s l ≤ l.length := List.length_filter_le _ _
theorem packsIn_le (l : List (Int × Int)) : packsIn l ≤ l.length := List.length_filter_le _ _
theorem count_sum_le (cs : List Int) (s : Nat) : ∀ ps : List Nat, (ps.map fun p => (((sortedC cs).take p).map sym).count s).sum ≤ ps.length * (sortedC cs).length
  | [] => by simp
  | p :: ps => by
    have := count_sum_le cs s ps
    have h1 : (((sortedC cs).take p).map sym).count s ≤ (((sortedC cs).take p).map sym).length := List.count_le_length
    rw [List.length_map, List.length_take] at h1
    rw [List.map_cons, List.sum_cons, List.length_cons, Nat.succ_mul]; omega
theorem item_sym {cs : List Int} {k : Nat} {z : Int × Int} (h : z ∈ rowR (tagC cs) k) (h0 : ¬ z.2 < 0) : ∃ s : Nat, z.2 = (s : Int) ∧ s < cs.length := by
  rw [rowR_eq] at h
  obtain ⟨y, hy, rfl⟩ := List.mem_map.1 h
  have hs := rowI_syms (sorted_syms cs) k y hy
  unfold tag at h0 ⊢
  split
  · rename_i h1
    refine ⟨nth 0 y.2 0, rfl, hs _ (nth_mem 0 _ 0 (by omega))⟩
  · rename_i h1; rw [if_neg h1] at h0; exact absurd (show (-1 : Int) < 0 by decide) h0
theorem level_step {cs : List Int} {i m : Nat} (h : m ≤ (rowI (sortedC cs) i).length) : ∃ p, (∀ s, coinsIn s ((rowR (tagC cs) i).take m) = (((sortedC cs).take p).map sym).count s) ∧
    lens (sortedC cs) i m = p :: (if i = 0 then [] else lens (sortedC cs) (i - 1) (2 * packsIn ((rowR (tagC cs) i).take m))) ∧ (i ≠ 0 → 2 * packsIn ((rowR (tagC cs) i).take m) ≤ (rowI (sortedC cs) (i - 1)).length) := by
  cases i with
  | zero => exact ⟨m, fun s => level0_coins cs s m, rfl, fun h => absurd rfl h⟩
  | succ i =>
    refine ⟨_, fun s => level_coins cs s i m, ?_, fun _ => ?_⟩
    · rw [level_packs h, if_neg (by omega)]; rfl
    · rw [level_packs h]; exact lens_fit h
/-- One coin. -/
theorem lengthsV_one {cs : List Int} {most : Int} {s : Nat} (hE : lengthsE cs most = 0) (hn : (coinsK cs cs.length).length = 1) (h : nth (0, []) (sortK cs cs.length) 0 = (nth 0 cs s, [s])) : lengthsV cs most = (List.replicate cs.length (0 : Int)).set s 1 := by
  obtain ⟨z, hz⟩ := List.length_eq_one_iff.1 hn
  have hm : nth (0, []) (sortK cs cs.length) 0 ∈ coinsK cs cs.length := (isortF_mem _ _).1 (show nth (0, []) (sortK cs cs.length) 0 ∈ sortK cs cs.length from nth_mem _ _ 0 (by rw [sortK_length, hn]; decide))
  rw [h, hz] at hm
  have hz2 : coinsK cs cs.length = [(nth 0 cs s, [s])] := by rw [hz]; simp at hm; rw [← hm]
  unfold lengthsV
  rw [if_neg (by rw [hE]; decide), if_pos hn, hz2]
  apply List.ext_getElem
  · simp [outQ]
  · intro i h1 h2
    rw [List.getElem_set]
    simp only [outQ, List.getElem_map, List.getElem_range, List.getElem_replicate]
    by_cases e : s = i
    · rw [if_pos e]; subst e; simp [occ, sumF]
    · rw [if_neg e]; simp [occ, sumF, e]
/-- The rows so far. -/
def rowsL (cs : List Int) (i : Nat) : List (List (Int × Int)) := (List.range (i + 1)).map (rowR (tagC cs))
theorem rowsL_length (cs : List Int) (i : Nat) : (rowsL cs i).length = i + 1 := by simp [rowsL]
theorem rowsL_nth {cs : List Int} {i j : Nat} (h : j ≤ i) : nth [] (rowsL cs i) j = rowR (tagC cs) j := by
  rw [nth_eq [] _ j (by rw [rowsL_length]; omega)]; simp [rowsL]
theorem rowsL_zero (cs : List Int) : rowsL cs 0 = [tagC cs] := rfl
theorem rowsL_succ (cs : List Int) (i : Nat) : rowsL cs (i + 1) = rowsL cs i ++ [mergeR (tagC cs) (pairsR (rowR (tagC cs) i))] := by
  unfold rowsL
  rw [List.range_succ, List.map_append]; rfl
theorem tagC_nth {cs : List Int} {j : Nat} (h : j < (coinsK cs cs.length).length) : nth (0, 0) (tagC cs) j = (nth 0 cs (nth 0 (ordI cs cs.length) j).toNat, nth 0 (ordI cs cs.length) j) := by
  have hl : j < (ordI cs cs.length).length := by rw [ordI_length]; exact h
  rw [tagC_eq, nth_eq _ _ j (by simpa using hl), nth_eq 0 _ j hl]
  simp
theorem rowR_len {cs : List Int} (h : cs.length ≤ 256) (k : Nat) : (rowR (tagC cs) k).length ≤ 512 := by
  rw [rowR_length]
  have h1 := rowI_length_le (sortedC cs) k
  rw [sortedC_length] at h1
  have := coinsK_len cs cs.length
  omega
end Go.Proofs.Ytkfgomhhenmmeaa

namespace Go.Proofs.Ytkfgomhhenmmeaa
open Go.RowKit

/-- 'xs[m:]'. -/
theorem cut_tail {P : Program} (t e : TypeId) {i : TypeInfo} (ht : P.underlying t = some (.slice e)) (hi : P.info? e = some i) (A : Option Addr) (n c m : Nat) (hm : m ≤ n) :
    ∃ A' : Option Addr, (∀ W : World, (Instr.slice t (.slice A n c) (some (.int .i64 (m : Int))) none none).run P W = .ok (.slice A' (n - m) (c - m)) W) ∧
      ∀ {α : Type} (k : Kd α) (ok : Nat → Prop) (w : World) (xs : List α), k.size = i.size → xs.length = n → Sl k ok w A c xs → Sl k ok w A' (c - m) (xs.drop m) := by
  refine ⟨if c = m then A else A.map (·.add (m * i.size)), fun W => ?_, fun k ok w xs hk hx h => ?_⟩
  · have hel : P.elem t = e := by simp [Program.elem, ht]
    have hu : P.underlying t = some (.slice (P.elem t)) := by rw [hel]; exact ht
    rw [run_slice_l W t A n c hu .i64 (m : Int) (Int.natCast_nonneg _) (by omega), hel]
    simp [sizeOf, typeInfo, hi, sliced, Result.andThen]
  · refine ⟨by rw [List.length_drop]; have := h.le; omega, by have := h.cap; omega, ?_⟩
    by_cases hc : c = m
    · have : xs.drop m = [] := List.drop_of_length_le (by have := h.le; omega)
      rw [this]
      exact Kd.Rd.nil _ _ _ _
    · rw [if_neg hc, ← hk]
      exact h.rd.drop m
/-- 'xs[:m:m]'. -/
theorem cut_full {P : Program} (t e : TypeId) {i : TypeInfo} (ht : P.underlying t = some (.slice e)) (hi : P.info? e = some i) (A : Option Addr) (n c m : Nat) (hm : m ≤ n) (hnc : n ≤ c) :
    ∃ A' : Option Addr, (∀ W : World, (Instr.slice t (.slice A n c) none (some (.int .i64 (m : Int))) (some (.int .i64 (m : Int)))).run P W = .ok (.slice A' m m) W) ∧
      ∀ {α : Type} (k : Kd α) (ok : Nat → Prop) (w : World) (xs : List α), k.size = i.size → xs.length = n → Sl k ok w A c xs → Sl k ok w A' m (xs.take m) := by
  refine ⟨if m = 0 then A else A.map (·.add (0 * i.size)), fun W => ?_, fun k ok w xs hk hx h => ?_⟩
  · have hel : P.elem t = e := by simp [Program.elem, ht]
    have hu : P.underlying t = some (.slice (P.elem t)) := by rw [hel]; exact ht
    rw [run_slice_hm W t A n c hu .i64 .i64 (m : Int) (m : Int) (Int.natCast_nonneg _) (Int.le_refl _) (by omega), hel]
    simp [sizeOf, typeInfo, hi, sliced, Result.andThen]
  · refine ⟨by rw [List.length_take]; omega, by have := h.cap; omega, ?_⟩
    by_cases hc : m = 0
    · subst hc
      exact Kd.Rd.nil _ _ _ _
    · rw [if_neg hc, ← hk]
      have := (h.rd.take m).drop 0
      rwa [List.drop_zero] at this
theorem run_append_full {P : Program} {W : World} (t ty e : TypeId) (k : IntKind) (bytes : Nat)
    (ht : P.underlying t = some (.slice e)) (hinfo : (P.info? e).map (fun i => (i.zero, i.size, i.bytes)) = some (some (.int k 0), 1, bytes)) (hb0 : 0 < bytes)
    (A : Option Addr) (xs : List Int) (A2 : Option Addr) (c2 : Nat) (ys : List Int) {ok ok2 : Nat → Prop}
    (HR : Sl (kInt k) ok W A xs.length xs) (HR2 : Sl (kInt k) ok2 W A2 c2 ys) (hy : 0 < ys.length) (hl : (xs.length + ys.length) * bytes ≤ 140737488355328) :
    ∃ v1 w1, (Builtin.append_ #[t, t] ty #[.slice A xs.length xs.length, .slice A2 ys.length c2]).run P W = .ok v1 w1 ∧ OwnI e k W.heap.size w1 v1 (xs ++ ys) ∧ Below W.heap.size W w1 := by
  obtain ⟨i0, hi, hzz⟩ := Option.map_eq_some_iff.1 hinfo
  simp only [Prod.mk.injEq] at hzz
  obtain ⟨hz0, hz1, hz2⟩ := hzz
  have hlen : xs.length + ys.length ≤ 140737488355328 := Nat.le_trans (Nat.le_mul_of_pos_right _ hb0) hl
  rcases A with _ | ad
  · have h0 : xs = [] := by
      rcases Nat.eq_zero_or_pos xs.length with h0 | h0
      · exact List.eq_nil_of_length_eq_zero h0
      · obtain ⟨ad, h, _⟩ := rd_int HR 0 h0
        cases h
    subst h0
    obtain ⟨v1, w1, hr, hown, hg, _⟩ := run_append_row (P := P) W.heap.size t ty e k bytes ht hinfo hb0 (.slice none 0 0) [] ys A2 c2 (OwnI.nil _ _ _ _) HR2 (Nat.le_refl _) hl
    exact ⟨v1, w1, hr, hown, ((Below.refl W.heap.size W).grown hg (Nat.le_refl _) (fun k e => by cases e))⟩
  · obtain ⟨ad2, rfl, _⟩ := rd_int HR2 0 hy
    obtain ⟨v1, w1, hr, hown, hg⟩ := run_append_arg_grows (P := P) (w := W) t ty e i0 (.int k 0) 1 bytes ht hi hz0 hz1 hz2 rfl (by decide) ad xs.length xs.length (nums k xs) (by simp [nums]) (fun j u hu => by
        have hj : j < xs.length := by
          rcases Nat.lt_or_ge j xs.length with h | h
          · exact h
          · simp [nums, List.getElem?_eq_none h] at hu
        obtain ⟨ad', h', hc⟩ := rd_int HR j hj
        injection h' with h'
        subst h'
        rw [nums_get k xs j hj] at hu
        injection hu with hu
        rw [hc, hu]) ad2 ys.length c2 (nums k ys) (by simp [nums]) (fun j u hu => by
        have hj : j < ys.length := by
          rcases Nat.lt_or_ge j ys.length with h | h
          · exact h
          · simp [nums, List.getElem?_eq_none h] at hu
        obtain ⟨ad', h', hc⟩ := rd_int HR2 j hj
        injection h' with h'
        subst h'
        rw [nums_get k ys j hj] at hu
        injection hu with hu
        rw [hc, hu]) (by omega) (by simp only [maxLen]; omega) hl
    refine ⟨v1, w1, hr, ?_, (Below.refl W.heap.size W).grown hg (Nat.le_refl _) (fun k e => by cases e)⟩
    unfold OwnI
    rw [List.length_append, nums_append]; exact hown
/-- append(xs[:m:m], ys...) as a step of a drawn region. -/
theorem step_append_full {P : Program} {ops : Array Oper} {o : Oper} {a : Act} {Q : Exit → Act → World → Prop} {E : Prop} {K : Act → World → Prop} {W : World} (hgd : o.guard = none) (s x : Operand) (t e : TypeId) (k : IntKind) (bytes : Nat)
    (ho : o.op = .call { callee := .builtin .append, args := #[s, x], argTypes := #[t, t] })
    (ht : P.underlying t = some (.slice e)) (hinfo : (P.info? e).map (fun i => (i.zero, i.size, i.bytes)) = some (some (.int k 0), 1, bytes)) (hb0 : 0 < bytes)
    (A : Option Addr) (xs : List Int) (A2 : Option Addr) (c2 : Nat) (ys : List Int) {ok ok2 : Nat → Prop} (hs : a.eval s = .slice A xs.length xs.length) (hx : a.eval x = .slice A2 ys.length c2)
    (HR : Sl (kInt k) ok W A xs.length xs) (HR2 : Sl (kInt k) ok2 W A2 c2 ys) (hy : 0 < ys.length) (hl : (xs.length + ys.length) * bytes ≤ 140737488355328)
    (h : ∀ v1 w1, OwnI e k W.heap.size w1 v1 (xs ++ ys) → Below W.heap.size W w1 → K (a.put o.dst v1) w1) :
    if Region.wanted o (yielded ops a.tmps) = true then Oper.wp P o a W K Q else E := by
  obtain ⟨v1, w1, hr, hown, hg⟩ := run_append_full (P := P) t o.type e k bytes ht hinfo hb0 A xs A2 c2 ys HR HR2 hy hl
  rw [if_pos (by simp [Region.wanted, hgd])]
  unfold Oper.wp execOp
  simp only [ho, resolve, invoke, builtin, Sem.run_bind, Sem.run_pure, Result.andThen_ok, List.map_toArray, List.map_cons, List.map_nil, hs, hx, hr]
  exact h v1 w1 hown hg
/-- A literal of one element of one cell. -/
theorem own_lit1K {α : Type} {k : Kd α} (W : World) (e : TypeId) (ok : Nat → Prop) (x : α) (v : Value) (h1 : k.size = 1) (hx : k.K (fun b => ok b ∧ b ≠ W.heap.size) W x [v]) :
    OwnK k e W.heap.size ok (W.alloc (.cells #[v] e)) (.slice (some ⟨W.heap.size, 0, none⟩) 1 1) [x] := by
  have h := World.ownsRow_lit (base := W.heap.size) (e := e) (size := 1) W #[v] 1 (Nat.le_refl _) (by simp [maxLen]) (by simp)
  refine ⟨[v], by rw [h1]; exact h, by rw [h1]; rfl, fun j hj => ?_⟩
  obtain rfl : j = 0 := by simp at hj; omega
  rw [h1]
  have hb := k.K_below hx (below_alloc (Below.refl W.heap.size W) (.cells #[v] e))
  exact k.weak (fun b _ hb => ⟨hb.1, fun e => hb.2 (by have := Option.some.inj e; exact this.symm)⟩) hb
/-- A row of numbers or pairs lies in its own block alone. -/
theorem ownF_sl {e : TypeId} {base : Nat} {ok : Nat → Prop} {w : World} {v : Value} {xs : List (Int × Int)} (h : OwnK kField e base ok w v xs) : ∃ A c, v = .slice A xs.length c ∧ Sl kField (fun b => base ≤ b) w A c xs := by
  have h2 : OwnK kField e base (fun b => base ≤ b) w v xs := by
    obtain ⟨cells, ho, hr⟩ := h
    refine ⟨cells, ho, hr.1, fun j hj => ?_⟩
    obtain ⟨c1, c2, e1, e2, e3⟩ := hr.2 j hj
    exact ⟨c1, c2, e1, e2, e3⟩
  obtain ⟨A, c, e, hs⟩ := h2.rd
  exact ⟨A, c, e, hs.weak fun b _ hb => hb.elim id (fun hb => h2.base_le b hb)⟩
end Go.Proofs.Ytkfgomhhenmmeaa

namespace Go.Proofs.Ytkfgomhhenmmeaa
open Go.RowKit

theorem infoRr : (Try.prog.info? 106).map (fun i => (i.zero, i.size, i.bytes)) = some (some (.slice none 0 0), 1, 24) := by kernel_rfl
theorem coinsK_succ_len (cs : List Int) (k : Nat) : (coinsK cs (k + 1)).length = if 0 < nth 0 cs k then (coinsK cs k).length + 1 else (coinsK cs k).length := by
  show (if 0 < nth 0 cs k then _ else _ : List It).length = _
  split <;> simp
theorem countsB_of {cs : List Int} (h : cs.length ≤ 256) (hb : ∀ q, q < cs.length → badCount (nth 0 cs q) = false) : countsB cs = true := by
  unfold countsB
  simp only [Bool.and_eq_true, decide_eq_true_eq, Bool.not_eq_true', List.any_eq_false]
  refine ⟨h, fun x hx => ?_⟩
  obtain ⟨i, hi, rfl⟩ := List.mem_iff_getElem.1 hx
  have := hb i hi
  rw [nth_eq 0 _ i hi] at this
  simp [this]

set_option maxHeartbeats 4000000 in
set_option maxRecDepth 100000 in
theorem rlengths_no (A : Option Addr) (c : Nat) (cs : List Int) (most : Int) (w : World) (hS : RI w A c cs) (he : countsB cs = false ∨ most < 1 ∨ 16 < most) :
    Calls Try.prog 42 #[.slice A cs.length c, .int .i64 most] w fun e w' => e = .returned (.tuple #[.slice none 0 0, .int .i64 1]) ∧ Below w.heap.size w w' := by
  have hn := hS.len
  by_cases hg : (256 : Int) < (cs.length : Int) ∨ most < 1 ∨ 16 < most
  · have hc : (decide ((256 : Int) < (cs.length : Int)) = true) ∨ (decide ((256 : Int) < (cs.length : Int)) = false ∧ decide (most < 1) = true) ∨ (decide ((256 : Int) < (cs.length : Int)) = false ∧ decide (most < 1) = false ∧ decide (16 < most) = true) := by
      simp only [decide_eq_true_eq, decide_eq_false_iff_not]; omega
    clear hg he
    rcases hc with d0 | ⟨d0, d1⟩ | ⟨d0, d1, d2⟩
    all_goals
      go_enter Try.func42, Try.ntmps42
      go_wp2
      go_ret2
      exact ⟨rfl, Below.refl _ _⟩
  · have d0 : decide ((256 : Int) < (cs.length : Int)) = false := decide_eq_false (by omega)
    have d1 : decide (most < 1) = false := decide_eq_false (by omega)
    have d2 : decide (16 < most) = false := decide_eq_false (by omega)
    have hcb : countsB cs = false := by
      rcases he with h | h
      · exact h
      · omega
    have HCB := Lib.hid hcb
    have h256 : cs.length ≤ 256 := by omega
    clear hg he hcb
    go_enter Try.func42, Try.ntmps42
    go_wp2
    go_loopw [6, 37] (fun nv iv wr => ∃ k : Nat, iv = .int .i64 (k : Int) ∧ k ≤ cs.length ∧ nv = .int .i64 ((coinsK cs k).length : Int) ∧ Hid (∀ q, q < k → badCount (nth 0 cs q) = false) ∧ wr = w) (fun _ iv _ => cs.length - (intOf iv).toNat)
    case atStart => exact ⟨0, rfl, Nat.zero_le _, rfl, Lib.hid (fun q h => by omega), rfl⟩
    case round =>
      obtain ⟨k, rfl, hk, rfl, hO, rfl⟩ := hrel
      by_cases hlt : k < cs.length
      · obtain ⟨ad, rfl, hc⟩ := rd_int hS k hlt
        have hki : (k : Int) < (cs.length : Int) := by omega
        have hcl := coinsK_len cs k
        have hck := coinsK_succ_len cs k
        obtain ⟨q, hq⟩ : ∃ q, (coinsK cs k).length = q := ⟨_, rfl⟩
        rw [hq] at hcl hck ⊢
        have hwq : IntKind.i64.wrap ((q : Int) + 1) = (q : Int) + 1 := IntWalk.i64_in _ (by omega)
        by_cases h1 : nth 0 cs k < 0
        · have e1 : decide (nth 0 cs k < 0) = true := decide_eq_true h1
          clear h1 hck
          go_wp2
          go_ret2
          exact ⟨rfl, Below.refl _ _⟩
        · have e1 : decide (nth 0 cs k < 0) = false := decide_eq_false h1
          by_cases h2 : 1073741824 < nth 0 cs k
          · have e2 : decide (1073741824 < nth 0 cs k) = true := decide_eq_true h2
            clear h1 h2 hck
            go_wp2
            go_ret2
            exact ⟨rfl, Below.refl _ _⟩
          · have e2 : decide (1073741824 < nth 0 cs k) = false := decide_eq_false h2
            have HO2 := Lib.hid (show ∀ q, q < k + 1 → badCount (nth 0 cs q) = false from fun q hq => by
              rcases Nat.lt_or_ge q k with h | h
              · exact hO.out q h
              · obtain rfl : q = k := by omega
                simp [badCount, e1, e2])
            by_cases h3 : 0 < nth 0 cs k
            · have e3 : decide (0 < nth 0 cs k) = true := decide_eq_true h3
              rw [if_pos h3] at hck
              have HCK := Lib.hid hck
              clear h1 h2 h3 hck hq hcl
              go_wp2
              go_roundw
              case rel => exact ⟨k + 1, by go_num, by omega, by rw [HCK.out]; go_num, HO2, trivial⟩
              case measure => simp [intOf]; omega
            · have e3 : decide (0 < nth 0 cs k) = false := decide_eq_false h3
              rw [if_neg h3] at hck
              have HCK := Lib.hid hck
              clear h1 h2 h3 hck hq hcl
              go_wp2
              go_roundw
              case rel => exact ⟨k + 1, by go_num, by omega, by rw [HCK.out], HO2, trivial⟩
              case measure => simp [intOf]; omega
      · obtain rfl : k = cs.length := by omega
        have h1 := countsB_of h256 hO.out
        rw [HCB.out] at h1
        cases h1
end Go.Proofs.Ytkfgomhhenmmeaa

namespace Go.Proofs.Ytkfgomhhenmmeaa
open Go.RowKit

set_option maxHeartbeats 8000000 in
set_option maxRecDepth 100000 in
theorem rlengths_any (A : Option Addr) (c : Nat) (cs : List Int) (most : Nat) (w : World) (hS : RI w A c cs) (hc : countsB cs = true) (h1 : 1 ≤ most) (h16 : most ≤ 16) :
    Calls Try.prog 42 #[.slice A cs.length c, .int .i64 (most : Int)] w fun e w' => ∃ v, e = .returned (.tuple #[v, .int .i64 (lengthsE cs most)]) ∧ OwnI 3 .i64 w.heap.size w' v (lengthsV cs most) ∧ Below w.heap.size w w' := by
  obtain ⟨h256, hbd⟩ := counts_bound hc
  have HB := Lib.hid (nth_bound hbd (by decide))
  have HS := Lib.hid hS
  have hcB := Lib.hid hc
  have d0 : decide ((256 : Int) < (cs.length : Int)) = false := decide_eq_false (by omega)
  have d1 : decide ((most : Int) < 1) = false := decide_eq_false (by omega)
  have d2 : decide ((16 : Int) < (most : Int)) = false := decide_eq_false (by omega)
  have hmk := make_row (P := Try.prog) 22 3 .i64 8 Try.underlying22 infoI (by decide) cs.length (by omega)
  have HMK := Lib.hid hmk
  have HM := Lib.hid (show 1 ≤ most ∧ most ≤ 16 from ⟨h1, h16⟩)
  clear hS hc hbd hmk
  go_enter Try.func42, Try.ntmps42
  go_wp2
  go_loopw [6, 37] (fun nv iv wr => ∃ k : Nat, iv = .int .i64 (k : Int) ∧ k ≤ cs.length ∧ nv = .int .i64 ((coinsK cs k).length : Int) ∧ w = wr) (fun _ iv _ => cs.length - (intOf iv).toNat)
  case atStart => exact ⟨0, rfl, Nat.zero_le _, rfl, rfl⟩
  case round =>
    obtain ⟨k, rfl, hk, rfl, rfl⟩ := hrel
    by_cases hlt : k < cs.length
    · obtain ⟨ad, rfl, hc⟩ := rd_int HS.out k hlt
      have hki : (k : Int) < (cs.length : Int) := by omega
      have hcl := coinsK_len cs k
      have hck := coinsK_succ_len cs k
      have hbk := HB.out k
      obtain ⟨q, hq⟩ : ∃ q, (coinsK cs k).length = q := ⟨_, rfl⟩
      rw [hq] at hcl hck ⊢
      have hwq : IntKind.i64.wrap ((q : Int) + 1) = (q : Int) + 1 := IntWalk.i64_in _ (by omega)
      have e1 : decide (nth 0 cs k < 0) = false := decide_eq_false (by omega)
      have e2 : decide (1073741824 < nth 0 cs k) = false := decide_eq_false (by omega)
      by_cases h3 : 0 < nth 0 cs k
      · have e3 : decide (0 < nth 0 cs k) = true := decide_eq_true h3
        rw [if_pos h3] at hck
        have HCK := Lib.hid hck
        clear h3 hck hq hcl hbk
        go_wp2
        go_roundw
        case rel => exact ⟨k + 1, by go_num, by omega, by rw [HCK.out]; go_num, trivial⟩
        case measure => simp [intOf]; omega
      · have e3 : decide (0 < nth 0 cs k) = false := decide_eq_false h3
        rw [if_neg h3] at hck
        have HCK := Lib.hid hck
        clear h3 hck hq hcl hbk
        go_wp2
        go_roundw
        case rel => exact ⟨k + 1, by go_num, by omega, by rw [HCK.out], trivial⟩
        case measure => simp [intOf]; omega
    · obtain rfl : k = cs.length := by omega
      obtain ⟨n, hn⟩ : ∃ n, (coinsK cs cs.length).length = n := ⟨_, rfl⟩
      have hnl := coinsK_len cs cs.length
      obtain ⟨Q, hQ⟩ : ∃ Q : Nat, 2 ^ most = Q := ⟨_, rfl⟩
      have hQ6 : Q ≤ 65536 := by rw [← hQ]; have := Nat.pow_le_pow_right (n := 2) (by decide) h16; simpa using this
      have hwq : IntKind.i64.wrap ((2 : Int) ^ most) = (Q : Int) := by rw [show (2 : Int) ^ most = (Q : Int) by rw [← hQ]; simp]; exact IntWalk.i64_in _ (by omega)
      have HQ := Lib.hid (show 2 ^ most = Q from hQ)
      have HE := Lib.hid (show lengthsE cs most = if n = 0 then 5 else if Q < n then 2 else 0 by
        unfold lengthsE
        rw [if_neg (by rw [hcB.out]; simp; omega), hn, Int.toNat_natCast, hQ])
      have HN := Lib.hid hn
      have HV0 := Lib.hid (show lengthsE cs most ≠ 0 → lengthsV cs most = [] from fun h => by unfold lengthsV; rw [if_pos h])
      rw [hn] at hnl ⊢
      clear hn hQ
      by_cases h0 : n = 0
      · have h0b : ((n : Int) == 0) = true := by simp [h0]
        have HX := Lib.hid h0
        clear h0
        go_wp2
        go_ret2
        exact ⟨_, ret_two rfl (by rw [HE.out, if_pos HX.out]; rfl), by rw [HV0.out (by rw [HE.out, if_pos HX.out]; decide)]; exact OwnI.nil _ _ _ _, Below.refl _ _⟩
      · have h0b : ((n : Int) == 0) = false := by simpa using h0
        by_cases hbig : Q < n
        · have hd3 : decide (Q < n) = true := decide_eq_true hbig
          have hd4 : decide ((Q : Int) < (n : Int)) = true := decide_eq_true (by omega)
          have HX := Lib.hid (show n ≠ 0 ∧ Q < n from ⟨h0, hbig⟩)
          clear h0 hbig
          go_wp2
          go_ret2
          exact ⟨_, ret_two rfl (by rw [HE.out, if_neg HX.out.1, if_pos HX.out.2]; rfl), by rw [HV0.out (by rw [HE.out, if_neg HX.out.1, if_pos HX.out.2]; decide)]; exact OwnI.nil _ _ _ _, Below.refl _ _⟩
        · have hd3 : decide (Q < n) = false := decide_eq_false hbig
          have hd4 : decide ((Q : Int) < (n : Int)) = false := decide_eq_false (by omega)
          have hE0 : lengthsE cs most = 0 := by rw [HE.out, if_neg h0, if_neg hbig]
          have HE0 := Lib.hid hE0
          have HIN := Lib.hid (show LenIn cs most from ⟨hcB.out, h1, h16, by rw [sortedC_length, HN.out]; omega, by rw [sortedC_length, HN.out, HQ.out]; omega⟩)
          have HNX := Lib.hid (show 1 ≤ n ∧ n ≤ 256 from ⟨by omega, by omega⟩)
          clear HE HV0 hE0 hbig h0 hQ6
          go_wp2
          go_loopw [9, 60] (fun ov iv wr => ∃ k : Nat, iv = .int .i64 (k : Int) ∧ k ≤ cs.length ∧ Hid (OwnI 3 .i64 w.heap.size wr ov (ordI cs k)) ∧ Hid (Below w.heap.size w wr)) (fun _ iv _ => cs.length - (intOf iv).toNat)
          case atStart => exact ⟨0, rfl, Nat.zero_le _, Lib.hid (OwnI.nil _ _ _ _), Lib.hid (Below.refl _ _)⟩
          case round =>
            obtain ⟨k, rfl, hk, hO, hB⟩ := hrel
            by_cases hlt : k < cs.length
            · obtain ⟨ad, rfl, hck⟩ := rd_int (HS.out.below hB.out) k hlt
              obtain ⟨Ao, co, rfl, hRo⟩ := own_ri hO.out
              have hki : (k : Int) < (cs.length : Int) := by omega
              have hcl := coinsK_len cs k
              obtain ⟨q, hq⟩ : ∃ q, (ordI cs k).length = q := ⟨_, rfl⟩
              have HQ2 := Lib.hid hq
              have HRO := Lib.hid hRo
              have hO2 := hO.out
              rw [hq] at hO2 ⊢
              have hO := Lib.hid hO2
              have hqk : q ≤ k := by rw [← hq, ordI_length]; exact hcl
              clear hcl hq hRo hO2
              go_wp2
              go_loopw [12] (fun pv wr2 => ∃ p : Nat, pv = .int .i64 (p : Int) ∧ p ≤ q ∧ Hid (∀ j, p ≤ j → j < q → nth 0 cs k < nth 0 cs (nth 0 (ordI cs k) j).toNat) ∧ wr = wr2) (fun pv _ => (intOf pv).toNat)
              case atStart => exact ⟨q, rfl, Nat.le_refl _, Lib.hid (fun j h1 h2 => by omega), rfl⟩
              case round =>
                obtain ⟨p, rfl, hp, hL, rfl⟩ := hrel
                by_cases hp0 : p = 0
                · have hp1 : decide ((0 : Int) < (p : Int)) = false := decide_eq_false (by omega)
                  have hp2 : decide (0 < p) = false := decide_eq_false (by omega)
                  have hp3 : Hid (p = 0) := hp0
                  clear hp0
                  by_cases h3 : 0 < nth 0 cs k
                  · have e3 : decide (0 < nth 0 cs k) = true := decide_eq_true h3
                    have hnew := ordI_hit (p := p) h3 (by rw [← ordI_length, HQ2.out]; exact hp) (.inl hp3.out) (by rw [← ordI_length, HQ2.out]; exact hL.out)
                    obtain ⟨T, hT⟩ : ∃ T, (ordI cs k).take p = T := ⟨_, rfl⟩
                    obtain ⟨D, hD⟩ : ∃ D, (ordI cs k).drop p = D := ⟨_, rfl⟩
                    have hTl : T.length = p := by rw [← hT, List.length_take, HQ2.out]; omega
                    have hDl : D.length = q - p := by rw [← hD, List.length_drop, HQ2.out]
                    obtain ⟨i0, hi0, hz0, hz1, hz2⟩ := info_parts infoI
                    obtain ⟨A3, hcut3, hsl3⟩ := cut_full (P := Try.prog) 22 3 Try.underlying22 hi0 Ao q co p hp (by have := HRO.out.le; rw [HQ2.out] at this; exact this)
                    obtain ⟨A8, hcut8, hsl8⟩ := cut_tail (P := Try.prog) 22 3 Try.underlying22 hi0 Ao q co p hp
                    have hs3 := hsl3 (kInt .i64) _ _ _ (by rw [hz1]; rfl) HQ2.out HRO.out
                    have hs8 := hsl8 (kInt .i64) _ _ _ (by rw [hz1]; rfl) HQ2.out HRO.out
                    rw [hT] at hs3 hnew
                    rw [hD] at hs8 hnew
                    rw [← hDl] at hcut8
                    subst hTl
                    have HNEW := Lib.hid hnew
                    have HS3 := Lib.hid hs3
                    have HS8 := Lib.hid hs8
                    have HDL := Lib.hid hDl
                    have HDR := Lib.hid ((Below.refl wr.heap.size wr).drew)
                    have HLEN := Lib.hid (show T.length ≤ 256 ∧ D.length ≤ 256 by have := coinsK_len cs k; omega)
                    clear hnew hs3 hs8 hDl hT hD hsl3 hsl8 h3 hL hlt hi0 hz0 hz1 hz2
                    go_wp2_with fail
                    refine wp_region_G 10 (fun _ => True) (by kernel_rfl) trivial (fun hHeld => ?_)
                    refine wpAnyG_takeL (i := 0) (.slice Ao q co) [3, 10] rfl (by kernel_rfl) (fun _ _ _ h => h) trivial (by rfl) ?_ ?_
                    · (intro W hSw; go_simp)
                    try simp only [Act.put, List.setIfInBounds_toArray, List.set_cons_zero, List.set_cons_succ]
                    refine wpAnyG_takeL (i := 1) (.int .i64 T.length) [3, 10] rfl (by kernel_rfl) (fun _ _ _ h => h) trivial (by rfl) ?_ ?_
                    · (intro W hSw; go_simp)
                    try simp only [Act.put, List.setIfInBounds_toArray, List.set_cons_zero, List.set_cons_succ]
                    refine wpAnyG_takeL (i := 2) (.int .i64 T.length) [3, 10] rfl (by kernel_rfl) (fun _ _ _ h => h) trivial (by rfl) ?_ ?_
                    · (intro W hSw; go_simp)
                    try simp only [Act.put, List.setIfInBounds_toArray, List.set_cons_zero, List.set_cons_succ]
                    refine wpAnyG_takeL (i := 3) (.slice A3 T.length T.length) [10] rfl (by kernel_rfl) (fun _ _ _ h => h) trivial (by rfl) ?_ ?_
                    · (intro W hSw; go_simp)
                    try simp only [Act.put, List.setIfInBounds_toArray, List.set_cons_zero, List.set_cons_succ]
                    refine wpAnyG_takeL (i := 4) (.int .i64 k) [5, 9, 10] rfl (by kernel_rfl) (fun _ _ _ h => h) trivial (by rfl) ?_ ?_
                    · (intro W hSw; go_simp)
                    try simp only [Act.put, List.setIfInBounds_toArray, List.set_cons_zero, List.set_cons_succ]
                    refine wpAnyG_takeL (i := 6) (.slice Ao q co) [8, 9, 10] rfl (by kernel_rfl) (fun _ _ _ h => h) trivial (by rfl) ?_ ?_
                    · (intro W hSw; go_simp)
                    try simp only [Act.put, List.setIfInBounds_toArray, List.set_cons_zero, List.set_cons_succ]
                    refine wpAnyG_takeL (i := 7) (.int .i64 T.length) [8, 9, 10] rfl (by kernel_rfl) (fun _ _ _ h => h) trivial (by rfl) ?_ ?_
                    · (intro W hSw; go_simp)
                    try simp only [Act.put, List.setIfInBounds_toArray, List.set_cons_zero, List.set_cons_succ]
                    refine wpAnyG_takeL (i := 8) (.slice A8 D.length (co - T.length)) [9, 10] rfl (by kernel_rfl) (fun _ _ _ h => h) trivial (by rfl) ?_ ?_
                    · (intro W hSw; go_simp)
                    try simp only [Act.put, List.setIfInBounds_toArray, List.set_cons_zero, List.set_cons_succ]
                    refine wpAnyG_oneL (i := 5) (by kernel_rfl) rfl (fun K hK => ?_)
                    go_simp
                    refine hK.out _ _ (fun _ => trivial) ?_
                    clear hK K
                    try simp only [Act.put, List.setIfInBounds_toArray, List.set_cons_zero, List.set_cons_succ]
                    have HB1 := Lib.hid (below_alloc HDR.out (.cells #[.int .i64 k] 3))
                    have HO1 := Lib.hid (own_lit wr.drew 3 .i64 [(k : Int)] (by simp))
                    refine wpAnyG_oneL (i := 9) (by kernel_rfl) rfl (fun K hK => ?_)
                    refine step_append_row (W := wr.drew.alloc (.cells #[.int .i64 k] 3)) wr.heap.size rfl (.tmp 90) (.tmp 93) 22 3 .i64 8 rfl Try.underlying22 infoI (by decide) _ [(k : Int)] D A8 (co - T.length) rfl rfl HO1.out (HS8.out.below HB1.out) HB1.out.size (by have := HLEN.out; simp; omega) ?_
                    intro v9 w9 hO9 hg9 _
                    have HB9 := Lib.hid (HB1.out.grown hg9 HB1.out.size HO1.out.base_le)
                    have HO9 := Lib.hid hO9
                    clear hO9 hg9
                    refine hK.out _ _ (fun _ => trivial) ?_
                    clear hK K
                    try simp only [Act.put, List.setIfInBounds_toArray, List.set_cons_zero, List.set_cons_succ]
                    obtain ⟨A9, c9, rfl, hs9⟩ := own_ri HO9.out
                    have HS9 := Lib.hid hs9
                    clear hs9
                    refine wpAnyG_oneL (i := 10) (by kernel_rfl) rfl (fun K hK => ?_)
                    refine step_append_full (W := w9) rfl (.tmp 88) (.tmp 94) 22 3 .i64 8 rfl Try.underlying22 infoI (by decide) A3 T A9 c9 ([(k : Int)] ++ D) rfl rfl (HS3.out.below HB9.out) HS9.out (by simp) (by have := HLEN.out; simp; omega) ?_
                    intro v10 w10 hO10 hb10
                    have HO10 := Lib.hid (hO10.mono (b' := w.heap.size) (by have := hB.out.size; have := HB9.out.size; omega))
                    have HB10 := Lib.hid (below2 (below2 hB.out HB9.out) hb10)
                    clear hO10 hb10
                    refine hK.out _ _ (fun h => trivial) ?_
                    clear hK K
                    try simp only [Act.put, List.setIfInBounds_toArray, List.set_cons_zero, List.set_cons_succ]
                    refine wpAnyG_oneL (i := 11) (by kernel_rfl) rfl (fun K hK => ?_)
                    go_simp
                    refine hK.out _ _ (fun h => trivial) ?_
                    clear hK K
                    try simp only [Act.put, List.setIfInBounds_toArray, List.set_cons_zero, List.set_cons_succ]
                    refine wpAnyG_done (by kernel_rfl) ?_ _
                    go_wp2
                    go_roundw
                    case rel => exact ⟨k + 1, by go_num, by omega, Lib.hid (by rw [HNEW.out]; exact HO10.out), HB10⟩
                    case measure => simp [intOf]; omega
                  · have e3 : decide (0 < nth 0 cs k) = false := decide_eq_false h3
                    have HNEW := Lib.hid (ordI_miss h3)
                    clear h3 hL
                    go_wp2
                    go_roundw
                    case rel => exact ⟨k + 1, by go_num, by omega, by rw [HNEW.out]; exact hO, hB⟩
                    case measure => simp [intOf]; omega
                · obtain ⟨pm, hpm⟩ : ∃ pm, p = pm + 1 := ⟨p - 1, by omega⟩
                  have hpq : pm < q := by omega
                  obtain ⟨ad9, e9, ho9⟩ := rd_int HRO.out pm (by rw [HQ2.out]; exact hpq)
                  obtain ⟨s, hs, hsk, hs0, _⟩ := ordI_nth (cs := cs) (k := k) (j := pm) (by rw [← ordI_length, HQ2.out]; exact hpq)
                  rw [hs] at ho9
                  obtain ⟨ads, es, hcs⟩ := rd_int (HS.out.below hB.out) s (by omega)
                  injection es with es
                  subst es
                  have hp1 : decide ((0 : Int) < (p : Int)) = true := decide_eq_true (by omega)
                  have hp2 : decide (0 < p) = true := decide_eq_true (by omega)
                  have hwp : IntKind.i64.wrap ((p : Int) - 1) = (pm : Int) := by rw [IntWalk.i64_in _ (by omega)]; omega
                  have hpi : (pm : Int) < (q : Int) := by omega
                  have hsi : (s : Int) < (cs.length : Int) := by omega
                  have HSS := Lib.hid (show nth 0 (ordI cs k) pm = (s : Int) ∧ p = pm + 1 from ⟨hs, hpm⟩)
                  by_cases h4 : nth 0 cs k < nth 0 cs s
                  · have e4 : decide (nth 0 cs k < nth 0 cs s) = true := decide_eq_true h4
                    have HL2 := Lib.hid (show ∀ j, pm ≤ j → j < q → nth 0 cs k < nth 0 cs (nth 0 (ordI cs k) j).toNat from fun j h1 h2 => by
                      rcases Nat.lt_or_ge pm j with h | h
                      · exact hL.out j (by omega) h2
                      · obtain rfl : j = pm := by omega
                        rw [hs, Int.toNat_natCast]; exact h4)
                    subst e9
                    clear h4 hp0 hs hpm
                    go_wp2
                    go_roundw
                    case rel => exact ⟨pm, rfl, by omega, HL2, trivial⟩
                    case measure => have := HSS.out.2; simp [intOf]; omega
                  · have e4 : decide (nth 0 cs k < nth 0 cs s) = false := decide_eq_false h4
                    have H4 := Lib.hid (show nth 0 cs s ≤ nth 0 cs k by omega)
                    clear h4 hp0 hs hpm
                    subst e9
                    by_cases h3 : 0 < nth 0 cs k
                    · have e3 : decide (0 < nth 0 cs k) = true := decide_eq_true h3
                      have hnew := ordI_hit (p := p) h3 (by rw [← ordI_length, HQ2.out]; exact hp) (.inr ⟨s, by have h5 := HSS.out; rw [h5.2, Nat.add_sub_cancel]; exact h5.1, H4.out⟩) (by rw [← ordI_length, HQ2.out]; exact hL.out)
                      obtain ⟨T, hT⟩ : ∃ T, (ordI cs k).take p = T := ⟨_, rfl⟩
                      obtain ⟨D, hD⟩ : ∃ D, (ordI cs k).drop p = D := ⟨_, rfl⟩
                      have hTl : T.length = p := by rw [← hT, List.length_take, HQ2.out]; omega
                      have hDl : D.length = q - p := by rw [← hD, List.length_drop, HQ2.out]
                      obtain ⟨i0, hi0, hz0, hz1, hz2⟩ := info_parts infoI
                      obtain ⟨A3, hcut3, hsl3⟩ := cut_full (P := Try.prog) 22 3 Try.underlying22 hi0 (some ad9) q co p hp (by have := HRO.out.le; rw [HQ2.out] at this; exact this)
                      obtain ⟨A8, hcut8, hsl8⟩ := cut_tail (P := Try.prog) 22 3 Try.underlying22 hi0 (some ad9) q co p hp
                      have hs3 := hsl3 (kInt .i64) _ _ _ (by rw [hz1]; rfl) HQ2.out HRO.out
                      have hs8 := hsl8 (kInt .i64) _ _ _ (by rw [hz1]; rfl) HQ2.out HRO.out
                      rw [hT] at hs3 hnew
                      rw [hD] at hs8 hnew
                      rw [← hDl] at hcut8
                      subst hTl
                      have HNEW := Lib.hid hnew
                      have HS3 := Lib.hid hs3
                      have HS8 := Lib.hid hs8
                      have HDL := Lib.hid hDl
                      have HDR := Lib.hid ((Below.refl wr.heap.size wr).drew)
                      have HLEN := Lib.hid (show T.length ≤ 256 ∧ D.length ≤ 256 by have := coinsK_len cs k; omega)
                      clear hnew hs3 hs8 hDl hT hD hsl3 hsl8 h3 hL hlt hi0 hz0 hz1 hz2
                      go_wp2_with fail
                      refine wp_region_G 10 (fun _ => True) (by kernel_rfl) trivial (fun hHeld => ?_)
                      refine wpAnyG_takeL (i := 0) (.slice (some ad9) q co) [3, 10] rfl (by kernel_rfl) (fun _ _ _ h => h) trivial (by rfl) ?_ ?_
                      · (intro W hSw; go_simp)
                      try simp only [Act.put, List.setIfInBounds_toArray, List.set_cons_zero, List.set_cons_succ]
                      refine wpAnyG_takeL (i := 1) (.int .i64 T.length) [3, 10] rfl (by kernel_rfl) (fun _ _ _ h => h) trivial (by rfl) ?_ ?_
                      · (intro W hSw; go_simp)
                      try simp only [Act.put, List.setIfInBounds_toArray, List.set_cons_zero, List.set_cons_succ]
                      refine wpAnyG_takeL (i := 2) (.int .i64 T.length) [3, 10] rfl (by kernel_rfl) (fun _ _ _ h => h) trivial (by rfl) ?_ ?_
                      · (intro W hSw; go_simp)
                      try simp only [Act.put, List.setIfInBounds_toArray, List.set_cons_zero, List.set_cons_succ]
                      refine wpAnyG_takeL (i := 3) (.slice A3 T.length T.length) [10] rfl (by kernel_rfl) (fun _ _ _ h => h) trivial (by rfl) ?_ ?_
                      · (intro W hSw; go_simp)
                      try simp only [Act.put, List.setIfInBounds_toArray, List.set_cons_zero, List.set_cons_succ]
                      refine wpAnyG_takeL (i := 4) (.int .i64 k) [5, 9, 10] rfl (by kernel_rfl) (fun _ _ _ h => h) trivial (by rfl) ?_ ?_
                      · (intro W hSw; go_simp)
                      try simp only [Act.put, List.setIfInBounds_toArray, List.set_cons_zero, List.set_cons_succ]
                      refine wpAnyG_takeL (i := 6) (.slice (some ad9) q co) [8, 9, 10] rfl (by kernel_rfl) (fun _ _ _ h => h) trivial (by rfl) ?_ ?_
                      · (intro W hSw; go_simp)
                      try simp only [Act.put, List.setIfInBounds_toArray, List.set_cons_zero, List.set_cons_succ]
                      refine wpAnyG_takeL (i := 7) (.int .i64 T.length) [8, 9, 10] rfl (by kernel_rfl) (fun _ _ _ h => h) trivial (by rfl) ?_ ?_
                      · (intro W hSw; go_simp)
                      try simp only [Act.put, List.setIfInBounds_toArray, List.set_cons_zero, List.set_cons_succ]
                      refine wpAnyG_takeL (i := 8) (.slice A8 D.length (co - T.length)) [9, 10] rfl (by kernel_rfl) (fun _ _ _ h => h) trivial (by rfl) ?_ ?_
                      · (intro W hSw; go_simp)
                      try simp only [Act.put, List.setIfInBounds_toArray, List.set_cons_zero, List.set_cons_succ]
                      refine wpAnyG_oneL (i := 5) (by kernel_rfl) rfl (fun K hK => ?_)
                      go_simp
                      refine hK.out _ _ (fun _ => trivial) ?_
                      clear hK K
                      try simp only [Act.put, List.setIfInBounds_toArray, List.set_cons_zero, List.set_cons_succ]
                      have HB1 := Lib.hid (below_alloc HDR.out (.cells #[.int .i64 k] 3))
                      have HO1 := Lib.hid (own_lit wr.drew 3 .i64 [(k : Int)] (by simp))
                      refine wpAnyG_oneL (i := 9) (by kernel_rfl) rfl (fun K hK => ?_)
                      refine step_append_row (W := wr.drew.alloc (.cells #[.int .i64 k] 3)) wr.heap.size rfl (.tmp 90) (.tmp 93) 22 3 .i64 8 rfl Try.underlying22 infoI (by decide) _ [(k : Int)] D A8 (co - T.length) rfl rfl HO1.out (HS8.out.below HB1.out) HB1.out.size (by have := HLEN.out; simp; omega) ?_
                      intro v9 w9 hO9 hg9 _
                      have HB9 := Lib.hid (HB1.out.grown hg9 HB1.out.size HO1.out.base_le)
                      have HO9 := Lib.hid hO9
                      clear hO9 hg9
                      refine hK.out _ _ (fun _ => trivial) ?_
                      clear hK K
                      try simp only [Act.put, List.setIfInBounds_toArray, List.set_cons_zero, List.set_cons_succ]
                      obtain ⟨A9, c9, rfl, hs9⟩ := own_ri HO9.out
                      have HS9 := Lib.hid hs9
                      clear hs9
                      refine wpAnyG_oneL (i := 10) (by kernel_rfl) rfl (fun K hK => ?_)
                      refine step_append_full (W := w9) rfl (.tmp 88) (.tmp 94) 22 3 .i64 8 rfl Try.underlying22 infoI (by decide) A3 T A9 c9 ([(k : Int)] ++ D) rfl rfl (HS3.out.below HB9.out) HS9.out (by simp) (by have := HLEN.out; simp; omega) ?_
                      intro v10 w10 hO10 hb10
                      have HO10 := Lib.hid (hO10.mono (b' := w.heap.size) (by have := hB.out.size; have := HB9.out.size; omega))
                      have HB10 := Lib.hid (below2 (below2 hB.out HB9.out) hb10)
                      clear hO10 hb10
                      refine hK.out _ _ (fun h => trivial) ?_
                      clear hK K
                      try simp only [Act.put, List.setIfInBounds_toArray, List.set_cons_zero, List.set_cons_succ]
                      refine wpAnyG_oneL (i := 11) (by kernel_rfl) rfl (fun K hK => ?_)
                      go_simp
                      refine hK.out _ _ (fun h => trivial) ?_
                      clear hK K
                      try simp only [Act.put, List.setIfInBounds_toArray, List.set_cons_zero, List.set_cons_succ]
                      refine wpAnyG_done (by kernel_rfl) ?_ _
                      go_wp2
                      go_roundw
                      case rel => exact ⟨k + 1, by go_num, by omega, Lib.hid (by rw [HNEW.out]; exact HO10.out), HB10⟩
                      case measure => simp [intOf]; omega
                    · have e3 : decide (0 < nth 0 cs k) = false := decide_eq_false h3
                      have HNEW := Lib.hid (ordI_miss h3)
                      clear h3 hL
                      go_wp2
                      go_roundw
                      case rel => exact ⟨k + 1, by go_num, by omega, by rw [HNEW.out]; exact hO, hB⟩
                      case measure => simp [intOf]; omega

            · obtain rfl : k = cs.length := by omega
              have hmk := HMK.out
              have hOo := own_made wr 3 .i64 cs.length (by omega)
              have hBo := below_alloc (Below.refl wr.heap.size wr) (.cells (madeCells #[.int .i64 0] cs.length) 3)
              have HOo := Lib.hid hOo
              have HBo := Lib.hid hBo
              obtain ⟨Ao, co, e, hRo⟩ := own_ri hO.out
              subst e
              have hbz := hB.out.size
              have hRo2 := hRo.below hBo
              have hol := (ordI_length cs cs.length).trans HN.out
              have HOL := Lib.hid hol
              rw [hol]
              clear hOo hBo hRo hol hO
              by_cases hn1 : n = 1
              · have hnb : ((n : Int) == 1) = true := by simp [hn1]
                obtain ⟨s, hs1, hs2, _, hs4⟩ := ordI_nth (cs := cs) (k := cs.length) (j := 0) (by rw [HN.out]; omega)
                obtain ⟨ad9, rfl, ho9⟩ := rd_int hRo2 0 (by rw [HOL.out]; omega)
                rw [hs1, add_zero] at ho9
                have HV1 := Lib.hid (lengthsV_one HE0.out (HN.out.trans hn1) hs4)
                have hsi : (s : Int) < (cs.length : Int) := by omega
                have hn0 : 0 < n := by omega
                obtain ⟨ka, kf⟩ := HOo.out.at_ s (by simp; exact hs2)
                clear hs1 hs4 hn1 hRo2
                go_wp2
                go_ret2
                have hs := HOo.out.set s (1 : Int)
                rw [World.setCell_alloc_at _ _ _ _ _ rfl] at hs
                refine ⟨_, ret_two rfl (by rw [HE0.out]; rfl), ?_, below2 hB.out (below_alloc (Below.refl _ _) _)⟩
                rw [HV1.out]
                exact hs.1.mono hbz
              · have hnb : ((n : Int) == 1) = false := by simp; omega
                have hRO2 := Lib.hid hRo2
                have HN2 := Lib.hid (show 2 ≤ n by have := HNX.out.1; omega)
                have hn256 := HNX.out.2
                clear hn1 hRo2
                go_wp2
                have hz2 : (wr.alloc (.cells (madeCells #[.int .i64 0] cs.length) 3)).heap.size = wr.heap.size + 1 := by simp
                have hBX := Lib.hid (below2 hB.out HBo.out)
                obtain ⟨G0, hG0⟩ : ∃ G0, wr.heap.size = G0 := ⟨_, rfl⟩
                generalize hw2 : wr.alloc (.cells (madeCells #[.int .i64 0] cs.length) 3) = w2 at *
                rw [hG0] at hz2 hbz HOo ⊢
                clear hw2 HBo hB HMK hmk
                go_loopw [14, 110] (fun cv iv wr => ∃ j : Nat, iv = .int .i64 (j : Int) ∧ j ≤ n ∧ Hid (OwnK kField 108 w2.heap.size (fun _ => True) wr cv ((tagC cs).take j)) ∧ Hid (Below w2.heap.size w2 wr)) (fun _ iv _ => n - (intOf iv).toNat)
                case atStart => exact ⟨0, rfl, Nat.zero_le _, Lib.hid (OwnK.nil _ _ _ _ _), Lib.hid (Below.refl _ _)⟩
                case round =>
                  obtain ⟨j, rfl, hj, hC, hB⟩ := hrel
                  by_cases hjn : j < n
                  · obtain ⟨ad9, rfl, ho9⟩ := rd_int (hRO2.out.below hB.out) j (by rw [HOL.out]; exact hjn)
                    obtain ⟨s, hs1, hs2, _, _⟩ := ordI_nth (cs := cs) (k := cs.length) (j := j) (by rw [HN.out]; exact hjn)
                    rw [hs1] at ho9
                    obtain ⟨ads, rfl, hcs⟩ := rd_int ((HS.out.below hBX.out).below hB.out) s hs2
                    have htk := take_succ_nth (0, 0) (tagC cs) j (by rw [tagC_length, sortedC_length, HN.out]; exact hjn)
                    rw [tagC_nth (by rw [HN.out]; exact hjn), hs1, Int.toNat_natCast] at htk
                    have HTK := Lib.hid htk
                    have hsi : (s : Int) < (cs.length : Int) := by omega
                    have hjni : (j : Int) < (n : Int) := by omega
                    have hlk : ((tagC cs).take j).length ≤ 256 := by rw [List.length_take]; omega
                    generalize nth 0 cs s = x at hcs HTK
                    clear htk hs1
                    go_wp2_with (at_builtin; (refine append_k (W := wr) (k := kField) w2.heap.size rfl (.tmp 114) (.tmp 121) 106 108 (.agg #[.int .i64 0, .int .i64 0]) 16 (fun _ => True) rfl Try.underlying106 infoRi rfl (by decide) (by decide) u14 ((tagC cs).take j) (x, (s : Int)) [.int .i64 x, .int .i64 s] rfl rfl rfl hC.out ⟨[_], [_], rfl, rfl, rfl⟩ hB.out.size (by omega) ?_); intro g9 cap9 w9 hO9 hg9 hb9 ha9; have HO9 := Lib.hid hO9; have HB9 := Lib.hid (hB.out.grown hg9 hB.out.size hC.out.base_le); clear hO9 hg9 ha9)
                    go_roundw
                    case rel => exact ⟨j + 1, by go_num, by omega, Lib.hid (by rw [HTK.out]; have := HO9.out; simpa using this), HB9⟩
                    case measure => simp [intOf]; omega
                  · obtain rfl : j = n := by omega
                    obtain ⟨Ac, cc, rfl, hcl⟩ := ownF_sl hC.out
                    have htl : (tagC cs).take j = tagC cs := List.take_of_length_le (by rw [tagC_length, sortedC_length, HN.out]; exact Nat.le_refl _)
                    have htn : (tagC cs).length = j := by rw [tagC_length, sortedC_length, HN.out]
                    rw [htl] at hcl ⊢
                    have HTN := Lib.hid htn
                    have HCL := Lib.hid hcl
                    rw [htn]
                    obtain ⟨K, hK⟩ : ∃ K, most - 1 = K := ⟨_, rfl⟩
                    have hwm : IntKind.i64.wrap ((most : Int) - 1) = (K : Int) := by rw [IntWalk.i64_in _ (by have := HM.out; omega)]; have := HM.out; omega
                    have HK := Lib.hid (show most - 1 = K ∧ K ≤ 15 ∧ most = K + 1 by have := HM.out; omega)
                    have hK15 := HK.out.2.1
                    clear hK hcl htl htn hC
                    obtain ⟨n, rfl⟩ : ∃ n, n = j := ⟨_, rfl⟩
                    have hz3 := hB.out.size
                    have hR0 : Hid (OwnK (kSl kField) 106 wr.heap.size (fun b => b ≠ G0) (wr.alloc (.cells #[.slice Ac n cc] 106)) (.slice (some ⟨wr.heap.size, 0, none⟩) 1 1) (rowsL cs 0)) := Lib.hid (by
                      rw [rowsL_zero]
                      exact own_lit1K wr _ _ (tagC cs) _ rfl ⟨Ac, cc, by rw [HTN.out], HCL.out.weak fun b hb h => ⟨by omega, by omega⟩⟩)
                    have hB0 := Lib.hid (below_alloc (Below.refl wr.heap.size wr) (.cells #[.slice Ac n cc] 106))
                    go_wp2
                    obtain ⟨w3, rfl⟩ : ∃ w3, w3 = wr := ⟨_, rfl⟩
                    go_loopw [17, 128] (fun rv iv wr => ∃ i : Nat, iv = .int .i64 (i : Int) ∧ i ≤ K ∧ Hid (OwnK (kSl kField) 106 w3.heap.size (fun b => b ≠ G0) wr rv (rowsL cs i)) ∧ Hid (Below w3.heap.size w3 wr)) (fun _ iv _ => K - (intOf iv).toNat)
                    case atStart => exact ⟨0, rfl, Nat.zero_le _, hR0, hB0⟩
                    case round =>
                      clear hR0 hB0
                      obtain ⟨i, rfl, hi, hR, hB3⟩ := hrel
                      obtain ⟨Ar, cr, rfl, hrs⟩ := hR.out.rd
                      by_cases hiK : i < K
                      · obtain ⟨ad7, A7, c7, rfl, ho7, hs7⟩ := rd_sl hrs i (by rw [rowsL_length]; omega)
                        rw [rowsL_nth (Nat.le_refl _)] at ho7 hs7
                        have hRO := hR.out
                        rw [rowsL_length] at hRO ⊢
                        have HRO := Lib.hid hRO
                        have hlen := rowR_len h256 (k := i)
                        have hlpk : (pairsR (rowR (tagC cs) i)).length ≤ 512 := by rw [pairsR_length]; omega
                        have HP := Lib.hid (rpackages_any A7 c7 (rowR (tagC cs) i) wr hs7.any (by omega) (rowR_bound hcB.out (by omega)))
                        have hz4 := hB3.out.size
                        have HCW := Lib.hid ((HCL.out.below hB3.out).any)
                        have HMg := Lib.hid (fun (Ab : Option Addr) (cb : Nat) (W : World) (ha : Sl kField AnyB W Ac cc (tagC cs)) (hb : Sl kField AnyB W Ab cb (pairsR (rowR (tagC cs) i))) => rmerged_any Ac Ab cc cb (tagC cs) (pairsR (rowR (tagC cs) i)) W ha hb (by have := HTN.out; omega))
                        rw [HTN.out] at HMg
                        have HSU := Lib.hid (rowsL_succ cs i)
                        have hii : (i : Int) < ((i + 1 : Nat) : Int) := by omega
                        have hii2 : (i : Int) < (i : Int) + 1 := by omega
                        clear hs7 hrs hRO hlen
                        go_wp2_with (first
                          | (go_at_call 68; refine HP.out.mono ?_; rintro e w5 ⟨v5, rfl, hO5, hb5⟩; obtain ⟨A5, c5, rfl, hs5⟩ := ownF_sl hO5; have HS5 := Lib.hid hs5.any; have HB5 := Lib.hid hb5; clear hO5 hs5 hb5)
                          | (go_at_call 67; refine (HMg.out A5 c5 _ (HCW.out.below HB5.out) HS5.out).mono ?_; rintro e w6 ⟨v6, rfl, hO6, hb6⟩; obtain ⟨A6, c6, rfl, hs6⟩ := ownF_sl hO6; have HS6 := Lib.hid hs6; have HB6 := Lib.hid (below2 HB5.out hb6); clear hO6 hs6 hb6)
                          | (at_builtin; (refine append_k (W := w6) (k := kSl kField) w3.heap.size rfl (.tmp 131) (.tmp 139) 109 106 (.slice none 0 0) 24 (fun b => b ≠ G0) rfl Try.underlying109 infoRr rfl (by decide) (by decide) (.slice (some ad7) (i + 1) cr) (rowsL cs i) (mergeR (tagC cs) (pairsR (rowR (tagC cs) i))) [.slice A6 (mergeR (tagC cs) (pairsR (rowR (tagC cs) i))).length c6] rfl rfl rfl (HRO.out.below HB6.out) ⟨A6, c6, rfl, HS6.out.weak fun b hb h => ⟨by have := HB5.out.size; omega, fun e => by have := (HRO.out.lt b e).2; have := HB5.out.size; omega⟩⟩ (by have := HB6.out.size; omega) (by rw [rowsL_length]; omega) ?_); intro g9 cap9 w9 hO9 hg9 hb9 ha9; have HO9 := Lib.hid hO9; have HB9 := Lib.hid ((hB3.out.trans (HB6.out.mono hz4)).grown hg9 (by have := HB6.out.size; omega) HRO.out.base_le); clear hO9 hg9 ha9))
                        go_roundw
                        case rel => exact ⟨i + 1, by go_num, by omega, Lib.hid (by rw [HSU.out]; exact HO9.out), HB9⟩
                        case measure => simp [intOf]; omega
                      · obtain rfl : i = K := by omega
                        obtain ⟨K, rfl⟩ : ∃ K, K = i := ⟨_, rfl⟩
                        have hrs2 := Lib.hid (show Sl (kSl kField) (fun b => b ≠ G0) wr Ar cr (rowsL cs K) from hrs.weak fun b _ h => h.elim id (fun h => by have := hR.out.base_le b h; omega))
                        rw [rowsL_length]
                        have HO3 := Lib.hid ((HOo.out.below hB.out).below hB3.out)
                        have HBW := Lib.hid (below2 (below2 hBX.out hB.out) hB3.out)
                        have hgz : G0 < wr.heap.size := by have := hB3.out.size; omega
                        have hSn : (sortedC cs).length = n := (sortedC_length cs).trans HN.out
                        have HSN := Lib.hid hSn
                        have hfit : 2 * n - 2 ≤ (rowI (sortedC cs) K).length := by
                          have h9 := row_fits (coins := sortedC cs) (k := K) (by rw [← HK.out.2.2]; exact HIN.out.fit)
                          rw [hSn] at h9; exact h9
                        have hps : psL cs most = lens (sortedC cs) K (2 * n - 2) := by
                          unfold psL
                          rw [if_neg (by rw [hSn]; have := HN2.out; omega), HK.out.1, hSn]
                        obtain ⟨M, hM⟩ : ∃ M, 2 * n - 2 = M := ⟨_, rfl⟩
                        rw [hM] at hfit hps
                        have hwm2 : IntKind.i64.wrap (2 * (n : Int)) = 2 * (n : Int) := IntWalk.i64_in _ (by omega)
                        have hwm3 : IntKind.i64.wrap (2 * (n : Int) - 2) = (M : Int) := by rw [IntWalk.i64_in _ (by omega)]; have := HN2.out; omega
                        have HFIT := Lib.hid hfit
                        have HPS := Lib.hid (show outT cs (lens (sortedC cs) K M) = lengthsV cs most by rw [← hps]; exact outT_all HE0.out HIN.out)
                        have hgw : w.heap.size ≤ G0 := hbz
                        clear hrs hR hB3 hM hfit hps hSn
                        go_wp2
                        obtain ⟨w4, rfl⟩ : ∃ w4, w4 = wr := ⟨_, rfl⟩
                        go_loopw [19, 20] (fun fv iv wr => ∃ (j m : Nat) (ps : List Nat) (z : Int), iv = .int .i64 z ∧ z = (j : Int) - 1 ∧ fv = .int .i64 (m : Int) ∧ j ≤ K + 1 ∧ Hid (OwnI 3 .i64 G0 wr (.slice (some ⟨G0, 0, none⟩) cs.length cs.length) (outT cs ps)) ∧ Hid (lens (sortedC cs) K M = ps ++ (if j = 0 then [] else lens (sortedC cs) (j - 1) m)) ∧ Hid (j ≠ 0 → m ≤ (rowI (sortedC cs) (j - 1)).length) ∧ Hid (Sl (kSl kField) (fun b => b ≠ G0) wr Ar cr (rowsL cs K)) ∧ Hid (Below w.heap.size w wr) ∧ G0 < wr.heap.size) (fun _ iv _ => (intOf iv + 1).toNat)
                        case atStart => exact ⟨K + 1, M, [], K, rfl, by omega, rfl, Nat.le_refl _, Lib.hid (by rw [outT_nil]; exact HO3.out), Lib.hid (by rw [if_neg (by omega)]; rfl), Lib.hid (fun _ => HFIT.out), hrs2, HBW, hgz⟩
                        case round =>
                          clear HO3 hrs2 HBW hgz
                          obtain ⟨j, m, ps, z, rfl, hz, rfl, hj, hO, hL, hm, hR, hB4, hgz⟩ := hrel
                          by_cases hj0 : j = 0
                          · have hd : decide ((0 : Int) ≤ z) = false := decide_eq_false (by omega)
                            have hL2 : lens (sortedC cs) K M = ps := by have := hL.out; rw [if_pos hj0] at this; rw [this, List.append_nil]
                            have HL2 := Lib.hid hL2
                            clear hz hj0 hL2
                            go_wp2
                            go_ret2
                            exact ⟨_, ret_two rfl (by rw [HE0.out]; rfl), by rw [← HPS.out, HL2.out]; exact hO.out.mono hgw, hB4.out⟩
                          · obtain ⟨i, rfl⟩ : ∃ i, j = i + 1 := ⟨j - 1, by omega⟩
                            obtain rfl : z = (i : Int) := by omega
                            have hm2 : m ≤ (rowI (sortedC cs) i).length := hm.out (by omega)
                            have hd : decide ((0 : Int) ≤ (i : Int)) = true := decide_eq_true (by omega)
                            obtain ⟨ad7, A7, c7, rfl, ho7, hs7⟩ := rd_sl hR.out i (by rw [rowsL_length]; omega)
                            rw [rowsL_nth (by omega)] at ho7 hs7
                            have hrl : (rowR (tagC cs) i).length = (rowI (sortedC cs) i).length := rowR_length cs i
                            have hrl5 := rowR_len h256 (k := i)
                            obtain ⟨p, hp1, hp2, hp3⟩ := level_step hm2
                            obtain ⟨L, hLe⟩ : ∃ L, (rowR (tagC cs) i).take m = L := ⟨_, rfl⟩
                            have hLl : L.length = m := by rw [← hLe, List.length_take]; omega
                            have hLs : ∀ x ∈ L, ¬ x.2 < 0 → ∃ s : Nat, x.2 = (s : Int) ∧ s < cs.length := fun x hx h => item_sym (List.mem_of_mem_take (by rw [hLe]; exact hx)) h
                            have hsL := hs7.le
                            have hSL : Sl kField (fun b => b ≠ G0) wr A7 c7 L := ⟨by omega, hs7.cap, by rw [← hLe]; exact hs7.rd.take m⟩
                            rw [hLe] at hp1 hp2 hp3
                            have HP1 := Lib.hid hp1
                            have HP2 := Lib.hid hp2
                            have HP3 := Lib.hid hp3
                            have HLL := Lib.hid hLl
                            have HLS := Lib.hid hLs
                            have HSL := Lib.hid hSL
                            have hm512 : m ≤ 512 := by omega
                            have hlps : ps.length ≤ 16 := by
                              have h9 := congrArg List.length hL.out
                              rw [lens_length, List.length_append] at h9; omega
                            have hmc : m ≤ c7 := by omega
                            have hii : (i : Int) < ((K + 1 : Nat) : Int) := by omega
                            have hii2 : (i : Int) < (K : Int) + 1 := by omega
                            have hi0 : (0 : Int) ≤ (i : Int) := by omega
                            have hmi : (m : Int) ≤ (c7 : Int) := by omega
                            obtain ⟨rl, hrle⟩ : ∃ rl, (rowR (tagC cs) i).length = rl := ⟨_, rfl⟩
                            rw [hrle] at ho7
                            have hwi : IntKind.i64.wrap ((i : Int) - 1) = (i : Int) - 1 := IntWalk.i64_in _ (by omega)
                            clear hm2 hs7 hrl hrl5 hp1 hp2 hp3 hLe hLl hLs hsL hSL hrle hz hj0 hm
                            go_wp2
                            obtain ⟨w5, rfl⟩ : ∃ w5, w5 = wr := ⟨_, rfl⟩
                            have hgz5 := hgz
                            go_loopw [21, 158] (fun kv iv wr => ∃ q : Nat, iv = .int .i64 (q : Int) ∧ q ≤ m ∧ kv = .int .i64 (packsIn (L.take q) : Int) ∧ Hid (OwnI 3 .i64 G0 wr (.slice (some ⟨G0, 0, none⟩) cs.length cs.length) (outU cs ps (L.take q))) ∧ Hid (Sl kField (fun b => b ≠ G0) wr A7 c7 L) ∧ Hid (Sl (kSl kField) (fun b => b ≠ G0) wr (some ad7) cr (rowsL cs K)) ∧ Hid (Below w.heap.size w wr) ∧ G0 < wr.heap.size) (fun _ iv _ => m - (intOf iv).toNat)
                            case atStart => exact ⟨0, rfl, Nat.zero_le _, rfl, Lib.hid (by rw [List.take_zero, outU_nil]; exact hO.out), HSL, hR, hB4, hgz⟩
                            case round =>
                              clear hO hR hB4 hgz HSL ho7
                              obtain ⟨q, rfl, hq, rfl, hO, hSL, hR, hB4, hgz⟩ := hrel
                              by_cases hqm : q < m
                              · obtain ⟨ad8, rfl, x0, x1⟩ := rd_field hSL.out q (by rw [HLL.out]; exact hqm)
                                have htk := take_succ_nth (0, 0) L q (by rw [HLL.out]; exact hqm)
                                have hsym := HLS.out _ (nth_mem (0, 0) L q (by rw [HLL.out]; exact hqm))
                                obtain ⟨⟨xw, xs⟩, hxe⟩ : ∃ x, nth (0, 0) L q = x := ⟨_, rfl⟩
                                rw [hxe] at x0 x1 htk hsym
                                have hpk := packsIn_snoc (L.take q) (xw, xs)
                                rw [← htk] at hpk
                                have hpl := packsIn_le (L.take q)
                                rw [List.length_take] at hpl
                                obtain ⟨pk, hpke⟩ : ∃ pk, packsIn (L.take q) = pk := ⟨_, rfl⟩
                                rw [hpke] at hpk hpl ⊢
                                have hwk : IntKind.i64.wrap ((pk : Int) + 1) = (pk : Int) + 1 := IntWalk.i64_in _ (by omega)
                                have hqi : (q : Int) < (m : Int) := by omega
                                have hwq : IntKind.i64.wrap ((q : Int) + 1) = (q : Int) + 1 := IntWalk.i64_in _ (by omega)
                                have HTK := Lib.hid htk
                                have HBA := Lib.hid (below_alloc (Below.refl wr.heap.size wr) (.cells #[.int .i64 xw, .int .i64 xs] 108))
                                have hO2 := hO.out.below HBA.out
                                by_cases hx : xs < 0
                                · have hxb : decide (xs < 0) = true := decide_eq_true hx
                                  have hun := outU_pack (cs := cs) (ps := ps) (l := L.take q) (x := (xw, xs)) hx
                                  rw [← htk] at hun
                                  rw [if_pos (show ((xw, xs) : Int × Int).2 < 0 from hx)] at hpk
                                  have HUN := Lib.hid hun
                                  have HPK := Lib.hid hpk
                                  have HO2 := Lib.hid hO2
                                  clear hx hun hpk htk hsym hxe hpl hpke hO2
                                  go_wp2
                                  go_roundw
                                  case rel => exact ⟨q + 1, by go_num, by omega, by rw [HPK.out]; go_num, Lib.hid (by rw [HUN.out]; exact HO2.out), Lib.hid (hSL.out.below HBA.out), Lib.hid (hR.out.below HBA.out), Lib.hid (below2 hB4.out HBA.out), by have := HBA.out.size; omega⟩
                                  case measure => simp [intOf]; omega
                                · have hxb : decide (xs < 0) = false := decide_eq_false hx
                                  obtain ⟨s, hs, hsl⟩ := hsym (by first | exact hx | (show (0 : Int) ≤ xs; omega))
                                  have hs : xs = (s : Int) := hs
                                  subst hs
                                  obtain ⟨ka, kf⟩ := hO2.at_ s (by rw [outU_length]; exact hsl)
                                  have hval := outU_nth (cs := cs) (ps := ps) (l := L.take q) hsl
                                  have hb1 := count_sum_le cs s ps
                                  have hb2 := coinsIn_le s (L.take q)
                                  rw [List.length_take] at hb2
                                  have hb3 : ps.length * (sortedC cs).length ≤ 16 * 256 := Nat.mul_le_mul hlps (by rw [HSN.out]; exact hn256)
                                  have hun := outU_coin (cs := cs) (ps := ps) (l := L.take q) (x := (xw, (s : Int))) (s := s) rfl hsl
                                  rw [← htk] at hun
                                  rw [if_neg (show ¬ ((xw, (s : Int)) : Int × Int).2 < 0 from hx)] at hpk
                                  obtain ⟨V, hV⟩ : ∃ V, nth 0 (outU cs ps (L.take q)) s = V := ⟨_, rfl⟩
                                  rw [hV] at ka hval hun
                                  have hwV : IntKind.i64.wrap (V + 1) = V + 1 := IntWalk.i64_in _ (by omega)
                                  have hsi : (s : Int) < (cs.length : Int) := by omega
                                  have HUN := Lib.hid hun
                                  have HPK := Lib.hid hpk
                                  have HO2 := Lib.hid hO2
                                  have hG1 : wr.heap.size ≠ G0 := by omega
                                  clear hx hun hpk htk hsym hxe hpl hpke hval hb1 hb2 hb3 hV hO2
                                  go_wp2
                                  go_roundw
                                  case rel =>
                                    have hs := hO.out.set s (V + 1)
                                    have hkp : Keep (fun b => b ≠ G0) wr (wr.setCell ⟨G0, s, none⟩ (.int .i64 (V + 1))) := Keep.of_grown1 hs.2
                                    have hba := below_alloc (Below.refl (wr.setCell ⟨G0, s, none⟩ (.int .i64 (V + 1))).heap.size (wr.setCell ⟨G0, s, none⟩ (.int .i64 (V + 1)))) (.cells #[.int .i64 xw, .int .i64 (s : Int)] 108)
                                    have hbf := below2 (hB4.out.grown hs.2 hB4.out.size (fun r e => by have := Option.some.inj e; omega)) hba
                                    refine ⟨q + 1, by go_num, by omega, by rw [HPK.out]; rfl, Lib.hid ?_, Lib.hid ?_, Lib.hid ?_, Lib.hid ?_, ?_⟩
                                    · rw [← HUN.out]; exact hs.1.below hba
                                    · exact (hSL.out.keep hkp).below hba
                                    · exact (hR.out.keep hkp).below hba
                                    · exact hbf
                                    · have := hkp.size; have := hba.size; omega
                                  case measure => simp [intOf]; omega
                              · obtain rfl : q = m := by omega
                                have htl : L.take q = L := List.take_of_length_le (by rw [HLL.out]; exact Nat.le_refl _)
                                have hpl := packsIn_le L
                                rw [HLL.out] at hpl
                                rw [htl] at hO ⊢
                                have hout := outU_done (cs := cs) (ps := ps) (l := L) (p := p) HP1.out
                                rw [hout] at hO
                                have HHO := Lib.hid hO.out
                                have HLN := Lib.hid (show lens (sortedC cs) K M = (ps ++ [p]) ++ (if i = 0 then [] else lens (sortedC cs) (i - 1) (2 * packsIn L)) by
                                  have h9 := hL.out
                                  rw [if_neg (by omega), Nat.add_sub_cancel, HP2.out] at h9
                                  rw [h9]; simp)
                                obtain ⟨pk, hpke⟩ : ∃ pk, packsIn L = pk := ⟨_, rfl⟩
                                rw [hpke] at hpl HLN HP3 ⊢
                                have hw2 : IntKind.i64.wrap (2 * (pk : Int)) = 2 * (pk : Int) := IntWalk.i64_in _ (by omega)
                                clear htl hout hpke hO hL HP2
                                go_wp2
                                go_roundw
                                case rel => exact ⟨i, 2 * pk, ps ++ [p], (i : Int) - 1, rfl, rfl, by simp, by omega, HHO, HLN, HP3, hR, hB4, hgz⟩
                                case measure => simp [intOf] <;> omega
end Go.Proofs.Ytkfgomhhenmmeaa

namespace Go.Proofs.Ytkfgomhhenmmeaa
open Go.RowKit

theorem rlengths_all (A : Option Addr) (c : Nat) (cs : List Int) (most : Int) (w : World) (hS : RI w A c cs) :
    Calls Try.prog 42 #[.slice A cs.length c, .int .i64 most] w fun e w' => ∃ v, e = .returned (.tuple #[v, .int .i64 (lengthsE cs most)]) ∧ OwnI 3 .i64 w.heap.size w' v (lengthsV cs most) ∧ Below w.heap.size w w' := by
  by_cases h : countsB cs = false ∨ most < 1 ∨ 16 < most
  · refine (rlengths_no A c cs most w hS h).mono ?_
    rintro e w' ⟨rfl, hb⟩
    have e1 : lengthsE cs most = 1 := by unfold lengthsE; rw [if_pos h]
    have e2 : lengthsV cs most = [] := by unfold lengthsV; rw [if_pos (by rw [e1]; decide)]
    exact ⟨_, by rw [e1], by rw [e2]; exact OwnI.nil _ _ _ _, hb⟩
  · have h1 : countsB cs = true := by
      cases hc : countsB cs
      · exact absurd (.inl hc) h
      · rfl
    have h2 : 1 ≤ most ∧ most ≤ 16 := by omega
    obtain ⟨m, rfl⟩ : ∃ m : Nat, most = (m : Int) := ⟨most.toNat, by omega⟩
    exact rlengths_any A c cs m w hS h1 (by omega) (by omega)
end Go.Proofs.Ytkfgomhhenmmeaa

namespace Go.Proofs.Ytkfgomhhenmmeaa
open Go.RowKit

theorem begF_of {ls : List Int} {p : Nat × Nat} {j : Nat} (h : begAt (lenOf ls j) (codeN ls j) 0 p = true) : ∀ {k : Nat}, j < k → begF ls k p = true
  | 0, hj => by omega
  | k + 1, hj => by
    simp only [begF, Bool.or_eq_true]
    rcases Nat.lt_or_ge j k with h1 | h1
    · exact .inl (begF_of h h1)
    · obtain rfl : j = k := by omega
      exact .inr h
theorem readF_word {ls : List Int} (hr : Right ls) {s : Nat} (hs : s < ls.length) (h0 : 0 < lenOf ls s) (rest : List Bool) : ∀ (fuel n : Nat), n < lenOf ls s → lenOf ls s ≤ n + fuel →
    readF (symF ls ls.length) (begF ls ls.length) (numB (codeN ls s) (lenOf ls s) ++ rest) fuel n = ((s : Int), 0, lenOf ls s)
  | 0, n, h1, h2 => by omega
  | fuel + 1, n, h1, h2 => by
    have h16 := hr.ok.len16
    have hC := code_lt h16 hr.full hs
    have hl : (numB (codeN ls s) (lenOf ls s)).length = lenOf ls s := numB_length _ _
    have hv : valB ((numB (codeN ls s) (lenOf ls s) ++ rest).take (n + 1)) = codeN ls s / 2 ^ (lenOf ls s - (n + 1)) := by
      rw [List.take_append_of_le_length (by omega), numB_take _ _ _ (by omega), valB_numB]
      refine Nat.mod_eq_of_lt ?_
      rw [Nat.div_lt_iff_lt_mul (Nat.two_pow_pos _), ← Nat.pow_add]
      rw [show n + 1 + (lenOf ls s - (n + 1)) = lenOf ls s by omega]
      exact hC
    unfold readF
    rw [if_neg (by rw [List.length_append]; omega), hv]
    rcases Nat.lt_or_ge (n + 1) (lenOf ls s) with h3 | h3
    · have e1 : symF ls ls.length (n + 1, codeN ls s / 2 ^ (lenOf ls s - (n + 1))) = none := symF_none fun j hj ⟨hj0, e⟩ => by
        injection e with e1 e2
        have hne : j ≠ s := fun e => by subst e; omega
        exact code_free h16 hj hs hne hj0 (by omega) (by rw [← e1]; exact e2)
      have e2 : begF ls ls.length (n + 1, codeN ls s / 2 ^ (lenOf ls s - (n + 1))) = true := begF_of (j := s) (decide_eq_true ⟨by omega, by show n + 1 ≤ _; omega, rfl⟩) hs
      rw [e1]
      simp only [e2, if_true]
      exact readF_word hr hs h0 rest fuel (n + 1) h3 (by omega)
    · have e : n + 1 = lenOf ls s := by omega
      rw [e, Nat.sub_self, Nat.pow_zero, Nat.div_one, symF_some hr h0 hs (Nat.le_refl _)]
theorem readR_word {ls : List Int} (hr : Right ls) {s : Nat} (hs : s < ls.length) (h0 : 0 < lenOf ls s) (rest : List Bool) : readR ls (numB (codeN ls s) (lenOf ls s) ++ rest) = ((s : Int), 0, lenOf ls s) :=
  readF_word hr hs h0 rest 17 0 h0 (by have := hr.ok.len16 s; omega)
theorem encB_cons (ls : List Int) (s : Int) (ss : List Int) : encB ls (s :: ss) = numB (codeN ls s.toNat) (lenOf ls s.toNat) ++ encB ls ss := by simp [encB]
theorem decF_encB {ls : List Int} (hr : Right ls) : ∀ {ss : List Int}, (∀ s ∈ ss, hasB ls s = true) → decF ls ss.length (encB ls ss) = (ss, 0)
  | [], _ => rfl
  | s :: ss, h => by
    obtain ⟨k, rfl, hk, h0⟩ := hasB_spec (h s (by simp))
    rw [List.length_cons, encB_cons, decF, Int.toNat_natCast, readR_word hr hk h0]
    simp only [ne_eq, not_true_eq_false, if_false]
    rw [List.drop_left' (numB_length _ _), decF_encB hr fun s hs => h s (by simp [hs])]
    simp
theorem noneS_has {ls ss : List Int} (h : noneS ls ss = false) : ∀ s ∈ ss, hasB ls s = true := by
  intro s hs
  have := List.any_eq_false.1 h s hs
  simpa using this
/-- Decode of Encode is the list. -/
theorem decode_encode {ls ss : List Int} (h : (encodeR ls ss).2 = 0) (hl : ss.length ≤ 60000) : Right ls ∧ (∀ s ∈ ss, hasB ls s = true) ∧ encodeR ls ss = (encB ls ss, 0) ∧ decodeR ls (packB (encB ls ss)) (encB ls ss).length ss.length = (ss, 0) := by
  unfold encodeR at h
  split at h
  · rename_i hc; exact absurd h hc
  · rename_i hc
    have hck : checkN ls = 0 := by simpa using hc
    split at h
    · cases h
    · rename_i hn
      have hn' : noneS ls ss = false := by simpa using hn
      have hr := (checkN_right ls).1 hck
      have hlen := encB_len hr.ok.len16 ss
      have he : openE (packB (encB ls ss)).length ((encB ls ss).length : Int) = 0 := by
        unfold openE
        rw [packB_length, if_neg (by omega), if_neg (by omega)]
      refine ⟨hr, noneS_has hn', by unfold encodeR; rw [if_neg hc, if_neg hn], ?_⟩
      unfold decodeR
      rw [if_neg hc, he, if_neg (by omega), if_neg (by simp), Int.toNat_natCast, Int.toNat_natCast, ofB_packB _ _ (Nat.le_refl _), List.take_length]
      exact decF_encB hr (noneS_has hn')
/-- Write's word, and Read at its place. -/
theorem write_step {ls ss : List Int} (hr : Right ls) (h : ∀ s ∈ ss, hasB ls s = true) (hl : ss.length ≤ 60000) {k : Nat} (hk : k < ss.length) :
    writeE ls (encB ls (ss.take k)).length (nth 0 ss k) = 0 ∧ fullB (encB ls (ss.take k)) (wordB ls (nth 0 ss k)) = encB ls (ss.take (k + 1)) := by
  have hck := (checkN_right ls).2 hr
  have hh := h _ (nth_mem 0 ss k hk)
  have h16 := hr.ok.len16
  have hlen := encB_len h16 (ss.take k)
  rw [List.length_take] at hlen
  have hw := h16 (nth 0 ss k).toNat
  have hb : ¬ 1048576 < (encB ls (ss.take k)).length + lenOf ls (nth 0 ss k).toNat := by omega
  constructor
  · unfold writeE fullE
    rw [if_neg (by simp [hck]), if_neg (by simp [hh]), if_neg hb]
  · have e : wordB ls (nth 0 ss k) = numB (codeN ls (nth 0 ss k).toNat) (lenOf ls (nth 0 ss k).toNat) := by
      unfold wordB; rw [if_neg (by simp [hck, hh])]
    unfold fullB
    rw [e, if_neg (by rw [numB_length]; exact hb), encB_take hk]
theorem read_step {ls ss : List Int} (hr : Right ls) (h : ∀ s ∈ ss, hasB ls s = true) {k : Nat} (hk : k < ss.length) :
    readL ls ((encB ls ss).drop (encB ls (ss.take k)).length) = (nth 0 ss k, 0, lenOf ls (nth 0 ss k).toNat) ∧ (encB ls (ss.take k)).length + lenOf ls (nth 0 ss k).toNat = (encB ls (ss.take (k + 1))).length := by
  have hck := (checkN_right ls).2 hr
  obtain ⟨s, hs, hk2, h0⟩ := hasB_spec (h _ (nth_mem 0 ss k hk))
  constructor
  · have e : (encB ls ss).drop (encB ls (ss.take k)).length = encB ls (ss.drop k) := by
      have e2 : encB ls ss = encB ls (ss.take k) ++ encB ls (ss.drop k) := by
        unfold encB
        rw [← List.flatMap_append, List.take_append_drop]
      rw [e2, List.drop_left' rfl]
    rw [e, drop_nth 0 ss k hk, encB_cons, hs, Int.toNat_natCast]
    unfold readL
    rw [if_neg (by simp [hck]), readR_word hr hk2 h0]
  · rw [encB_take hk, List.length_append, numB_length]
end Go.Proofs.Ytkfgomhhenmmeaa

namespace Go.Proofs.Ytkfgomhhenmmeaa
open Go.RowKit

/-- The lengths of the words of all steps. -/
def tabS : List Nat := [15, 15, 15, 15, 15, 15, 14, 14, 14, 14, 14, 14, 14, 14, 14, 14, 14, 14, 14, 14, 14, 14, 14, 14, 14, 14, 14, 14, 14, 14, 14, 14, 14, 14, 13, 13, 13, 13, 13, 13, 13, 13, 13, 13, 13, 13, 13, 13, 13, 13, 13, 13, 12, 12, 12, 12, 12, 12, 12, 12, 12, 12, 12, 12, 12, 11, 11, 11, 11, 11, 11, 11, 11, 11, 10, 10, 10, 10, 10, 10, 9, 9, 9, 9, 9, 8, 8, 8, 7, 7, 7, 6, 6, 5, 3, 1, 3, 5, 6, 6, 7, 7, 7, 8, 8, 8, 9, 9, 9, 9, 9, 10, 10, 10, 10, 10, 10, 11, 11, 11, 11, 11, 11, 11, 11, 11, 12, 12, 12, 12, 12, 12, 12, 12, 12, 12, 12, 12, 12, 13, 13, 13, 13, 13, 13, 13, 13, 13, 13, 13, 13, 13, 13, 13, 13, 13, 13, 13, 13, 14, 14, 14, 14, 14, 14, 14, 14, 14, 14, 14, 14, 14, 14, 14, 14, 14, 14, 14, 14, 14, 14, 14, 14, 14, 14, 15, 15, 15, 15, 15, 15]
def tabI : List Int := tabS.map Int.ofNat
set_option maxRecDepth 100000 in
theorem tabS_length : tabS.length = 191 := by decide
set_option maxRecDepth 100000 in
theorem tabI_length : tabI.length = 191 := by decide
set_option maxRecDepth 100000 in
theorem tabS_all : tabS.all (fun x => decide (1 ≤ x) && decide (x ≤ 15)) = true := by decide
theorem tabI_nth (k : Nat) (h : k < 191) : nth 0 tabI k = ((nth 0 tabS k : Nat) : Int) := by
  rw [nth_eq 0 _ k (by rw [tabI_length]; exact h), nth_eq 0 _ k (by rw [tabS_length]; exact h)]
  simp [tabI]
theorem tabS_bound (k : Nat) (h : k < 191) : 1 ≤ nth 0 tabS k ∧ nth 0 tabS k ≤ 15 := by
  have := List.all_eq_true.1 tabS_all _ (nth_mem 0 tabS k (by rw [tabS_length]; exact h))
  simpa using this
/-- The table as it is laid. -/
def tabB : ByteArray := { data := #[111, 111, 111, 111, 111, 111, 110, 110, 110, 110, 110, 110, 110, 110, 110, 110, 110, 110, 110, 110, 110, 110, 110, 110, 110, 110, 110, 110, 110, 110, 110, 110, 110, 110, 109, 109, 109, 109, 109, 109, 109, 109, 109, 109, 109, 109, 109, 109, 109, 109, 109, 109, 108, 108, 108, 108, 108, 108, 108, 108, 108, 108, 108, 108, 108, 107, 107, 107, 107, 107, 107, 107, 107, 107, 106, 106, 106, 106, 106, 106, 105, 105, 105, 105, 105, 104, 104, 104, 103, 103, 103, 102, 102, 101, 99, 97, 99, 101, 102, 102, 103, 103, 103, 104, 104, 104, 105, 105, 105, 105, 105, 106, 106, 106, 106, 106, 106, 107, 107, 107, 107, 107, 107, 107, 107, 107, 108, 108, 108, 108, 108, 108, 108, 108, 108, 108, 108, 108, 108, 109, 109, 109, 109, 109, 109, 109, 109, 109, 109, 109, 109, 109, 109, 109, 109, 109, 109, 109, 109, 110, 110, 110, 110, 110, 110, 110, 110, 110, 110, 110, 110, 110, 110, 110, 110, 110, 110, 110, 110, 110, 110, 110, 110, 110, 110, 111, 111, 111, 111, 111, 111] }
set_option maxRecDepth 100000 in
theorem tabB_all : ∀ k : Fin 191, (tabB.data[k.val]?.getD 0).toNat = 96 + nth 0 tabS k.val := by decide +kernel
theorem tabB_at (k : Nat) (h : k < tabB.size) : (tabB[k].toNat : Int) = 96 + ((nth 0 tabS k : Nat) : Int) := by
  have h2 : k < 191 := h
  have h3 := tabB_all ⟨k, h2⟩
  have h4 : tabB.data[k]?.getD 0 = tabB[k] := by
    have h5 : k < tabB.data.size := h
    rw [Array.getElem?_eq_getElem h5]; rfl
  simp only at h3
  rw [h4] at h3
  omega
/-- The length of a step's word. -/
def stepL (d : Int) : Nat := nth 0 tabS (d + 95).toNat

set_option maxHeartbeats 1000000 in
set_option maxRecDepth 100000 in
theorem length_any (d : Int) (w : World) (h : -95 ≤ d ∧ d ≤ 95) :
    Calls Try.prog 40 #[.int .i64 d] w fun e w' => e = .returned (.int .i64 (stepL d : Int)) ∧ w = w' := by
  obtain ⟨k, hk⟩ : ∃ k : Nat, d + 95 = (k : Int) := ⟨(d + 95).toNat, by omega⟩
  have hw : IntKind.i64.wrap (d + 95) = (k : Int) := by rw [IntWalk.i64_in _ (by omega)]; exact hk
  have hk1 : k < 191 := by omega
  go_enter Try.func40, Try.ntmps40
  go_wp2
  go_ret
  refine ⟨ret_int ?_, rfl⟩
  have h2 := tabB_at k (show k < 191 from hk1)
  have h3 := tabS_bound k hk1
  have h4 : stepL d = nth 0 tabS k := by unfold stepL; rw [hk, Int.toNat_natCast]
  rw [h4]
  show ((tabB[k]'(show k < 191 from hk1)).toNat - 97 : Int) % 256 + 1 = _
  rw [h2]
  omega

set_option maxHeartbeats 1000000 in
set_option maxRecDepth 100000 in
theorem slengths_any (w : World) :
    Calls Try.prog 16 #[] w fun e w' => ∃ v, e = .returned v ∧ OwnI 3 .i64 w.heap.size w' v tabI ∧ Below w.heap.size w w' := by
  go_enter Try.func16, Try.ntmps16
  go_wp2
  go_loopw [1, 3] (fun v i wr => ∃ k : Nat, k ≤ 191 ∧ i = .int .i64 (k : Int) ∧ Hid (OwnI 3 .i64 w.heap.size wr v (tabI.take k)) ∧ Below w.heap.size w wr) (fun _ i _ => 191 - (intOf i).toNat)
  case atStart => exact ⟨0, Nat.zero_le _, rfl, Lib.hid (OwnI.nil _ _ _ _), Below.refl _ _⟩
  case round =>
    obtain ⟨k, hk, rfl, hO, hB⟩ := hrel
    by_cases hlt : k < 191
    · have hki : (k : Int) < 191 := by omega
      have hw : IntKind.i64.wrap ((k : Int) - 95) = (k : Int) - 95 := IntWalk.i64_in _ (by omega)
      have hs : stepL ((k : Int) - 95) = nth 0 tabS k := by unfold stepL; rw [show (k : Int) - 95 + 95 = (k : Int) by omega, Int.toNat_natCast]
      have HT := Lib.hid (take_succ_nth 0 tabI k (by rw [tabI_length]; exact hlt))
      rw [tabI_nth k hlt] at HT
      have hl : (tabI.take k).length ≤ 191 := by rw [List.length_take]; omega
      have HC := Lib.hid (fun W => length_any ((k : Int) - 95) W (by omega))
      rw [hs] at HC
      generalize nth 0 tabS k = y at HC HT
      clear hs
      go_wp2_with (first
        | (go_at_call 40; refine (HC.out _).mono ?_; rintro e w2 ⟨rfl, rfl⟩)
        | (at_builtin; (refine append_one (w0 := w) w.heap.size rfl (.tmp 6) (.tmp 10) 22 3 .i64 8 rfl Try.underlying22 infoI (by decide) _ (tabI.take k) (y : Int) rfl rfl hO.out hB hB.size (by omega) ?_); intro v1 w4 hO4 hB4 _ _; have HO4 := Lib.hid hO4; clear hO4))
      go_roundw
      case rel => exact ⟨k + 1, by omega, by go_num, by rw [HT.out]; exact HO4, hB4⟩
      case measure => simp [intOf]; omega
    · obtain rfl : k = 191 := by omega
      have HT := Lib.hid (show tabI.take 191 = tabI from List.take_of_length_le (by rw [tabI_length]; exact Nat.le_refl _))
      go_wp2
      go_ret
      exact ⟨_, rfl, by rw [← HT.out]; exact hO.out, hB⟩
def isB (s : Int) : Bool := decide (0 ≤ s) && decide (s ≤ 95)
set_option maxHeartbeats 400000 in
theorem is_any (s : Int) (w : World) : Calls Try.prog 48 #[.int .i64 s] w fun e w' => e = .returned (.bool (isB s)) ∧ w = w' := by
  by_cases h : 0 ≤ s
  · have h1 : decide (0 ≤ s) = true := decide_eq_true h
    have HB := Lib.hid (show isB s = decide (s ≤ 95) by unfold isB; rw [h1]; rfl)
    clear h
    go_enter Try.func48, Try.ntmps48
    go_wp2
    go_ret
    exact ⟨ret_bool HB.out.symm, rfl⟩
  · have h1 : decide (0 ≤ s) = false := decide_eq_false h
    have HB := Lib.hid (show isB s = false by unfold isB; rw [h1]; rfl)
    clear h
    go_enter Try.func48, Try.ntmps48
    go_wp2
    go_ret
    exact ⟨ret_bool HB.out.symm, rfl⟩
end Go.Proofs.Ytkfgomhhenmmeaa

namespace Go.Proofs.Ytkfgomhhenmmeaa
open Go.RowKit

abbrev RB (w : World) (A : Option Addr) (c : Nat) (us : List Bool) : Prop := Sl kBool AnyB w A c us
/-- The scales of the bands that are not used are 0, of the first ones. -/
def freeB (ss : List Int) (us : List Bool) (k : Nat) : Bool := (List.range k).all fun i => nth 0 ss i == 0 || nth false us i
theorem freeB_succ (ss : List Int) (us : List Bool) (k : Nat) : freeB ss us (k + 1) = (freeB ss us k && (nth 0 ss k == 0 || nth false us k)) := by
  unfold freeB
  rw [List.range_succ, List.all_append]; simp
def checkedE (ss : List Int) (us : List Bool) : Int :=
  if ss.length ≠ us.length ∨ 128 < us.length then 1 else if ss.all isB = false then 6 else if freeB ss us ss.length = false then 4 else 0
theorem all_take_succ (ss : List Int) (k : Nat) (h : k < ss.length) : (ss.take (k + 1)).all isB = ((ss.take k).all isB && isB (nth 0 ss k)) := by
  rw [take_succ_nth 0 ss k h, List.all_append]; simp
theorem all_no {ss : List Int} {k : Nat} (h : k < ss.length) (hk : isB (nth 0 ss k) = false) : ss.all isB = false := by
  cases he : ss.all isB
  · rfl
  · have := List.all_eq_true.1 he _ (nth_mem 0 ss k h)
    rw [hk] at this; cases this

set_option maxHeartbeats 2000000 in
set_option maxRecDepth 100000 in
theorem checked_any (A B : Option Addr) (c d : Nat) (ss : List Int) (us : List Bool) (w : World) (hS : RI w A c ss) (hU : RB w B d us) :
    Calls Try.prog 38 #[.slice A ss.length c, .slice B us.length d] w fun e w' => e = .returned (.int .i64 (checkedE ss us)) ∧ Below w.heap.size w w' := by
  have hn := hS.len
  have hm := hU.len
  by_cases hl : ss.length = us.length
  · by_cases h128 : (128 : Int) < (us.length : Int)
    · have hlb : ((ss.length : Int) != (us.length : Int)) = false := by simp [hl]
      have d1 : decide ((128 : Int) < (us.length : Int)) = true := decide_eq_true h128
      have HE := Lib.hid (show checkedE ss us = 1 by unfold checkedE; rw [if_pos (.inr (by omega))])
      clear hl h128
      go_enter Try.func38, Try.ntmps38
      go_wp2
      go_ret
      exact ⟨by rw [HE.out]; rfl, Below.refl _ _⟩
    · have hlb : ((ss.length : Int) != (us.length : Int)) = false := by simp [hl]
      have d1 : decide ((128 : Int) < (us.length : Int)) = false := decide_eq_false h128
      have HE := Lib.hid (show checkedE ss us = if ss.all isB = false then 6 else if freeB ss us ss.length = false then 4 else 0 by unfold checkedE; rw [if_neg (by omega)])
      have HL := Lib.hid hl
      have hs128 : ss.length ≤ 128 := by omega
      clear hl h128 hm
      go_enter Try.func38, Try.ntmps38
      go_wp2
      go_loopw [5, 20] (fun ev iv wr => ∃ (k : Nat) (E : Int), iv = .int .i64 (k : Int) ∧ k ≤ ss.length ∧ ev = .int .i64 E ∧ Hid (E = if freeB ss us k = false then 4 else 0) ∧ Hid ((ss.take k).all isB = true) ∧ Hid (Below w.heap.size w wr)) (fun _ iv _ => ss.length - (intOf iv).toNat)
      case atStart => exact ⟨0, 0, rfl, Nat.zero_le _, rfl, Lib.hid rfl, Lib.hid rfl, Lib.hid (Below.refl _ _)⟩
      case round =>
        obtain ⟨k, E, rfl, hk, rfl, hEE, hA, hB⟩ := hrel
        by_cases hlt : k < ss.length
        · obtain ⟨ad, rfl, hc⟩ := rd_int (hS.below hB.out) k hlt
          obtain ⟨ad2, rfl, hc2⟩ := rd_bool (hU.below hB.out) k (by rw [← HL.out]; exact hlt)
          have hki : (k : Int) < (ss.length : Int) := by omega
          have hku : (k : Int) < (us.length : Int) := by have := HL.out; omega
          have HN := Lib.hid (all_take_succ ss k hlt)
          have HF := Lib.hid (freeB_succ ss us k)
          have HNO := Lib.hid (all_no hlt)
          generalize nth 0 ss k = x at hc HN HF HNO
          generalize nth false us k = u at hc2 HF
          have hwk : IntKind.i64.wrap ((k : Int) + 1) = (k : Int) + 1 := IntWalk.i64_in _ (by omega)
          have HX := Lib.hid (fun W => is_any x W)
          obtain ⟨b, hb⟩ : ∃ b, isB x = b := ⟨_, rfl⟩
          rw [hb] at HX HN HNO
          clear hb hlt
          cases b
          · have HR := Lib.hid (show checkedE ss us = 6 by rw [HE.out, if_pos (HNO.out rfl)])
            go_wp2_with (go_at_call 48; refine (HX.out _).mono ?_; rintro e w2 ⟨rfl, rfl⟩)
            go_ret
            exact ⟨by rw [HR.out]; rfl, hB.out⟩
          · have hA2 : (ss.take (k + 1)).all isB = true := by rw [HN.out, hA.out]; rfl
            have HA2 := Lib.hid hA2
            clear hA2
            by_cases hx : x = 0
            · have hxb : (x != 0) = false := by simp [hx]
              have HF2 := Lib.hid (show freeB ss us (k + 1) = freeB ss us k by rw [HF.out, hx]; simp)
              clear hx
              go_wp2_with (go_at_call 48; refine (HX.out _).mono ?_; rintro e w2 ⟨rfl, rfl⟩)
              go_roundw
              case rel => exact ⟨k + 1, E, by go_num, by omega, rfl, Lib.hid (by rw [HF2.out]; exact hEE.out), HA2, hB⟩
              case measure => simp [intOf]; omega
            · have hxb : (x != 0) = true := by simp [hx]
              cases u
              · have HF2 := Lib.hid (show freeB ss us (k + 1) = false by rw [HF.out]; simp [hx])
                clear hx
                go_wp2_with (go_at_call 48; refine (HX.out _).mono ?_; rintro e w2 ⟨rfl, rfl⟩)
                go_roundw
                case rel => exact ⟨k + 1, 4, by go_num, by omega, rfl, Lib.hid (by rw [HF2.out]; rfl), HA2, hB⟩
                case measure => simp [intOf]; omega
              · have HF2 := Lib.hid (show freeB ss us (k + 1) = freeB ss us k by rw [HF.out]; simp)
                clear hx
                go_wp2_with (go_at_call 48; refine (HX.out _).mono ?_; rintro e w2 ⟨rfl, rfl⟩)
                go_roundw
                case rel => exact ⟨k + 1, E, by go_num, by omega, rfl, Lib.hid (by rw [HF2.out]; exact hEE.out), HA2, hB⟩
                case measure => simp [intOf]; omega
        · obtain rfl : k = ss.length := by omega
          have HR := Lib.hid (show checkedE ss us = if freeB ss us ss.length = false then 4 else 0 by
            rw [HE.out]
            have := hA.out
            rw [List.take_length] at this
            rw [if_neg (by rw [this]; decide)])
          go_wp2
          go_ret
          exact ⟨by rw [HR.out, ← hEE.out]; rfl, hB.out⟩
  · have hlb : ((ss.length : Int) != (us.length : Int)) = true := by simp; omega
    have HE := Lib.hid (show checkedE ss us = 1 by unfold checkedE; rw [if_pos (.inl hl)])
    clear hl
    go_enter Try.func38, Try.ntmps38
    go_wp2
    go_ret
    exact ⟨by rw [HE.out]; rfl, Below.refl _ _⟩
end Go.Proofs.Ytkfgomhhenmmeaa

namespace Go.Proofs.Ytkfgomhhenmmeaa
open Go.RowKit Go.Shelf
attribute [local go_sem] Oper.semAt_some

/-- The last band that is used ahead of one, or -1. -/
def befK (us : List Bool) : Nat → Int
  | 0 => -1
  | k + 1 => if nth false us k = true then (k : Int) else befK us k
/-- The bands that are used among the first ones, each with the one before it. -/
def walkK (us : List Bool) : Nat → List (Nat × Int)
  | 0 => []
  | k + 1 => if nth false us k = true then walkK us k ++ [(k, befK us k)] else walkK us k
theorem walkK_hit {us : List Bool} {k : Nat} (h : nth false us k = true) : walkK us (k + 1) = walkK us k ++ [(k, befK us k)] ∧ befK us (k + 1) = (k : Int) := by
  constructor
  · show (if _ then _ else _) = _; rw [if_pos h]
  · show (if _ then _ else _) = _; rw [if_pos h]
theorem walkK_miss {us : List Bool} {k : Nat} (h : nth false us k = false) : walkK us (k + 1) = walkK us k ∧ befK us (k + 1) = befK us k := by
  constructor
  · show (if _ then _ else _) = _; rw [if_neg (by rw [h]; decide)]
  · show (if _ then _ else _) = _; rw [if_neg (by rw [h]; decide)]
/-- What comes next. -/
def NextW (us : List Bool) (pre : List (Nat × Int)) (x : Nat × Int) : Prop := ∃ k, k < us.length ∧ nth false us k = true ∧ pre = walkK us k ∧ x = (k, befK us k)
theorem befK_lt (us : List Bool) : ∀ k, befK us k = -1 ∨ ∃ j : Nat, befK us k = (j : Int) ∧ j < k ∧ nth false us j = true
  | 0 => .inl rfl
  | k + 1 => by
    cases h : nth false us k
    · rw [(walkK_miss h).2]
      rcases befK_lt us k with h1 | ⟨j, h1, h2, h3⟩
      · exact .inl h1
      · exact .inr ⟨j, h1, by omega, h3⟩
    · rw [(walkK_hit h).2]
      exact .inr ⟨k, rfl, by omega, h⟩

set_option maxHeartbeats 1000000 in
theorem walk_any (A : Option Addr) (c : Nat) (us : List Bool) (w : World) :
    Calls Try.prog 39 #[.slice A us.length c] w fun e w' => ∃ g, e = .returned (.func (.func 63) #[] #[.pointer (some ⟨g, 0, none⟩)]) ∧ Hid (g = w.heap.size) ∧ Hid (w'.heap.size = g + 1) ∧ Blk w' g #[.slice A us.length c] 23 ∧ Below w.heap.size w w' := by
  go_enter Try.func39, Try.ntmps39
  go_wp2
  go_ret
  exact ⟨_, rfl, Lib.hid rfl, Lib.hid (World.size_alloc _ _), heap_alloc_new w _, (Below.refl _ _).alloc (Nat.le_refl _) _⟩

set_option maxHeartbeats 2000000 in
set_option maxRecDepth 100000 in
theorem walk1_yields (g : Nat) (A : Option Addr) (c : Nat) (us : List Bool) (w : World) (ok : Nat → Prop) (hR : Sl kBool ok w A c us) (hB : Blk w g #[.slice A us.length c] 23) (hg : ok g) (n : Nat) (hn : 1 ≤ n) :
    YieldsN Fence.wide n Try.prog 63 #[.pointer (some ⟨g, 0, none⟩)] (fun x : Nat × Int => #[.int .i64 (x.1 : Int), .int .i64 x.2]) ok (fun _ => False) (fun xs => xs = walkK us us.length) (fun _ => True) (NextW us) w := by
  intro l J Jx W hW hJ hJx hY h0
  have hBW := hB.below hW
  have hRW := hR.below hW
  have hlen := hR.len
  clear hR hB hW
  refine callsIn_of_wp Try.func63 rfl trivial ?_ rfl
  simp only [Try.ntmps63, List.size_toArray, List.length_cons, List.length_nil, Nat.reduceAdd, Nat.reduceSub, Array.replicate_succ, Array.replicate_zero, List.push_toArray, List.append_toArray, List.nil_append, List.cons_append]
  have kb := hBW.cell 0 rfl
  gi_wp2
  have H0 : Hid (J (walkK us 0) W) := Lib.hid h0
  have HY := Lib.hid hY
  clear h0 hY kb
  gi_loopw [3, 8] (fun v iv wr => ∃ k : Nat, k ≤ us.length ∧ iv = .int .i64 (k : Int) ∧ v = .int .i64 (befK us k) ∧ Hid (J (walkK us k) wr) ∧ Keep ok W wr) (fun _ iv _ => us.length - (intOf iv).toNat)
  case atStart => exact ⟨0, by omega, rfl, rfl, H0, Keep.refl _ _⟩
  case round =>
    clear H0
    obtain ⟨k, hk, rfl, rfl, HJ, hkp⟩ := hrel
    by_cases hlt : k < us.length
    · obtain ⟨ad, hA, hc⟩ := rd_bool (hRW.keep hkp) k hlt
      subst hA
      have hki : (k : Int) < (us.length : Int) := by omega
      have hwk : IntKind.i64.wrap ((k : Int) + 1) = (k : Int) + 1 := IntWalk.i64_in _ (by omega)
      cases hu : nth false us k
      · rw [hu] at hc
        have HM := Lib.hid (walkK_miss hu)
        clear hu
        gi_wp2
        go_roundw
        case rel => exact ⟨k + 1, by omega, by go_num, by rw [HM.out.2], by rw [HM.out.1]; exact HJ, hkp⟩
        case measure => simp [intOf]; omega
      · rw [hu] at hc
        have HM := Lib.hid (walkK_hit hu)
        obtain ⟨fn, tmps, assign, body, hy, hRd⟩ := HY.out (walkK us k) (k, befK us k) _ HJ.out ⟨k, hlt, hu, rfl, rfl⟩
        replace hy : (Instr.yield l #[.int .i64 (k : Int), .int .i64 (befK us k)]).run Try.prog wr = .ok (.round l fn tmps assign body) wr := hy
        clear hu
        gi_wp2
        refine hRd.mono ?_
        rintro e W3 (⟨rfl, hJ3, hk3⟩ | ⟨rfl, hJx3⟩)
        · gi_wp2
          go_roundw
          case rel => exact ⟨k + 1, by omega, by go_num, by rw [HM.out.2], by rw [HM.out.1]; exact Lib.hid hJ3, hkp.trans hk3⟩
          case measure => simp [intOf]; omega
        · gi_wp2
          refine bodyPost_ret (results_none rfl _ _ _) rfl ?_
          exact ⟨⟨_, rfl⟩, .inr ⟨_, trivial, hJx3⟩⟩
    · obtain rfl : k = us.length := by omega
      gi_wp2
      go_end0
      exact ⟨⟨_, rfl⟩, .inl ⟨_, rfl, HJ.out⟩⟩
end Go.Proofs.Ytkfgomhhenmmeaa

namespace Go.Proofs.Ytkfgomhhenmmeaa
open Go

section
variable {P : Program} {ops : Array Oper} {md : Region.Mode} {l m : Nat} {Q : Exit → Act → World → Prop}
theorem wpAny_inRound (hd : plainB ops.toList = true) (hL : LetsOut Q → False) : ∀ (fuel : Nat) (listed : Array Bool) (a : Act) (w : World), wpAny P md ops Q fuel listed a w → wpAnyIn (Fence.wide.inRound l) m P md ops Q fuel listed a w
  | 0, _, _, _, h => h
  | fuel + 1, listed, a, w, h => ⟨h.1, fun i hi => by
    have hh := h.2 i hi
    unfold wpOp at hh
    unfold wpOpIn
    split
    · rename_i ho; simp only [ho] at hh; exact wpAny_inRound hd hL fuel _ _ _ hh
    · rename_i o ho
      simp only [ho] at hh
      have hm : o ∈ ops.toList := by simpa using Array.mem_of_getElem? ho
      split
      · rename_i hw
        simp only [hw, if_true] at hh
        rcases hh with hh | hh
        · exact wp_inRound (plainB_spec hd o hm) (Oper.wp_mono (fun a' w' h' => wpAny_inRound hd hL fuel _ _ _ h') hh)
        · exact (hL hh.2).elim
      · rename_i hw
        simp only [hw] at hh
        exact ⟨fun f _ => trivial, wpAny_inRound hd hL fuel _ _ _ hh⟩⟩
theorem wpIn_region_G {id : Nat} {a : Act} {w : World} (N : Nat) (S : World → Prop) (hm : P.follows .mixedOrders = true) (hd : plainB ops.toList = true) (hL : LetsOut Q → False) (hS : S w.drew)
    (h : S w.drew → wpAnyG P .any ops Q S N ops.size (Array.replicate ops.size false) a w.drew) : (Code.region id ops true).wpIn (Fence.wide.inRound l) m P Q a w :=
  wpIn_region_any hm (wpAny_inRound hd hL _ _ _ _ (wpAny_of_G _ _ _ _ (h hS)))
end
end Go.Proofs.Ytkfgomhhenmmeaa
