/- Lengths: what its answer is: the rank of each symbol, the sums. Plain; no program is named. · Lengths: its answer is a right code, ordered, and no other code costs less. Plain; no program is named. -/
import Derived.Test.YtlbgkkkcbnagbaaKj
namespace Go.Proofs.Ytlbgkkkcbnagbaa
open Go.RowKit

def sym (x : It) : Nat := nth 0 x.2 0
theorem coin_sym {cs : List Int} {k : Nat} {z : It} (h : z ∈ coinsK cs k) : z = (nth 0 cs (sym z), [sym z]) ∧ sym z < k ∧ 0 < nth 0 cs (sym z) := by
  obtain ⟨s, h1, rfl, h2⟩ := coinsK_mem h
  exact ⟨rfl, h1, h2⟩
theorem coins_nodup (cs : List Int) : ∀ k, ((coinsK cs k).map sym).Nodup
  | 0 => by simp [coinsK]
  | k + 1 => by
    unfold coinsK
    split
    · rw [List.map_append, List.nodup_append]
      refine ⟨coins_nodup cs k, by simp, fun a ha b hb => ?_⟩
      obtain ⟨z, hz, rfl⟩ := List.mem_map.1 ha
      have h1 := (coin_sym hz).2.1
      have h2 : b = k := by simpa [sym, nth] using hb
      omega
    · exact coins_nodup cs k
theorem sorted_nodup (cs : List Int) : ((sortedC cs).map sym).Nodup := (((isortF_perm _ _).map sym).nodup_iff).2 (coins_nodup cs cs.length)
theorem sorted_sym {cs : List Int} {z : It} (h : z ∈ sortedC cs) : z = (nth 0 cs (sym z), [sym z]) ∧ sym z < cs.length ∧ 0 < nth 0 cs (sym z) := coin_sym (sortedC_mem h)
theorem sorted_I (cs : List Int) : SortedI (sortedC cs) := by
  have h : SortedF (fun z : It => z.1) (sortedC cs) := (isortF_ok _).1
  intro i j hij hj
  rcases Nat.lt_or_ge i j with h1 | h1
  · have := List.pairwise_iff_getElem.1 h i j (by omega) hj h1
    rw [nth_eq _ _ i (by omega), nth_eq _ _ j hj]
    exact this
  · obtain rfl : i = j := by omega
    exact Int.le_refl _
theorem sorted_pos (cs : List Int) : ∀ z ∈ sortedC cs, 0 ≤ z.1 := fun z hz => by
  have h := sorted_sym hz
  rw [h.1]; show 0 ≤ nth 0 cs (sym z); have := h.2.2; omega
/-! ### Sums over the coins -/
theorem perm_sumN {α : Type} (f : α → Nat) {l m : List α} (h : l.Perm m) : (l.map f).sum = (m.map f).sum := by
  induction h with
  | nil => rfl
  | cons x _ ih => simp [ih]
  | swap x y l => simp; omega
  | trans _ _ h1 h2 => exact h1.trans h2
theorem perm_sumZ {α : Type} (f : α → Int) {l m : List α} (h : l.Perm m) : (l.map f).sum = (m.map f).sum := by
  induction h with
  | nil => rfl
  | cons x _ ih => simp [ih]
  | swap x y l => simp; omega
  | trans _ _ h1 h2 => exact h1.trans h2
theorem coins_sumN (cs : List Int) (h : Nat → Nat) (h0 : ∀ s, ¬ 0 < nth 0 cs s → h s = 0) : ∀ k, ((coinsK cs k).map fun x => h (sym x)).sum = sumTo k h
  | 0 => by simp [coinsK, sumTo]
  | k + 1 => by
    rw [sumTo_succ, ← coins_sumN cs h h0 k, coinsK]
    split
    · simp [sym, nth]
    · rename_i hk; rw [h0 k hk]; omega
theorem coins_sumZ (cs : List Int) (h : Nat → Int) (h0 : ∀ s, ¬ 0 < nth 0 cs s → h s = 0) : ∀ k, ((coinsK cs k).map fun x => h (sym x)).sum = sumI k h
  | 0 => by simp [coinsK, sumI]
  | k + 1 => by
    rw [sumI_succ, ← coins_sumZ cs h h0 k, coinsK]
    split
    · simp [sym, nth]
    · rename_i hk; rw [h0 k hk]; omega
theorem sorted_sumN (cs : List Int) (h : Nat → Nat) (h0 : ∀ s, ¬ 0 < nth 0 cs s → h s = 0) : ((sortedC cs).map fun x => h (sym x)).sum = sumTo cs.length h :=
  (perm_sumN _ (isortF_perm _ _)).trans (coins_sumN cs h h0 cs.length)
theorem sorted_sumZ (cs : List Int) (h : Nat → Int) (h0 : ∀ s, ¬ 0 < nth 0 cs s → h s = 0) : ((sortedC cs).map fun x => h (sym x)).sum = sumI cs.length h :=
  (perm_sumZ _ (isortF_perm _ _)).trans (coins_sumZ cs h h0 cs.length)
theorem sum_ranks (f : It → Nat) : ∀ l : List It, (l.map f).sum = sumTo l.length fun r => f (nth (0, []) l r)
  | [] => rfl
  | x :: l => by
    have h := sum_ranks f l
    rw [List.map_cons, List.sum_cons, h]
    unfold sumTo
    rw [List.length_cons, List.range_succ_eq_map, List.map_cons, List.sum_cons, List.map_map]
    rfl
theorem sum_ranksZ (f : It → Int) : ∀ l : List It, (l.map f).sum = ((List.range l.length).map fun r => f (nth (0, []) l r)).sum
  | [] => rfl
  | x :: l => by
    have h := sum_ranksZ f l
    rw [List.map_cons, List.sum_cons, h]
    rw [List.length_cons, List.range_succ_eq_map, List.map_cons, List.sum_cons, List.map_map]
    rfl
/-! ### Each symbol's length is its rank's depth -/
theorem occ_syms (s : Nat) : ∀ {l : List It}, (∀ z ∈ l, z.2 = [sym z]) → occ s l = (l.map sym).count s
  | [], _ => rfl
  | x :: l, h => by
    have e : occ s (x :: l) = x.2.count s + occ s l := by unfold occ; rw [sumF_cons]
    have h2 : x.2.count s = [sym x].count s := by rw [← h x (by simp)]
    rw [e, occ_syms s fun z hz => h z (by simp [hz]), List.map_cons, List.count_cons, h2, List.count_singleton]
    omega
theorem count_take : ∀ {l : List Nat} {r p : Nat}, l.Nodup → r < l.length → (l.take p).count (nth 0 l r) = if r < p then 1 else 0
  | [], r, p, _, h => by simp at h
  | a :: t, r, 0, _, _ => by simp
  | a :: t, 0, p + 1, hn, _ => by
    have h1 : (t.take p).count a = 0 := List.count_eq_zero.2 fun h => (List.nodup_cons.1 hn).1 (List.mem_of_mem_take h)
    have e : nth 0 (a :: t) 0 = a := rfl
    rw [e, List.take_succ_cons, List.count_cons_self, h1]; simp
  | a :: t, r + 1, p + 1, hn, h => by
    have hr : r < t.length := by simpa using h
    have e : nth 0 (a :: t) (r + 1) = nth 0 t r := by simp [nth]
    have hne : a ≠ nth 0 t r := fun e => (List.nodup_cons.1 hn).1 (by rw [e]; exact nth_mem 0 t r hr)
    rw [e, List.take_succ_cons, List.count_cons_of_ne hne, count_take (List.nodup_cons.1 hn).2 hr]
    by_cases h1 : r < p
    · rw [if_pos h1, if_pos (by omega)]
    · rw [if_neg h1, if_neg (by omega)]
theorem dep_sum (ps : List Nat) (r : Nat) : (ps.map fun p => if r < p then 1 else 0).sum = dep ps r := by
  induction ps with
  | nil => rfl
  | cons p ps ih => rw [List.map_cons, List.sum_cons, ih, dep_cons]
/-- How long the word of a symbol is. -/
def lenN (cs : List Int) (most s : Nat) : Nat := if (sortedC cs).length = 1 then occ s (sortedC cs) else occ s ((rowI (sortedC cs) (most - 1)).take (2 * (sortedC cs).length - 2))
theorem occ_perm (s : Nat) {l m : List It} (h : l.Perm m) : occ s l = occ s m := perm_sumN _ h
theorem lengthsV_nth {cs : List Int} {most : Nat} (hE : lengthsE cs most = 0) : lengthsV cs most = (List.range cs.length).map fun s => ((lenN cs most s : Nat) : Int) := by
  unfold lengthsV lenN outQ
  rw [if_neg (by rw [hE]; decide), sortedC_length, Int.toNat_natCast]
  by_cases h1 : (coinsK cs cs.length).length = 1
  · simp only [if_pos h1]
    apply List.map_congr_left
    intro s _
    have e : occ s (sortedC cs) = occ s (coinsK cs cs.length) := occ_perm s (isortF_perm _ _)
    rw [e]
  · simp only [if_neg h1]
theorem lengthsV_length {cs : List Int} {most : Nat} (hE : lengthsE cs most = 0) : (lengthsV cs most).length = cs.length := by rw [lengthsV_nth hE]; simp
theorem lengthsV_at {cs : List Int} {most s : Nat} (hE : lengthsE cs most = 0) (hs : s < cs.length) : nth 0 (lengthsV cs most) s = ((lenN cs most s : Nat) : Int) := by
  rw [nth_eq 0 _ s (by rw [lengthsV_length hE]; exact hs)]
  simp [lengthsV_nth hE]
/-- The counts and the greatest length are right. -/
structure LenIn (cs : List Int) (most : Nat) : Prop where
  cnt : countsB cs = true
  lo : 1 ≤ most
  hi : most ≤ 16
  some : 1 ≤ (sortedC cs).length
  fit : (sortedC cs).length ≤ 2 ^ most
theorem lengthsE_in {cs : List Int} {most : Int} (h : lengthsE cs most = 0) : ∃ m : Nat, most = (m : Int) ∧ LenIn cs m := by
  unfold lengthsE at h
  split at h
  · cases h
  · rename_i h1
    split at h
    · cases h
    · rename_i h2
      split at h
      · cases h
      · rename_i h3
        have hc : countsB cs = true := by
          cases hc : countsB cs
          · exact absurd (.inl hc) h1
          · rfl
        exact ⟨most.toNat, by omega, hc, by omega, by omega, by rw [sortedC_length]; omega, by rw [sortedC_length]; omega⟩
/-- Of what is taken of each row. -/
def psL (cs : List Int) (most : Nat) : List Nat := if (sortedC cs).length = 1 then [1] else lens (sortedC cs) (most - 1) (2 * (sortedC cs).length - 2)
theorem sorted_syms1 (cs : List Int) : ∀ z ∈ sortedC cs, z.2 = [sym z] := fun z hz => by
  have h := (sorted_sym hz).1
  have : z.2 = (nth 0 cs (sym z), [sym z]).2 := congrArg Prod.snd h
  exact this
theorem lenN_sum {cs : List Int} {most : Nat} (h : LenIn cs most) (s : Nat) : lenN cs most s = ((psL cs most).map fun p => (((sortedC cs).take p).map sym).count s).sum := by
  have hz : ∀ p, occ s ((sortedC cs).take p) = (((sortedC cs).take p).map sym).count s := fun p => occ_syms s fun z hz => sorted_syms1 cs z (List.mem_of_mem_take hz)
  unfold lenN psL
  by_cases h1 : (sortedC cs).length = 1
  · rw [if_pos h1, if_pos h1]
    have := hz 1
    rw [show (sortedC cs).take 1 = sortedC cs from List.take_of_length_le (by omega)] at this
    rw [this]
    have e1 : (sortedC cs).take 1 = sortedC cs := List.take_of_length_le (by omega)
    show _ = ([1].map fun p => (((sortedC cs).take p).map sym).count s).sum
    rw [List.map_cons, List.map_nil, List.sum_cons, List.sum_nil, e1]; rfl
  · rw [if_neg h1, if_neg h1]
    have hf := row_fits (coins := sortedC cs) (k := most - 1) (by rw [show most - 1 + 1 = most by have := h.lo; omega]; exact h.fit)
    show sumF _ _ = _
    rw [lens_sumF (f := fun x => x.2.count s) (fun x y => by simp) _ _ _ hf]
    congr 1
    apply List.map_congr_left
    intro p _
    exact hz p
theorem lenN_rank {cs : List Int} {most : Nat} (h : LenIn cs most) {r : Nat} (hr : r < (sortedC cs).length) : lenN cs most (sym (nth (0, []) (sortedC cs) r)) = dep (psL cs most) r := by
  rw [lenN_sum h, ← dep_sum]
  congr 1
  apply List.map_congr_left
  intro p _
  have e : sym (nth (0, []) (sortedC cs) r) = nth 0 ((sortedC cs).map sym) r := by
    rw [nth_eq _ _ r hr, nth_eq 0 _ r (by simpa using hr)]; simp
  rw [e, List.map_take, count_take (sorted_nodup cs) (by simpa using hr)]
theorem lenN_none {cs : List Int} {most s : Nat} (h : LenIn cs most) (hs : ¬ 0 < nth 0 cs s) : lenN cs most s = 0 := by
  rw [lenN_sum h]
  have : ∀ p, (((sortedC cs).take p).map sym).count s = 0 := fun p => List.count_eq_zero.2 fun hm => by
    obtain ⟨z, hz, rfl⟩ := List.mem_map.1 hm
    exact hs (sorted_sym (List.mem_of_mem_take hz)).2.2
  induction psL cs most with
  | nil => rfl
  | cons p ps ih => rw [List.map_cons, List.sum_cons, this p, ih]
theorem rank_of {cs : List Int} {s : Nat} (hs : 0 < nth 0 cs s) : ∃ r, r < (sortedC cs).length ∧ nth (0, []) (sortedC cs) r = (nth 0 cs s, [s]) ∧ sym (nth (0, []) (sortedC cs) r) = s := by
  have hl : s < cs.length := by
    rcases Nat.lt_or_ge s cs.length with h | h
    · exact h
    · rw [nth_none 0 cs s h] at hs; omega
  have hm : ∀ k, s < k → (nth 0 cs s, [s]) ∈ coinsK cs k := by
    intro k
    induction k with
    | zero => intro h; omega
    | succ k ih =>
      intro h
      unfold coinsK
      by_cases e : s = k
      · subst e; rw [if_pos hs]; simp
      · split
        · exact List.mem_append_left _ (ih (by omega))
        · exact ih (by omega)
  have hms : (nth 0 cs s, [s]) ∈ sortedC cs := (isortF_mem (f := fun z : It => z.1) _ _).2 (hm cs.length hl)
  obtain ⟨r, hr, e⟩ := List.mem_iff_getElem.1 hms
  exact ⟨r, hr, by rw [nth_eq _ _ r hr]; exact e, by rw [nth_eq _ _ r hr]; exact (congrArg sym e).trans rfl⟩
end Go.Proofs.Ytlbgkkkcbnagbaa

namespace Go.Proofs.Ytlbgkkkcbnagbaa
open Go.RowKit

theorem psL_length {cs : List Int} {most : Nat} (h : LenIn cs most) : (psL cs most).length ≤ most := by
  have := h.lo
  unfold psL
  split
  · simpa using this
  · rw [lens_length]; omega
theorem lenN_le {cs : List Int} {most : Nat} (h : LenIn cs most) (s : Nat) : lenN cs most s ≤ most := by
  by_cases hs : 0 < nth 0 cs s
  · obtain ⟨r, hr, _, e⟩ := rank_of hs
    rw [← e, lenN_rank h hr]
    exact Nat.le_trans (dep_le _ _) (psL_length h)
  · rw [lenN_none h hs]; exact Nat.zero_le _
theorem dep_pos {cs : List Int} {most : Nat} (h : LenIn cs most) {r : Nat} (hr : r < (sortedC cs).length) : 0 < dep (psL cs most) r := by
  unfold psL
  split
  · rename_i h1
    obtain rfl : r = 0 := by omega
    decide
  · rename_i h1
    have := h.some
    exact lens_all (sorted_I cs) (sorted_pos cs) (by omega) (by rw [show most - 1 + 1 = most by have := h.lo; omega]; exact h.fit) hr
theorem lenN_pos {cs : List Int} {most s : Nat} (h : LenIn cs most) (hs : 0 < nth 0 cs s) : 0 < lenN cs most s := by
  obtain ⟨r, hr, _, e⟩ := rank_of hs
  rw [← e, lenN_rank h hr]
  exact dep_pos h hr
theorem lenN_pos_iff {cs : List Int} {most s : Nat} (h : LenIn cs most) : 0 < lenN cs most s ↔ 0 < nth 0 cs s := by
  constructor
  · intro hl
    refine Decidable.byContradiction fun hs => ?_
    rw [lenN_none h hs] at hl; omega
  · exact lenN_pos h
theorem lenN_order {cs : List Int} {most i j : Nat} (h : LenIn cs most) (hj : 0 < nth 0 cs j) (hij : nth 0 cs j < nth 0 cs i) : lenN cs most i ≤ lenN cs most j := by
  obtain ⟨r, hr, er, es⟩ := rank_of (cs := cs) (s := i) (by omega)
  obtain ⟨q, hq, eq, et⟩ := rank_of hj
  have h1 : q ≤ r := by
    refine Decidable.byContradiction fun hn => ?_
    have := sorted_I cs r q (by omega) hq
    rw [er, eq] at this
    have this : nth 0 cs i ≤ nth 0 cs j := this
    omega
  have e1 := lenN_rank h hr
  have e2 := lenN_rank h hq
  rw [es] at e1
  rw [et] at e2
  rw [e1, e2]
  exact dep_mono _ h1
theorem lenOf_V {cs : List Int} {most s : Nat} (hE : lengthsE cs most = 0) (hs : s < cs.length) : lenOf (lengthsV cs most) s = lenN cs most s := by
  unfold lenOf; rw [lengthsV_at hE hs, Int.toNat_natCast]
theorem share_zero : share 0 = 0 := rfl
theorem filled_V {cs : List Int} {most : Nat} (hE : lengthsE cs most = 0) (h : LenIn cs most) : filledN (lengthsV cs most) = if (sortedC cs).length = 1 then 32768 else 65536 := by
  have e1 : filledN (lengthsV cs most) = sumTo cs.length fun s => share (lenN cs most s) := by
    unfold filledN
    rw [lengthsV_length hE]
    exact sumTo_congr fun s hs => by rw [lenOf_V hE hs]
  rw [e1, ← sorted_sumN cs (fun s => share (lenN cs most s)) (fun s hs => by rw [lenN_none h hs]; rfl), sum_ranks]
  have e2 : (sumTo (sortedC cs).length fun r => share (lenN cs most (sym (nth (0, []) (sortedC cs) r)))) = sumTo (sortedC cs).length fun r => 2 ^ (16 - dep (psL cs most) r) := sumTo_congr fun r hr => by
    rw [lenN_rank h hr, share_pos (dep_pos h hr)]
  rw [e2]
  by_cases h1 : (sortedC cs).length = 1
  · rw [if_pos h1, h1]
    unfold psL
    rw [if_pos h1]; rfl
  · rw [if_neg h1]
    have hlo := h.lo
    have hhi := h.hi
    have hk : most - 1 + 1 = most := by omega
    have hc := lens_complete (sorted_I cs) (sorted_pos cs) (k := most - 1) h.some (by rw [hk]; exact h.fit)
    rw [hk] at hc
    have e3 : (sumTo (sortedC cs).length fun r => 2 ^ (16 - dep (psL cs most) r)) = sumTo (sortedC cs).length fun r => 2 ^ (16 - most) * 2 ^ (most - dep (lens (sortedC cs) (most - 1) (2 * (sortedC cs).length - 2)) r) := sumTo_congr fun r hr => by
      have hd := dep_le (psL cs most) r
      have hp := psL_length h
      unfold psL at hd hp ⊢
      rw [if_neg h1] at hd hp ⊢
      rw [← Nat.pow_add]; congr 1; omega
    rw [e3, sumTo_mul, hc, ← Nat.pow_add, show 16 - most + most = 16 by omega]
theorem lensOk_V {cs : List Int} {most : Nat} (hE : lengthsE cs most = 0) (h : LenIn cs most) : LensOk (lengthsV cs most) := by
  refine ⟨by rw [lengthsV_length hE]; exact (counts_bound h.cnt).1, fun x hx => ?_⟩
  rw [lengthsV_nth hE] at hx
  obtain ⟨s, _, rfl⟩ := List.mem_map.1 hx
  have := lenN_le h s
  have := h.hi
  omega
theorem right_V {cs : List Int} {most : Nat} (hE : lengthsE cs most = 0) (h : LenIn cs most) : Right (lengthsV cs most) := by
  have hf := filled_V hE h
  exact ⟨lensOk_V hE h, by rw [hf]; split <;> omega, by rw [hf]; split <;> omega⟩
theorem check_V {cs : List Int} {most : Nat} (hE : lengthsE cs most = 0) (h : LenIn cs most) : checkN (lengthsV cs most) = 0 := (checkN_right _).2 (right_V hE h)
theorem complete_V {cs : List Int} {most : Nat} (hE : lengthsE cs most = 0) (h : LenIn cs most) : completeB (lengthsV cs most) = decide (1 < (coinsK cs cs.length).length) := by
  have hs := h.some
  unfold completeB
  rw [check_V hE h, filled_V hE h, ← sortedC_length]
  by_cases h1 : (sortedC cs).length = 1
  · rw [if_pos h1, h1]; rfl
  · rw [if_neg h1]
    have : 1 < (sortedC cs).length := by omega
    simp [this]
theorem cost_V {cs : List Int} {most : Nat} (hE : lengthsE cs most = 0) (h : LenIn cs most) : costN (lengthsV cs most) cs = (costK (lengthsV cs most) cs cs.length, 0) := by
  unfold costN
  rw [if_neg (by rw [check_V hE h]; simp), if_neg (by rw [lengthsV_length hE, h.cnt]; simp), if_neg]
  intro hn
  obtain ⟨i, hi, h2⟩ := List.any_eq_true.1 hn
  have hi := List.mem_range.1 hi
  simp only [Bool.and_eq_true, decide_eq_true_eq] at h2
  rw [lengthsV_at hE hi] at h2
  have := lenN_pos h h2.1
  omega
/-- What the answer costs, by ranks. -/
theorem cost_ranks {cs : List Int} {most : Nat} (hE : lengthsE cs most = 0) (h : LenIn cs most) : costK (lengthsV cs most) cs cs.length = ((List.range (sortedC cs).length).map fun r => (nth (0, []) (sortedC cs) r).1 * (dep (psL cs most) r : Int)).sum := by
  have e1 : costK (lengthsV cs most) cs cs.length = sumI cs.length fun s => nth 0 cs s * (lenN cs most s : Int) := by
    unfold costK sumI
    congr 1
    apply List.map_congr_left
    intro s hs
    rw [lengthsV_at hE (List.mem_range.1 hs)]
  rw [e1, ← sorted_sumZ cs (fun s => nth 0 cs s * (lenN cs most s : Int)) (fun s hs => by rw [lenN_none h hs]; simp), sum_ranksZ]
  congr 1
  apply List.map_congr_left
  intro r hr
  have hr := List.mem_range.1 hr
  rw [lenN_rank h hr]
  have hz := (sorted_sym (nth_mem (0, []) (sortedC cs) r hr)).1
  have e2 : (nth (0, []) (sortedC cs) r).1 = nth 0 cs (sym (nth (0, []) (sortedC cs) r)) := by
    conv => lhs; rw [hz]
  rw [e2]
theorem counts_pos {cs : List Int} (h : countsB cs = true) (s : Nat) : 0 ≤ nth 0 cs s := (nth_bound (counts_bound h).2 (by decide) s).1
/-- What another code costs, by the coins. -/
theorem cost_other {cs other : List Int} (h : countsB cs = true) (ho : LensOk other) : costK other cs cs.length = wsum (fun x => lenOf other (sym x)) (sortedC cs) := by
  have e1 : costK other cs cs.length = sumI cs.length fun s => nth 0 cs s * (lenOf other s : Int) := by
    unfold costK sumI
    congr 1
    apply List.map_congr_left
    intro s _
    have := (ho.at s).1
    unfold lenOf
    rw [Int.toNat_of_nonneg this]
  rw [e1, ← sorted_sumZ cs (fun s => nth 0 cs s * (lenOf other s : Int)) (fun s hs => by
    have := counts_pos h s
    have h0 : nth 0 cs s = 0 := by omega
    rw [h0]; simp)]
  unfold wsum
  congr 1
  apply List.map_congr_left
  intro x hx
  have hz := (sorted_sym hx).1
  have e2 : x.1 = nth 0 cs (sym x) := by
    conv => lhs; rw [hz]
  rw [e2]
theorem least_V {cs other : List Int} {most : Nat} (hE : lengthsE cs most = 0) (h : LenIn cs most) (ho : ∀ x ∈ other, x ≤ most) (hc : (costN other cs).2 = 0) : costK (lengthsV cs most) cs cs.length ≤ (costN other cs).1 := by
  unfold costN at hc ⊢
  split at hc
  · rename_i h1; exact absurd hc h1
  · rename_i h1
    rw [if_neg h1]
    have hck : checkN other = 0 := by simpa using h1
    have hr := (checkN_right other).1 hck
    split at hc
    · cases hc
    · rename_i h2
      rw [if_neg h2]
      split at hc
      · cases hc
      · rename_i h3
        rw [if_neg h3]
        show _ ≤ costK other cs cs.length
        have hlen : cs.length = other.length := Decidable.byContradiction fun hn => h2 (.inl hn)
        have hpos : ∀ s, 0 < nth 0 cs s → 0 < lenOf other s := fun s hs => by
          have hsl : s < cs.length := by
            rcases Nat.lt_or_ge s cs.length with hh | hh
            · exact hh
            · rw [nth_none 0 cs s hh] at hs; omega
          have h4 : noneB other cs = false := by simpa using h3
          have h5 := List.any_eq_false.1 h4 s (List.mem_range.2 hsl)
          simp only [Bool.and_eq_true, decide_eq_true_eq] at h5
          have := (hr.ok.at s).1
          unfold lenOf
          have : nth 0 other s ≠ 0 := fun e => h5 ⟨hs, e⟩
          omega
        have hle : ∀ s, lenOf other s ≤ most := fun s => by
          unfold lenOf
          rcases Nat.lt_or_ge s other.length with hh | hh
          · have := ho _ (nth_mem 0 other s hh); omega
          · rw [nth_none 0 other s hh]; simp
        rw [cost_ranks hE h, cost_other h.cnt hr.ok]
        have hlo := h.lo
        have hk : most - 1 + 1 = most := by omega
        by_cases h6 : (sortedC cs).length = 1
        · obtain ⟨z, hz⟩ := List.length_eq_one_iff.1 h6
          have hzs := sorted_sym (show z ∈ sortedC cs by rw [hz]; simp)
          have hzp := hpos _ hzs.2.2
          have hz1 := sorted_pos cs z (by rw [hz]; simp)
          have e5 : psL cs most = [1] := by unfold psL; rw [if_pos h6]
          rw [e5, hz]
          have e6 : ((List.range [z].length).map fun r => (nth (0, []) [z] r).1 * (dep [1] r : Int)).sum = z.1 * 1 := by
            show ([z.1 * (dep [1] 0 : Int)]).sum = _
            have : dep [1] 0 = 1 := rfl
            rw [this]; simp
          rw [e6]
          have e7 : wsum (fun x => lenOf other (sym x)) [z] = z.1 * (lenOf other (sym z) : Int) := by simp [wsum]
          rw [e7]
          exact Int.mul_le_mul_of_nonneg_left (by omega) hz1
        · have e5 : psL cs most = lens (sortedC cs) (most - 1) (2 * (sortedC cs).length - 2) := by unfold psL; rw [if_neg h6]
          rw [e5]
          refine code_least (sorted_I cs) (sorted_pos cs) h.some (by rw [hk]; exact h.fit) (fun x _ => by rw [hk]; exact hle _) ?_
          rw [hk]
          -- Kraft's sum of the other code
          have h7 : 2 ^ (16 - most) * sumF (fun x => 2 ^ (most - lenOf other (sym x))) (sortedC cs) ≤ 65536 := by
            refine Nat.le_trans ?_ hr.full
            have e8 : 2 ^ (16 - most) * sumF (fun x => 2 ^ (most - lenOf other (sym x))) (sortedC cs) = ((sortedC cs).map fun x => (fun s => if 0 < nth 0 cs s then share (lenOf other s) else 0) (sym x)).sum := by
              rw [Nat.mul_comm, sumF_mul]
              unfold sumF
              congr 1
              apply List.map_congr_left
              intro x hx
              have hp := (sorted_sym hx).2.2
              have h16 := h.hi
              have := hle (sym x)
              simp only [if_pos hp]
              rw [share_pos (hpos _ hp), ← Nat.pow_add]
              congr 1; omega
            rw [e8, sorted_sumN cs (fun s => if 0 < nth 0 cs s then share (lenOf other s) else 0) (fun s hs => if_neg hs)]
            unfold filledN
            rw [← hlen]
            exact sumTo_le fun s _ => by split <;> omega
          have h8 : (65536 : Nat) = 2 ^ (16 - most) * 2 ^ most := by
            have := h.hi
            rw [← Nat.pow_add, show 16 - most + most = 16 by omega]
          rw [h8] at h7
          exact Nat.le_of_mul_le_mul_left h7 (Nat.two_pow_pos _)
end Go.Proofs.Ytlbgkkkcbnagbaa
