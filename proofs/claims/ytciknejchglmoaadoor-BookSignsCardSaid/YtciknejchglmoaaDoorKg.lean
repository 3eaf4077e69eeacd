/- The reference's Lengths: order by insertion; what is taken of each level. Plain; no program is named. · append to a full slice: a new row; slices 'xs[m:]' and 'xs[:m:m]'. · The reference's Lengths: its first errors. · The reference's Lengths: what it returns. · The reference's Lengths in general. · The document's rows of bits: Put; the document's scale: Lengths, Ranged, taken, right. -/
import Derived.Test.YtciknejchglmoaaDoorKe
import Derived.Test.YtciknejchglmoaaDoorKd
import Derived.Test.YtciknejchglmoaaDoorKa
import Derived.Test.YtciknejchglmoaaDoorKb
import Derived.ArgAppend
import Derived.Test.YtciknejchglmoaaDoorKf
import Derived.Test.YtciknejchglmoaaDoorKc
namespace Go.Proofs.YtciknejchglmoaaDoor
open Go.RowKit

/-! ### The order -/
theorem insF_at {α : Type} (f : α → Int) (x : α) : ∀ (l : List α) (p : Nat), (∀ y ∈ l.take p, f y ≤ f x) → (∀ y ∈ l.drop p, f x < f y) → insF f x l = l.take p ++ x :: l.drop p
  | [], p, _, _ => by simp [insF]
  | y :: l, 0, _, h => by
    have := h y (by simp)
    unfold insF
    rw [if_pos this]; rfl
  | y :: l, p + 1, h1, h2 => by
    have h3 := h1 y (by simp)
    unfold insF
    rw [if_neg (by omega), insF_at f x l p (fun z hz => h1 z (by simp [hz])) (fun z hz => h2 z (by simpa using hz))]
    rfl
def sortK (cs : List Int) (k : Nat) : List It := isortF (fun z : It => z.1) (coinsK cs k)
theorem sortK_mem {cs : List Int} {k : Nat} {z : It} (h : z ∈ sortK cs k) : z = (nth 0 cs (sym z), [sym z]) ∧ sym z < k ∧ 0 < nth 0 cs (sym z) := coin_sym ((isortF_mem _ _).1 h)
theorem sortK_length (cs : List Int) (k : Nat) : (sortK cs k).length = (coinsK cs k).length := (isortF_perm _ _).length_eq
/-- The symbols of the first counts, in the order of their counts. -/
def ordI (cs : List Int) (k : Nat) : List Int := (sortK cs k).map fun z => ((sym z : Nat) : Int)
theorem ordI_length (cs : List Int) (k : Nat) : (ordI cs k).length = (coinsK cs k).length := by simp [ordI, sortK_length]
theorem ordI_nth {cs : List Int} {k j : Nat} (h : j < (coinsK cs k).length) : ∃ s : Nat, nth 0 (ordI cs k) j = (s : Int) ∧ s < k ∧ 0 < nth 0 cs s ∧ nth (0, []) (sortK cs k) j = (nth 0 cs s, [s]) := by
  have hl : j < (sortK cs k).length := by rw [sortK_length]; exact h
  have hm := sortK_mem (nth_mem (0, []) _ j hl)
  refine ⟨sym (nth (0, []) (sortK cs k) j), ?_, hm.2.1, hm.2.2, hm.1⟩
  rw [nth_eq 0 _ j (by rw [ordI_length]; exact h)]
  simp [ordI, nth_eq _ _ j hl]
theorem ordI_miss {cs : List Int} {k : Nat} (h : ¬ 0 < nth 0 cs k) : ordI cs (k + 1) = ordI cs k := by
  unfold ordI sortK
  rw [show coinsK cs (k + 1) = coinsK cs k by show (if 0 < nth 0 cs k then _ else _) = _; rw [if_neg h]]
theorem ordI_hit {cs : List Int} {k p : Nat} (h : 0 < nth 0 cs k) (hp : p ≤ (coinsK cs k).length) (h1 : p = 0 ∨ ∃ s : Nat, nth 0 (ordI cs k) (p - 1) = (s : Int) ∧ nth 0 cs s ≤ nth 0 cs k)
    (h2 : ∀ j, p ≤ j → j < (coinsK cs k).length → nth 0 cs k < nth 0 cs (nth 0 (ordI cs k) j).toNat) : ordI cs (k + 1) = (ordI cs k).take p ++ (k : Int) :: (ordI cs k).drop p := by
  have hl := sortK_length cs k
  have hs : SortedF (fun z : It => z.1) (sortK cs k) := (isortF_ok _).1
  have e : sortK cs (k + 1) = (sortK cs k).take p ++ (nth 0 cs k, [k]) :: (sortK cs k).drop p := by
    have e0 : sortK cs (k + 1) = insF (fun z : It => z.1) (nth 0 cs k, [k]) (sortK cs k) := by
      unfold sortK
      rw [show coinsK cs (k + 1) = coinsK cs k ++ [(nth 0 cs k, [k])] by show (if 0 < nth 0 cs k then _ else _) = _; rw [if_pos h]]
      exact isortF_snoc _ _
    rw [e0]
    refine insF_at _ _ _ _ (fun y hy => ?_) (fun y hy => ?_)
    · obtain ⟨i, hi, rfl⟩ := List.mem_iff_getElem.1 hy
      rw [List.length_take] at hi
      rcases h1 with h1 | ⟨s, h1, h3⟩
      · omega
      · obtain ⟨t, e1, _, _, e4⟩ := ordI_nth (cs := cs) (k := k) (j := p - 1) (by omega)
        have hst : s = t := by rw [h1] at e1; omega
        subst hst
        rw [List.getElem_take]
        show ((sortK cs k)[i]).1 ≤ nth 0 cs k
        refine Int.le_trans ?_ h3
        have e5 : (nth (0, []) (sortK cs k) (p - 1)).1 = nth 0 cs s := by rw [e4]
        rw [← e5, nth_eq _ _ (p - 1) (by omega)]
        rcases Nat.lt_or_ge i (p - 1) with h6 | h6
        · exact List.pairwise_iff_getElem.1 hs i (p - 1) (by omega) (by omega) h6
        · have : i = p - 1 := by omega
          subst this
          exact Int.le_refl _
    · obtain ⟨i, hi, rfl⟩ := List.mem_iff_getElem.1 hy
      rw [List.length_drop] at hi
      rw [List.getElem_drop]
      show nth 0 cs k < ((sortK cs k)[p + i]).1
      have h3 := h2 (p + i) (by omega) (by omega)
      obtain ⟨t, e1, _, _, e4⟩ := ordI_nth (cs := cs) (k := k) (j := p + i) (by omega)
      rw [e1, Int.toNat_natCast] at h3
      have e5 : (nth (0, []) (sortK cs k) (p + i)).1 = nth 0 cs t := by rw [e4]
      rw [nth_eq _ _ (p + i) (by omega)] at e5
      rw [e5]; exact h3
  unfold ordI
  rw [e, List.map_append, List.map_cons, List.map_take, List.map_drop]
  rfl
theorem ordI_all (cs : List Int) : ordI cs cs.length = (sortedC cs).map fun z => ((sym z : Nat) : Int) := rfl
/-- The coins, tagged. -/
def tagC (cs : List Int) : List (Int × Int) := (sortedC cs).map tag
theorem tag_coin {cs : List Int} {z : It} (h : z ∈ sortedC cs) : tag z = (z.1, ((sym z : Nat) : Int)) := by
  have h1 := sorted_syms1 cs z h
  unfold tag sym
  rw [if_pos (by rw [h1]; rfl)]
theorem tagC_length (cs : List Int) : (tagC cs).length = (sortedC cs).length := by simp [tagC]
theorem tagC_eq (cs : List Int) : tagC cs = (ordI cs cs.length).map fun s => (nth 0 cs s.toNat, s) := by
  unfold tagC
  rw [ordI_all, List.map_map]
  apply List.map_congr_left
  intro z hz
  rw [tag_coin hz]
  have := (sorted_sym hz).1
  have e : z.1 = nth 0 cs (sym z) := by conv => lhs; rw [this]
  simp [e]
theorem coins1 (cs : List Int) : ∀ x ∈ sortedC cs, x.2.length = 1 := fun x hx => by rw [sorted_syms1 cs x hx]; rfl
theorem rowR_eq (cs : List Int) (k : Nat) : rowR (tagC cs) k = (rowI (sortedC cs) k).map tag := (tag_row (coins1 cs) k).symm
theorem rowR_length (cs : List Int) (k : Nat) : (rowR (tagC cs) k).length = (rowI (sortedC cs) k).length := by rw [rowR_eq]; simp
theorem rowR_bound {cs : List Int} (h : countsB cs = true) {k : Nat} (hk : k ≤ 15) : ∀ z ∈ rowR (tagC cs) k, 0 ≤ z.1 ∧ z.1 ≤ 1125899906842624 := by
  intro z hz
  rw [rowR_eq] at hz
  obtain ⟨y, hy, rfl⟩ := List.mem_map.1 hz
  have := rowI_ok (sorted_within h) hk y hy
  exact ⟨this.1, this.2.1⟩
/-! ### What is taken of a level -/
/-- How many of these items are coins of a symbol. -/
def coinsIn (s : Nat) (l : List (Int × Int)) : Nat := (l.filter fun x => x.2 == (s : Int)).length
def packsIn (l : List (Int × Int)) : Nat := (l.filter fun x => decide (x.2 < 0)).length
theorem coinsIn_snoc (s : Nat) (l : List (Int × Int)) (x : Int × Int) : coinsIn s (l ++ [x]) = coinsIn s l + if x.2 = (s : Int) then 1 else 0 := by
  unfold coinsIn
  rw [List.filter_append, List.length_append]
  by_cases h : x.2 = (s : Int)
  · simp [h]
  · simp [h]
theorem packsIn_snoc (l : List (Int × Int)) (x : Int × Int) : packsIn (l ++ [x]) = packsIn l + if x.2 < 0 then 1 else 0 := by
  unfold packsIn
  rw [List.filter_append, List.length_append]
  by_cases h : x.2 < 0
  · simp [h]
  · simp [h]
theorem filter_len {α : Type} (p : α → Bool) (l : List α) : (l.filter p).length = (l.map fun x => if p x then 1 else 0).sum := by
  induction l with
  | nil => rfl
  | cons x l ih =>
    rw [List.filter_cons, List.map_cons, List.sum_cons, ← ih]
    by_cases h : p x = true
    · rw [if_pos h, if_pos h, List.length_cons]; omega
    · rw [if_neg h, if_neg h]; omega
theorem sumF_zero {f : It → Nat} {l : List It} (h : ∀ x ∈ l, f x = 0) : sumF f l = 0 := by
  rw [sumF_congr (g := fun _ => 0) h, sumF_const]; omega
theorem sumF_ones {f : It → Nat} {l : List It} (h : ∀ x ∈ l, f x = 1) : sumF f l = l.length := by
  rw [sumF_congr (g := fun _ => 1) h, sumF_const]; omega
theorem packs_none {cs : List Int} {k : Nat} {z : It} (h : z ∈ pairsI (rowI (sortedC cs) k)) : (tag z).2 = -1 := by
  have := pairsI_coins (rowI_coins (coins1 cs) k) z h
  unfold tag
  rw [if_neg (by omega)]
theorem tag_sym {cs : List Int} {z : It} (h : z ∈ sortedC cs) : (tag z).2 = ((sym z : Nat) : Int) := by rw [tag_coin h]
theorem coinsIn_coins (cs : List Int) (s p : Nat) : coinsIn s (((sortedC cs).take p).map tag) = (((sortedC cs).take p).map sym).count s := by
  unfold coinsIn
  rw [List.filter_map, List.length_map, List.count_eq_countP, List.countP_map, List.countP_eq_length_filter]
  congr 1
  apply List.filter_congr
  intro z hz
  have h1 := tag_sym (List.mem_of_mem_take hz)
  show ((tag z).2 == (s : Int)) = (sym z == s)
  rw [h1]
  by_cases h : sym z = s
  · rw [h]; simp
  · have h2 : ¬ ((sym z : Nat) : Int) = (s : Int) := by omega
    rw [show (((sym z : Nat) : Int) == (s : Int)) = false by simpa using h2]
    rw [show (sym z == s) = false by simpa using h]
/-- The coins of a level. -/
theorem level_coins (cs : List Int) (s k m : Nat) : coinsIn s ((rowR (tagC cs) (k + 1)).take m) = (((sortedC cs).take (fromA (sortedC cs) (pairsI (rowI (sortedC cs) k)) m)).map sym).count s := by
  rw [rowR_eq, ← List.map_take, ← coinsIn_coins]
  unfold coinsIn
  rw [filter_len, filter_len, List.map_map, List.map_map]
  show sumF (fun x => if ((tag x).2 == (s : Int)) = true then 1 else 0) ((rowI (sortedC cs) (k + 1)).take m) = sumF (fun x => if ((tag x).2 == (s : Int)) = true then 1 else 0) _
  rw [rowI, merge_sumF]
  rw [sumF_zero (l := (pairsI (rowI (sortedC cs) k)).take _) fun x hx => by
    rw [packs_none (List.mem_of_mem_take hx)]
    rw [if_neg]
    simp only [beq_iff_eq]; omega]
  rfl
theorem level_packs {cs : List Int} {k m : Nat} (h : m ≤ (rowI (sortedC cs) (k + 1)).length) : packsIn ((rowR (tagC cs) (k + 1)).take m) = m - fromA (sortedC cs) (pairsI (rowI (sortedC cs) k)) m := by
  rw [rowR_eq, ← List.map_take]
  unfold packsIn
  rw [filter_len, List.map_map]
  show sumF (fun x => if (decide ((tag x).2 < 0)) = true then 1 else 0) ((rowI (sortedC cs) (k + 1)).take m) = _
  rw [rowI, mergeI_length] at h
  have hr := fromA_rest _ _ _ h
  rw [rowI, merge_sumF]
  rw [sumF_zero (l := (sortedC cs).take _) fun x hx => by
    rw [tag_sym (List.mem_of_mem_take hx), if_neg]; simp only [decide_eq_true_eq]; omega]
  rw [sumF_ones (l := (pairsI (rowI (sortedC cs) k)).take _) fun x hx => by
    rw [packs_none (List.mem_of_mem_take hx)]; rfl]
  rw [List.length_take, Nat.min_eq_left hr, Nat.zero_add]
theorem level0_coins (cs : List Int) (s m : Nat) : coinsIn s ((rowR (tagC cs) 0).take m) = (((sortedC cs).take m).map sym).count s := by
  rw [rowR_eq, ← List.map_take]; exact coinsIn_coins cs s m
theorem level0_packs (cs : List Int) (m : Nat) : packsIn ((rowR (tagC cs) 0).take m) = 0 := by
  rw [rowR_eq, ← List.map_take]
  unfold packsIn
  rw [filter_len, List.map_map]
  show sumF (fun x => if (decide ((tag x).2 < 0)) = true then 1 else 0) ((sortedC cs).take m) = _
  exact sumF_zero fun x hx => by rw [tag_sym (List.mem_of_mem_take hx), if_neg]; simp only [decide_eq_true_eq]; omega
/-- The answer so far: of levels that are done. -/
def outT (cs : List Int) (ps : List Nat) : List Int := (List.range cs.length).map fun s => (((ps.map fun p => (((sortedC cs).take p).map sym).count s).sum : Nat) : Int)
/-- Within a level. -/
def outU (cs : List Int) (ps : List Nat) (l : List (Int × Int)) : List Int := (List.range cs.length).map fun s => (((ps.map fun p => (((sortedC cs).take p).map sym).count s).sum + coinsIn s l : Nat) : Int)
theorem outT_length (cs : List Int) (ps : List Nat) : (outT cs ps).length = cs.length := by simp [outT]
theorem outU_length (cs : List Int) (ps : List Nat) (l : List (Int × Int)) : (outU cs ps l).length = cs.length := by simp [outU]
theorem outT_nil (cs : List Int) : outT cs [] = List.replicate cs.length 0 := by
  apply List.ext_getElem
  · simp [outT]
  · intro i h1 h2; simp [outT]
theorem outU_nil (cs : List Int) (ps : List Nat) : outU cs ps [] = outT cs ps := by simp [outU, outT, coinsIn]
theorem outU_nth {cs : List Int} {ps : List Nat} {l : List (Int × Int)} {s : Nat} (h : s < cs.length) : nth 0 (outU cs ps l) s = (((ps.map fun p => (((sortedC cs).take p).map sym).count s).sum + coinsIn s l : Nat) : Int) := by
  rw [nth_eq 0 _ s (by rw [outU_length]; exact h)]; simp [outU]
theorem outU_pack {cs : List Int} {ps : List Nat} {l : List (Int × Int)} {x : Int × Int} (h : x.2 < 0) : outU cs ps (l ++ [x]) = outU cs ps l := by
  unfold outU
  apply List.map_congr_left
  intro s _
  rw [coinsIn_snoc, if_neg (by omega)]; rfl
theorem outU_coin {cs : List Int} {ps : List Nat} {l : List (Int × Int)} {x : Int × Int} {s : Nat} (h : x.2 = (s : Int)) (hs : s < cs.length) : (outU cs ps l).set s (nth 0 (outU cs ps l) s + 1) = outU cs ps (l ++ [x]) := by
  apply List.ext_getElem
  · simp [outU]
  · intro i h1 h2
    rw [List.getElem_set]
    have hx : coinsIn i (l ++ [x]) = coinsIn i l + if x.2 = (i : Int) then 1 else 0 := coinsIn_snoc i l x
    split
    · rename_i e
      subst e
      rw [outU_nth hs]
      simp only [outU, List.getElem_map, List.getElem_range]
      rw [hx, if_pos h]; omega
    · rename_i e
      simp only [outU, List.getElem_map, List.getElem_range]
      rw [hx, if_neg (by rw [h]; omega)]; rfl
theorem outU_done {cs : List Int} {ps : List Nat} {l : List (Int × Int)} {p : Nat} (h : ∀ s, coinsIn s l = (((sortedC cs).take p).map sym).count s) : outU cs ps l = outT cs (ps ++ [p]) := by
  unfold outU outT
  apply List.map_congr_left
  intro s _
  rw [h s, List.map_append, List.sum_append]
  simp
theorem outT_all {cs : List Int} {most : Nat} (hE : lengthsE cs most = 0) (h : LenIn cs most) : outT cs (psL cs most) = lengthsV cs most := by
  rw [lengthsV_nth hE]
  unfold outT
  apply List.map_congr_left
  intro s _
  rw [lenN_sum h]
theorem coinsIn_le (s : Nat) (l : List (Int × Int)) : coinsIn s l ≤ l.length := List.length_filter_le _ _
theorem packsIn_le (l : List (Int × Int)) : packsIn l ≤ l.length := List.length_filter_le _ _
theorem count_sum_le (cs : List Int) (s : Nat) : ∀ ps : List Nat, (ps.map fun p => (((sortedC cs).take p).map sym).count s).sum ≤ ps.length * (sortedC cs).length
  | [] => by simp
  | p :: ps => by
    have := count_sum_le cs s ps
    have h1 : (((sortedC cs).take p).map sym).count s ≤ (((sortedC cs).take p).map sym).length := List.count_le_length
    rw [List.length_map, List.length_take] at h1
    rw [List.map_cons, List.sum_cons, List.length_cons, Nat.succ_mul]; omega
theorem item_sym {cs : List Int} {k : Nat} {z : Int × Int} (h : z ∈ rowR (tagC cs) k) (h0 : ¬ z.2 < 0) : ∃ s : Nat, z.2 = (s : Int) ∧ s < cs.length := by
  rw [rowR_eq] at h
  obtain ⟨y, hy, rfl⟩ := List.mem_map.1 h
  have hs := rowI_syms (sorted_syms cs) k y hy
  unfold tag at h0 ⊢
  split
  · rename_i h1
    refine ⟨nth 0 y.2 0, rfl, hs _ (nth_mem 0 _ 0 (by omega))⟩
  · rename_i h1; rw [if_neg h1] at h0; exact absurd (show (-1 : Int) < 0 by decide) h0
theorem level_step {cs : List Int} {i m : Nat} (h : m ≤ (rowI (sortedC cs) i).length) : ∃ p, (∀ s, coinsIn s ((rowR (tagC cs) i).take m) = (((sortedC cs).take p).map sym).count s) ∧
    lens (sortedC cs) i m = p :: (if i = 0 then [] else lens (sortedC cs) (i - 1) (2 * packsIn ((rowR (tagC cs) i).take m))) ∧ (i ≠ 0 → 2 * packsIn ((rowR (tagC cs) i).take m) ≤ (rowI (sortedC cs) (i - 1)).length) := by
  cases i with
  | zero => exact ⟨m, fun s => level0_coins cs s m, rfl, fun h => absurd rfl h⟩
  | succ i =>
    refine ⟨_, fun s => level_coins cs s i m, ?_, fun _ => ?_⟩
    · rw [level_packs h, if_neg (by omega)]; rfl
    · rw [level_packs h]; exact lens_fit h
/-- One coin. -/
theorem lengthsV_one {cs : List Int} {most : Int} {s : Nat} (hE : lengthsE cs most = 0) (hn : (coinsK cs cs.length).length = 1) (h : nth (0, []) (sortK cs cs.length) 0 = (nth 0 cs s, [s])) : lengthsV cs most = (List.replicate cs.length (0 : Int)).set s 1 := by
  obtain ⟨z, hz⟩ := List.length_eq_one_iff.1 hn
  have hm : nth (0, []) (sortK cs cs.length) 0 ∈ coinsK cs cs.length := (isortF_mem _ _).1 (show nth (0, []) (sortK cs cs.length) 0 ∈ sortK cs cs.length from nth_mem _ _ 0 (by rw [sortK_length, hn]; decide))
  rw [h, hz] at hm
  have hz2 : coinsK cs cs.length = [(nth 0 cs s, [s])] := by rw [hz]; simp at hm; rw [← hm]
  unfold lengthsV
  rw [if_neg (by rw [hE]; decide), if_pos hn, hz2]
  apply List.ext_getElem
  · simp [outQ]
  · intro i h1 h2
    rw [List.getElem_set]
    simp only [outQ, List.getElem_map, List.getElem_range, List.getElem_replicate]
    by_cases e : s = i
    · rw [if_pos e]; subst e; simp [occ, sumF]
    · rw [if_neg e]; simp [occ, sumF, e]
/-- The rows so far. -/
def rowsL (cs : List Int) (i : Nat) : List (List (Int × Int)) := (List.range (i + 1)).map (rowR (tagC cs))
theorem rowsL_length (cs : List Int) (i : Nat) : (rowsL cs i).length = i + 1 := by simp [rowsL]
theorem rowsL_nth {cs : List Int} {i j : Nat} (h : j ≤ i) : nth [] (rowsL cs i) j = rowR (tagC cs) j := by
  rw [nth_eq [] _ j (by rw [rowsL_length]; omega)]; simp [rowsL]
theorem rowsL_zero (cs : List Int) : rowsL cs 0 = [tagC cs] := rfl
theorem rowsL_succ (cs : List Int) (i : Nat) : rowsL cs (i + 1) = rowsL cs i ++ [mergeR (tagC cs) (pairsR (rowR (tagC cs) i))] := by
  unfold rowsL
  rw [List.range_succ, List.map_append]; rfl
theorem tagC_nth {cs : List Int} {j : Nat} (h : j < (coinsK cs cs.length).length) : nth (0, 0) (tagC cs) j = (nth 0 cs (nth 0 (ordI cs cs.length) j).toNat, nth 0 (ordI cs cs.length) j) := by
  have hl : j < (ordI cs cs.length).length := by rw [ordI_length]; exact h
  rw [tagC_eq, nth_eq _ _ j (by simpa using hl), nth_eq 0 _ j hl]
  simp
theorem rowR_len {cs : List Int} (h : cs.length ≤ 256) (k : Nat) : (rowR (tagC cs) k).length ≤ 512 := by
  rw [rowR_length]
  have h1 := rowI_length_le (sortedC cs) k
  rw [sortedC_length] at h1
  have := coinsK_len cs cs.length
  omega
end Go.Proofs.YtciknejchglmoaaDoor

namespace Go.Proofs.YtciknejchglmoaaDoor
open Go.RowKit

/-- 'xs[m:]'. -/
theorem cut_tail {P : Program} (t e : TypeId) {i : TypeInfo} (ht : P.underlying t = some (.slice e)) (hi : P.info? e = some i) (A : Option Addr) (n c m : Nat) (hm : m ≤ n) :
    ∃ A' : Option Addr, (∀ W : World, (Instr.slice t (.slice A n c) (some (.int .i64 (m : Int))) none none).run P W = .ok (.slice A' (n - m) (c - m)) W) ∧
      ∀ {α : Type} (k : Kd α) (ok : Nat → Prop) (w : World) (xs : List α), k.size = i.size → xs.length = n → Sl k ok w A c xs → Sl k ok w A' (c - m) (xs.drop m) := by
  refine ⟨if c = m then A else A.map (·.add (m * i.size)), fun W => ?_, fun k ok w xs hk hx h => ?_⟩
  · have hel : P.elem t = e := by simp [Program.elem, ht]
    have hu : P.underlying t = some (.slice (P.elem t)) := by rw [hel]; exact ht
    rw [run_slice_l W t A n c hu .i64 (m : Int) (Int.natCast_nonneg _) (by omega), hel]
    simp [sizeOf, typeInfo, hi, sliced, Result.andThen]
  · refine ⟨by rw [List.length_drop]; have := h.le; omega, by have := h.cap; omega, ?_⟩
    by_cases hc : c = m
    · have : xs.drop m = [] := List.drop_of_length_le (by have := h.le; omega)
      rw [this]
      exact Kd.Rd.nil _ _ _ _
    · rw [if_neg hc, ← hk]
      exact h.rd.drop m
/-- 'xs[:m:m]'. -/
theorem cut_full {P : Program} (t e : TypeId) {i : TypeInfo} (ht : P.underlying t = some (.slice e)) (hi : P.info? e = some i) (A : Option Addr) (n c m : Nat) (hm : m ≤ n) (hnc : n ≤ c) :
    ∃ A' : Option Addr, (∀ W : World, (Instr.slice t (.slice A n c) none (some (.int .i64 (m : Int))) (some (.int .i64 (m : Int)))).run P W = .ok (.slice A' m m) W) ∧
      ∀ {α : Type} (k : Kd α) (ok : Nat → Prop) (w : World) (xs : List α), k.size = i.size → xs.length = n → Sl k ok w A c xs → Sl k ok w A' m (xs.take m) := by
  refine ⟨if m = 0 then A else A.map (·.add (0 * i.size)), fun W => ?_, fun k ok w xs hk hx h => ?_⟩
  · have hel : P.elem t = e := by simp [Program.elem, ht]
    have hu : P.underlying t = some (.slice (P.elem t)) := by rw [hel]; exact ht
    rw [run_slice_hm W t A n c hu .i64 .i64 (m : Int) (m : Int) (Int.natCast_nonneg _) (Int.le_refl _) (by omega), hel]
    simp [sizeOf, typeInfo, hi, sliced, Result.andThen]
  · refine ⟨by rw [List.length_take]; omega, by have := h.cap; omega, ?_⟩
    by_cases hc : m = 0
    · subst hc
      exact Kd.Rd.nil _ _ _ _
    · rw [if_neg hc, ← hk]
      have := (h.rd.take m).drop 0
      rwa [List.drop_zero] at this
theorem run_append_full {P : Program} {W : World} (t ty e : TypeId) (k : IntKind) (bytes : Nat)
    (ht : P.underlying t = some (.slice e)) (hinfo : (P.info? e).map (fun i => (i.zero, i.size, i.bytes)) = some (some (.int k 0), 1, bytes)) (hb0 : 0 < bytes)
    (A : Option Addr) (xs : List Int) (A2 : Option Addr) (c2 : Nat) (ys : List Int) {ok ok2 : Nat → Prop}
    (HR : Sl (kInt k) ok W A xs.length xs) (HR2 : Sl (kInt k) ok2 W A2 c2 ys) (hy : 0 < ys.length) (hl : (xs.length + ys.length) * bytes ≤ 140737488355328) :
    ∃ v1 w1, (Builtin.append_ #[t, t] ty #[.slice A xs.length xs.length, .slice A2 ys.length c2]).run P W = .ok v1 w1 ∧ OwnI e k W.heap.size w1 v1 (xs ++ ys) ∧ Below W.heap.size W w1 := by
  obtain ⟨i0, hi, hzz⟩ := Option.map_eq_some_iff.1 hinfo
  simp only [Prod.mk.injEq] at hzz
  obtain ⟨hz0, hz1, hz2⟩ := hzz
  have hlen : xs.length + ys.length ≤ 140737488355328 := Nat.le_trans (Nat.le_mul_of_pos_right _ hb0) hl
  rcases A with _ | ad
  · have h0 : xs = [] := by
      rcases Nat.eq_zero_or_pos xs.length with h0 | h0
      · exact List.eq_nil_of_length_eq_zero h0
      · obtain ⟨ad, h, _⟩ := rd_int HR 0 h0
        cases h
    subst h0
    obtain ⟨v1, w1, hr, hown, hg, _⟩ := run_append_row (P := P) W.heap.size t ty e k bytes ht hinfo hb0 (.slice none 0 0) [] ys A2 c2 (OwnI.nil _ _ _ _) HR2 (Nat.le_refl _) hl
    exact ⟨v1, w1, hr, hown, ((Below.refl W.heap.size W).grown hg (Nat.le_refl _) (fun k e => by cases e))⟩
  · obtain ⟨ad2, rfl, _⟩ := rd_int HR2 0 hy
    obtain ⟨v1, w1, hr, hown, hg⟩ := run_append_arg_grows (P := P) (w := W) t ty e i0 (.int k 0) 1 bytes ht hi hz0 hz1 hz2 rfl (by decide) ad xs.length xs.length (nums k xs) (by simp [nums]) (fun j u hu => by
        have hj : j < xs.length := by
          rcases Nat.lt_or_ge j xs.length with h | h
          · exact h
          · simp [nums, List.getElem?_eq_none h] at hu
        obtain ⟨ad', h', hc⟩ := rd_int HR j hj
        injection h' with h'
        subst h'
        rw [nums_get k xs j hj] at hu
        injection hu with hu
        rw [hc, hu]) ad2 ys.length c2 (nums k ys) (by simp [nums]) (fun j u hu => by
        have hj : j < ys.length := by
          rcases Nat.lt_or_ge j ys.length with h | h
          · exact h
          · simp [nums, List.getElem?_eq_none h] at hu
        obtain ⟨ad', h', hc⟩ := rd_int HR2 j hj
        injection h' with h'
        subst h'
        rw [nums_get k ys j hj] at hu
        injection hu with hu
        rw [hc, hu]) (by omega) (by simp only [maxLen]; omega) hl
    refine ⟨v1, w1, hr, ?_, (Below.refl W.heap.size W).grown hg (Nat.le_refl _) (fun k e => by cases e)⟩
    unfold OwnI
    rw [List.length_append, nums_append]; exact hown
/-- append(xs[:m:m], ys...) as a step of a drawn region. -/
theorem step_append_full {P : Program} {ops : Array Oper} {o : Oper} {a : Act} {Q : Exit → Act → World → Prop} {E : Prop} {K : Act → World → Prop} {W : World} (hgd : o.guard = none) (s x : Operand) (t e : TypeId) (k : IntKind) (bytes : Nat)
    (ho : o.op = .call { callee := .builtin .append, args := #[s, x], argTypes := #[t, t] })
    (ht : P.underlying t = some (.slice e)) (hinfo : (P.info? e).map (fun i => (i.zero, i.size, i.bytes)) = some (some (.int k 0), 1, bytes)) (hb0 : 0 < bytes)
    (A : Option Addr) (xs : List Int) (A2 : Option Addr) (c2 : Nat) (ys : List Int) {ok ok2 : Nat → Prop} (hs : a.eval s = .slice A xs.length xs.length) (hx : a.eval x = .slice A2 ys.length c2)
    (HR : Sl (kInt k) ok W A xs.length xs) (HR2 : Sl (kInt k) ok2 W A2 c2 ys) (hy : 0 < ys.length) (hl : (xs.length + ys.length) * bytes ≤ 140737488355328)
    (h : ∀ v1 w1, OwnI e k W.heap.size w1 v1 (xs ++ ys) → Below W.heap.size W w1 → K (a.put o.dst v1) w1) :
    if Region.wanted o (yielded ops a.tmps) = true then Oper.wp P o a W K Q else E := by
  obtain ⟨v1, w1, hr, hown, hg⟩ := run_append_full (P := P) t o.type e k bytes ht hinfo hb0 A xs A2 c2 ys HR HR2 hy hl
  rw [if_pos (by simp [Region.wanted, hgd])]
  unfold Oper.wp execOp
  simp only [ho, resolve, invoke, builtin, Sem.run_bind, Sem.run_pure, Result.andThen_ok, List.map_toArray, List.map_cons, List.map_nil, hs, hx, hr]
  exact h v1 w1 hown hg
/-- A literal of one element of one cell. -/
theorem own_lit1K {α : Type} {k : Kd α} (W : World) (e : TypeId) (ok : Nat → Prop) (x : α) (v : Value) (h1 : k.size = 1) (hx : k.K (fun b => ok b ∧ b ≠ W.heap.size) W x [v]) :
    OwnK k e W.heap.size ok (W.alloc (.cells #[v] e)) (.slice (some ⟨W.heap.size, 0, none⟩) 1 1) [x] := by
  have h := World.ownsRow_lit (base := W.heap.size) (e := e) (size := 1) W #[v] 1 (Nat.le_refl _) (by simp [maxLen]) (by simp)
  refine ⟨[v], by rw [h1]; exact h, by rw [h1]; rfl, fun j hj => ?_⟩
  obtain rfl : j = 0 := by simp at hj; omega
  rw [h1]
  have hb := k.K_below hx (below_alloc (Below.refl W.heap.size W) (.cells #[v] e))
  exact k.weak (fun b _ hb => ⟨hb.1, fun e => hb.2 (by have := Option.some.inj e; exact this.symm)⟩) hb
/-- A row of numbers or pairs lies in its own block alone. -/
theorem ownF_sl {e : TypeId} {base : Nat} {ok : Nat → Prop} {w : World} {v : Value} {xs : List (Int × Int)} (h : OwnK kField e base ok w v xs) : ∃ A c, v = .slice A xs.length c ∧ Sl kField (fun b => base ≤ b) w A c xs := by
  have h2 : OwnK kField e base (fun b => base ≤ b) w v xs := by
    obtain ⟨cells, ho, hr⟩ := h
    refine ⟨cells, ho, hr.1, fun j hj => ?_⟩
    obtain ⟨c1, c2, e1, e2, e3⟩ := hr.2 j hj
    exact ⟨c1, c2, e1, e2, e3⟩
  obtain ⟨A, c, e, hs⟩ := h2.rd
  exact ⟨A, c, e, hs.weak fun b _ hb => hb.elim id (fun hb => h2.base_le b hb)⟩
end Go.Proofs.YtciknejchglmoaaDoor

namespace Go.Proofs.YtciknejchglmoaaDoor
open Go.RowKit

theorem infoRr : (Tryd.prog.info? 142).map (fun i => (i.zero, i.size, i.bytes)) = some (some (.slice none 0 0), 1, 24) := by kernel_rfl
theorem coinsK_succ_len (cs : List Int) (k : Nat) : (coinsK cs (k + 1)).length = if 0 < nth 0 cs k then (coinsK cs k).length + 1 else (coinsK cs k).length := by
  show (if 0 < nth 0 cs k then _ else _ : List It).length = _
  split <;> simp
theorem countsB_of {cs : List Int} (h : cs.length ≤ 256) (hb : ∀ q, q < cs.length → badCount (nth 0 cs q) = false) : countsB cs = true := by
  unfold countsB
  simp only [Bool.and_eq_true, decide_eq_true_eq, Bool.not_eq_true', List.any_eq_false]
  refine ⟨h, fun x hx => ?_⟩
  obtain ⟨i, hi, rfl⟩ := List.mem_iff_getElem.1 hx
  have := hb i hi
  rw [nth_eq 0 _ i hi] at this
  simp [this]

set_option maxHeartbeats 4000000 in
set_option maxRecDepth 100000 in
theorem rlengths_no (A : Option Addr) (c : Nat) (cs : List Int) (most : Int) (w : World) (hS : RI w A c cs) (he : countsB cs = false ∨ most < 1 ∨ 16 < most) :
    Calls Tryd.prog 91 #[.slice A cs.length c, .int .i64 most] w fun e w' => e = .returned (.tuple #[.slice none 0 0, .int .i64 1]) ∧ Below w.heap.size w w' := by
  have hn := hS.len
  by_cases hg : (256 : Int) < (cs.length : Int) ∨ most < 1 ∨ 16 < most
  · have hc : (decide ((256 : Int) < (cs.length : Int)) = true) ∨ (decide ((256 : Int) < (cs.length : Int)) = false ∧ decide (most < 1) = true) ∨ (decide ((256 : Int) < (cs.length : Int)) = false ∧ decide (most < 1) = false ∧ decide (16 < most) = true) := by
      simp only [decide_eq_true_eq, decide_eq_false_iff_not]; omega
    clear hg he
    rcases hc with d0 | ⟨d0, d1⟩ | ⟨d0, d1, d2⟩
    all_goals
      go_enter Tryd.func91, Tryd.ntmps91
      go_wp2
      go_ret2
      exact ⟨rfl, Below.refl _ _⟩
  · have d0 : decide ((256 : Int) < (cs.length : Int)) = false := decide_eq_false (by omega)
    have d1 : decide (most < 1) = false := decide_eq_false (by omega)
    have d2 : decide (16 < most) = false := decide_eq_false (by omega)
    have hcb : countsB cs = false := by
      rcases he with h | h
      · exact h
      · omega
    have HCB := Lib.hid hcb
    have h256 : cs.length ≤ 256 := by omega
    clear hg he hcb
    go_enter Tryd.func91, Tryd.ntmps91
    go_wp2
    go_loopw [6, 37] (fun nv iv wr => ∃ k : Nat, iv = .int .i64 (k : Int) ∧ k ≤ cs.length ∧ nv = .int .i64 ((coinsK cs k).length : Int) ∧ Hid (∀ q, q < k → badCount (nth 0 cs q) = false) ∧ wr = w) (fun _ iv _ => cs.length - (intOf iv).toNat)
    case atStart => exact ⟨0, rfl, Nat.zero_le _, rfl, Lib.hid (fun q h => by omega), rfl⟩
    case round =>
      obtain ⟨k, rfl, hk, rfl, hO, rfl⟩ := hrel
      by_cases hlt : k < cs.length
      · obtain ⟨ad, rfl, hc⟩ := rd_int hS k hlt
        have hki : (k : Int) < (cs.length : Int) := by omega
        have hcl := coinsK_len cs k
        have hck := coinsK_succ_len cs k
        obtain ⟨q, hq⟩ : ∃ q, (coinsK cs k).length = q := ⟨_, rfl⟩
        rw [hq] at hcl hck ⊢
        have hwq : IntKind.i64.wrap ((q : Int) + 1) = (q : Int) + 1 := IntWalk.i64_in _ (by omega)
        by_cases h1 : nth 0 cs k < 0
        · have e1 : decide (nth 0 cs k < 0) = true := decide_eq_true h1
          clear h1 hck
          go_wp2
          go_ret2
          exact ⟨rfl, Below.refl _ _⟩
        · have e1 : decide (nth 0 cs k < 0) = false := decide_eq_false h1
          by_cases h2 : 1073741824 < nth 0 cs k
          · have e2 : decide (1073741824 < nth 0 cs k) = true := decide_eq_true h2
            clear h1 h2 hck
            go_wp2
            go_ret2
            exact ⟨rfl, Below.refl _ _⟩
          · have e2 : decide (1073741824 < nth 0 cs k) = false := decide_eq_false h2
            have HO2 := Lib.hid (show ∀ q, q < k + 1 → badCount (nth 0 cs q) = false from fun q hq => by
              rcases Nat.lt_or_ge q k with h | h
              · exact hO.out q h
              · obtain rfl : q = k := by omega
                simp [badCount, e1, e2])
            by_cases h3 : 0 < nth 0 cs k
            · have e3 : decide (0 < nth 0 cs k) = true := decide_eq_true h3
              rw [if_pos h3] at hck
              have HCK := Lib.hid hck
              clear h1 h2 h3 hck hq hcl
              go_wp2
              go_roundw
              case rel => exact ⟨k + 1, by go_num, by omega, by rw [HCK.out]; go_num, HO2, trivial⟩
              case measure => simp [intOf]; omega
            · have e3 : decide (0 < nth 0 cs k) = false := decide_eq_false h3
              rw [if_neg h3] at hck
              have HCK := Lib.hid hck
              clear h1 h2 h3 hck hq hcl
              go_wp2
              go_roundw
              case rel => exact ⟨k + 1, by go_num, by omega, by rw [HCK.out], HO2, trivial⟩
              case measure => simp [intOf]; omega
      · obtain rfl : k = cs.length := by omega
        have h1 := countsB_of h256 hO.out
        rw [HCB.out] at h1
        cases h1
end Go.Proofs.YtciknejchglmoaaDoor

namespace Go.Proofs.YtciknejchglmoaaDoor
open Go.RowKit

set_option maxHeartbeats 8000000 in
set_option maxRecDepth 100000 in
theorem rlengths_any (A : Option Addr) (c : Nat) (cs : List Int) (most : Nat) (w : World) (hS : RI w A c cs) (hc : countsB cs = true) (h1 : 1 ≤ most) (h16 : most ≤ 16) :
    Calls Tryd.prog 91 #[.slice A cs.length c, .int .i64 (most : Int)] w fun e w' => ∃ v, e = .returned (.tuple #[v, .int .i64 (lengthsE cs most)]) ∧ OwnI 3 .i64 w.heap.size w' v (lengthsV cs most) ∧ Below w.heap.size w w' := by
  obtain ⟨h256, hbd⟩ := counts_bound hc
  have HB := Lib.hid (nth_bound hbd (by decide))
  have HS := Lib.hid hS
  have hcB := Lib.hid hc
  have d0 : decide ((256 : Int) < (cs.length : Int)) = false := decide_eq_false (by omega)
  have d1 : decide ((most : Int) < 1) = false := decide_eq_false (by omega)
  have d2 : decide ((16 : Int) < (most : Int)) = false := decide_eq_false (by omega)
  have hmk := make_row (P := Tryd.prog) 25 3 .i64 8 Tryd.underlying25 infoI (by decide) cs.length (by omega)
  have HMK := Lib.hid hmk
  have HM := Lib.hid (show 1 ≤ most ∧ most ≤ 16 from ⟨h1, h16⟩)
  clear hS hc hbd hmk
  go_enter Tryd.func91, Tryd.ntmps91
  go_wp2
  go_loopw [6, 37] (fun nv iv wr => ∃ k : Nat, iv = .int .i64 (k : Int) ∧ k ≤ cs.length ∧ nv = .int .i64 ((coinsK cs k).length : Int) ∧ w = wr) (fun _ iv _ => cs.length - (intOf iv).toNat)
  case atStart => exact ⟨0, rfl, Nat.zero_le _, rfl, rfl⟩
  case round =>
    obtain ⟨k, rfl, hk, rfl, rfl⟩ := hrel
    by_cases hlt : k < cs.length
    · obtain ⟨ad, rfl, hc⟩ := rd_int HS.out k hlt
      have hki : (k : Int) < (cs.length : Int) := by omega
      have hcl := coinsK_len cs k
      have hck := coinsK_succ_len cs k
      have hbk := HB.out k
      obtain ⟨q, hq⟩ : ∃ q, (coinsK cs k).length = q := ⟨_, rfl⟩
      rw [hq] at hcl hck ⊢
      have hwq : IntKind.i64.wrap ((q : Int) + 1) = (q : Int) + 1 := IntWalk.i64_in _ (by omega)
      have e1 : decide (nth 0 cs k < 0) = false := decide_eq_false (by omega)
      have e2 : decide (1073741824 < nth 0 cs k) = false := decide_eq_false (by omega)
      by_cases h3 : 0 < nth 0 cs k
      · have e3 : decide (0 < nth 0 cs k) = true := decide_eq_true h3
        rw [if_pos h3] at hck
        have HCK := Lib.hid hck
        clear h3 hck hq hcl hbk
        go_wp2
        go_roundw
        case rel => exact ⟨k + 1, by go_num, by omega, by rw [HCK.out]; go_num, trivial⟩
        case measure => simp [intOf]; omega
      · have e3 : decide (0 < nth 0 cs k) = false := decide_eq_false h3
        rw [if_neg h3] at hck
        have HCK := Lib.hid hck
        clear h3 hck hq hcl hbk
        go_wp2
        go_roundw
        case rel => exact ⟨k + 1, by go_num, by omega, by rw [HCK.out], trivial⟩
        case measure => simp [intOf]; omega
    · obtain rfl : k = cs.length := by omega
      obtain ⟨n, hn⟩ : ∃ n, (coinsK cs cs.length).length = n := ⟨_, rfl⟩
      have hnl := coinsK_len cs cs.length
      obtain ⟨Q, hQ⟩ : ∃ Q : Nat, 2 ^ most = Q := ⟨_, rfl⟩
      have hQ6 : Q ≤ 65536 := by rw [← hQ]; have := Nat.pow_le_pow_right (n := 2) (by decide) h16; simpa using this
      have hwq : IntKind.i64.wrap ((2 : Int) ^ most) = (Q : Int) := by rw [show (2 : Int) ^ most = (Q : Int) by rw [← hQ]; simp]; exact IntWalk.i64_in _ (by omega)
      have HQ := Lib.hid (show 2 ^ most = Q from hQ)
      have HE := Lib.hid (show lengthsE cs most = if n = 0 then 5 else if Q < n then 2 else 0 by
        unfold lengthsE
        rw [if_neg (by rw [hcB.out]; simp; omega), hn, Int.toNat_natCast, hQ])
      have HN := Lib.hid hn
      have HV0 := Lib.hid (show lengthsE cs most ≠ 0 → lengthsV cs most = [] from fun h => by unfold lengthsV; rw [if_pos h])
      rw [hn] at hnl ⊢
      clear hn hQ
      by_cases h0 : n = 0
      · have h0b : ((n : Int) == 0) = true := by simp [h0]
        have HX := Lib.hid h0
        clear h0
        go_wp2
        go_ret2
        exact ⟨_, ret_two rfl (by rw [HE.out, if_pos HX.out]; rfl), by rw [HV0.out (by rw [HE.out, if_pos HX.out]; decide)]; exact OwnI.nil _ _ _ _, Below.refl _ _⟩
      · have h0b : ((n : Int) == 0) = false := by simpa using h0
        by_cases hbig : Q < n
        · have hd3 : decide (Q < n) = true := decide_eq_true hbig
          have hd4 : decide ((Q : Int) < (n : Int)) = true := decide_eq_true (by omega)
          have HX := Lib.hid (show n ≠ 0 ∧ Q < n from ⟨h0, hbig⟩)
          clear h0 hbig
          go_wp2
          go_ret2
          exact ⟨_, ret_two rfl (by rw [HE.out, if_neg HX.out.1, if_pos HX.out.2]; rfl), by rw [HV0.out (by rw [HE.out, if_neg HX.out.1, if_pos HX.out.2]; decide)]; exact OwnI.nil _ _ _ _, Below.refl _ _⟩
        · have hd3 : decide (Q < n) = false := decide_eq_false hbig
          have hd4 : decide ((Q : Int) < (n : Int)) = false := decide_eq_false (by omega)
          have hE0 : lengthsE cs most = 0 := by rw [HE.out, if_neg h0, if_neg hbig]
          have HE0 := Lib.hid hE0
          have HIN := Lib.hid (show LenIn cs most from ⟨hcB.out, h1, h16, by rw [sortedC_length, HN.out]; omega, by rw [sortedC_length, HN.out, HQ.out]; omega⟩)
          have HNX := Lib.hid (show 1 ≤ n ∧ n ≤ 256 from ⟨by omega, by omega⟩)
          clear HE HV0 hE0 hbig h0 hQ6
          go_wp2
          go_loopw [9, 60] (fun ov iv wr => ∃ k : Nat, iv = .int .i64 (k : Int) ∧ k ≤ cs.length ∧ Hid (OwnI 3 .i64 w.heap.size wr ov (ordI cs k)) ∧ Hid (Below w.heap.size w wr)) (fun _ iv _ => cs.length - (intOf iv).toNat)
          case atStart => exact ⟨0, rfl, Nat.zero_le _, Lib.hid (OwnI.nil _ _ _ _), Lib.hid (Below.refl _ _)⟩
          case round =>
            obtain ⟨k, rfl, hk, hO, hB⟩ := hrel
            by_cases hlt : k < cs.length
            · obtain ⟨ad, rfl, hck⟩ := rd_int (HS.out.below hB.out) k hlt
              obtain ⟨Ao, co, rfl, hRo⟩ := own_ri hO.out
              have hki : (k : Int) < (cs.length : Int) := by omega
              have hcl := coinsK_len cs k
              obtain ⟨q, hq⟩ : ∃ q, (ordI cs k).length = q := ⟨_, rfl⟩
              have HQ2 := Lib.hid hq
              have HRO := Lib.hid hRo
              have hO2 := hO.out
              rw [hq] at hO2 ⊢
              have hO := Lib.hid hO2
              have hqk : q ≤ k := by rw [← hq, ordI_length]; exact hcl
              clear hcl hq hRo hO2
              go_wp2
              go_loopw [12] (fun pv wr2 => ∃ p : Nat, pv = .int .i64 (p : Int) ∧ p ≤ q ∧ Hid (∀ j, p ≤ j → j < q → nth 0 cs k < nth 0 cs (nth 0 (ordI cs k) j).toNat) ∧ wr = wr2) (fun pv _ => (intOf pv).toNat)
              case atStart => exact ⟨q, rfl, Nat.le_refl _, Lib.hid (fun j h1 h2 => by omega), rfl⟩
              case round =>
                obtain ⟨p, rfl, hp, hL, rfl⟩ := hrel
                by_cases hp0 : p = 0
                · have hp1 : decide ((0 : Int) < (p : Int)) = false := decide_eq_false (by omega)
                  have hp2 : decide (0 < p) = false := decide_eq_false (by omega)
                  have hp3 : Hid (p = 0) := hp0
                  clear hp0
                  by_cases h3 : 0 < nth 0 cs k
                  · have e3 : decide (0 < nth 0 cs k) = true := decide_eq_true h3
                    have hnew := ordI_hit (p := p) h3 (by rw [← ordI_length, HQ2.out]; exact hp) (.inl hp3.out) (by rw [← ordI_length, HQ2.out]; exact hL.out)
                    obtain ⟨T, hT⟩ : ∃ T, (ordI cs k).take p = T := ⟨_, rfl⟩
                    obtain ⟨D, hD⟩ : ∃ D, (ordI cs k).drop p = D := ⟨_, rfl⟩
                    have hTl : T.length = p := by rw [← hT, List.length_take, HQ2.out]; omega
                    have hDl : D.length = q - p := by rw [← hD, List.length_drop, HQ2.out]
                    obtain ⟨i0, hi0, hz0, hz1, hz2⟩ := info_parts infoI
                    obtain ⟨A3, hcut3, hsl3⟩ := cut_full (P := Tryd.prog) 25 3 Tryd.underlying25 hi0 Ao q co p hp (by have := HRO.out.le; rw [HQ2.out] at this; exact this)
                    obtain ⟨A8, hcut8, hsl8⟩ := cut_tail (P := Tryd.prog) 25 3 Tryd.underlying25 hi0 Ao q co p hp
                    have hs3 := hsl3 (kInt .i64) _ _ _ (by rw [hz1]; rfl) HQ2.out HRO.out
                    have hs8 := hsl8 (kInt .i64) _ _ _ (by rw [hz1]; rfl) HQ2.out HRO.out
                    rw [hT] at hs3 hnew
                    rw [hD] at hs8 hnew
                    rw [← hDl] at hcut8
                    subst hTl
                    have HNEW := Lib.hid hnew
                    have HS3 := Lib.hid hs3
                    have HS8 := Lib.hid hs8
                    have HDL := Lib.hid hDl
                    have HDR := Lib.hid ((Below.refl wr.heap.size wr).drew)
                    have HLEN := Lib.hid (show T.length ≤ 256 ∧ D.length ≤ 256 by have := coinsK_len cs k; omega)
                    clear hnew hs3 hs8 hDl hT hD hsl3 hsl8 h3 hL hlt hi0 hz0 hz1 hz2
                    go_wp2_with fail
                    refine wp_region_G 10 (fun _ => True) (by kernel_rfl) trivial (fun hHeld => ?_)
                    refine wpAnyG_takeL (i := 0) (.slice Ao q co) [3, 10] rfl (by kernel_rfl) (fun _ _ _ h => h) trivial (by rfl) ?_ ?_
                    · (intro W hSw; go_simp)
                    try simp only [Act.put, List.setIfInBounds_toArray, List.set_cons_zero, List.set_cons_succ]
                    refine wpAnyG_takeL (i := 1) (.int .i64 T.length) [3, 10] rfl (by kernel_rfl) (fun _ _ _ h => h) trivial (by rfl) ?_ ?_
                    · (intro W hSw; go_simp)
                    try simp only [Act.put, List.setIfInBounds_toArray, List.set_cons_zero, List.set_cons_succ]
                    refine wpAnyG_takeL (i := 2) (.int .i64 T.length) [3, 10] rfl (by kernel_rfl) (fun _ _ _ h => h) trivial (by rfl) ?_ ?_
                    · (intro W hSw; go_simp)
                    try simp only [Act.put, List.setIfInBounds_toArray, List.set_cons_zero, List.set_cons_succ]
                    refine wpAnyG_takeL (i := 3) (.slice A3 T.length T.length) [10] rfl (by kernel_rfl) (fun _ _ _ h => h) trivial (by rfl) ?_ ?_
                    · (intro W hSw; go_simp)
                    try simp only [Act.put, List.setIfInBounds_toArray, List.set_cons_zero, List.set_cons_succ]
                    refine wpAnyG_takeL (i := 4) (.int .i64 k) [5, 9, 10] rfl (by kernel_rfl) (fun _ _ _ h => h) trivial (by rfl) ?_ ?_
                    · (intro W hSw; go_simp)
                    try simp only [Act.put, List.setIfInBounds_toArray, List.set_cons_zero, List.set_cons_succ]
                    refine wpAnyG_takeL (i := 6) (.slice Ao q co) [8, 9, 10] rfl (by kernel_rfl) (fun _ _ _ h => h) trivial (by rfl) ?_ ?_
                    · (intro W hSw; go_simp)
                    try simp only [Act.put, List.setIfInBounds_toArray, List.set_cons_zero, List.set_cons_succ]
                    refine wpAnyG_takeL (i := 7) (.int .i64 T.length) [8, 9, 10] rfl (by kernel_rfl) (fun _ _ _ h => h) trivial (by rfl) ?_ ?_
                    · (intro W hSw; go_simp)
                    try simp only [Act.put, List.setIfInBounds_toArray, List.set_cons_zero, List.set_cons_succ]
                    refine wpAnyG_takeL (i := 8) (.slice A8 D.length (co - T.length)) [9, 10] rfl (by kernel_rfl) (fun _ _ _ h => h) trivial (by rfl) ?_ ?_
                    · (intro W hSw; go_simp)
                    try simp only [Act.put, List.setIfInBounds_toArray, List.set_cons_zero, List.set_cons_succ]
                    refine wpAnyG_oneL (i := 5) (by kernel_rfl) rfl (fun K hK => ?_)
                    go_simp
                    refine hK.out _ _ (fun _ => trivial) ?_
                    clear hK K
                    try simp only [Act.put, List.setIfInBounds_toArray, List.set_cons_zero, List.set_cons_succ]
                    have HB1 := Lib.hid (below_alloc HDR.out (.cells #[.int .i64 k] 3))
                    have HO1 := Lib.hid (own_lit wr.drew 3 .i64 [(k : Int)] (by simp))
                    refine wpAnyG_oneL (i := 9) (by kernel_rfl) rfl (fun K hK => ?_)
                    refine step_append_row (W := wr.drew.alloc (.cells #[.int .i64 k] 3)) wr.heap.size rfl (.tmp 90) (.tmp 93) 25 3 .i64 8 rfl Tryd.underlying25 infoI (by decide) _ [(k : Int)] D A8 (co - T.length) rfl rfl HO1.out (HS8.out.below HB1.out) HB1.out.size (by have := HLEN.out; simp; omega) ?_
                    intro v9 w9 hO9 hg9 _
                    have HB9 := Lib.hid (HB1.out.grown hg9 HB1.out.size HO1.out.base_le)
                    have HO9 := Lib.hid hO9
                    clear hO9 hg9
                    refine hK.out _ _ (fun _ => trivial) ?_
                    clear hK K
                    try simp only [Act.put, List.setIfInBounds_toArray, List.set_cons_zero, List.set_cons_succ]
                    obtain ⟨A9, c9, rfl, hs9⟩ := own_ri HO9.out
                    have HS9 := Lib.hid hs9
                    clear hs9
                    refine wpAnyG_oneL (i := 10) (by kernel_rfl) rfl (fun K hK => ?_)
                    refine step_append_full (W := w9) rfl (.tmp 88) (.tmp 94) 25 3 .i64 8 rfl Tryd.underlying25 infoI (by decide) A3 T A9 c9 ([(k : Int)] ++ D) rfl rfl (HS3.out.below HB9.out) HS9.out (by simp) (by have := HLEN.out; simp; omega) ?_
                    intro v10 w10 hO10 hb10
                    have HO10 := Lib.hid (hO10.mono (b' := w.heap.size) (by have := hB.out.size; have := HB9.out.size; omega))
                    have HB10 := Lib.hid (below2 (below2 hB.out HB9.out) hb10)
                    clear hO10 hb10
                    refine hK.out _ _ (fun h => trivial) ?_
                    clear hK K
                    try simp only [Act.put, List.setIfInBounds_toArray, List.set_cons_zero, List.set_cons_succ]
                    refine wpAnyG_oneL (i := 11) (by kernel_rfl) rfl (fun K hK => ?_)
                    go_simp
                    refine hK.out _ _ (fun h => trivial) ?_
                    clear hK K
                    try simp only [Act.put, List.setIfInBounds_toArray, List.set_cons_zero, List.set_cons_succ]
                    refine wpAnyG_done (by kernel_rfl) ?_ _
                    go_wp2
                    go_roundw
                    case rel => exact ⟨k + 1, by go_num, by omega, Lib.hid (by rw [HNEW.out]; exact HO10.out), HB10⟩
                    case measure => simp [intOf]; omega
                  · have e3 : decide (0 < nth 0 cs k) = false := decide_eq_false h3
                    have HNEW := Lib.hid (ordI_miss h3)
                    clear h3 hL
                    go_wp2
                    go_roundw
                    case rel => exact ⟨k + 1, by go_num, by omega, by rw [HNEW.out]; exact hO, hB⟩
                    case measure => simp [intOf]; omega
                · obtain ⟨pm, hpm⟩ : ∃ pm, p = pm + 1 := ⟨p - 1, by omega⟩
                  have hpq : pm < q := by omega
                  obtain ⟨ad9, e9, ho9⟩ := rd_int HRO.out pm (by rw [HQ2.out]; exact hpq)
                  obtain ⟨s, hs, hsk, hs0, _⟩ := ordI_nth (cs := cs) (k := k) (j := pm) (by rw [← ordI_length, HQ2.out]; exact hpq)
                  rw [hs] at ho9
                  obtain ⟨ads, es, hcs⟩ := rd_int (HS.out.below hB.out) s (by omega)
                  injection es with es
                  subst es
                  have hp1 : decide ((0 : Int) < (p : Int)) = true := decide_eq_true (by omega)
                  have hp2 : decide (0 < p) = true := decide_eq_true (by omega)
                  have hwp : IntKind.i64.wrap ((p : Int) - 1) = (pm : Int) := by rw [IntWalk.i64_in _ (by omega)]; omega
                  have hpi : (pm : Int) < (q : Int) := by omega
                  have hsi : (s : Int) < (cs.length : Int) := by omega
                  have HSS := Lib.hid (show nth 0 (ordI cs k) pm = (s : Int) ∧ p = pm + 1 from ⟨hs, hpm⟩)
                  by_cases h4 : nth 0 cs k < nth 0 cs s
                  · have e4 : decide (nth 0 cs k < nth 0 cs s) = true := decide_eq_true h4
                    have HL2 := Lib.hid (show ∀ j, pm ≤ j → j < q → nth 0 cs k < nth 0 cs (nth 0 (ordI cs k) j).toNat from fun j h1 h2 => by
                      rcases Nat.lt_or_ge pm j with h | h
                      · exact hL.out j (by omega) h2
                      · obtain rfl : j = pm := by omega
                        rw [hs, Int.toNat_natCast]; exact h4)
                    subst e9
                    clear h4 hp0 hs hpm
                    go_wp2
                    go_roundw
                    case rel => exact ⟨pm, rfl, by omega, HL2, trivial⟩
                    case measure => have := HSS.out.2; simp [intOf]; omega
                  · have e4 : decide (nth 0 cs k < nth 0 cs s) = false := decide_eq_false h4
                    have H4 := Lib.hid (show nth 0 cs s ≤ nth 0 cs k by omega)
                    clear h4 hp0 hs hpm
                    subst e9
                    by_cases h3 : 0 < nth 0 cs k
                    · have e3 : decide (0 < nth 0 cs k) = true := decide_eq_true h3
                      have hnew := ordI_hit (p := p) h3 (by rw [← ordI_length, HQ2.out]; exact hp) (.inr ⟨s, by have h5 := HSS.out; rw [h5.2, Nat.add_sub_cancel]; exact h5.1, H4.out⟩) (by rw [← ordI_length, HQ2.out]; exact hL.out)
                      obtain ⟨T, hT⟩ : ∃ T, (ordI cs k).take p = T := ⟨_, rfl⟩
                      obtain ⟨D, hD⟩ : ∃ D, (ordI cs k).drop p = D := ⟨_, rfl⟩
                      have hTl : T.length = p := by rw [← hT, List.length_take, HQ2.out]; omega
                      have hDl : D.length = q - p := by rw [← hD, List.length_drop, HQ2.out]
                      obtain ⟨i0, hi0, hz0, hz1, hz2⟩ := info_parts infoI
                      obtain ⟨A3, hcut3, hsl3⟩ := cut_full (P := Tryd.prog) 25 3 Tryd.underlying25 hi0 (some ad9) q co p hp (by have := HRO.out.le; rw [HQ2.out] at this; exact this)
                      obtain ⟨A8, hcut8, hsl8⟩ := cut_tail (P := Tryd.prog) 25 3 Tryd.underlying25 hi0 (some ad9) q co p hp
                      have hs3 := hsl3 (kInt .i64) _ _ _ (by rw [hz1]; rfl) HQ2.out HRO.out
                      have hs8 := hsl8 (kInt .i64) _ _ _ (by rw [hz1]; rfl) HQ2.out HRO.out
                      rw [hT] at hs3 hnew
                      rw [hD] at hs8 hnew
                      rw [← hDl] at hcut8
                      subst hTl
                      have HNEW := Lib.hid hnew
                      have HS3 := Lib.hid hs3
                      have HS8 := Lib.hid hs8
                      have HDL := Lib.hid hDl
                      have HDR := Lib.hid ((Below.refl wr.heap.size wr).drew)
                      have HLEN := Lib.hid (show T.length ≤ 256 ∧ D.length ≤ 256 by have := coinsK_len cs k; omega)
                      clear hnew hs3 hs8 hDl hT hD hsl3 hsl8 h3 hL hlt hi0 hz0 hz1 hz2
                      go_wp2_with fail
                      refine wp_region_G 10 (fun _ => True) (by kernel_rfl) trivial (fun hHeld => ?_)
                      refine wpAnyG_takeL (i := 0) (.slice (some ad9) q co) [3, 10] rfl (by kernel_rfl) (fun _ _ _ h => h) trivial (by rfl) ?_ ?_
                      · (intro W hSw; go_simp)
                      try simp only [Act.put, List.setIfInBounds_toArray, List.set_cons_zero, List.set_cons_succ]
                      refine wpAnyG_takeL (i := 1) (.int .i64 T.length) [3, 10] rfl (by kernel_rfl) (fun _ _ _ h => h) trivial (by rfl) ?_ ?_
                      · (intro W hSw; go_simp)
                      try simp only [Act.put, List.setIfInBounds_toArray, List.set_cons_zero, List.set_cons_succ]
                      refine wpAnyG_takeL (i := 2) (.int .i64 T.length) [3, 10] rfl (by kernel_rfl) (fun _ _ _ h => h) trivial (by rfl) ?_ ?_
                      · (intro W hSw; go_simp)
                      try simp only [Act.put, List.setIfInBounds_toArray, List.set_cons_zero, List.set_cons_succ]
                      refine wpAnyG_takeL (i := 3) (.slice A3 T.length T.length) [10] rfl (by kernel_rfl) (fun _ _ _ h => h) trivial (by rfl) ?_ ?_
                      · (intro W hSw; go_simp)
                      try simp only [Act.put, List.setIfInBounds_toArray, List.set_cons_zero, List.set_cons_succ]
                      refine wpAnyG_takeL (i := 4) (.int .i64 k) [5, 9, 10] rfl (by kernel_rfl) (fun _ _ _ h => h) trivial (by rfl) ?_ ?_
                      · (intro W hSw; go_simp)
                      try simp only [Act.put, List.setIfInBounds_toArray, List.set_cons_zero, List.set_cons_succ]
                      refine wpAnyG_takeL (i := 6) (.slice (some ad9) q co) [8, 9, 10] rfl (by kernel_rfl) (fun _ _ _ h => h) trivial (by rfl) ?_ ?_
                      · (intro W hSw; go_simp)
                      try simp only [Act.put, List.setIfInBounds_toArray, List.set_cons_zero, List.set_cons_succ]
                      refine wpAnyG_takeL (i := 7) (.int .i64 T.length) [8, 9, 10] rfl (by kernel_rfl) (fun _ _ _ h => h) trivial (by rfl) ?_ ?_
                      · (intro W hSw; go_simp)
                      try simp only [Act.put, List.setIfInBounds_toArray, List.set_cons_zero, List.set_cons_succ]
                      refine wpAnyG_takeL (i := 8) (.slice A8 D.length (co - T.length)) [9, 10] rfl (by kernel_rfl) (fun _ _ _ h => h) trivial (by rfl) ?_ ?_
                      · (intro W hSw; go_simp)
                      try simp only [Act.put, List.setIfInBounds_toArray, List.set_cons_zero, List.set_cons_succ]
                      refine wpAnyG_oneL (i := 5) (by kernel_rfl) rfl (fun K hK => ?_)
                      go_simp
                      refine hK.out _ _ (fun _ => trivial) ?_
                      clear hK K
                      try simp only [Act.put, List.setIfInBounds_toArray, List.set_cons_zero, List.set_cons_succ]
                      have HB1 := Lib.hid (below_alloc HDR.out (.cells #[.int .i64 k] 3))
                      have HO1 := Lib.hid (own_lit wr.drew 3 .i64 [(k : Int)] (by simp))
                      refine wpAnyG_oneL (i := 9) (by kernel_rfl) rfl (fun K hK => ?_)
                      refine step_append_row (W := wr.drew.alloc (.cells #[.int .i64 k] 3)) wr.heap.size rfl (.tmp 90) (.tmp 93) 25 3 .i64 8 rfl Tryd.underlying25 infoI (by decide) _ [(k : Int)] D A8 (co - T.length) rfl rfl HO1.out (HS8.out.below HB1.out) HB1.out.size (by have := HLEN.out; simp; omega) ?_
                      intro v9 w9 hO9 hg9 _
                      have HB9 := Lib.hid (HB1.out.grown hg9 HB1.out.size HO1.out.base_le)
                      have HO9 := Lib.hid hO9
                      clear hO9 hg9
                      refine hK.out _ _ (fun _ => trivial) ?_
                      clear hK K
                      try simp only [Act.put, List.setIfInBounds_toArray, List.set_cons_zero, List.set_cons_succ]
                      obtain ⟨A9, c9, rfl, hs9⟩ := own_ri HO9.out
                      have HS9 := Lib.hid hs9
                      clear hs9
                      refine wpAnyG_oneL (i := 10) (by kernel_rfl) rfl (fun K hK => ?_)
                      refine step_append_full (W := w9) rfl (.tmp 88) (.tmp 94) 25 3 .i64 8 rfl Tryd.underlying25 infoI (by decide) A3 T A9 c9 ([(k : Int)] ++ D) rfl rfl (HS3.out.below HB9.out) HS9.out (by simp) (by have := HLEN.out; simp; omega) ?_
                      intro v10 w10 hO10 hb10
                      have HO10 := Lib.hid (hO10.mono (b' := w.heap.size) (by have := hB.out.size; have := HB9.out.size; omega))
                      have HB10 := Lib.hid (below2 (below2 hB.out HB9.out) hb10)
                      clear hO10 hb10
                      refine hK.out _ _ (fun h => trivial) ?_
                      clear hK K
                      try simp only [Act.put, List.setIfInBounds_toArray, List.set_cons_zero, List.set_cons_succ]
                      refine wpAnyG_oneL (i := 11) (by kernel_rfl) rfl (fun K hK => ?_)
                      go_simp
                      refine hK.out _ _ (fun h => trivial) ?_
                      clear hK K
                      try simp only [Act.put, List.setIfInBounds_toArray, List.set_cons_zero, List.set_cons_succ]
                      refine wpAnyG_done (by kernel_rfl) ?_ _
                      go_wp2
                      go_roundw
                      case rel => exact ⟨k + 1, by go_num, by omega, Lib.hid (by rw [HNEW.out]; exact HO10.out), HB10⟩
                      case measure => simp [intOf]; omega
                    · have e3 : decide (0 < nth 0 cs k) = false := decide_eq_false h3
                      have HNEW := Lib.hid (ordI_miss h3)
                      clear h3 hL
                      go_wp2
                      go_roundw
                      case rel => exact ⟨k + 1, by go_num, by omega, by rw [HNEW.out]; exact hO, hB⟩
                      case measure => simp [intOf]; omega

            · obtain rfl : k = cs.length := by omega
              have hmk := HMK.out
              have hOo := own_made wr 3 .i64 cs.length (by omega)
              have hBo := below_alloc (Below.refl wr.heap.size wr) (.cells (madeCells #[.int .i64 0] cs.length) 3)
              have HOo := Lib.hid hOo
              have HBo := Lib.hid hBo
              obtain ⟨Ao, co, e, hRo⟩ := own_ri hO.out
              subst e
              have hbz := hB.out.size
              have hRo2 := hRo.below hBo
              have hol := (ordI_length cs cs.length).trans HN.out
              have HOL := Lib.hid hol
              rw [hol]
              clear hOo hBo hRo hol hO
              by_cases hn1 : n = 1
              · have hnb : ((n : Int) == 1) = true := by simp [hn1]
                obtain ⟨s, hs1, hs2, _, hs4⟩ := ordI_nth (cs := cs) (k := cs.length) (j := 0) (by rw [HN.out]; omega)
                obtain ⟨ad9, rfl, ho9⟩ := rd_int hRo2 0 (by rw [HOL.out]; omega)
                rw [hs1, add_zero] at ho9
                have HV1 := Lib.hid (lengthsV_one HE0.out (HN.out.trans hn1) hs4)
                have hsi : (s : Int) < (cs.length : Int) := by omega
                have hn0 : 0 < n := by omega
                obtain ⟨ka, kf⟩ := HOo.out.at_ s (by simp; exact hs2)
                clear hs1 hs4 hn1 hRo2
                go_wp2
                go_ret2
                have hs := HOo.out.set s (1 : Int)
                rw [World.setCell_alloc_at _ _ _ _ _ rfl] at hs
                refine ⟨_, ret_two rfl (by rw [HE0.out]; rfl), ?_, below2 hB.out (below_alloc (Below.refl _ _) _)⟩
                rw [HV1.out]
                exact hs.1.mono hbz
              · have hnb : ((n : Int) == 1) = false := by simp; omega
                have hRO2 := Lib.hid hRo2
                have HN2 := Lib.hid (show 2 ≤ n by have := HNX.out.1; omega)
                have hn256 := HNX.out.2
                clear hn1 hRo2
                go_wp2
                have hz2 : (wr.alloc (.cells (madeCells #[.int .i64 0] cs.length) 3)).heap.size = wr.heap.size + 1 := by simp
                have hBX := Lib.hid (below2 hB.out HBo.out)
                obtain ⟨G0, hG0⟩ : ∃ G0, wr.heap.size = G0 := ⟨_, rfl⟩
                generalize hw2 : wr.alloc (.cells (madeCells #[.int .i64 0] cs.length) 3) = w2 at *
                rw [hG0] at hz2 hbz HOo ⊢
                clear hw2 HBo hB HMK hmk
                go_loopw [14, 110] (fun cv iv wr => ∃ j : Nat, iv = .int .i64 (j : Int) ∧ j ≤ n ∧ Hid (OwnK kField 144 w2.heap.size (fun _ => True) wr cv ((tagC cs).take j)) ∧ Hid (Below w2.heap.size w2 wr)) (fun _ iv _ => n - (intOf iv).toNat)
                case atStart => exact ⟨0, rfl, Nat.zero_le _, Lib.hid (OwnK.nil _ _ _ _ _), Lib.hid (Below.refl _ _)⟩
                case round =>
                  obtain ⟨j, rfl, hj, hC, hB⟩ := hrel
                  by_cases hjn : j < n
                  · obtain ⟨ad9, rfl, ho9⟩ := rd_int (hRO2.out.below hB.out) j (by rw [HOL.out]; exact hjn)
                    obtain ⟨s, hs1, hs2, _, _⟩ := ordI_nth (cs := cs) (k := cs.length) (j := j) (by rw [HN.out]; exact hjn)
                    rw [hs1] at ho9
                    obtain ⟨ads, rfl, hcs⟩ := rd_int ((HS.out.below hBX.out).below hB.out) s hs2
                    have htk := take_succ_nth (0, 0) (tagC cs) j (by rw [tagC_length, sortedC_length, HN.out]; exact hjn)
                    rw [tagC_nth (by rw [HN.out]; exact hjn), hs1, Int.toNat_natCast] at htk
                    have HTK := Lib.hid htk
                    have hsi : (s : Int) < (cs.length : Int) := by omega
                    have hjni : (j : Int) < (n : Int) := by omega
                    have hlk : ((tagC cs).take j).length ≤ 256 := by rw [List.length_take]; omega
                    generalize nth 0 cs s = x at hcs HTK
                    clear htk hs1
                    go_wp2_with (at_builtin; (refine append_k (W := wr) (k := kField) w2.heap.size rfl (.tmp 114) (.tmp 121) 142 144 (.agg #[.int .i64 0, .int .i64 0]) 16 (fun _ => True) rfl Tryd.underlying142 infoRi rfl (by decide) (by decide) u14 ((tagC cs).take j) (x, (s : Int)) [.int .i64 x, .int .i64 s] rfl rfl rfl hC.out ⟨[_], [_], rfl, rfl, rfl⟩ hB.out.size (by omega) ?_); intro g9 cap9 w9 hO9 hg9 hb9 ha9; have HO9 := Lib.hid hO9; have HB9 := Lib.hid (hB.out.grown hg9 hB.out.size hC.out.base_le); clear hO9 hg9 ha9)
                    go_roundw
                    case rel => exact ⟨j + 1, by go_num, by omega, Lib.hid (by rw [HTK.out]; have := HO9.out; simpa using this), HB9⟩
                    case measure => simp [intOf]; omega
                  · obtain rfl : j = n := by omega
                    obtain ⟨Ac, cc, rfl, hcl⟩ := ownF_sl hC.out
                    have htl : (tagC cs).take j = tagC cs := List.take_of_length_le (by rw [tagC_length, sortedC_length, HN.out]; exact Nat.le_refl _)
                    have htn : (tagC cs).length = j := by rw [tagC_length, sortedC_length, HN.out]
                    rw [htl] at hcl ⊢
                    have HTN := Lib.hid htn
                    have HCL := Lib.hid hcl
                    rw [htn]
                    obtain ⟨K, hK⟩ : ∃ K, most - 1 = K := ⟨_, rfl⟩
                    have hwm : IntKind.i64.wrap ((most : Int) - 1) = (K : Int) := by rw [IntWalk.i64_in _ (by have := HM.out; omega)]; have := HM.out; omega
                    have HK := Lib.hid (show most - 1 = K ∧ K ≤ 15 ∧ most = K + 1 by have := HM.out; omega)
                    have hK15 := HK.out.2.1
                    clear hK hcl htl htn hC
                    obtain ⟨n, rfl⟩ : ∃ n, n = j := ⟨_, rfl⟩
                    have hz3 := hB.out.size
                    have hR0 : Hid (OwnK (kSl kField) 142 wr.heap.size (fun b => b ≠ G0) (wr.alloc (.cells #[.slice Ac n cc] 142)) (.slice (some ⟨wr.heap.size, 0, none⟩) 1 1) (rowsL cs 0)) := Lib.hid (by
                      rw [rowsL_zero]
                      exact own_lit1K wr _ _ (tagC cs) _ rfl ⟨Ac, cc, by rw [HTN.out], HCL.out.weak fun b hb h => ⟨by omega, by omega⟩⟩)
                    have hB0 := Lib.hid (below_alloc (Below.refl wr.heap.size wr) (.cells #[.slice Ac n cc] 142))
                    go_wp2
                    obtain ⟨w3, rfl⟩ : ∃ w3, w3 = wr := ⟨_, rfl⟩
                    go_loopw [17, 128] (fun rv iv wr => ∃ i : Nat, iv = .int .i64 (i : Int) ∧ i ≤ K ∧ Hid (OwnK (kSl kField) 142 w3.heap.size (fun b => b ≠ G0) wr rv (rowsL cs i)) ∧ Hid (Below w3.heap.size w3 wr)) (fun _ iv _ => K - (intOf iv).toNat)
                    case atStart => exact ⟨0, rfl, Nat.zero_le _, hR0, hB0⟩
                    case round =>
                      clear hR0 hB0
                      obtain ⟨i, rfl, hi, hR, hB3⟩ := hrel
                      obtain ⟨Ar, cr, rfl, hrs⟩ := hR.out.rd
                      by_cases hiK : i < K
                      · obtain ⟨ad7, A7, c7, rfl, ho7, hs7⟩ := rd_sl hrs i (by rw [rowsL_length]; omega)
                        rw [rowsL_nth (Nat.le_refl _)] at ho7 hs7
                        have hRO := hR.out
                        rw [rowsL_length] at hRO ⊢
                        have HRO := Lib.hid hRO
                        have hlen := rowR_len h256 (k := i)
                        have hlpk : (pairsR (rowR (tagC cs) i)).length ≤ 512 := by rw [pairsR_length]; omega
                        have HP := Lib.hid (rpackages_any A7 c7 (rowR (tagC cs) i) wr hs7.any (by omega) (rowR_bound hcB.out (by omega)))
                        have hz4 := hB3.out.size
                        have HCW := Lib.hid ((HCL.out.below hB3.out).any)
                        have HMg := Lib.hid (fun (Ab : Option Addr) (cb : Nat) (W : World) (ha : Sl kField AnyB W Ac cc (tagC cs)) (hb : Sl kField AnyB W Ab cb (pairsR (rowR (tagC cs) i))) => rmerged_any Ac Ab cc cb (tagC cs) (pairsR (rowR (tagC cs) i)) W ha hb (by have := HTN.out; omega))
                        rw [HTN.out] at HMg
                        have HSU := Lib.hid (rowsL_succ cs i)
                        have hii : (i : Int) < ((i + 1 : Nat) : Int) := by omega
                        have hii2 : (i : Int) < (i : Int) + 1 := by omega
                        clear hs7 hrs hRO hlen
                        go_wp2_with (first
                          | (go_at_call 110; refine HP.out.mono ?_; rintro e w5 ⟨v5, rfl, hO5, hb5⟩; obtain ⟨A5, c5, rfl, hs5⟩ := ownF_sl hO5; have HS5 := Lib.hid hs5.any; have HB5 := Lib.hid hb5; clear hO5 hs5 hb5)
                          | (go_at_call 109; refine (HMg.out A5 c5 _ (HCW.out.below HB5.out) HS5.out).mono ?_; rintro e w6 ⟨v6, rfl, hO6, hb6⟩; obtain ⟨A6, c6, rfl, hs6⟩ := ownF_sl hO6; have HS6 := Lib.hid hs6; have HB6 := Lib.hid (below2 HB5.out hb6); clear hO6 hs6 hb6)
                          | (at_builtin; (refine append_k (W := w6) (k := kSl kField) w3.heap.size rfl (.tmp 131) (.tmp 139) 145 142 (.slice none 0 0) 24 (fun b => b ≠ G0) rfl Tryd.underlying145 infoRr rfl (by decide) (by decide) (.slice (some ad7) (i + 1) cr) (rowsL cs i) (mergeR (tagC cs) (pairsR (rowR (tagC cs) i))) [.slice A6 (mergeR (tagC cs) (pairsR (rowR (tagC cs) i))).length c6] rfl rfl rfl (HRO.out.below HB6.out) ⟨A6, c6, rfl, HS6.out.weak fun b hb h => ⟨by have := HB5.out.size; omega, fun e => by have := (HRO.out.lt b e).2; have := HB5.out.size; omega⟩⟩ (by have := HB6.out.size; omega) (by rw [rowsL_length]; omega) ?_); intro g9 cap9 w9 hO9 hg9 hb9 ha9; have HO9 := Lib.hid hO9; have HB9 := Lib.hid ((hB3.out.trans (HB6.out.mono hz4)).grown hg9 (by have := HB6.out.size; omega) HRO.out.base_le); clear hO9 hg9 ha9))
                        go_roundw
                        case rel => exact ⟨i + 1, by go_num, by omega, Lib.hid (by rw [HSU.out]; exact HO9.out), HB9⟩
                        case measure => simp [intOf]; omega
                      · obtain rfl : i = K := by omega
                        obtain ⟨K, rfl⟩ : ∃ K, K = i := ⟨_, rfl⟩
                        have hrs2 := Lib.hid (show Sl (kSl kField) (fun b => b ≠ G0) wr Ar cr (rowsL cs K) from hrs.weak fun b _ h => h.elim id (fun h => by have := hR.out.base_le b h; omega))
                        rw [rowsL_length]
                        have HO3 := Lib.hid ((HOo.out.below hB.out).below hB3.out)
                        have HBW := Lib.hid (below2 (below2 hBX.out hB.out) hB3.out)
                        have hgz : G0 < wr.heap.size := by have := hB3.out.size; omega
                        have hSn : (sortedC cs).length = n := (sortedC_length cs).trans HN.out
                        have HSN := Lib.hid hSn
                        have hfit : 2 * n - 2 ≤ (rowI (sortedC cs) K).length := by
                          have h9 := row_fits (coins := sortedC cs) (k := K) (by rw [← HK.out.2.2]; exact HIN.out.fit)
                          rw [hSn] at h9; exact h9
                        have hps : psL cs most = lens (sortedC cs) K (2 * n - 2) := by
                          unfold psL
                          rw [if_neg (by rw [hSn]; have := HN2.out; omega), HK.out.1, hSn]
                        obtain ⟨M, hM⟩ : ∃ M, 2 * n - 2 = M := ⟨_, rfl⟩
                        rw [hM] at hfit hps
                        have hwm2 : IntKind.i64.wrap (2 * (n : Int)) = 2 * (n : Int) := IntWalk.i64_in _ (by omega)
                        have hwm3 : IntKind.i64.wrap (2 * (n : Int) - 2) = (M : Int) := by rw [IntWalk.i64_in _ (by omega)]; have := HN2.out; omega
                        have HFIT := Lib.hid hfit
                        have HPS := Lib.hid (show outT cs (lens (sortedC cs) K M) = lengthsV cs most by rw [← hps]; exact outT_all HE0.out HIN.out)
                        have hgw : w.heap.size ≤ G0 := hbz
                        clear hrs hR hB3 hM hfit hps hSn
                        go_wp2
                        obtain ⟨w4, rfl⟩ : ∃ w4, w4 = wr := ⟨_, rfl⟩
                        go_loopw [19, 20] (fun fv iv wr => ∃ (j m : Nat) (ps : List Nat) (z : Int), iv = .int .i64 z ∧ z = (j : Int) - 1 ∧ fv = .int .i64 (m : Int) ∧ j ≤ K + 1 ∧ Hid (OwnI 3 .i64 G0 wr (.slice (some ⟨G0, 0, none⟩) cs.length cs.length) (outT cs ps)) ∧ Hid (lens (sortedC cs) K M = ps ++ (if j = 0 then [] else lens (sortedC cs) (j - 1) m)) ∧ Hid (j ≠ 0 → m ≤ (rowI (sortedC cs) (j - 1)).length) ∧ Hid (Sl (kSl kField) (fun b => b ≠ G0) wr Ar cr (rowsL cs K)) ∧ Hid (Below w.heap.size w wr) ∧ G0 < wr.heap.size) (fun _ iv _ => (intOf iv + 1).toNat)
                        case atStart => exact ⟨K + 1, M, [], K, rfl, by omega, rfl, Nat.le_refl _, Lib.hid (by rw [outT_nil]; exact HO3.out), Lib.hid (by rw [if_neg (by omega)]; rfl), Lib.hid (fun _ => HFIT.out), hrs2, HBW, hgz⟩
                        case round =>
                          clear HO3 hrs2 HBW hgz
                          obtain ⟨j, m, ps, z, rfl, hz, rfl, hj, hO, hL, hm, hR, hB4, hgz⟩ := hrel
                          by_cases hj0 : j = 0
                          · have hd : decide ((0 : Int) ≤ z) = false := decide_eq_false (by omega)
                            have hL2 : lens (sortedC cs) K M = ps := by have := hL.out; rw [if_pos hj0] at this; rw [this, List.append_nil]
                            have HL2 := Lib.hid hL2
                            clear hz hj0 hL2
                            go_wp2
                            go_ret2
                            exact ⟨_, ret_two rfl (by rw [HE0.out]; rfl), by rw [← HPS.out, HL2.out]; exact hO.out.mono hgw, hB4.out⟩
                          · obtain ⟨i, rfl⟩ : ∃ i, j = i + 1 := ⟨j - 1, by omega⟩
                            obtain rfl : z = (i : Int) := by omega
                            have hm2 : m ≤ (rowI (sortedC cs) i).length := hm.out (by omega)
                            have hd : decide ((0 : Int) ≤ (i : Int)) = true := decide_eq_true (by omega)
                            obtain ⟨ad7, A7, c7, rfl, ho7, hs7⟩ := rd_sl hR.out i (by rw [rowsL_length]; omega)
                            rw [rowsL_nth (by omega)] at ho7 hs7
                            have hrl : (rowR (tagC cs) i).length = (rowI (sortedC cs) i).length := rowR_length cs i
                            have hrl5 := rowR_len h256 (k := i)
                            obtain ⟨p, hp1, hp2, hp3⟩ := level_step hm2
                            obtain ⟨L, hLe⟩ : ∃ L, (rowR (tagC cs) i).take m = L := ⟨_, rfl⟩
                            have hLl : L.length = m := by rw [← hLe, List.length_take]; omega
                            have hLs : ∀ x ∈ L, ¬ x.2 < 0 → ∃ s : Nat, x.2 = (s : Int) ∧ s < cs.length := fun x hx h => item_sym (List.mem_of_mem_take (by rw [hLe]; exact hx)) h
                            have hsL := hs7.le
                            have hSL : Sl kField (fun b => b ≠ G0) wr A7 c7 L := ⟨by omega, hs7.cap, by rw [← hLe]; exact hs7.rd.take m⟩
                            rw [hLe] at hp1 hp2 hp3
                            have HP1 := Lib.hid hp1
                            have HP2 := Lib.hid hp2
                            have HP3 := Lib.hid hp3
                            have HLL := Lib.hid hLl
                            have HLS := Lib.hid hLs
                            have HSL := Lib.hid hSL
                            have hm512 : m ≤ 512 := by omega
                            have hlps : ps.length ≤ 16 := by
                              have h9 := congrArg List.length hL.out
                              rw [lens_length, List.length_append] at h9; omega
                            have hmc : m ≤ c7 := by omega
                            have hii : (i : Int) < ((K + 1 : Nat) : Int) := by omega
                            have hii2 : (i : Int) < (K : Int) + 1 := by omega
                            have hi0 : (0 : Int) ≤ (i : Int) := by omega
                            have hmi : (m : Int) ≤ (c7 : Int) := by omega
                            obtain ⟨rl, hrle⟩ : ∃ rl, (rowR (tagC cs) i).length = rl := ⟨_, rfl⟩
                            rw [hrle] at ho7
                            have hwi : IntKind.i64.wrap ((i : Int) - 1) = (i : Int) - 1 := IntWalk.i64_in _ (by omega)
                            clear hm2 hs7 hrl hrl5 hp1 hp2 hp3 hLe hLl hLs hsL hSL hrle hz hj0 hm
                            go_wp2
                            obtain ⟨w5, rfl⟩ : ∃ w5, w5 = wr := ⟨_, rfl⟩
                            have hgz5 := hgz
                            go_loopw [21, 158] (fun kv iv wr => ∃ q : Nat, iv = .int .i64 (q : Int) ∧ q ≤ m ∧ kv = .int .i64 (packsIn (L.take q) : Int) ∧ Hid (OwnI 3 .i64 G0 wr (.slice (some ⟨G0, 0, none⟩) cs.length cs.length) (outU cs ps (L.take q))) ∧ Hid (Sl kField (fun b => b ≠ G0) wr A7 c7 L) ∧ Hid (Sl (kSl kField) (fun b => b ≠ G0) wr (some ad7) cr (rowsL cs K)) ∧ Hid (Below w.heap.size w wr) ∧ G0 < wr.heap.size) (fun _ iv _ => m - (intOf iv).toNat)
                            case atStart => exact ⟨0, rfl, Nat.zero_le _, rfl, Lib.hid (by rw [List.take_zero, outU_nil]; exact hO.out), HSL, hR, hB4, hgz⟩
                            case round =>
                              clear hO hR hB4 hgz HSL ho7
                              obtain ⟨q, rfl, hq, rfl, hO, hSL, hR, hB4, hgz⟩ := hrel
                              by_cases hqm : q < m
                              · obtain ⟨ad8, rfl, x0, x1⟩ := rd_field hSL.out q (by rw [HLL.out]; exact hqm)
                                have htk := take_succ_nth (0, 0) L q (by rw [HLL.out]; exact hqm)
                                have hsym := HLS.out _ (nth_mem (0, 0) L q (by rw [HLL.out]; exact hqm))
                                obtain ⟨⟨xw, xs⟩, hxe⟩ : ∃ x, nth (0, 0) L q = x := ⟨_, rfl⟩
                                rw [hxe] at x0 x1 htk hsym
                                have hpk := packsIn_snoc (L.take q) (xw, xs)
                                rw [← htk] at hpk
                                have hpl := packsIn_le (L.take q)
                                rw [List.length_take] at hpl
                                obtain ⟨pk, hpke⟩ : ∃ pk, packsIn (L.take q) = pk := ⟨_, rfl⟩
                                rw [hpke] at hpk hpl ⊢
                                have hwk : IntKind.i64.wrap ((pk : Int) + 1) = (pk : Int) + 1 := IntWalk.i64_in _ (by omega)
                                have hqi : (q : Int) < (m : Int) := by omega
                                have hwq : IntKind.i64.wrap ((q : Int) + 1) = (q : Int) + 1 := IntWalk.i64_in _ (by omega)
                                have HTK := Lib.hid htk
                                have HBA := Lib.hid (below_alloc (Below.refl wr.heap.size wr) (.cells #[.int .i64 xw, .int .i64 xs] 144))
                                have hO2 := hO.out.below HBA.out
                                by_cases hx : xs < 0
                                · have hxb : decide (xs < 0) = true := decide_eq_true hx
                                  have hun := outU_pack (cs := cs) (ps := ps) (l := L.take q) (x := (xw, xs)) hx
                                  rw [← htk] at hun
                                  rw [if_pos (show ((xw, xs) : Int × Int).2 < 0 from hx)] at hpk
                                  have HUN := Lib.hid hun
                                  have HPK := Lib.hid hpk
                                  have HO2 := Lib.hid hO2
                                  clear hx hun hpk htk hsym hxe hpl hpke hO2
                                  go_wp2
                                  go_roundw
                                  case rel => exact ⟨q + 1, by go_num, by omega, by rw [HPK.out]; go_num, Lib.hid (by rw [HUN.out]; exact HO2.out), Lib.hid (hSL.out.below HBA.out), Lib.hid (hR.out.below HBA.out), Lib.hid (below2 hB4.out HBA.out), by have := HBA.out.size; omega⟩
                                  case measure => simp [intOf]; omega
                                · have hxb : decide (xs < 0) = false := decide_eq_false hx
                                  obtain ⟨s, hs, hsl⟩ := hsym (by first | exact hx | (show (0 : Int) ≤ xs; omega))
                                  have hs : xs = (s : Int) := hs
                                  subst hs
                                  obtain ⟨ka, kf⟩ := hO2.at_ s (by rw [outU_length]; exact hsl)
                                  have hval := outU_nth (cs := cs) (ps := ps) (l := L.take q) hsl
                                  have hb1 := count_sum_le cs s ps
                                  have hb2 := coinsIn_le s (L.take q)
                                  rw [List.length_take] at hb2
                                  have hb3 : ps.length * (sortedC cs).length ≤ 16 * 256 := Nat.mul_le_mul hlps (by rw [HSN.out]; exact hn256)
                                  have hun := outU_coin (cs := cs) (ps := ps) (l := L.take q) (x := (xw, (s : Int))) (s := s) rfl hsl
                                  rw [← htk] at hun
                                  rw [if_neg (show ¬ ((xw, (s : Int)) : Int × Int).2 < 0 from hx)] at hpk
                                  obtain ⟨V, hV⟩ : ∃ V, nth 0 (outU cs ps (L.take q)) s = V := ⟨_, rfl⟩
                                  rw [hV] at ka hval hun
                                  have hwV : IntKind.i64.wrap (V + 1) = V + 1 := IntWalk.i64_in _ (by omega)
                                  have hsi : (s : Int) < (cs.length : Int) := by omega
                                  have HUN := Lib.hid hun
                                  have HPK := Lib.hid hpk
                                  have HO2 := Lib.hid hO2
                                  have hG1 : wr.heap.size ≠ G0 := by omega
                                  clear hx hun hpk htk hsym hxe hpl hpke hval hb1 hb2 hb3 hV hO2
                                  go_wp2
                                  go_roundw
                                  case rel =>
                                    have hs := hO.out.set s (V + 1)
                                    have hkp : Keep (fun b => b ≠ G0) wr (wr.setCell ⟨G0, s, none⟩ (.int .i64 (V + 1))) := Keep.of_grown1 hs.2
                                    have hba := below_alloc (Below.refl (wr.setCell ⟨G0, s, none⟩ (.int .i64 (V + 1))).heap.size (wr.setCell ⟨G0, s, none⟩ (.int .i64 (V + 1)))) (.cells #[.int .i64 xw, .int .i64 (s : Int)] 144)
                                    have hbf := below2 (hB4.out.grown hs.2 hB4.out.size (fun r e => by have := Option.some.inj e; omega)) hba
                                    refine ⟨q + 1, by go_num, by omega, by rw [HPK.out]; rfl, Lib.hid ?_, Lib.hid ?_, Lib.hid ?_, Lib.hid ?_, ?_⟩
                                    · rw [← HUN.out]; exact hs.1.below hba
                                    · exact (hSL.out.keep hkp).below hba
                                    · exact (hR.out.keep hkp).below hba
                                    · exact hbf
                                    · have := hkp.size; have := hba.size; omega
                                  case measure => simp [intOf]; omega
                              · obtain rfl : q = m := by omega
                                have htl : L.take q = L := List.take_of_length_le (by rw [HLL.out]; exact Nat.le_refl _)
                                have hpl := packsIn_le L
                                rw [HLL.out] at hpl
                                rw [htl] at hO ⊢
                                have hout := outU_done (cs := cs) (ps := ps) (l := L) (p := p) HP1.out
                                rw [hout] at hO
                                have HHO := Lib.hid hO.out
                                have HLN := Lib.hid (show lens (sortedC cs) K M = (ps ++ [p]) ++ (if i = 0 then [] else lens (sortedC cs) (i - 1) (2 * packsIn L)) by
                                  have h9 := hL.out
                                  rw [if_neg (by omega), Nat.add_sub_cancel, HP2.out] at h9
                                  rw [h9]; simp)
                                obtain ⟨pk, hpke⟩ : ∃ pk, packsIn L = pk := ⟨_, rfl⟩
                                rw [hpke] at hpl HLN HP3 ⊢
                                have hw2 : IntKind.i64.wrap (2 * (pk : Int)) = 2 * (pk : Int) := IntWalk.i64_in _ (by omega)
                                clear htl hout hpke hO hL HP2
                                go_wp2
                                go_roundw
                                case rel => exact ⟨i, 2 * pk, ps ++ [p], (i : Int) - 1, rfl, rfl, by simp, by omega, HHO, HLN, HP3, hR, hB4, hgz⟩
                                case measure => simp [intOf] <;> omega
end Go.Proofs.YtciknejchglmoaaDoor

namespace Go.Proofs.YtciknejchglmoaaDoor
open Go.RowKit

theorem rlengths_all (A : Option Addr) (c : Nat) (cs : List Int) (most : Int) (w : World) (hS : RI w A c cs) :
    Calls Tryd.prog 91 #[.slice A cs.length c, .int .i64 most] w fun e w' => ∃ v, e = .returned (.tuple #[v, .int .i64 (lengthsE cs most)]) ∧ OwnI 3 .i64 w.heap.size w' v (lengthsV cs most) ∧ Below w.heap.size w w' := by
  by_cases h : countsB cs = false ∨ most < 1 ∨ 16 < most
  · refine (rlengths_no A c cs most w hS h).mono ?_
    rintro e w' ⟨rfl, hb⟩
    have e1 : lengthsE cs most = 1 := by unfold lengthsE; rw [if_pos h]
    have e2 : lengthsV cs most = [] := by unfold lengthsV; rw [if_pos (by rw [e1]; decide)]
    exact ⟨_, by rw [e1], by rw [e2]; exact OwnI.nil _ _ _ _, hb⟩
  · have h1 : countsB cs = true := by
      cases hc : countsB cs
      · exact absurd (.inl hc) h
      · rfl
    have h2 : 1 ≤ most ∧ most ≤ 16 := by omega
    obtain ⟨m, rfl⟩ : ∃ m : Nat, most = (m : Int) := ⟨most.toNat, by omega⟩
    exact rlengths_any A c cs m w hS h1 (by omega) (by omega)
end Go.Proofs.YtciknejchglmoaaDoor

namespace Go.Proofs.YtciknejchglmoaaDoor
open Go.RowKit

set_option maxHeartbeats 2000000 in
set_option maxRecDepth 100000 in
theorem putrow_any (base : Nat) (u : Value) (bs : List Bool) (v n : Nat) (w : World) (hO : OwnI 5 .u8 base w u (bitsI bs)) (hb : base ≤ w.heap.size) (hl : bs.length + n ≤ 100000000) (h64 : n ≤ 64) (hv : v ≤ 4611686018427387904) :
    Calls Tryd.prog 95 #[u, .int .i64 (v : Int), .int .i64 (n : Int)] w
      fun e w' => ∃ u', e = .returned u' ∧ OwnI 5 .u8 base w' u' (bitsI (bs ++ numB v n)) ∧ Upd (fun b => u.ownBlock = some b) w w' ∧ (u'.ownBlock = u.ownBlock ∨ ∃ b, u'.ownBlock = some b ∧ w.heap.size ≤ b) := by
  have hw1 : IntKind.i64.wrap ((n : Int) - 1) = (n : Int) - 1 := IntWalk.i64_in _ (by omega)
  have HO := Lib.hid hO
  clear hO
  go_enter Tryd.func95, Tryd.ntmps95
  go_wp2
  go_loopw [0, 7] (fun rv iv wr => ∃ (j : Nat) (z : Int), iv = .int .i64 z ∧ z = (n : Int) - 1 - (j : Int) ∧ j ≤ n ∧ Hid (OwnI 5 .u8 base wr rv (bitsI (bs ++ (numB v n).take j))) ∧ Hid (Upd (fun b => u.ownBlock = some b) w wr) ∧ Hid (rv.ownBlock = u.ownBlock ∨ ∃ b, rv.ownBlock = some b ∧ w.heap.size ≤ b)) (fun _ iv _ => (intOf iv + 1).toNat)
  case atStart => exact ⟨0, (n : Int) - 1, rfl, by omega, Nat.zero_le _, Lib.hid (by simpa using HO.out), Lib.hid (Upd.refl _ _), Lib.hid (.inl rfl)⟩
  case round =>
    clear HO
    obtain ⟨j, z, rfl, hz, hj, hO, hU, hat⟩ := hrel
    by_cases hlt : j < n
    · obtain ⟨i, hi⟩ : ∃ i : Nat, n - 1 - j = i := ⟨_, rfl⟩
      obtain rfl : z = (i : Int) := by omega
      have hd : decide ((0 : Int) ≤ (i : Int)) = true := decide_eq_true (by omega)
      have hwi : IntKind.i64.wrap ((i : Int) - 1) = (i : Int) - 1 := IntWalk.i64_in _ (by omega)
      have hi64 : i ≤ 64 := by omega
      have htk := take_succ_nth false (numB v n) j (by rw [numB_length]; exact hlt)
      rw [numB_nth v n j hlt, hi] at htk
      have hand : Go.bits .and .i64 ((v : Int) / 2 ^ i) 1 = b2i (v / 2 ^ i % 2 == 1) := by
        have e1 : (v : Int) / 2 ^ i = ((v / 2 ^ i : Nat) : Int) := by simp
        have hle : v / 2 ^ i ≤ v := Nat.div_le_self _ _
        obtain ⟨y, hy⟩ : ∃ y, v / 2 ^ i = y := ⟨_, rfl⟩
        rw [hy] at hle
        rw [e1, hy, and_one _ (by omega) (by omega), b2i_nat, bit_toNat]; simp
      obtain ⟨b, hb9⟩ : ∃ b, (v / 2 ^ i % 2 == 1) = b := ⟨_, rfl⟩
      rw [hb9] at htk hand
      have HTK := Lib.hid (show bitsI (bs ++ (numB v n).take (j + 1)) = bitsI (bs ++ (numB v n).take j) ++ [b2i b] by rw [htk]; simp [bitsI])
      have hbb := b2i_bd b
      have hcv : IntKind.u8.wrap (b2i b) = b2i b := by cases b <;> rfl
      have hcv2 : b2i b % 256 = b2i b := by cases b <;> rfl
      have hlen : (bitsI (bs ++ (numB v n).take j)).length ≤ 100000000 := by simp [bitsI, numB_length]; omega
      generalize b2i b = y at hand HTK hcv hcv2 hbb
      have hsz := hU.out.size
      have HZ := Lib.hid hz
      clear htk hb9 hlt hz hi
      go_wp2_with (at_builtin; (refine append_one (w0 := wr) base rfl (.tmp 14) (.tmp 20) 48 5 .u8 1 rfl Tryd.underlying48 infoY (by decide) u0 (bitsI (bs ++ (numB v n).take j)) y rfl rfl hO.out (Below.refl _ _) (by omega) (by omega) ?_); intro v1 w4 hO4 hB4 hg4 ha4; have HO4 := Lib.hid hO4; have HG4 := Lib.hid hg4; have HA4 := Lib.hid ha4; clear hO4 hB4 hg4 ha4)
      go_roundw
      case rel =>
        have hz := HZ.out
        refine ⟨j + 1, (i : Int) - 1, rfl, by omega, by omega, Lib.hid (by rw [HTK.out]; exact HO4.out), Lib.hid ?_, Lib.hid ?_⟩
        · refine (hU.out.trans (Upd.of_grown (o := fun b => u0.ownBlock = some b) HG4.out (fun r e => e)) fun b hb e => ?_)
          rcases hat.out with h | ⟨b2, h, h3⟩
          · rw [← h]; exact e
          · rw [h] at e; have := Option.some.inj e; omega
        · rcases HA4.out with h | ⟨b2, h, h3⟩
          · rw [h]; exact hat.out
          · exact .inr ⟨b2, h, by omega⟩
      case measure => simp [intOf] <;> omega
    · obtain rfl : j = n := by omega
      have hd : decide ((0 : Int) ≤ z) = false := decide_eq_false (by omega)
      have HT := Lib.hid (show (numB v j).take j = numB v j from List.take_of_length_le (by rw [numB_length]; exact Nat.le_refl _))
      clear hz
      go_wp2
      go_ret
      exact ⟨_, rfl, by rw [← HT.out]; exact hO.out, hU.out, hat.out⟩
end Go.Proofs.YtciknejchglmoaaDoor
