/- The law ScaleLeast: it returns true for every input, and its arguments read as before. No conditions. -/
import Derived.Test.YtkfgomhhenmmeaaKi
import Derived.StillTailTactics
import Derived.Test.YtkfgomhhenmmeaaKd
import Derived.Test.YtkfgomhhenmmeaaRows
import Derived.OpenShut
import Derived.Carry
import Derived.SizedLaws
namespace Go.Proofs.Ytkfgomhhenmmeaa
open Go.RowKit

theorem lstF_min {V : Int → Int} {xs : List Int} {x : Int} (hx : x ∈ xs) (h0 : 0 ≤ V x) : (lstF V xs).2 = true ∧ 0 ≤ V (lstF V xs).1 ∧ V (lstF V xs).1 ≤ V x := by
  suffices h : ∀ (st : Int × Bool), (st.2 = true → 0 ≤ V st.1) → ((xs.foldl (lstS V) st).2 = true → 0 ≤ V (xs.foldl (lstS V) st).1) ∧ (st.2 = true → (xs.foldl (lstS V) st).2 = true ∧ V (xs.foldl (lstS V) st).1 ≤ V st.1) ∧ (x ∈ xs → (xs.foldl (lstS V) st).2 = true ∧ V (xs.foldl (lstS V) st).1 ≤ V x) by
    have h1 := h (0, false) (fun e => by cases e)
    have h2 := h1.2.2 hx
    exact ⟨h2.1, h1.1 h2.1, h2.2⟩
  clear hx
  induction xs with
  | nil => intro st h; exact ⟨h, fun e => ⟨e, Int.le_refl _⟩, fun e => by cases e⟩
  | cons y xs ih =>
    intro st h
    rw [List.foldl_cons]
    have hst : ((lstS V st y).2 = true → 0 ≤ V (lstS V st y).1) ∧ (st.2 = true → (lstS V st y).2 = true ∧ V (lstS V st y).1 ≤ V st.1) ∧ (0 ≤ V y → (lstS V st y).2 = true ∧ V (lstS V st y).1 ≤ V y) := by
      unfold lstS
      split
      · rename_i h1
        refine ⟨fun _ => h1.1, fun e => ⟨rfl, ?_⟩, fun _ => ⟨rfl, Int.le_refl _⟩⟩
        rcases h1.2 with h2 | h2
        · rw [h2] at e; cases e
        · show V y ≤ V st.1; omega
      · rename_i h1
        refine ⟨h, fun e => ⟨e, Int.le_refl _⟩, fun h2 => ?_⟩
        cases h3 : st.2
        · exact absurd ⟨h2, .inl h3⟩ h1
        · refine ⟨rfl, ?_⟩
          have : ¬ V y < V st.1 := fun h4 => h1 ⟨h2, .inr h4⟩
          omega
    obtain ⟨i1, i2, i3⟩ := ih (lstS V st y) hst.1
    refine ⟨i1, fun e => ?_, fun e => ?_⟩
    · obtain ⟨a, b⟩ := hst.2.1 e
      obtain ⟨c, d⟩ := i2 a
      exact ⟨c, by omega⟩
    · rcases List.mem_cons.1 e with e | e
      · subst e
        obtain ⟨a, b⟩ := hst.2.2 h0
        obtain ⟨c, d⟩ := i2 a
        exact ⟨c, by omega⟩
      · exact i3 e
theorem mem_allL {x : Int} (h : 0 ≤ x ∧ x ≤ 95) : x ∈ allL := by simp only [allL, List.mem_map, List.mem_range]; exact ⟨x.toNat, by omega, by omega⟩

/-- A scale within the bounds, of a band with others behind it. -/
theorem tab_in {bs : List (Int × Int)} (hR : RtB bs) {k s : Nat} (hk : k < bs.length) (h1 : (nth (0, 0) bs k).1 ≤ (s : Int)) (h2 : (s : Int) ≤ (nth (0, 0) bs k).2) :
    (k + 1 = bs.length → nth 0 (nth [] (tabP bs) k) s = 0) ∧ (k + 1 < bs.length → nth 0 (nth [] (tabP bs) k) s = aftV (nth [] (tabP bs) (k + 1)) (s : Int) (lstF (aftV (nth [] (tabP bs) (k + 1)) (s : Int)) allL).1) := by
  have hb := hR _ (nth_mem (0, 0) bs k hk)
  rw [tabP_nth bs k hk, rowF_nth _ _ _ s (by omega)]
  unfold rowV
  rw [if_neg (by omega)]
  exact ⟨fun h => by rw [if_pos (by simp [h])], fun h => by rw [if_neg (by simp; omega)]⟩
theorem tab_out {bs : List (Int × Int)} {k s : Nat} (hk : k < bs.length) (hs : s < 96) (h : 0 ≤ nth 0 (nth [] (tabP bs) k) s) : (nth (0, 0) bs k).1 ≤ (s : Int) ∧ (s : Int) ≤ (nth (0, 0) bs k).2 := by
  rw [tabP_nth bs k hk, rowF_nth _ _ _ s hs] at h
  unfold rowV at h
  by_cases h1 : (s : Int) < (nth (0, 0) bs k).1 ∨ (nth (0, 0) bs k).2 < (s : Int)
  · rw [if_pos h1] at h; omega
  · omega
theorem tab_nonneg {bs : List (Int × Int)} (hR : RtB bs) : ∀ (d k : Nat), k + d + 1 = bs.length → ∀ s : Nat, (nth (0, 0) bs k).1 ≤ (s : Int) → (s : Int) ≤ (nth (0, 0) bs k).2 → 0 ≤ nth 0 (nth [] (tabP bs) k) s
  | 0, k, hd, s, h1, h2 => by rw [(tab_in hR (by omega) h1 h2).1 (by omega)]; exact Int.le_refl _
  | d + 1, k, hd, s, h1, h2 => by
    rw [(tab_in hR (by omega) h1 h2).2 (by omega)]
    have hb := hR _ (nth_mem (0, 0) bs (k + 1) (by omega))
    have hn := tab_nonneg hR d (k + 1) (by omega) (nth (0, 0) bs (k + 1)).1.toNat (by omega) (by omega)
    refine (lstF_min (mem_allL (x := (nth (0, 0) bs (k + 1)).1) (by omega)) ?_).2.1
    unfold aftV
    rw [if_neg (by omega)]
    omega
theorem aft_ge {bs : List (Int × Int)} (hR : RtB bs) {k : Nat} (hk : k + 1 < bs.length) {f y : Int} (h1 : (nth (0, 0) bs (k + 1)).1 ≤ y) (h2 : y ≤ (nth (0, 0) bs (k + 1)).2) : 0 ≤ aftV (nth [] (tabP bs) (k + 1)) f y ∧ aftV (nth [] (tabP bs) (k + 1)) f y = (stepL (y - f) : Int) + nth 0 (nth [] (tabP bs) (k + 1)) y.toNat := by
  have hb := hR _ (nth_mem (0, 0) bs (k + 1) hk)
  have hn := tab_nonneg hR (bs.length - (k + 2)) (k + 1) (by omega) y.toNat (by omega) (by omega)
  unfold aftV
  rw [if_neg (by omega)]
  exact ⟨by omega, rfl⟩
/-- What the program selects: within the bounds, and of the least value. -/
theorem sel_nth (T : List (List Int)) (k q : Nat) (h : q < k) : nth 0 (selP T k) q = (lstF (selV (nth [] T q) (selP T q) q) allL).1 := by
  induction k with
  | zero => omega
  | succ k ih =>
    rw [selP]
    rcases Nat.lt_or_ge q k with h1 | h1
    · rw [nth_append_left _ _ _ _ (by rw [selP_length]; exact h1)]; exact ih h1
    · obtain rfl : q = k := by omega
      rw [nth_append_right _ _ _ _ (by rw [selP_length]; exact Nat.le_refl _), selP_length, Nat.sub_self]
      simp [nth]
theorem selV_at (T : List (List Int)) (k m : Nat) (h : 0 < k) (hm : k ≤ m) : selV (nth [] T k) (selP T k) k = aftV (nth [] T k) (nth 0 (selP T m) (k - 1)) := by
  unfold selV
  rw [if_pos h, sel_nth T k (k - 1) (by omega), sel_nth T m (k - 1) (by omega)]
theorem sel_in {bs : List (Int × Int)} (hR : RtB bs) (k : Nat) (hk : k < bs.length) : ((nth (0, 0) bs k).1 ≤ nth 0 (selP (tabP bs) bs.length) k ∧ nth 0 (selP (tabP bs) bs.length) k ≤ (nth (0, 0) bs k).2) ∧
    (∀ x, (nth (0, 0) bs k).1 ≤ x → x ≤ (nth (0, 0) bs k).2 → selV (nth [] (tabP bs) k) (selP (tabP bs) k) k (nth 0 (selP (tabP bs) bs.length) k) ≤ selV (nth [] (tabP bs) k) (selP (tabP bs) k) k x) := by
  have hb := hR _ (nth_mem (0, 0) bs k hk)
  have hall := lstF_allL (selV (nth [] (tabP bs) k) (selP (tabP bs) k) k)
  have hval : ∀ x, (nth (0, 0) bs k).1 ≤ x → x ≤ (nth (0, 0) bs k).2 → 0 ≤ selV (nth [] (tabP bs) k) (selP (tabP bs) k) k x := fun x h1 h2 => by
    by_cases h0 : 0 < k
    · obtain ⟨k0, rfl⟩ : ∃ k0, k = k0 + 1 := ⟨k - 1, by omega⟩
      unfold selV
      rw [if_pos h0]
      exact (aft_ge hR hk h1 h2).1
    · unfold selV
      rw [if_neg h0]
      exact tab_nonneg hR (bs.length - (k + 1)) k (by omega) x.toNat (by omega) (by omega)
  rw [sel_nth _ _ _ hk]
  obtain ⟨m1, m2, _⟩ := lstF_min (mem_allL (x := (nth (0, 0) bs k).1) (by omega)) (hval _ (Int.le_refl _) hb.2.1)
  refine ⟨?_, fun x h1 h2 => (lstF_min (mem_allL (by omega)) (hval x h1 h2)).2.2⟩
  generalize (lstF (selV (nth [] (tabP bs) k) (selP (tabP bs) k) k) allL).1 = o at m2 hall
  have ho : 0 ≤ nth 0 (nth [] (tabP bs) k) o.toNat := by
    unfold selV at m2
    by_cases h0 : 0 < k
    · rw [if_pos h0] at m2
      unfold aftV at m2
      split at m2
      · omega
      · omega
    · rw [if_neg h0] at m2; exact m2
  have := tab_out hk (by omega) ho
  omega
/-- The sums so far, with what is still to come. -/
theorem sel_sum {bs : List (Int × Int)} (hR : RtB bs) : ∀ k, k < bs.length → ((bitsT (selP (tabP bs) bs.length) (k + 1)).length : Int) + nth 0 (nth [] (tabP bs) k) (nth 0 (selP (tabP bs) bs.length) k).toNat = 7 + nth 0 (nth [] (tabP bs) 0) (nth 0 (selP (tabP bs) bs.length) 0).toNat
  | 0, _ => by
    rw [bitsT_succ, List.length_append]
    have e : (fieldT (selP (tabP bs) bs.length) 0).length = 7 := by unfold fieldT; rw [if_pos rfl, numB_length]
    rw [e]; simp [bitsT]
  | k + 1, hk => by
    have ih := sel_sum hR k (by omega)
    have hi := (sel_in hR k (by omega)).1
    have hi2 := (sel_in hR (k + 1) hk).1
    have hb := hR _ (nth_mem (0, 0) bs k (by omega))
    rw [bitsT_succ, List.length_append]
    have e : (fieldT (selP (tabP bs) bs.length) (k + 1)).length = stepL (nth 0 (selP (tabP bs) bs.length) (k + 1) - nth 0 (selP (tabP bs) bs.length) k) := by
      unfold fieldT; rw [if_neg (by omega), stepB_length, Nat.add_sub_cancel]
    have ht := (tab_in hR (k := k) (s := (nth 0 (selP (tabP bs) bs.length) k).toNat) (by omega) (by omega) (by omega)).2 hk
    have hs := sel_nth (tabP bs) bs.length (k + 1) hk
    rw [selV_at _ (k + 1) bs.length (by omega) (by omega), Nat.add_sub_cancel] at hs
    have hc : (((nth 0 (selP (tabP bs) bs.length) k).toNat : Nat) : Int) = nth 0 (selP (tabP bs) bs.length) k := by omega
    rw [hc, ← hs, (aft_ge hR hk hi2.1 hi2.2).2] at ht
    rw [e]
    omega
theorem any_sum {bs : List (Int × Int)} (hR : RtB bs) {x : List Int} (hx : ∀ k, k < bs.length → (nth (0, 0) bs k).1 ≤ nth 0 x k ∧ nth 0 x k ≤ (nth (0, 0) bs k).2) : ∀ k, k < bs.length →
    7 + nth 0 (nth [] (tabP bs) 0) (nth 0 (selP (tabP bs) bs.length) 0).toNat ≤ ((bitsT x (k + 1)).length : Int) + nth 0 (nth [] (tabP bs) k) (nth 0 x k).toNat
  | 0, hk => by
    rw [bitsT_succ, List.length_append]
    have e : (fieldT x 0).length = 7 := by unfold fieldT; rw [if_pos rfl, numB_length]
    have h := (sel_in hR 0 hk).2 (nth 0 x 0) (hx 0 hk).1 (hx 0 hk).2
    unfold selV at h
    rw [if_neg (by omega)] at h
    rw [e]
    simp only [bitsT, List.range_zero, List.flatMap_nil, List.length_nil]
    omega
  | k + 1, hk => by
    have ih := any_sum hR hx k (by omega)
    have hi := hx k (by omega)
    have hi2 := hx (k + 1) hk
    have hb := hR _ (nth_mem (0, 0) bs k (by omega))
    have hb2 := hR _ (nth_mem (0, 0) bs (k + 1) hk)
    rw [bitsT_succ, List.length_append]
    have e : (fieldT x (k + 1)).length = stepL (nth 0 x (k + 1) - nth 0 x k) := by
      unfold fieldT; rw [if_neg (by omega), stepB_length, Nat.add_sub_cancel]
    have ht := (tab_in hR (k := k) (s := (nth 0 x k).toNat) (by omega) (by omega) (by omega)).2 hk
    have hc : (((nth 0 x k).toNat : Nat) : Int) = nth 0 x k := by omega
    rw [hc] at ht
    have hg := aft_ge hR hk (f := nth 0 x k) hi2.1 hi2.2
    have hm := (lstF_min (mem_allL (x := nth 0 x (k + 1)) (by omega)) hg.1).2.2
    rw [hg.2] at hm
    rw [e]
    omega
/-- No list within the bounds costs less. -/
theorem sel_least {bs : List (Int × Int)} (hR : RtB bs) {x : List Int} (hx : ∀ k, k < bs.length → (nth (0, 0) bs k).1 ≤ nth 0 x k ∧ nth 0 x k ≤ (nth (0, 0) bs k).2) : (bitsT (selP (tabP bs) bs.length) bs.length).length ≤ (bitsT x bs.length).length := by
  by_cases h0 : bs.length = 0
  · rw [h0]; simp [bitsT]
  · obtain ⟨k, hk⟩ : ∃ k, bs.length = k + 1 := ⟨bs.length - 1, by omega⟩
    have h1 := sel_sum hR k (by omega)
    have h2 := any_sum hR hx k (by omega)
    have hi := (sel_in hR k (by omega)).1
    have hb := hR _ (nth_mem (0, 0) bs k (by omega))
    have hi2 := hx k (by omega)
    rw [(tab_in hR (k := k) (by omega) (by omega) (by omega)).1 (by omega)] at h1
    rw [(tab_in hR (k := k) (by omega) (by omega) (by omega)).1 (by omega)] at h2
    rw [hk] at h1 h2 ⊢
    omega

/-! ### On the bands -/
theorem takK_cnt (ss : List Int) (us : List Bool) : ∀ k, (takK ss us k).length = cntU us k
  | 0 => rfl
  | k + 1 => by
    cases h : nth false us k
    · rw [takK_miss h, cntU_miss h]; exact takK_cnt ss us k
    · rw [takK_hit h, cntU_hit h, List.length_append, takK_cnt ss us k]; rfl
theorem takK_nth {ss : List Int} {us : List Bool} {i : Nat} (hu : nth false us i = true) : ∀ k, i < k → nth 0 (takK ss us k) (cntU us i) = nth 0 ss i
  | 0, h => by omega
  | k + 1, h => by
    rcases Nat.lt_or_ge i k with h1 | h1
    · have ih := takK_nth (ss := ss) hu k h1
      cases hk : nth false us k
      · rw [takK_miss hk]; exact ih
      · rw [takK_hit hk, nth_append_left _ _ _ _ (by rw [takK_cnt]; exact cntU_lt hu h1)]; exact ih
    · obtain rfl : i = k := by omega
      rw [takK_hit hu, ← takK_cnt ss us i]
      exact nth_append_last _ _
theorem cnt_onto (us : List Bool) : ∀ k q, q < cntU us k → ∃ i, i < k ∧ nth false us i = true ∧ cntU us i = q
  | 0, q, h => by simp [cntU, walkK] at h
  | k + 1, q, h => by
    cases hu : nth false us k
    · rw [cntU_miss hu] at h
      obtain ⟨i, a, b, c⟩ := cnt_onto us k q h
      exact ⟨i, by omega, b, c⟩
    · rw [cntU_hit hu] at h
      rcases Nat.lt_or_ge q (cntU us k) with h1 | h1
      · obtain ⟨i, a, b, c⟩ := cnt_onto us k q h1
        exact ⟨i, by omega, b, c⟩
      · exact ⟨k, Nat.lt_succ_self k, hu, by omega⟩
theorem costP_bitsT (ss : List Int) (us : List Bool) (n : Nat) : costP ss (walkK us n) = (bitsT (takK ss us n) (cntU us n)).length := by
  rw [← bitsP_len, (bitsP_bitsT ss us n).1, takK_cnt]
theorem takK_spr (us : List Bool) (o : List Int) : takK (sprU us o us.length) us us.length = (List.range (cntU us us.length)).map fun q => nth 0 o q := by
  apply List.ext_getElem
  · rw [takK_cnt]; simp
  · intro q h1 h2
    rw [takK_cnt] at h1
    obtain ⟨i, a, b, c⟩ := cnt_onto us us.length q h1
    have h3 := takK_nth (ss := sprU us o us.length) b us.length a
    rw [sprU_nth _ _ _ _ a, if_pos ⟨a, b⟩, c] at h3
    rw [← nth_eq 0 _ q (by rw [takK_cnt]; exact h1), h3]
    simp
theorem map_nth_self (o : List Int) : ((List.range o.length).map fun q => nth 0 o q) = o := by
  apply List.ext_getElem
  · simp
  · intro i h1 h2; simp [nth_eq 0 o i h2]
/-- What Choose chooses. -/
structure Chosen (low high : List Int) (us : List Bool) (O : List Int) : Prop where
  len : O.length = us.length
  ok : checkedE O us = 0
  inn : ∀ i, i < us.length → nth false us i = true → nth 0 low i ≤ nth 0 O i ∧ nth 0 O i ≤ nth 0 high i
  least : ∀ R : List Int, checkedE R us = 0 → (∀ i, i < us.length → nth false us i = true → nth 0 low i ≤ nth 0 R i ∧ nth 0 R i ≤ nth 0 high i) → costP O (walkK us us.length) ≤ costP R (walkK us us.length)
theorem freeB_of {ss : List Int} {us : List Bool} (h : ∀ i, i < ss.length → nth false us i = false → nth 0 ss i = 0) : freeB ss us ss.length = true := by
  refine List.all_eq_true.2 fun i hi => ?_
  have hi := List.mem_range.1 hi
  cases hu : nth false us i
  · rw [h i hi hu]; rfl
  · simp
theorem checked_of {ss : List Int} {us : List Bool} (hl : ss.length = us.length) (h128 : us.length ≤ 128) (hr : ∀ i, i < us.length → nth false us i = true → 0 ≤ nth 0 ss i ∧ nth 0 ss i ≤ 95) (h0 : ∀ i, i < us.length → nth false us i = false → nth 0 ss i = 0) : checkedE ss us = 0 := by
  unfold checkedE
  have h1 : ss.all isB = true := by
    refine List.all_eq_true.2 fun x hx => ?_
    obtain ⟨i, hi, rfl⟩ := List.getElem_of_mem hx
    rw [← nth_eq 0 ss i hi]
    refine (isB_iff _).2 ?_
    cases hu : nth false us i
    · rw [h0 i (by omega) hu]; omega
    · exact hr i (by omega) hu
  rw [if_neg (by omega), if_neg (by rw [h1]; decide), if_neg (by rw [freeB_of (fun i hi hu => h0 i (by omega) hu)]; decide)]
theorem chosen {low high : List Int} {us : List Bool} (h : chooseE low high us = 0) : Chosen low high us (chooseO low high us) := by
  have hE := h
  unfold chooseE at h
  split at h
  · cases h
  rename_i hl
  split at h
  · cases h
  rename_i h6
  split at h
  · cases h
  rename_i h5
  have h6 : isBoth low high us.length = true := by simpa using h6
  have h5 : (bndL low high (walkK us us.length)).all (fun b => decide (b.1 ≤ b.2)) = true := by
    cases hx : (bndL low high (walkK us us.length)).all (fun b => decide (b.1 ≤ b.2))
    · exact absurd hx h5
    · rfl
  obtain ⟨hR, _, hO⟩ := choose_doc (low := low) (high := high) (us := us) (by omega) (by omega) (by omega) h6 h5
  have hlen : (bndL low high (walkK us us.length)).length = cntU us us.length := by rw [bndL, List.length_map]; rfl
  have hc9 := walkK_len us us.length
  have hcl : cntU us us.length ≤ 128 := by unfold cntU; omega
  rw [sel_bou _ hR (by omega) _ (Nat.le_refl _)] at hO
  have hbs : ∀ i, i < us.length → nth false us i = true → nth (0, 0) (bndL low high (walkK us us.length)) (cntU us i) = (nth 0 low i, nth 0 high i) := fun i hi hu => by
    have hq : cntU us i < (bndL low high (walkK us us.length)).length := by rw [hlen]; exact cntU_lt hu hi
    have h1 := takK_nth (ss := low) hu us.length hi
    have h2 := takK_nth (ss := high) hu us.length hi
    rw [(bndL_taken low high us us.length).1] at h1
    rw [(bndL_taken low high us us.length).2] at h2
    have e4 : nth 0 ((bndL low high (walkK us us.length)).map Prod.fst) (cntU us i) = (nth (0, 0) (bndL low high (walkK us us.length)) (cntU us i)).1 := by simp [nth, List.getD_eq_getElem?_getD, hq]
    have e5 : nth 0 ((bndL low high (walkK us us.length)).map Prod.snd) (cntU us i) = (nth (0, 0) (bndL low high (walkK us us.length)) (cntU us i)).2 := by simp [nth, List.getD_eq_getElem?_getD, hq]
    rw [e4] at h1
    rw [e5] at h2
    exact Prod.ext h1 h2
  obtain ⟨bs, hbe⟩ : ∃ bs, bndL low high (walkK us us.length) = bs := ⟨_, rfl⟩
  rw [hbe] at hR hO hlen hbs
  have hOi : ∀ i, i < us.length → nth false us i = true → nth 0 (chooseO low high us) i = nth 0 (selP (tabP bs) bs.length) (cntU us i) := fun i hi hu => by rw [hO, sprU_nth _ _ _ _ hi, if_pos ⟨hi, hu⟩]
  have hin : ∀ i, i < us.length → nth false us i = true → nth 0 low i ≤ nth 0 (chooseO low high us) i ∧ nth 0 (chooseO low high us) i ≤ nth 0 high i := fun i hi hu => by
    have h1 := (sel_in hR (cntU us i) (by rw [hlen]; exact cntU_lt hu hi)).1
    rw [hbs i hi hu] at h1
    rw [hOi i hi hu]
    exact h1
  have hol : (chooseO low high us).length = us.length := by rw [hO, sprU_length]
  refine ⟨hol, checked_of hol (by omega) (fun i hi hu => ?_) (fun i hi hu => by rw [hO, sprU_nth _ _ _ _ hi, if_neg (by rw [hu]; simp)]), hin, fun R hRE hRin => ?_⟩
  · have := hin i hi hu
    have := isBoth_at h6 hi
    omega
  · rw [costP_bitsT, costP_bitsT, hO, takK_spr, ← hlen]
    have e : ((List.range bs.length).map fun q => nth 0 (selP (tabP bs) bs.length) q) = selP (tabP bs) bs.length := by
      have := map_nth_self (selP (tabP bs) bs.length)
      rwa [selP_length] at this
    rw [e]
    refine sel_least hR fun q hq => ?_
    obtain ⟨i, a, b, c⟩ := cnt_onto us us.length q (by rw [← hlen]; exact hq)
    have h1 := hRin i a b
    have h2 := hbs i a b
    have h3 := takK_nth (ss := R) b us.length a
    rw [c] at h2 h3
    rw [h2, h3]
    exact h1
theorem chooseE_same {low high : List Int} {us : List Bool} (h : chooseE low high us = 0) : chooseE low low us = 0 := by
  have h0 := h
  unfold chooseE at h
  split at h
  · cases h
  rename_i hl
  split at h
  · cases h
  rename_i h6
  have h6 : isBoth low high us.length = true := by simpa using h6
  unfold chooseE
  rw [if_neg (by omega), if_neg, if_neg]
  · have : (bndL low low (walkK us us.length)).all (fun b => decide (b.1 ≤ b.2)) = true := by
      refine List.all_eq_true.2 fun b hb => ?_
      simp only [bndL, List.mem_map] at hb
      obtain ⟨x, _, rfl⟩ := hb
      simp
    rw [this]; decide
  · have : isBoth low low us.length = true := by
      refine List.all_eq_true.2 fun i hi => ?_
      have h1 := List.all_eq_true.1 h6 i hi
      simp only [Bool.and_eq_true] at h1 ⊢
      exact ⟨h1.1, h1.1⟩
    rw [this]; decide
theorem choose_same {low high : List Int} {us : List Bool} (h : chooseE low high us = 0) : chooseO low low us = sprS low us us.length := by
  have hc := chosen (chooseE_same h)
  have hok := checked_ok hc.ok
  apply List.ext_getElem
  · rw [hc.len, sprS_length]
  · intro i h1 h2
    rw [sprS_length] at h2
    rw [← nth_eq 0 _ i h1, ← nth_eq 0 _ i (by rw [sprS_length]; exact h2), sprS_nth _ _ _ _ h2]
    cases hu : nth false us i
    · rw [if_neg (by simp)]
      exact freeB_at hok.2.2.2 (by rw [hc.len]; exact h2) hu
    · rw [if_pos ⟨h2, rfl⟩]
      have := hc.inn i h2 hu
      omega
end Go.Proofs.Ytkfgomhhenmmeaa

namespace Go.Proofs.Ytkfgomhhenmmeaa
open Go.RowKit

/-- The bands that are used, by some bytes. -/
def usL (os : List Int) (n : Nat) : List Bool := (List.range n).map fun i => if i < os.length then decide (0 < nth 0 os i % 4) else true
theorem usL_length (os : List Int) (n : Nat) : (usL os n).length = n := by simp [usL]
theorem usL_nth (os : List Int) (n i : Nat) (h : i < n) : nth false (usL os n) i = if i < os.length then decide (0 < nth 0 os i % 4) else true := by
  rw [nth_eq false _ i (by rw [usL_length]; exact h)]; simp [usL]
/-- Scales that are moved into the bounds. -/
def rgV (lo hi o : Int) : Int := if (if o / 2 < hi then o / 2 else hi) > lo then (if o / 2 < hi then o / 2 else hi) else lo
def rgL (low high os : List Int) (us : List Bool) : List Int := (List.range us.length).map fun i => if nth false us i = true then rgV (nth 0 low i) (nth 0 high i) (nth 0 os (i % os.length)) else 0
theorem rgL_length (low high os : List Int) (us : List Bool) : (rgL low high os us).length = us.length := by simp [rgL]
theorem rgL_nth (low high os : List Int) (us : List Bool) (i : Nat) (h : i < us.length) : nth 0 (rgL low high os us) i = if nth false us i = true then rgV (nth 0 low i) (nth 0 high i) (nth 0 os (i % os.length)) else 0 := by
  rw [nth_eq 0 _ i (by rw [rgL_length]; exact h)]; simp [rgL]
theorem rgV_in {lo hi : Int} (o : Int) (h : lo ≤ hi) : lo ≤ rgV lo hi o ∧ rgV lo hi o ≤ hi := by
  unfold rgV
  split <;> split <;> omega
theorem rg_checked {low high os : List Int} {us : List Bool} (h : chooseE low high us = 0) : checkedE (rgL low high os us) us = 0 ∧ ∀ i, i < us.length → nth false us i = true → nth 0 low i ≤ nth 0 (rgL low high os us) i ∧ nth 0 (rgL low high os us) i ≤ nth 0 high i := by
  have hc := chosen h
  have hin : ∀ i, i < us.length → nth false us i = true → nth 0 low i ≤ nth 0 (rgL low high os us) i ∧ nth 0 (rgL low high os us) i ≤ nth 0 high i := fun i hi hu => by
    rw [rgL_nth _ _ _ _ _ hi, if_pos hu]
    have := hc.inn i hi hu
    exact rgV_in _ (by omega)
  have h6 : isBoth low high us.length = true := by
    unfold chooseE at h
    split at h
    · cases h
    split at h
    · cases h
    rename_i h6
    simpa using h6
  refine ⟨checked_of (rgL_length _ _ _ _) (checked_ok hc.ok).2.1 (fun i hi hu => ?_) (fun i hi hu => by rw [rgL_nth _ _ _ _ _ hi, if_neg (by rw [hu]; simp)]), hin⟩
  have h1 := hin i hi hu
  have h2 := isBoth_at h6 hi
  omega

theorem two_step {e : TypeId} {ik : IntKind} {base : Nat} {w w1 : World} {v v1 f : Value} {ys : List Int} (hF : OwnI e ik base w f ys) (hg : w.grownBy w1 v.ownBlock) (hat : v1.ownBlock = v.ownBlock ∨ ∃ b, v1.ownBlock = some b ∧ w.heap.size ≤ b) (hD : v.ownBlock = none ∨ v.ownBlock ≠ f.ownBlock) : OwnI e ik base w1 f ys ∧ (v1.ownBlock = none ∨ v1.ownBlock ≠ f.ownBlock) := by
  refine ⟨hF.grown hg ?_, ?_⟩
  · cases hf : f.ownBlock
    · exact .inl rfl
    · rw [hf] at hD
      rcases hD with h | h
      · exact .inr (by rw [h]; simp)
      · exact .inr (Ne.symm h)
  · rcases hat with h | ⟨b, h, hb⟩
    · rw [h]; exact hD
    · rw [h]
      exact .inr fun e => by have := (hF.lt b e.symm).2; omega
theorem two_flip {a b : Option Nat} (h : a = none ∨ a ≠ b) : b = none ∨ b ≠ a := by
  cases b
  · exact .inl rfl
  · rcases h with h | h
    · subst h; exact .inr (by simp)
    · exact .inr (Ne.symm h)

set_option maxHeartbeats 8000000 in
set_option maxRecDepth 100000 in
theorem scaleLeast_walk (A0 : Option Addr) (c0 : Nat) (s0 : List Int) (A1 : Option Addr) (c1 : Nat) (s1 : List Int) (A2 : Option Addr) (c2 : Nat) (s2 : List Int) (W : World) (hR0 : RI W A0 c0 s0) (hl0 : s0.length ≤ 140737488355328) (hR1 : RI W A1 c1 s1) (hl1 : s1.length ≤ 140737488355328) (hR2 : RY W A2 c2 s2) (hb2 : ∀ x ∈ s2, 0 ≤ x ∧ x < 256) (hl2 : s2.length ≤ 140737488355328) :
    Calls Try.prog 7 #[.slice A0 s0.length c0, .slice A1 s1.length c1, .slice A2 s2.length c2] W fun e W' => e = .returned (.bool true) ∧ Below W.heap.size W W' := by
  by_cases hbad : 40 < s0.length ∨ s1.length ≠ s0.length ∨ s2.length = 0
  · have hcs : decide ((40 : Int) < (s0.length : Int)) = true ∨ (decide ((40 : Int) < (s0.length : Int)) = false ∧ ((s1.length : Int) != (s0.length : Int)) = true) ∨ (decide ((40 : Int) < (s0.length : Int)) = false ∧ ((s1.length : Int) != (s0.length : Int)) = false ∧ ((s2.length : Int) == 0) = true) := by
      by_cases h1 : 40 < s0.length
      · exact .inl (decide_eq_true (by omega))
      · by_cases h2 : s1.length = s0.length
        · exact .inr (.inr ⟨decide_eq_false (by omega), by simp [h2], by simp; rcases hbad with h | h | h; omega; omega; exact List.eq_nil_of_length_eq_zero h⟩)
        · exact .inr (.inl ⟨decide_eq_false (by omega), by simp; omega⟩)
    clear hbad
    rcases hcs with d1 | ⟨d1, d2⟩ | ⟨d1, d2, d3⟩
    all_goals
      go_enter Try.func7, Try.ntmps7
      go_wp2_with fail
      refine (awake_any _).mono ?_
      rintro e w2 ⟨rfl, b⟩
      have BX := b; clear b
      go_wp2_with fail
      go_ret
      exact ⟨rfl, BX⟩
  obtain ⟨n, hn⟩ : ∃ n, s0.length = n := ⟨_, rfl⟩
  have d1 : decide ((40 : Int) < (n : Int)) = false := decide_eq_false (by omega)
  have d2 : ((n : Int) != (n : Int)) = false := by simp
  have d3 : ((s2.length : Int) == 0) = false := by simp; intro h; exact hbad (.inr (.inr (by rw [h]; rfl)))
  have hn1 : s1.length = n := by omega
  have HN := Lib.hid (show s0.length = n ∧ s1.length = n ∧ n ≤ 40 ∧ 0 < s2.length from ⟨hn, hn1, by omega, by omega⟩)
  have HR0 := Lib.hid hR0
  have HR1 := Lib.hid hR1
  have HR2 := Lib.hid hR2
  have HB2 := Lib.hid hb2
  have HUL := Lib.hid (usL_length s2 n)
  have HUN := Lib.hid (usL_nth s2 n)
  rw [hn, hn1]
  clear hbad hR0 hR1 hR2 hb2 hn hn1 hl0 hl1
  obtain ⟨U, hU⟩ : ∃ U, usL s2 n = U := ⟨_, rfl⟩
  rw [hU] at HUL HUN
  clear hU
  go_enter Try.func7, Try.ntmps7
  go_wp2_with fail
  go_loopw [7, 46] (fun uv iv wr => ∃ (i : Nat) (A5 : Option Addr) (c5 : Nat), iv = .int .i64 (i : Int) ∧ i ≤ n ∧ i ≤ s2.length ∧ uv = .slice A5 i c5 ∧ Hid (OwnK kBool 4 W.heap.size (fun _ => False) wr (.slice A5 i c5) (U.take i)) ∧ Hid (Below W.heap.size W wr)) (fun _ iv _ => s2.length - (intOf iv).toNat)
  case atStart => exact ⟨0, none, 0, rfl, Nat.zero_le _, Nat.zero_le _, rfl, Lib.hid (OwnK.nil _ _ _ _ _), Lib.hid (Below.refl _ _)⟩
  case round =>
  obtain ⟨i, A5, c5, rfl, hi, hi2, rfl, hO, hB⟩ := hrel
  by_cases hlt : i < s2.length
  · obtain ⟨ax, rfl, hc⟩ := rd_int (HR2.out.below hB.out) i hlt
    have hii : (i : Int) < (s2.length : Int) := by omega
    by_cases hin : i = n
    · subst hin
      have hbe : ((i : Int) == (i : Int)) = true := by simp
      have hdone : i = i ∨ i = s2.length := .inl rfl
      clear hi hi2 hlt hdone
      go_wp2_with fail
      have HIN := Lib.hid (show i = i ∨ i = s2.length from .inl rfl)
      go_loopw [7] (fun uv wr => ∃ (j : Nat) (A6 : Option Addr) (c6 : Nat), uv = .slice A6 j c6 ∧ i ≤ j ∧ j ≤ i ∧ Hid (OwnK kBool 4 W.heap.size (fun _ => False) wr (.slice A6 j c6) (U.take j)) ∧ Hid (Below W.heap.size W wr)) (fun uv _ => i - lenV uv)
      case atStart => exact ⟨i, A5, c5, rfl, Nat.le_refl _, Nat.le_refl _, hO, hB⟩
      case round =>
      clear hO hB
      obtain ⟨j, A6, c6, rfl, hij, hj, hO, hB⟩ := hrel
      by_cases hlt : j < i
      · exact absurd hlt (by omega)
      obtain rfl : j = i := by omega
      have hjd : decide ((j : Int) < (j : Int)) = false := by simp
      have hUt : U.take j = U := List.take_of_length_le (by rw [HUL.out]; exact Nat.le_refl _)
      rw [hUt] at hO
      obtain ⟨A7, c7, he7, hs7⟩ := hO.out.rd
      rw [HUL.out] at he7
      injection he7 with e7 _ e8
      subst e7 e8
      have HU := Lib.hid (hs7.any)
      have HB := Lib.hid hB.out
      have HQ0 := Lib.hid (HR0.out.below hB.out)
      have HQ1 := Lib.hid (HR1.out.below hB.out)
      have HQ2 := Lib.hid (HR2.out.below hB.out)
      have hch := schoose_any A0 A1 A6 c0 c1 c6 s0 s1 U wr HQ0.out HQ1.out HU.out
      rw [HN.out.1, HN.out.2.1, HUL.out] at hch
      have HCH := Lib.hid hch
      clear hch hO hB hs7 hUt hlt hij hj HIN
      by_cases hE : chooseE s0 s1 U = 0
      · have HC := Lib.hid (chosen hE)
        have HRG := Lib.hid (rg_checked (os := s2) hE)
        have HSM := Lib.hid (choose_same hE)
        have HES := Lib.hid (chooseE_same hE)
        have HE := Lib.hid hE
        have HNV := Lib.hid (show chooseN s0 s1 U = (costP (chooseO s0 s1 U) (walkK U U.length) : Int) from by
          unfold chooseN; rw [if_pos hE]; unfold costS; rw [if_neg (by rw [HC.out.ok]; simp)])
        obtain ⟨O, hOe⟩ : ∃ O, chooseO s0 s1 U = O := ⟨_, rfl⟩
        rw [hOe] at HC HNV
        have HOE := Lib.hid hOe
        have HOL := Lib.hid (show O.length = j by rw [HC.out.len, HUL.out])
        have HCS := Lib.hid (show costS O U = ((costP O (walkK U U.length) : Int), 0) from by unfold costS; rw [if_neg (by rw [HC.out.ok]; simp)])
        obtain ⟨cN, hcN⟩ : ∃ c, costP O (walkK U U.length) = c := ⟨_, rfl⟩
        rw [hcN] at HNV HCS
        have HCN := Lib.hid hcN
        clear hE hOe hcN
        go_wp2_with fail
        refine HCH.out.mono ?_
        rintro e w2 ⟨v, rfl, hO, b⟩
        rw [HNV.out, HE.out]
        rw [HOE.out] at hO
        obtain ⟨A8, c8, rfl, hs8⟩ := own_ri hO
        rw [HOL.out]
        have HS8 := Lib.hid hs8
        have HBX := Lib.hid (below2 HB.out b)
        have HU2 := Lib.hid (HU.out.below b)
        have HP0 := Lib.hid (HQ0.out.below b)
        have HP1 := Lib.hid (HQ1.out.below b)
        have HP2 := Lib.hid (HQ2.out.below b)
        clear hO hs8 b HCH
        have hcost := scost_any A8 A6 c8 c6 O U w2 HS8.out HU2.out
        rw [HOL.out, HUL.out, HCS.out] at hcost
        have HCO := Lib.hid hcost
        clear hcost
        have hcc : ((cN : Int) != (cN : Int)) = false := by simp
        have hjj : ((j : Int) != (j : Int)) = false := by simp
        go_wp2_with fail
        refine HCO.out.mono ?_
        rintro e w3 ⟨rfl, b⟩
        have HBY := Lib.hid (below2 HBX.out b)
        have HU3 := Lib.hid (HU2.out.below b)
        have HT0 := Lib.hid (HP0.out.below b)
        have HT1 := Lib.hid (HP1.out.below b)
        have HT2 := Lib.hid (HP2.out.below b)
        have HS9 := Lib.hid (HS8.out.below b)
        have HRL := Lib.hid (show (rgL s0 s1 s2 U).length = j by rw [rgL_length, HUL.out])
        have HFL := Lib.hid (show (sprS s0 U U.length).length = j by rw [sprS_length, HUL.out])
        have HRN := Lib.hid (fun i (h : i < j) => rgL_nth s0 s1 s2 U i (by rw [HUL.out]; exact h))
        have HFN := Lib.hid (fun i (h : i < j) => show nth 0 (sprS s0 U U.length) i = if nth false U i = true then nth 0 s0 i else 0 from by
          rw [sprS_nth _ _ _ _ (by rw [HUL.out]; exact h)]
          congr 1
          apply propext
          exact ⟨fun h => h.2, fun h2 => ⟨by rw [HUL.out]; exact h, h2⟩⟩)
        obtain ⟨RG, hRG⟩ : ∃ x, rgL s0 s1 s2 U = x := ⟨_, rfl⟩
        obtain ⟨FR, hFR⟩ : ∃ x, sprS s0 U U.length = x := ⟨_, rfl⟩
        rw [hRG] at HRG HRL HRN
        rw [hFR] at HSM HFL HFN
        clear b HCO hRG hFR HS8 HU2 HP0 HP1 HP2 HBX
        go_wp2_with fail
        go_loopw [8, 9, 112] (fun rv fv iv wr => ∃ q : Nat, iv = .int .i64 (q : Int) ∧ q ≤ j ∧ Hid (OwnI 3 .i64 w3.heap.size wr rv (RG.take q)) ∧ Hid (OwnI 3 .i64 w3.heap.size wr fv (FR.take q)) ∧ Hid (rv.ownBlock = none ∨ rv.ownBlock ≠ fv.ownBlock) ∧ Hid (Below w3.heap.size w3 wr)) (fun _ _ iv _ => j - (intOf iv).toNat)
        case atStart => exact ⟨0, rfl, Nat.zero_le _, Lib.hid (OwnI.nil _ _ _ _), Lib.hid (OwnI.nil _ _ _ _), Lib.hid (.inl rfl), Lib.hid (Below.refl _ _)⟩
        case round =>
          obtain ⟨q, rfl, hq, hOR, hOF, hDI, hB4⟩ := hrel
          by_cases hlt : q < j
          · obtain ⟨ad, rfl, hcu⟩ := rd_bool (HU3.out.below hB4.out) q (by rw [HUL.out]; exact hlt)
            have hqi : (q : Int) < (j : Int) := by omega
            have HTR := Lib.hid (take_succ_nth 0 RG q (by rw [HRL.out]; exact hlt))
            have HTF := Lib.hid (take_succ_nth 0 FR q (by rw [HFL.out]; exact hlt))
            rw [HRN.out q hlt] at HTR
            rw [HFN.out q hlt] at HTF
            have HLR := Lib.hid (show (RG.take q).length = q ∧ (FR.take q).length = q ∧ q ≤ 40 by rw [List.length_take, List.length_take, HRL.out, HFL.out]; have := HN.out; omega)
            have HQJ := Lib.hid hlt
            have hwq : IntKind.i64.wrap ((q : Int) + 1) = (q : Int) + 1 := IntWalk.i64_in _ (by have := HLR.out; omega)
            have hq40 : q ≤ 40 := HLR.out.2.2
            cases hu : nth false U q
            · rw [hu] at hcu HTR HTF
              rw [if_neg (by simp)] at HTR HTF
              clear hu hlt
              go_wp2_with (first
                | (at_builtin; (refine append_one (w0 := w3) w3.heap.size rfl (.tmp 161) (.tmp 163) 22 3 .i64 8 rfl Try.underlying22 infoI (by decide) _ (RG.take q) 0 rfl rfl hOR.out hB4.out hB4.out.size (by have := HLR.out; omega) ?_); intro v5 w5 hO5 hB5 hg5 ha5; obtain ⟨hOF5, hDI5⟩ := two_step hOF.out hg5 ha5 hDI.out; have HO5 := Lib.hid hO5; have HB5 := Lib.hid hB5; have HF5 := Lib.hid hOF5; have HD5 := Lib.hid (two_flip hDI5); clear hO5 hB5 hg5 ha5 hOF5 hDI5)
                | (at_builtin; (refine append_one (w0 := w3) w3.heap.size rfl (.tmp 165) (.tmp 167) 22 3 .i64 8 rfl Try.underlying22 infoI (by decide) _ (FR.take q) 0 rfl rfl HF5.out HB5.out HB5.out.size (by have := HLR.out; omega) ?_); intro v6 w6 hO6 hB6 hg6 ha6; obtain ⟨hOR6, hDI6⟩ := two_step HO5.out hg6 ha6 HD5.out; have HO6 := Lib.hid hO6; have HB6 := Lib.hid hB6; have HR6 := Lib.hid hOR6; have HD6 := Lib.hid (two_flip hDI6); clear hO6 hB6 hg6 ha6 hOR6 hDI6))
              go_roundw
              case rel => exact ⟨q + 1, by go_num, by have := HQJ.out; omega, by rw [HTR.out]; exact HR6, by rw [HTF.out]; exact HO6, HD6, HB6⟩
              case measure => simp [intOf]; have := HQJ.out; omega
            · rw [if_pos hu] at HTR HTF
              have hinq := HC.out.inn q (by rw [HUL.out]; exact hlt) hu
              rw [hu] at hcu
              obtain ⟨a0, rfl, k0⟩ := rd_int (HT0.out.below hB4.out) q (by rw [HN.out.1]; exact hlt)
              obtain ⟨a1, rfl, k1⟩ := rd_int (HT1.out.below hB4.out) q (by rw [HN.out.2.1]; exact hlt)
              obtain ⟨a8, rfl, k8⟩ := rd_int (HS9.out.below hB4.out) q (by rw [HOL.out]; exact hlt)
              have hL := HN.out.2.2.2
              obtain ⟨p, hp⟩ : ∃ p, q % s2.length = p := ⟨_, rfl⟩
              have hpl : p < s2.length := by rw [← hp]; exact Nat.mod_lt _ hL
              obtain ⟨a2, e22, k2⟩ := rd_int (HT2.out.below hB4.out) p hpl
              cases e22
              have hz := HB2.out _ (nth_mem 0 s2 p hpl)
              rw [hp] at HTR
              have hmod : ((q : Int)).tmod (s2.length : Int) = (p : Int) := by rw [Int.tmod_eq_emod_of_nonneg (by omega), ← hp]; simp
              have hpi : (p : Int) < (s2.length : Int) := by omega
              have hLne : (s2.length : Int) ≠ 0 := by omega
              have hs2n : ¬ s2 = [] := fun h => by rw [h] at hL; exact absurd hL (by decide)
              generalize nth 0 s0 q = lo at k0 hinq HTR HTF
              generalize nth 0 s1 q = hi at k1 hinq HTR
              generalize nth 0 O q = oq at k8 hinq
              generalize nth 0 s2 p = z at k2 hz HTR
              have hwz : IntKind.i64.wrap z = z := IntWalk.i64_in _ (by omega)
              obtain ⟨zz, hzz⟩ : ∃ zz, z / 2 = zz := ⟨_, rfl⟩
              have hzt : z.tdiv 2 = zz := by rw [Int.tdiv_eq_ediv_of_nonneg (by omega), hzz]
              have hwzz : IntKind.i64.wrap zz = zz := IntWalk.i64_in _ (by omega)
              unfold rgV at HTR
              rw [hzz] at HTR
              obtain ⟨mn, hmn⟩ : ∃ mn, (if zz < hi then zz else hi) = mn := ⟨_, rfl⟩
              rw [hmn] at HTR
              obtain ⟨mx, hmx⟩ : ∃ mx, (if lo < mn then mn else lo) = mx := ⟨_, rfl⟩
              rw [show (if mn > lo then mn else lo) = mx from hmx] at HTR
              have d8 : decide (oq < lo) = false := decide_eq_false (by omega)
              have d9 : decide (hi < oq) = false := decide_eq_false (by omega)
              clear hu hlt hinq hz hzz hp hL hpl
              go_wp2_with fail
              refine wp_region_G 19 (fun W9 : World => W9.cell? (a0.add q) = some (.int .i64 lo) ∧ W9.cell? (a1.add q) = some (.int .i64 hi) ∧ W9.cell? (ax.add p) = some (.int .u8 z)) (by kernel_rfl) ⟨k0, k1, k2⟩ (fun hHeld => ?_)
              refine wpAnyG_takeL (i := 0) (.slice (some a0) j c0) [19] rfl (by kernel_rfl) (fun _ _ _ h => h) hHeld (by rfl) ?_ ?_
              · (intro W' hSw; (try dsimp only at hSw); go_simp)
              try simp only [Act.put, List.setIfInBounds_toArray, List.set_cons_zero, List.set_cons_succ]
              refine wpAnyG_takeL (i := 1) (.int .i64 q) [19] rfl (by kernel_rfl) (fun _ _ _ h => h) hHeld (by rfl) ?_ ?_
              · (intro W' hSw; (try dsimp only at hSw); go_simp)
              try simp only [Act.put, List.setIfInBounds_toArray, List.set_cons_zero, List.set_cons_succ]
              refine wpAnyG_takeL (i := 2) (.pointer (some (a0.add q))) [19] rfl (by kernel_rfl) (fun _ _ _ h => h) hHeld (by rfl) ?_ ?_
              · (intro W' hSw; (try dsimp only at hSw); go_simp)
              try simp only [Act.put, List.setIfInBounds_toArray, List.set_cons_zero, List.set_cons_succ]
              refine wpAnyG_takeL (i := 3) (.int .i64 lo) [19] rfl (by kernel_rfl) (fun _ _ _ h => h) hHeld (by rfl) ?_ ?_
              · (intro W' hSw; (try dsimp only at hSw); go_simp)
              try simp only [Act.put, List.setIfInBounds_toArray, List.set_cons_zero, List.set_cons_succ]
              refine wpAnyG_takeL (i := 4) (.slice (some a1) j c1) [19] rfl (by kernel_rfl) (fun _ _ _ h => h) hHeld (by rfl) ?_ ?_
              · (intro W' hSw; (try dsimp only at hSw); go_simp)
              try simp only [Act.put, List.setIfInBounds_toArray, List.set_cons_zero, List.set_cons_succ]
              refine wpAnyG_takeL (i := 5) (.int .i64 q) [19] rfl (by kernel_rfl) (fun _ _ _ h => h) hHeld (by rfl) ?_ ?_
              · (intro W' hSw; (try dsimp only at hSw); go_simp)
              try simp only [Act.put, List.setIfInBounds_toArray, List.set_cons_zero, List.set_cons_succ]
              refine wpAnyG_takeL (i := 6) (.pointer (some (a1.add q))) [19] rfl (by kernel_rfl) (fun _ _ _ h => h) hHeld (by rfl) ?_ ?_
              · (intro W' hSw; (try dsimp only at hSw); go_simp)
              try simp only [Act.put, List.setIfInBounds_toArray, List.set_cons_zero, List.set_cons_succ]
              refine wpAnyG_takeL (i := 7) (.int .i64 hi) [19] rfl (by kernel_rfl) (fun _ _ _ h => h) hHeld (by rfl) ?_ ?_
              · (intro W' hSw; (try dsimp only at hSw); go_simp)
              try simp only [Act.put, List.setIfInBounds_toArray, List.set_cons_zero, List.set_cons_succ]
              refine wpAnyG_takeL (i := 8) (.slice (some ax) s2.length c2) [19] rfl (by kernel_rfl) (fun _ _ _ h => h) hHeld (by rfl) ?_ ?_
              · (intro W' hSw; (try dsimp only at hSw); go_simp)
              try simp only [Act.put, List.setIfInBounds_toArray, List.set_cons_zero, List.set_cons_succ]
              refine wpAnyG_takeL (i := 9) (.int .i64 q) [19] rfl (by kernel_rfl) (fun _ _ _ h => h) hHeld (by rfl) ?_ ?_
              · (intro W' hSw; (try dsimp only at hSw); go_simp)
              try simp only [Act.put, List.setIfInBounds_toArray, List.set_cons_zero, List.set_cons_succ]
              refine wpAnyG_takeL (i := 10) (.slice (some ax) s2.length c2) [19] rfl (by kernel_rfl) (fun _ _ _ h => h) hHeld (by rfl) ?_ ?_
              · (intro W' hSw; (try dsimp only at hSw); go_simp)
              try simp only [Act.put, List.setIfInBounds_toArray, List.set_cons_zero, List.set_cons_succ]
              refine wpAnyG_takeL (i := 11) (.int .i64 s2.length) [19] rfl (by kernel_rfl) (fun _ _ _ h => h) hHeld (by rfl) ?_ ?_
              · (intro W' hSw; (try dsimp only at hSw); go_simp)
              try simp only [Act.put, List.setIfInBounds_toArray, List.set_cons_zero, List.set_cons_succ]
              refine wpAnyG_takeL (i := 12) (.int .i64 p) [19] rfl (by kernel_rfl) (fun _ _ _ h => h) hHeld (by rfl) ?_ ?_
              · (intro W' hSw; (try dsimp only at hSw); go_simp)
              try simp only [Act.put, List.setIfInBounds_toArray, List.set_cons_zero, List.set_cons_succ]
              refine wpAnyG_takeL (i := 13) (.pointer (some (ax.add p))) [19] rfl (by kernel_rfl) (fun _ _ _ h => h) hHeld (by rfl) ?_ ?_
              · (intro W' hSw; (try dsimp only at hSw); go_simp)
              try simp only [Act.put, List.setIfInBounds_toArray, List.set_cons_zero, List.set_cons_succ]
              refine wpAnyG_takeL (i := 14) (.int .u8 z) [19] rfl (by kernel_rfl) (fun _ _ _ h => h) hHeld (by rfl) ?_ ?_
              · (intro W' hSw; (try dsimp only at hSw); go_simp)
              try simp only [Act.put, List.setIfInBounds_toArray, List.set_cons_zero, List.set_cons_succ]
              refine wpAnyG_takeL (i := 15) (.int .i64 z) [19] rfl (by kernel_rfl) (fun _ _ _ h => h) hHeld (by rfl) ?_ ?_
              · (intro W' hSw; (try dsimp only at hSw); go_simp)
              try simp only [Act.put, List.setIfInBounds_toArray, List.set_cons_zero, List.set_cons_succ]
              refine wpAnyG_takeL (i := 16) (.int .i64 zz) [19] rfl (by kernel_rfl) (fun _ _ _ h => h) hHeld (by rfl) ?_ ?_
              · (intro W' hSw; (try dsimp only at hSw); go_simp)
              try simp only [Act.put, List.setIfInBounds_toArray, List.set_cons_zero, List.set_cons_succ]
              refine wpAnyG_oneL (i := 17) (by kernel_rfl) rfl (fun K hK => ?_)
              go_simp
              refine hK.out _ _ (fun _ => hHeld) ?_
              clear hK K
              try simp only [Act.put, List.setIfInBounds_toArray, List.set_cons_zero, List.set_cons_succ]
              refine wpAnyG_oneL (i := 18) (by kernel_rfl) rfl (fun K hK => ?_)
              go_simp
              refine hK.out _ _ (fun _ => hHeld) ?_
              clear hK K
              try simp only [Act.put, List.setIfInBounds_toArray, List.set_cons_zero, List.set_cons_succ]
              clear hHeld
              refine wpAnyG_oneL (i := 19) (by kernel_rfl) rfl (fun K hK => ?_)
              go_simp
              refine hK.out _ _ (fun h => Bool.noConfusion (show true = false from h)) ?_
              clear hK K
              refine wpAnyG_done (by kernel_rfl) ?_ _
              have hBD : Below wr.heap.size wr wr.drew := (Below.refl _ _).drew
              replace hOR := Lib.hid (hOR.out.below hBD)
              replace hOF := Lib.hid (hOF.out.below hBD)
              replace hB4 := Lib.hid (below2 hB4.out hBD)
              replace k0 := cell_below hBD k0
              replace k1 := cell_below hBD k1
              replace k8 := cell_below hBD k8
              clear hBD k2
              generalize wr.drew = wd at hOR hOF hB4 k0 k1 k8 ⊢
              go_wp2_with fail
              go_quiet (fail)
              have hBD := below_drewN (Below.refl wd.heap.size wd) nq
              replace hOR := Lib.hid (hOR.out.below hBD)
              replace hOF := Lib.hid (hOF.out.below hBD)
              replace hB4 := Lib.hid (below2 hB4.out hBD)
              clear hBD
              generalize wd.drewN nq = we at hOR hOF hB4 ⊢
              clear k0 k1 k8
              go_wp2_with (first
                | (at_builtin; (refine append_one (w0 := w3) w3.heap.size rfl (.tmp 161) (.tmp 163) 22 3 .i64 8 rfl Try.underlying22 infoI (by decide) _ (RG.take q) mx rfl rfl hOR.out hB4.out hB4.out.size (by have := HLR.out; omega) ?_); intro v5 w5 hO5 hB5 hg5 ha5; obtain ⟨hOF5, hDI5⟩ := two_step hOF.out hg5 ha5 hDI.out; have HO5 := Lib.hid hO5; have HB5 := Lib.hid hB5; have HF5 := Lib.hid hOF5; have HD5 := Lib.hid (two_flip hDI5); clear hO5 hB5 hg5 ha5 hOF5 hDI5)
                | (at_builtin; (refine append_one (w0 := w3) w3.heap.size rfl (.tmp 165) (.tmp 167) 22 3 .i64 8 rfl Try.underlying22 infoI (by decide) _ (FR.take q) lo rfl rfl HF5.out HB5.out HB5.out.size (by have := HLR.out; omega) ?_); intro v6 w6 hO6 hB6 hg6 ha6; obtain ⟨hOR6, hDI6⟩ := two_step HO5.out hg6 ha6 HD5.out; have HO6 := Lib.hid hO6; have HB6 := Lib.hid hB6; have HR6 := Lib.hid hOR6; have HD6 := Lib.hid (two_flip hDI6); clear hO6 hB6 hg6 ha6 hOR6 hDI6))
              go_roundw
              case rel => exact ⟨q + 1, by go_num, by have := HQJ.out; omega, by rw [HTR.out]; exact HR6, by rw [HTF.out]; exact HO6, HD6, HB6⟩
              case measure => simp [intOf]; have := HQJ.out; omega
          · obtain rfl : q = j := by omega
            have hR9 : RG.take q = RG := List.take_of_length_le (by rw [HRL.out]; exact Nat.le_refl _)
            have hF9 : FR.take q = FR := List.take_of_length_le (by rw [HFL.out]; exact Nat.le_refl _)
            have hOR9 := hOR.out
            have hOF9 := hOF.out
            rw [hR9] at hOR9
            rw [hF9] at hOF9
            obtain ⟨B1, e1, rfl, hs1⟩ := own_ri hOR9
            obtain ⟨B2, e2, rfl, hs2⟩ := own_ri hOF9
            rw [HRL.out, HFL.out]
            have HV1 := Lib.hid hs1
            have HV2 := Lib.hid hs2
            have HBZ := Lib.hid (below2 HBY.out hB4.out)
            have HU4 := Lib.hid (HU3.out.below hB4.out)
            have HV0 := Lib.hid (HT0.out.below hB4.out)
            have hle := HC.out.least RG HRG.out.1 (fun i h h2 => HRG.out.2 i h h2)
            rw [HCN.out] at hle
            have hcr : costS RG U = ((costP RG (walkK U U.length) : Int), 0) := by unfold costS; rw [if_neg (by rw [HRG.out.1]; simp)]
            obtain ⟨cR, hcR⟩ : ∃ c, costP RG (walkK U U.length) = c := ⟨_, rfl⟩
            rw [hcR] at hle hcr
            have hdd : decide ((cR : Int) < (cN : Int)) = false := decide_eq_false (by omega)
            have hddN : decide (cR < cN) = false := decide_eq_false (by omega)
            have hco := scost_any B1 A6 e1 c6 RG U wr hs1 HU4.out
            rw [HRL.out, HUL.out, hcr] at hco
            have HCO := Lib.hid hco
            clear hR9 hF9 hOR9 hOF9 hs1 hs2 hle hcr hcR hco hOR hOF hDI hB4 hq hlt
            go_wp2_with fail
            refine HCO.out.mono ?_
            rintro e w4 ⟨rfl, b⟩
            have BX := below2 HBZ.out b
            have hc2 := schoose_any A0 A0 A6 c0 c0 c6 s0 s0 U w4 (HV0.out.below b) (HV0.out.below b) (HU4.out.below b)
            rw [HN.out.1, HUL.out] at hc2
            have HV2' := Lib.hid (HV2.out.below b)
            have HU5 := Lib.hid (HU4.out.below b)
            have HC2 := Lib.hid hc2
            clear hc2 b HCO
            go_wp2_with fail
            refine HC2.out.mono ?_
            rintro e w5 ⟨v9, rfl, hO9, b⟩
            rw [HES.out]
            rw [HSM.out] at hO9
            obtain ⟨B9, e9, rfl, hs9⟩ := own_ri hO9
            rw [HFL.out]
            have HN9 := Lib.hid (show chooseN s0 s0 U = (costS FR U).1 from by unfold chooseN; rw [if_pos HES.out, HSM.out])
            have HOK9 := Lib.hid (show (costS FR U).2 = 0 from by
              have h1 := (chosen HES.out).ok
              rw [HSM.out] at h1
              rw [rowB_cost, h1])
            obtain ⟨⟨k9, z9⟩, hk9⟩ : ∃ x, costS FR U = x := ⟨_, rfl⟩
            rw [hk9] at HN9 HOK9
            have hz9 : z9 = 0 := HOK9.out
            subst hz9
            rw [HN9.out]
            simp only
            replace BX := below2 BX b
            have hs2' := HV2'.out.below b
            have hu6 := HU5.out.below b
            have hco := scost_any B2 A6 e2 c6 FR U w5 hs2' hu6
            rw [HFL.out, HUL.out, hk9] at hco
            have HCO := Lib.hid hco
            have HS9' := Lib.hid hs9
            have HS2' := Lib.hid hs2'
            have HBX9 := Lib.hid BX
            clear hk9 hO9 hs9 hs2' hu6 hco b BX
            go_wp2_with fail
            refine HCO.out.mono ?_
            rintro e w6 ⟨rfl, b⟩
            have hi := ints_ref B9 B2 e9 e2 FR FR w6 (HS9'.out.below b) (HS2'.out.below b)
            rw [HFL.out, show sameL FR FR = true by simp [sameL]] at hi
            have HI := Lib.hid hi
            have HBX10 := Lib.hid (below2 HBX9.out b)
            clear hi b
            go_wp2_with fail
            refine HI.out.mono ?_
            rintro e w7 ⟨rfl, b⟩
            have BX := below2 HBX10.out b
            clear b
            go_wp2_with fail
            refine (awake_any _).mono ?_
            rintro e w8 ⟨rfl, b⟩
            replace BX := below2 BX b; clear b
            go_wp2_with fail
            go_ret
            exact ⟨rfl, BX⟩
      · obtain ⟨hx1, hx2⟩ := choose_err (E := chooseE s0 s1 U) rfl hE
        have HX1 := Lib.hid hx1
        have HX2 := Lib.hid hx2
        obtain ⟨E, hEe⟩ : ∃ E, chooseE s0 s1 U = E := ⟨_, rfl⟩
        have HEE := Lib.hid hEe
        rw [hEe] at hE
        have heb : (E != 0) = true := by simp [hE]
        clear hx1 hx2 hEe hE
        go_wp2_with fail
        refine HCH.out.mono ?_
        rintro e w2 ⟨v, rfl, hO, b⟩
        rw [HX2.out, HEE.out]
        rw [HX1.out] at hO
        obtain ⟨A8, c8, rfl, _⟩ := own_ri hO
        have BX := below2 HB.out b
        clear hO b
        go_wp2_with fail
        refine (awake_any _).mono ?_
        rintro e w3 ⟨rfl, b⟩
        replace BX := below2 BX b; clear b
        go_wp2_with fail
        go_ret
        exact ⟨rfl, BX⟩

    · have hbe : ((i : Int) == (n : Int)) = false := by simp; omega
      have hilt : i < n := by omega
      have HT := Lib.hid (take_succ_nth false U i (by rw [HUL.out]; exact hilt))
      rw [HUN.out i hilt, if_pos hlt] at HT
      have hx := HB2.out _ (nth_mem 0 s2 i hlt)
      generalize nth 0 s2 i = x at hc HT hx
      have hx4 : x.tmod 4 = x % 4 := Int.tmod_eq_emod_of_nonneg (by omega)
      have hw4 : IntKind.u8.wrap (x % 4) = x % 4 := by rw [IntKind.wrap_u8]; omega
      obtain ⟨y, hy⟩ : ∃ y, x % 4 = y := ⟨_, rfl⟩
      rw [hy] at hx4 hw4 HT
      obtain ⟨p, hp⟩ : ∃ p, decide (0 < y) = p := ⟨_, rfl⟩
      rw [hp] at HT
      have hll : (U.take i).length ≤ 100000 := by rw [List.length_take, HUL.out]; have := HN.out; omega
      have HTL := Lib.hid (show (U.take i).length = i by rw [List.length_take, HUL.out]; omega)
      have HS := Lib.hid hB.out.size
      clear hin hlt hx hy
      go_wp2_with (at_builtin; (refine append_k (W := wr) (k := kBool) W.heap.size rfl (.tmp 55) (.tmp 59) 23 4 (.bool false) 1 (fun _ => False) rfl Try.underlying23 infoB rfl (by decide) (by decide) _ (U.take i) p [.bool p] rfl rfl rfl hO.out rfl HS.out (by omega) ?_); intro g4 c4 w4 hO4 hg4 hb4 _; rw [HTL.out] at hO4 ⊢; have HO4 := Lib.hid hO4; have HB4 := Lib.hid (below_grown hB.out hB.out.size hg4 hO.out.base_le); clear hO4 hg4 hb4)
      go_roundw
      case rel => exact ⟨i + 1, some ⟨g4, 0, none⟩, c4, by go_num, by omega, by omega, rfl, by rw [HT.out]; exact HO4, HB4⟩
      case measure => simp [intOf] <;> omega
  · obtain rfl : i = s2.length := by omega
    clear hi2 hlt
    go_wp2_with fail
    have HIN := Lib.hid (show s2.length = n ∨ s2.length = s2.length from .inr rfl)
    go_loopw [7] (fun uv wr => ∃ (j : Nat) (A6 : Option Addr) (c6 : Nat), uv = .slice A6 j c6 ∧ s2.length ≤ j ∧ j ≤ n ∧ Hid (OwnK kBool 4 W.heap.size (fun _ => False) wr (.slice A6 j c6) (U.take j)) ∧ Hid (Below W.heap.size W wr)) (fun uv _ => n - lenV uv)
    case atStart => exact ⟨s2.length, A5, c5, rfl, Nat.le_refl _, hi, hO, hB⟩
    case round =>
    clear hO hB
    obtain ⟨j, A6, c6, rfl, hij, hj, hO, hB⟩ := hrel
    by_cases hlt : j < n
    · have hjd : decide ((j : Int) < (n : Int)) = true := decide_eq_true (by omega)
      have hjn : (j : Int) < (n : Int) := by omega
      have HT := Lib.hid (take_succ_nth false U j (by rw [HUL.out]; exact hlt))
      rw [HUN.out j hlt, if_neg (by have := HIN.out; omega)] at HT
      have hll : (U.take j).length ≤ 100000 := by rw [List.length_take, HUL.out]; have := HN.out; omega
      have HTL := Lib.hid (show (U.take j).length = j by rw [List.length_take, HUL.out]; omega)
      have HS := Lib.hid hB.out.size
      clear hlt
      go_wp2_with (at_builtin; (refine append_k (W := wr) (k := kBool) W.heap.size rfl (.tmp 67) (.tmp 68) 23 4 (.bool false) 1 (fun _ => False) rfl Try.underlying23 infoB rfl (by decide) (by decide) _ (U.take j) true [.bool true] rfl rfl rfl hO.out rfl HS.out (by omega) ?_); intro g4 c4 w4 hO4 hg4 hb4 _; rw [HTL.out] at hO4 ⊢; have HO4 := Lib.hid hO4; have HB4 := Lib.hid (below_grown hB.out hB.out.size hg4 hO.out.base_le); clear hO4 hg4 hb4)
      go_roundw
      case rel => exact ⟨j + 1, some ⟨g4, 0, none⟩, c4, rfl, by omega, by omega, by rw [HT.out]; exact HO4, HB4⟩
      case measure => simp [lenV] <;> omega
    obtain rfl : j = n := by omega
    have hjd : decide ((j : Int) < (j : Int)) = false := by simp
    have hUt : U.take j = U := List.take_of_length_le (by rw [HUL.out]; exact Nat.le_refl _)
    rw [hUt] at hO
    obtain ⟨A7, c7, he7, hs7⟩ := hO.out.rd
    rw [HUL.out] at he7
    injection he7 with e7 _ e8
    subst e7 e8
    have HU := Lib.hid (hs7.any)
    have HB := Lib.hid hB.out
    have HQ0 := Lib.hid (HR0.out.below hB.out)
    have HQ1 := Lib.hid (HR1.out.below hB.out)
    have HQ2 := Lib.hid (HR2.out.below hB.out)
    have hch := schoose_any A0 A1 A6 c0 c1 c6 s0 s1 U wr HQ0.out HQ1.out HU.out
    rw [HN.out.1, HN.out.2.1, HUL.out] at hch
    have HCH := Lib.hid hch
    clear hch hO hB hs7 hUt hlt hij hj HIN
    by_cases hE : chooseE s0 s1 U = 0
    · have HC := Lib.hid (chosen hE)
      have HRG := Lib.hid (rg_checked (os := s2) hE)
      have HSM := Lib.hid (choose_same hE)
      have HES := Lib.hid (chooseE_same hE)
      have HE := Lib.hid hE
      have HNV := Lib.hid (show chooseN s0 s1 U = (costP (chooseO s0 s1 U) (walkK U U.length) : Int) from by
        unfold chooseN; rw [if_pos hE]; unfold costS; rw [if_neg (by rw [HC.out.ok]; simp)])
      obtain ⟨O, hOe⟩ : ∃ O, chooseO s0 s1 U = O := ⟨_, rfl⟩
      rw [hOe] at HC HNV
      have HOE := Lib.hid hOe
      have HOL := Lib.hid (show O.length = j by rw [HC.out.len, HUL.out])
      have HCS := Lib.hid (show costS O U = ((costP O (walkK U U.length) : Int), 0) from by unfold costS; rw [if_neg (by rw [HC.out.ok]; simp)])
      obtain ⟨cN, hcN⟩ : ∃ c, costP O (walkK U U.length) = c := ⟨_, rfl⟩
      rw [hcN] at HNV HCS
      have HCN := Lib.hid hcN
      clear hE hOe hcN
      go_wp2_with fail
      refine HCH.out.mono ?_
      rintro e w2 ⟨v, rfl, hO, b⟩
      rw [HNV.out, HE.out]
      rw [HOE.out] at hO
      obtain ⟨A8, c8, rfl, hs8⟩ := own_ri hO
      rw [HOL.out]
      have HS8 := Lib.hid hs8
      have HBX := Lib.hid (below2 HB.out b)
      have HU2 := Lib.hid (HU.out.below b)
      have HP0 := Lib.hid (HQ0.out.below b)
      have HP1 := Lib.hid (HQ1.out.below b)
      have HP2 := Lib.hid (HQ2.out.below b)
      clear hO hs8 b HCH
      have hcost := scost_any A8 A6 c8 c6 O U w2 HS8.out HU2.out
      rw [HOL.out, HUL.out, HCS.out] at hcost
      have HCO := Lib.hid hcost
      clear hcost
      have hcc : ((cN : Int) != (cN : Int)) = false := by simp
      have hjj : ((j : Int) != (j : Int)) = false := by simp
      go_wp2_with fail
      refine HCO.out.mono ?_
      rintro e w3 ⟨rfl, b⟩
      have HBY := Lib.hid (below2 HBX.out b)
      have HU3 := Lib.hid (HU2.out.below b)
      have HT0 := Lib.hid (HP0.out.below b)
      have HT1 := Lib.hid (HP1.out.below b)
      have HT2 := Lib.hid (HP2.out.below b)
      have HS9 := Lib.hid (HS8.out.below b)
      have HRL := Lib.hid (show (rgL s0 s1 s2 U).length = j by rw [rgL_length, HUL.out])
      have HFL := Lib.hid (show (sprS s0 U U.length).length = j by rw [sprS_length, HUL.out])
      have HRN := Lib.hid (fun i (h : i < j) => rgL_nth s0 s1 s2 U i (by rw [HUL.out]; exact h))
      have HFN := Lib.hid (fun i (h : i < j) => show nth 0 (sprS s0 U U.length) i = if nth false U i = true then nth 0 s0 i else 0 from by
        rw [sprS_nth _ _ _ _ (by rw [HUL.out]; exact h)]
        congr 1
        apply propext
        exact ⟨fun h => h.2, fun h2 => ⟨by rw [HUL.out]; exact h, h2⟩⟩)
      obtain ⟨RG, hRG⟩ : ∃ x, rgL s0 s1 s2 U = x := ⟨_, rfl⟩
      obtain ⟨FR, hFR⟩ : ∃ x, sprS s0 U U.length = x := ⟨_, rfl⟩
      rw [hRG] at HRG HRL HRN
      rw [hFR] at HSM HFL HFN
      clear b HCO hRG hFR HS8 HU2 HP0 HP1 HP2 HBX
      go_wp2_with fail
      go_loopw [8, 9, 112] (fun rv fv iv wr => ∃ q : Nat, iv = .int .i64 (q : Int) ∧ q ≤ j ∧ Hid (OwnI 3 .i64 w3.heap.size wr rv (RG.take q)) ∧ Hid (OwnI 3 .i64 w3.heap.size wr fv (FR.take q)) ∧ Hid (rv.ownBlock = none ∨ rv.ownBlock ≠ fv.ownBlock) ∧ Hid (Below w3.heap.size w3 wr)) (fun _ _ iv _ => j - (intOf iv).toNat)
      case atStart => exact ⟨0, rfl, Nat.zero_le _, Lib.hid (OwnI.nil _ _ _ _), Lib.hid (OwnI.nil _ _ _ _), Lib.hid (.inl rfl), Lib.hid (Below.refl _ _)⟩
      case round =>
        obtain ⟨q, rfl, hq, hOR, hOF, hDI, hB4⟩ := hrel
        by_cases hlt : q < j
        · obtain ⟨ad, rfl, hcu⟩ := rd_bool (HU3.out.below hB4.out) q (by rw [HUL.out]; exact hlt)
          have hqi : (q : Int) < (j : Int) := by omega
          have HTR := Lib.hid (take_succ_nth 0 RG q (by rw [HRL.out]; exact hlt))
          have HTF := Lib.hid (take_succ_nth 0 FR q (by rw [HFL.out]; exact hlt))
          rw [HRN.out q hlt] at HTR
          rw [HFN.out q hlt] at HTF
          have HLR := Lib.hid (show (RG.take q).length = q ∧ (FR.take q).length = q ∧ q ≤ 40 by rw [List.length_take, List.length_take, HRL.out, HFL.out]; have := HN.out; omega)
          have HQJ := Lib.hid hlt
          have hwq : IntKind.i64.wrap ((q : Int) + 1) = (q : Int) + 1 := IntWalk.i64_in _ (by have := HLR.out; omega)
          have hq40 : q ≤ 40 := HLR.out.2.2
          cases hu : nth false U q
          · rw [hu] at hcu HTR HTF
            rw [if_neg (by simp)] at HTR HTF
            clear hu hlt
            go_wp2_with (first
              | (at_builtin; (refine append_one (w0 := w3) w3.heap.size rfl (.tmp 161) (.tmp 163) 22 3 .i64 8 rfl Try.underlying22 infoI (by decide) _ (RG.take q) 0 rfl rfl hOR.out hB4.out hB4.out.size (by have := HLR.out; omega) ?_); intro v5 w5 hO5 hB5 hg5 ha5; obtain ⟨hOF5, hDI5⟩ := two_step hOF.out hg5 ha5 hDI.out; have HO5 := Lib.hid hO5; have HB5 := Lib.hid hB5; have HF5 := Lib.hid hOF5; have HD5 := Lib.hid (two_flip hDI5); clear hO5 hB5 hg5 ha5 hOF5 hDI5)
              | (at_builtin; (refine append_one (w0 := w3) w3.heap.size rfl (.tmp 165) (.tmp 167) 22 3 .i64 8 rfl Try.underlying22 infoI (by decide) _ (FR.take q) 0 rfl rfl HF5.out HB5.out HB5.out.size (by have := HLR.out; omega) ?_); intro v6 w6 hO6 hB6 hg6 ha6; obtain ⟨hOR6, hDI6⟩ := two_step HO5.out hg6 ha6 HD5.out; have HO6 := Lib.hid hO6; have HB6 := Lib.hid hB6; have HR6 := Lib.hid hOR6; have HD6 := Lib.hid (two_flip hDI6); clear hO6 hB6 hg6 ha6 hOR6 hDI6))
            go_roundw
            case rel => exact ⟨q + 1, by go_num, by have := HQJ.out; omega, by rw [HTR.out]; exact HR6, by rw [HTF.out]; exact HO6, HD6, HB6⟩
            case measure => simp [intOf]; have := HQJ.out; omega
          · rw [if_pos hu] at HTR HTF
            have hinq := HC.out.inn q (by rw [HUL.out]; exact hlt) hu
            rw [hu] at hcu
            obtain ⟨a0, rfl, k0⟩ := rd_int (HT0.out.below hB4.out) q (by rw [HN.out.1]; exact hlt)
            obtain ⟨a1, rfl, k1⟩ := rd_int (HT1.out.below hB4.out) q (by rw [HN.out.2.1]; exact hlt)
            obtain ⟨a8, rfl, k8⟩ := rd_int (HS9.out.below hB4.out) q (by rw [HOL.out]; exact hlt)
            have hL := HN.out.2.2.2
            obtain ⟨p, hp⟩ : ∃ p, q % s2.length = p := ⟨_, rfl⟩
            have hpl : p < s2.length := by rw [← hp]; exact Nat.mod_lt _ hL
            obtain ⟨a2, e22, k2⟩ := rd_int (HT2.out.below hB4.out) p hpl
            cases e22
            have hz := HB2.out _ (nth_mem 0 s2 p hpl)
            rw [hp] at HTR
            have hmod : ((q : Int)).tmod (s2.length : Int) = (p : Int) := by rw [Int.tmod_eq_emod_of_nonneg (by omega), ← hp]; simp
            have hpi : (p : Int) < (s2.length : Int) := by omega
            have hLne : (s2.length : Int) ≠ 0 := by omega
            have hs2n : ¬ s2 = [] := fun h => by rw [h] at hL; exact absurd hL (by decide)
            generalize nth 0 s0 q = lo at k0 hinq HTR HTF
            generalize nth 0 s1 q = hi at k1 hinq HTR
            generalize nth 0 O q = oq at k8 hinq
            generalize nth 0 s2 p = z at k2 hz HTR
            have hwz : IntKind.i64.wrap z = z := IntWalk.i64_in _ (by omega)
            obtain ⟨zz, hzz⟩ : ∃ zz, z / 2 = zz := ⟨_, rfl⟩
            have hzt : z.tdiv 2 = zz := by rw [Int.tdiv_eq_ediv_of_nonneg (by omega), hzz]
            have hwzz : IntKind.i64.wrap zz = zz := IntWalk.i64_in _ (by omega)
            unfold rgV at HTR
            rw [hzz] at HTR
            obtain ⟨mn, hmn⟩ : ∃ mn, (if zz < hi then zz else hi) = mn := ⟨_, rfl⟩
            rw [hmn] at HTR
            obtain ⟨mx, hmx⟩ : ∃ mx, (if lo < mn then mn else lo) = mx := ⟨_, rfl⟩
            rw [show (if mn > lo then mn else lo) = mx from hmx] at HTR
            have d8 : decide (oq < lo) = false := decide_eq_false (by omega)
            have d9 : decide (hi < oq) = false := decide_eq_false (by omega)
            clear hu hlt hinq hz hzz hp hL hpl
            go_wp2_with fail
            refine wp_region_G 19 (fun W9 : World => W9.cell? (a0.add q) = some (.int .i64 lo) ∧ W9.cell? (a1.add q) = some (.int .i64 hi) ∧ W9.cell? (a2.add p) = some (.int .u8 z)) (by kernel_rfl) ⟨k0, k1, k2⟩ (fun hHeld => ?_)
            refine wpAnyG_takeL (i := 0) (.slice (some a0) j c0) [19] rfl (by kernel_rfl) (fun _ _ _ h => h) hHeld (by rfl) ?_ ?_
            · (intro W' hSw; (try dsimp only at hSw); go_simp)
            try simp only [Act.put, List.setIfInBounds_toArray, List.set_cons_zero, List.set_cons_succ]
            refine wpAnyG_takeL (i := 1) (.int .i64 q) [19] rfl (by kernel_rfl) (fun _ _ _ h => h) hHeld (by rfl) ?_ ?_
            · (intro W' hSw; (try dsimp only at hSw); go_simp)
            try simp only [Act.put, List.setIfInBounds_toArray, List.set_cons_zero, List.set_cons_succ]
            refine wpAnyG_takeL (i := 2) (.pointer (some (a0.add q))) [19] rfl (by kernel_rfl) (fun _ _ _ h => h) hHeld (by rfl) ?_ ?_
            · (intro W' hSw; (try dsimp only at hSw); go_simp)
            try simp only [Act.put, List.setIfInBounds_toArray, List.set_cons_zero, List.set_cons_succ]
            refine wpAnyG_takeL (i := 3) (.int .i64 lo) [19] rfl (by kernel_rfl) (fun _ _ _ h => h) hHeld (by rfl) ?_ ?_
            · (intro W' hSw; (try dsimp only at hSw); go_simp)
            try simp only [Act.put, List.setIfInBounds_toArray, List.set_cons_zero, List.set_cons_succ]
            refine wpAnyG_takeL (i := 4) (.slice (some a1) j c1) [19] rfl (by kernel_rfl) (fun _ _ _ h => h) hHeld (by rfl) ?_ ?_
            · (intro W' hSw; (try dsimp only at hSw); go_simp)
            try simp only [Act.put, List.setIfInBounds_toArray, List.set_cons_zero, List.set_cons_succ]
            refine wpAnyG_takeL (i := 5) (.int .i64 q) [19] rfl (by kernel_rfl) (fun _ _ _ h => h) hHeld (by rfl) ?_ ?_
            · (intro W' hSw; (try dsimp only at hSw); go_simp)
            try simp only [Act.put, List.setIfInBounds_toArray, List.set_cons_zero, List.set_cons_succ]
            refine wpAnyG_takeL (i := 6) (.pointer (some (a1.add q))) [19] rfl (by kernel_rfl) (fun _ _ _ h => h) hHeld (by rfl) ?_ ?_
            · (intro W' hSw; (try dsimp only at hSw); go_simp)
            try simp only [Act.put, List.setIfInBounds_toArray, List.set_cons_zero, List.set_cons_succ]
            refine wpAnyG_takeL (i := 7) (.int .i64 hi) [19] rfl (by kernel_rfl) (fun _ _ _ h => h) hHeld (by rfl) ?_ ?_
            · (intro W' hSw; (try dsimp only at hSw); go_simp)
            try simp only [Act.put, List.setIfInBounds_toArray, List.set_cons_zero, List.set_cons_succ]
            refine wpAnyG_takeL (i := 8) (.slice (some a2) s2.length c2) [19] rfl (by kernel_rfl) (fun _ _ _ h => h) hHeld (by rfl) ?_ ?_
            · (intro W' hSw; (try dsimp only at hSw); go_simp)
            try simp only [Act.put, List.setIfInBounds_toArray, List.set_cons_zero, List.set_cons_succ]
            refine wpAnyG_takeL (i := 9) (.int .i64 q) [19] rfl (by kernel_rfl) (fun _ _ _ h => h) hHeld (by rfl) ?_ ?_
            · (intro W' hSw; (try dsimp only at hSw); go_simp)
            try simp only [Act.put, List.setIfInBounds_toArray, List.set_cons_zero, List.set_cons_succ]
            refine wpAnyG_takeL (i := 10) (.slice (some a2) s2.length c2) [19] rfl (by kernel_rfl) (fun _ _ _ h => h) hHeld (by rfl) ?_ ?_
            · (intro W' hSw; (try dsimp only at hSw); go_simp)
            try simp only [Act.put, List.setIfInBounds_toArray, List.set_cons_zero, List.set_cons_succ]
            refine wpAnyG_takeL (i := 11) (.int .i64 s2.length) [19] rfl (by kernel_rfl) (fun _ _ _ h => h) hHeld (by rfl) ?_ ?_
            · (intro W' hSw; (try dsimp only at hSw); go_simp)
            try simp only [Act.put, List.setIfInBounds_toArray, List.set_cons_zero, List.set_cons_succ]
            refine wpAnyG_takeL (i := 12) (.int .i64 p) [19] rfl (by kernel_rfl) (fun _ _ _ h => h) hHeld (by rfl) ?_ ?_
            · (intro W' hSw; (try dsimp only at hSw); go_simp)
            try simp only [Act.put, List.setIfInBounds_toArray, List.set_cons_zero, List.set_cons_succ]
            refine wpAnyG_takeL (i := 13) (.pointer (some (a2.add p))) [19] rfl (by kernel_rfl) (fun _ _ _ h => h) hHeld (by rfl) ?_ ?_
            · (intro W' hSw; (try dsimp only at hSw); go_simp)
            try simp only [Act.put, List.setIfInBounds_toArray, List.set_cons_zero, List.set_cons_succ]
            refine wpAnyG_takeL (i := 14) (.int .u8 z) [19] rfl (by kernel_rfl) (fun _ _ _ h => h) hHeld (by rfl) ?_ ?_
            · (intro W' hSw; (try dsimp only at hSw); go_simp)
            try simp only [Act.put, List.setIfInBounds_toArray, List.set_cons_zero, List.set_cons_succ]
            refine wpAnyG_takeL (i := 15) (.int .i64 z) [19] rfl (by kernel_rfl) (fun _ _ _ h => h) hHeld (by rfl) ?_ ?_
            · (intro W' hSw; (try dsimp only at hSw); go_simp)
            try simp only [Act.put, List.setIfInBounds_toArray, List.set_cons_zero, List.set_cons_succ]
            refine wpAnyG_takeL (i := 16) (.int .i64 zz) [19] rfl (by kernel_rfl) (fun _ _ _ h => h) hHeld (by rfl) ?_ ?_
            · (intro W' hSw; (try dsimp only at hSw); go_simp)
            try simp only [Act.put, List.setIfInBounds_toArray, List.set_cons_zero, List.set_cons_succ]
            refine wpAnyG_oneL (i := 17) (by kernel_rfl) rfl (fun K hK => ?_)
            go_simp
            refine hK.out _ _ (fun _ => hHeld) ?_
            clear hK K
            try simp only [Act.put, List.setIfInBounds_toArray, List.set_cons_zero, List.set_cons_succ]
            refine wpAnyG_oneL (i := 18) (by kernel_rfl) rfl (fun K hK => ?_)
            go_simp
            refine hK.out _ _ (fun _ => hHeld) ?_
            clear hK K
            try simp only [Act.put, List.setIfInBounds_toArray, List.set_cons_zero, List.set_cons_succ]
            clear hHeld
            refine wpAnyG_oneL (i := 19) (by kernel_rfl) rfl (fun K hK => ?_)
            go_simp
            refine hK.out _ _ (fun h => Bool.noConfusion (show true = false from h)) ?_
            clear hK K
            refine wpAnyG_done (by kernel_rfl) ?_ _
            have hBD : Below wr.heap.size wr wr.drew := (Below.refl _ _).drew
            replace hOR := Lib.hid (hOR.out.below hBD)
            replace hOF := Lib.hid (hOF.out.below hBD)
            replace hB4 := Lib.hid (below2 hB4.out hBD)
            replace k0 := cell_below hBD k0
            replace k1 := cell_below hBD k1
            replace k8 := cell_below hBD k8
            clear hBD k2
            generalize wr.drew = wd at hOR hOF hB4 k0 k1 k8 ⊢
            go_wp2_with fail
            go_quiet (fail)
            have hBD := below_drewN (Below.refl wd.heap.size wd) nq
            replace hOR := Lib.hid (hOR.out.below hBD)
            replace hOF := Lib.hid (hOF.out.below hBD)
            replace hB4 := Lib.hid (below2 hB4.out hBD)
            clear hBD
            generalize wd.drewN nq = we at hOR hOF hB4 ⊢
            clear k0 k1 k8
            go_wp2_with (first
              | (at_builtin; (refine append_one (w0 := w3) w3.heap.size rfl (.tmp 161) (.tmp 163) 22 3 .i64 8 rfl Try.underlying22 infoI (by decide) _ (RG.take q) mx rfl rfl hOR.out hB4.out hB4.out.size (by have := HLR.out; omega) ?_); intro v5 w5 hO5 hB5 hg5 ha5; obtain ⟨hOF5, hDI5⟩ := two_step hOF.out hg5 ha5 hDI.out; have HO5 := Lib.hid hO5; have HB5 := Lib.hid hB5; have HF5 := Lib.hid hOF5; have HD5 := Lib.hid (two_flip hDI5); clear hO5 hB5 hg5 ha5 hOF5 hDI5)
              | (at_builtin; (refine append_one (w0 := w3) w3.heap.size rfl (.tmp 165) (.tmp 167) 22 3 .i64 8 rfl Try.underlying22 infoI (by decide) _ (FR.take q) lo rfl rfl HF5.out HB5.out HB5.out.size (by have := HLR.out; omega) ?_); intro v6 w6 hO6 hB6 hg6 ha6; obtain ⟨hOR6, hDI6⟩ := two_step HO5.out hg6 ha6 HD5.out; have HO6 := Lib.hid hO6; have HB6 := Lib.hid hB6; have HR6 := Lib.hid hOR6; have HD6 := Lib.hid (two_flip hDI6); clear hO6 hB6 hg6 ha6 hOR6 hDI6))
            go_roundw
            case rel => exact ⟨q + 1, by go_num, by have := HQJ.out; omega, by rw [HTR.out]; exact HR6, by rw [HTF.out]; exact HO6, HD6, HB6⟩
            case measure => simp [intOf]; have := HQJ.out; omega
        · obtain rfl : q = j := by omega
          have hR9 : RG.take q = RG := List.take_of_length_le (by rw [HRL.out]; exact Nat.le_refl _)
          have hF9 : FR.take q = FR := List.take_of_length_le (by rw [HFL.out]; exact Nat.le_refl _)
          have hOR9 := hOR.out
          have hOF9 := hOF.out
          rw [hR9] at hOR9
          rw [hF9] at hOF9
          obtain ⟨B1, e1, rfl, hs1⟩ := own_ri hOR9
          obtain ⟨B2, e2, rfl, hs2⟩ := own_ri hOF9
          rw [HRL.out, HFL.out]
          have HV1 := Lib.hid hs1
          have HV2 := Lib.hid hs2
          have HBZ := Lib.hid (below2 HBY.out hB4.out)
          have HU4 := Lib.hid (HU3.out.below hB4.out)
          have HV0 := Lib.hid (HT0.out.below hB4.out)
          have hle := HC.out.least RG HRG.out.1 (fun i h h2 => HRG.out.2 i h h2)
          rw [HCN.out] at hle
          have hcr : costS RG U = ((costP RG (walkK U U.length) : Int), 0) := by unfold costS; rw [if_neg (by rw [HRG.out.1]; simp)]
          obtain ⟨cR, hcR⟩ : ∃ c, costP RG (walkK U U.length) = c := ⟨_, rfl⟩
          rw [hcR] at hle hcr
          have hdd : decide ((cR : Int) < (cN : Int)) = false := decide_eq_false (by omega)
          have hddN : decide (cR < cN) = false := decide_eq_false (by omega)
          have hco := scost_any B1 A6 e1 c6 RG U wr hs1 HU4.out
          rw [HRL.out, HUL.out, hcr] at hco
          have HCO := Lib.hid hco
          clear hR9 hF9 hOR9 hOF9 hs1 hs2 hle hcr hcR hco hOR hOF hDI hB4 hq hlt
          go_wp2_with fail
          refine HCO.out.mono ?_
          rintro e w4 ⟨rfl, b⟩
          have BX := below2 HBZ.out b
          have hc2 := schoose_any A0 A0 A6 c0 c0 c6 s0 s0 U w4 (HV0.out.below b) (HV0.out.below b) (HU4.out.below b)
          rw [HN.out.1, HUL.out] at hc2
          have HV2' := Lib.hid (HV2.out.below b)
          have HU5 := Lib.hid (HU4.out.below b)
          have HC2 := Lib.hid hc2
          clear hc2 b HCO
          go_wp2_with fail
          refine HC2.out.mono ?_
          rintro e w5 ⟨v9, rfl, hO9, b⟩
          rw [HES.out]
          rw [HSM.out] at hO9
          obtain ⟨B9, e9, rfl, hs9⟩ := own_ri hO9
          rw [HFL.out]
          have HN9 := Lib.hid (show chooseN s0 s0 U = (costS FR U).1 from by unfold chooseN; rw [if_pos HES.out, HSM.out])
          have HOK9 := Lib.hid (show (costS FR U).2 = 0 from by
            have h1 := (chosen HES.out).ok
            rw [HSM.out] at h1
            rw [rowB_cost, h1])
          obtain ⟨⟨k9, z9⟩, hk9⟩ : ∃ x, costS FR U = x := ⟨_, rfl⟩
          rw [hk9] at HN9 HOK9
          have hz9 : z9 = 0 := HOK9.out
          subst hz9
          rw [HN9.out]
          simp only
          replace BX := below2 BX b
          have hs2' := HV2'.out.below b
          have hu6 := HU5.out.below b
          have hco := scost_any B2 A6 e2 c6 FR U w5 hs2' hu6
          rw [HFL.out, HUL.out, hk9] at hco
          have HCO := Lib.hid hco
          have HS9' := Lib.hid hs9
          have HS2' := Lib.hid hs2'
          have HBX9 := Lib.hid BX
          clear hk9 hO9 hs9 hs2' hu6 hco b BX
          go_wp2_with fail
          refine HCO.out.mono ?_
          rintro e w6 ⟨rfl, b⟩
          have hi := ints_ref B9 B2 e9 e2 FR FR w6 (HS9'.out.below b) (HS2'.out.below b)
          rw [HFL.out, show sameL FR FR = true by simp [sameL]] at hi
          have HI := Lib.hid hi
          have HBX10 := Lib.hid (below2 HBX9.out b)
          clear hi b
          go_wp2_with fail
          refine HI.out.mono ?_
          rintro e w7 ⟨rfl, b⟩
          have BX := below2 HBX10.out b
          clear b
          go_wp2_with fail
          refine (awake_any _).mono ?_
          rintro e w8 ⟨rfl, b⟩
          replace BX := below2 BX b; clear b
          go_wp2_with fail
          go_ret
          exact ⟨rfl, BX⟩
    · obtain ⟨hx1, hx2⟩ := choose_err (E := chooseE s0 s1 U) rfl hE
      have HX1 := Lib.hid hx1
      have HX2 := Lib.hid hx2
      obtain ⟨E, hEe⟩ : ∃ E, chooseE s0 s1 U = E := ⟨_, rfl⟩
      have HEE := Lib.hid hEe
      rw [hEe] at hE
      have heb : (E != 0) = true := by simp [hE]
      clear hx1 hx2 hEe hE
      go_wp2_with fail
      refine HCH.out.mono ?_
      rintro e w2 ⟨v, rfl, hO, b⟩
      rw [HX2.out, HEE.out]
      rw [HX1.out] at hO
      obtain ⟨A8, c8, rfl, _⟩ := own_ri hO
      have BX := below2 HB.out b
      clear hO b
      go_wp2_with fail
      refine (awake_any _).mono ?_
      rintro e w3 ⟨rfl, b⟩
      replace BX := below2 BX b; clear b
      go_wp2_with fail
      go_ret
      exact ⟨rfl, BX⟩

end Go.Proofs.Ytkfgomhhenmmeaa

namespace Go.Proofs.Ytkfgomhhenmmeaa
open Go.ChangeShapes Go.WideShapes Go.ChangeAt Go.WideMaps Go.WideElems Go.RowKit Go.Deep

theorem laidOut_scaleLeast : laidOutB Try.prog = true := by kernel_rfl
set_option maxRecDepth 100000 in
theorem lifted_scaleLeast (os : Os) (started : os.Started) (H : Type) (enc : TypeId × Value → H) :
    ReturnsInHanded {} Try.checked os 7 .any (Rows.scaleLeastSpec.pre6 enc Try.prog Try.f7 [] false) (Rows.scaleLeastSpec.post enc Try.prog Try.f7 false true false false) := by
  refine returnsInHanded_of_change_sized (C := Try.checked) own started (by kernel_rfl) Try.func7
    (ChangeSpec.witness6 (enc := enc) (C := Try.checked) false ⟨#[], #[.slice none 0 0, .slice none 0 0, .slice none 0 0], []⟩ 8 (by kernel_rfl) (by kernel_rfl) (by kernel_rfl) (by kernel_rfl)) ?_
  intro W base args ds gs before hval0 hW _ hsz0 _
  have hval : ∀ (j : Nat) t v, Try.f7.params[j]? = some t → args[j]? = some v → Value.okWide Try.prog W .any base t v := hval0
  have hW' := hW
  obtain ⟨p, q, hA0, hV, rfl, hfz, hnd⟩ := hW
  have hA : DataW.TrodAll enc Try.prog W 0 (fun _ => true) true Try.f7.params.toList args.toList ds p := hA0
  have hsz : (DataW.weightsEach Try.prog (Try.f7.params.toList ++ Rows.scaleLeastSpec.plain.varTypes Try.prog) (ds ++ gs)).all (· ≤ reachBytes) = true := hsz0
  rw [Try.params7] at hA hval hsz
  obtain ⟨v0, vs0, d0, ds0, p0, q0, hargs, rfl, rfl, h0, r0⟩ := trodAll_cons hA
  obtain ⟨v1, vs1, d1, ds1, p1, q1, rfl, rfl, rfl, h1, r1⟩ := trodAll_cons r0
  obtain ⟨v2, vs2, d2, ds2, p2, q2, rfl, rfl, rfl, h2, r2⟩ := trodAll_cons r1
  obtain ⟨rfl, rfl, rfl⟩ := trodAll_nil r2
  obtain rfl : args = #[v0, v1, v2] := by cases args; simp_all
  obtain ⟨rfl, rfl⟩ := trodVars_none hV
  have lt0 : ∀ x ∈ p0, x.block < W.heap.size := by obtain ⟨m, hm⟩ := h0; exact DataW.trod_lt m _ _ _ hm
  have y0 : ∀ m ∈ d0.weights Try.prog 22, m ≤ reachBytes := fun m hm => of_decide_eq_true (List.all_eq_true.1 hsz m (DataW.weights_mem_each (j := 0) rfl rfl m hm))
  obtain ⟨B0, l0, e0, rfl⟩ := okWide_slice Try.underlying22 (hval 0 22 v0 rfl rfl)
  obtain ⟨A0, c0, s0, hv0, hR0, hB0⟩ : ∃ A c xs, Value.slice B0 l0 e0 = .slice A xs.length c ∧ RI W A c xs ∧ ((∀ m ∈ d0.weights Try.prog 22, m ≤ reachBytes) → xs.length ≤ 140737488355328) := by obtain ⟨fuel, hf⟩ := h0; exact open_I hf
  have lt1 : ∀ x ∈ p1, x.block < W.heap.size := by obtain ⟨m, hm⟩ := h1; exact DataW.trod_lt m _ _ _ hm
  have y1 : ∀ m ∈ d1.weights Try.prog 22, m ≤ reachBytes := fun m hm => of_decide_eq_true (List.all_eq_true.1 hsz m (DataW.weights_mem_each (j := 1) rfl rfl m hm))
  obtain ⟨B1, l1, e1, rfl⟩ := okWide_slice Try.underlying22 (hval 1 22 v1 rfl rfl)
  obtain ⟨A1, c1, s1, hv1, hR1, hB1⟩ : ∃ A c xs, Value.slice B1 l1 e1 = .slice A xs.length c ∧ RI W A c xs ∧ ((∀ m ∈ d1.weights Try.prog 22, m ≤ reachBytes) → xs.length ≤ 140737488355328) := by obtain ⟨fuel, hf⟩ := h1; exact open_I hf
  have lt2 : ∀ x ∈ p2, x.block < W.heap.size := by obtain ⟨m, hm⟩ := h2; exact DataW.trod_lt m _ _ _ hm
  have y2 : ∀ m ∈ d2.weights Try.prog 32, m ≤ reachBytes := fun m hm => of_decide_eq_true (List.all_eq_true.1 hsz m (DataW.weights_mem_each (j := 2) rfl rfl m hm))
  obtain ⟨B2, l2, e2, rfl⟩ := okWide_slice Try.underlying32 (hval 2 32 v2 rfl rfl)
  obtain ⟨A2, c2, s2, hv2, hR2, hB2⟩ : ∃ A c xs, Value.slice B2 l2 e2 = .slice A xs.length c ∧ RY W A c xs ∧ (∀ x ∈ xs, 0 ≤ x ∧ x < 256) ∧ ((∀ m ∈ d2.weights Try.prog 32, m ≤ reachBytes) → xs.length ≤ 140737488355328) := by obtain ⟨fuel, hf⟩ := h2; exact open_Y hf
  have hwalk := scaleLeast_walk A0 c0 s0 A1 c1 s1 A2 c2 s2 W hR0 (hB0 y0) hR1 (hB1 y1) hR2 hB2.1 (hB2.2 y2)
  rw [← hv0] at hwalk
  rw [← hv1] at hwalk
  rw [← hv2] at hwalk
  refine hwalk.mono fun e W' ⟨he, bel⟩ => ?_
  subst he
  exact ⟨_, rfl, _, _, _, [], _, [], hW', trodAll_mk1 (shut_bool Try.underlying4 _), (trodAll_cons_mk (Below.trod laidOut_scaleLeast (by kernel_rfl) (of_decide_eq_true (by kernel_rfl)) h0 bel lt0) (trodAll_cons_mk (Below.trod laidOut_scaleLeast (by kernel_rfl) (of_decide_eq_true (by kernel_rfl)) h1 bel lt1) (trodAll_cons_mk (Below.trod laidOut_scaleLeast (by kernel_rfl) (of_decide_eq_true (by kernel_rfl)) h2 bel lt2) trodAll_mk0))), rfl, bel.frame _, fun h => by cases h⟩
theorem scaleLeast_holds : Rows.ScaleLeastSaid :=
  OpenClaim.holds_of_wide 7 Try.f7 rfl rfl rfl rfl rfl rfl rfl ⟨rfl, rfl, rfl, rfl, rfl⟩ rfl rfl rfl rfl rfl (by kernel_rfl) Try.func7 (by kernel_rfl)
    (of_decide_eq_true (by kernel_rfl)) (by unfold Func.isWrapper; first | (rw [if_pos (by decide +kernel)]; kernel_rfl) | (rw [if_neg (by decide +kernel)]; exact ⟨rfl, rfl⟩))
    (fun os started H enc _ => lifted_scaleLeast os started H enc)
#print axioms scaleLeast_holds
end Go.Proofs.Ytkfgomhhenmmeaa
