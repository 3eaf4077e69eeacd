/- Plain laws of layer 2: mixing, parts. No program is named. -/
import Derived.Test.YtijcecakofmhcaaDoorPcmSpec
namespace Go.Proofs.YtijcecakofmhcaaDoor

theorem nth_map_list {α β : Type} (d : α) (e : β) (f : α → β) (xs : List α) (j : Nat) (h : j < xs.length) : nth e (xs.map f) j = f (nth d xs j) := by
  rw [nth_eq e _ j (by simpa using h), nth_eq d xs j h]; simp
theorem nth_map_range {β : Type} (e : β) (f : Nat → β) (n j : Nat) (h : j < n) : nth e ((List.range n).map f) j = f j := by
  rw [nth_eq e _ j (by simpa using h)]; simp
theorem range_map_nth {α : Type} (d : α) (xs : List α) : (List.range xs.length).map (fun j => nth d xs j) = xs := by
  apply List.ext_getElem
  · simp
  · intro i h1 h2
    simp [nth_eq d xs i h2]
theorem len0_map (s : List (List Int)) (f : List Int → List Int) (n : Nat) (h1 : 1 ≤ s.length) (h : ∀ c ∈ s, (f c).length = n) : len0 (s.map f) = n := by
  unfold len0
  rw [nth_map_list [] [] f s 0 h1]
  exact h _ (nth_mem [] s 0 h1)
/-- A sound that is made channel by channel. -/
theorem valid_map {r : Int} {s : List (List Int)} (V : VFacts r s) (t : List (List Int)) (n : Nat) (ht : t.length = s.length) (hn : n ≤ 8192) (hl : ∀ c ∈ t, c.length = n) (hx : ∀ c ∈ t, ∀ x ∈ c, -32768 ≤ x ∧ x ≤ 32767) : validB r t = true := by
  have h1 := V.one
  have h0 : len0 t = n := hl _ (nth_mem [] t 0 (by omega))
  exact valid_of ⟨V.rate, by omega, by have := V.two; omega, by rw [h0]; exact hn, fun c hc => by rw [h0]; exact hl c hc, hx⟩

/-! ### Mix -/
theorem mixV_range (g h x y : Int) : -32768 ≤ mixV g h x y ∧ mixV g h x y ≤ 32767 := by unfold mixV; omega
theorem mixS_ok {r : Int} {s : List (List Int)} {r2 : Int} {s2 : List (List Int)} {g h : Int} (he : (mixS r s r2 s2 g h).2.2 = 0) :
    validB r s = true ∧ validB r2 s2 = true ∧ alikeE r s r2 s2 = 0 ∧ mixS r s r2 s2 g h = (r, (List.range s.length).map (fun j => mixL g h (nth [] s j) (nth [] s2 j) (max (len0 s) (len0 s2))), 0) := by
  unfold mixS at he ⊢
  split at he
  · rename_i hc
    rw [if_pos hc]
    simp only [Bool.and_eq_true] at hc
    split at he
    · rename_i ha
      rw [if_pos ha]
      exact ⟨hc.1.1, hc.1.2, ha, rfl⟩
    · rename_i ha; exact absurd he ha
  · cases he
theorem mix_valid {r : Int} {s : List (List Int)} {s2 : List (List Int)} {r2 g h : Int} (V : VFacts r s) (V2 : VFacts r2 s2) :
    validB r ((List.range s.length).map (fun j => mixL g h (nth [] s j) (nth [] s2 j) (max (len0 s) (len0 s2)))) = true := by
  refine valid_map V _ (max (len0 s) (len0 s2)) (by simp) (by have := V.len; have := V2.len; omega) (fun c hc => ?_) (fun c hc x hx => ?_)
  · obtain ⟨j, _, rfl⟩ := List.mem_map.1 hc
    simp [mixL]
  · obtain ⟨j, _, rfl⟩ := List.mem_map.1 hc
    obtain ⟨i, _, rfl⟩ := List.mem_map.1 hx
    exact mixV_range _ _ _ _
theorem absMax_le (xs : List Int) (h : ∀ x ∈ xs, -32768 ≤ x ∧ x ≤ 32767) : ∀ m : Int, m ≤ 32768 → xs.foldl absMax m ≤ 32768 := by
  induction xs with
  | nil => intro m hm; exact hm
  | cons x xs ih =>
    intro m hm
    refine ih (fun y hy => h y (by simp [hy])) _ ?_
    have := h x (by simp)
    unfold absMax
    omega
theorem weave_mem {s : List (List Int)} {x : Int} (h : ∀ c ∈ s, c.length = len0 s) (hx : x ∈ weave s) : ∃ c ∈ s, x ∈ c := by
  unfold weave weaveN at hx
  obtain ⟨i, hi, hx⟩ := List.mem_flatMap.1 hx
  obtain ⟨c, hc, rfl⟩ := List.mem_map.1 hx
  exact ⟨c, hc, nth_mem 0 c i (by rw [h c hc]; exact List.mem_range.1 hi)⟩
theorem peak_le {r : Int} {s : List (List Int)} (hv : validB r s = true) : (peakS r s).2 = 0 ∧ (peakS r s).1 ≤ 32768 := by
  have V := valid_facts hv
  unfold peakS
  rw [if_pos hv]
  refine ⟨rfl, absMax_le _ (fun x hx => ?_) 0 (by decide)⟩
  obtain ⟨c, hc, hxc⟩ := weave_mem V.same hx
  exact V.smp c hc x hxc
theorem mixL_first (xs ys : List Int) (h : ∀ x ∈ xs, -32768 ≤ x ∧ x ≤ 32767) : mixL 256 0 xs ys xs.length = xs := by
  unfold mixL
  conv => rhs; rw [← range_map_nth 0 xs]
  refine List.map_congr_left fun i hi => ?_
  have hi := List.mem_range.1 hi
  have := h _ (nth_mem 0 xs i hi)
  unfold mixV
  omega
theorem mix_first {r : Int} {s : List (List Int)} {r2 : Int} {s2 : List (List Int)} (hv : validB r s = true) (hv2 : validB r2 s2 = true) (ha : alikeE r s r2 s2 = 0) :
    (mixS r s r2 s2 256 0).2.2 = 0 ∧ (len0 s2 ≤ len0 s → mixS r s r2 s2 256 0 = (r, s, 0)) := by
  have V := valid_facts hv
  have hg : gainOk 256 0 = true := by decide
  unfold mixS
  rw [if_pos (by rw [hv, hv2, hg]; rfl), if_pos ha]
  refine ⟨rfl, fun hl => ?_⟩
  congr 2
  conv => rhs; rw [← range_map_nth [] s]
  refine List.map_congr_left fun j hj => ?_
  have hj := List.mem_range.1 hj
  have hm := nth_mem [] s j hj
  have hlen : (nth [] s j).length = max (len0 s) (len0 s2) := by rw [V.same _ hm]; omega
  rw [← hlen]
  exact mixL_first _ _ (V.smp _ hm)
theorem mono_wide {r : Int} {s : List (List Int)} (hv : validB r s = true) (h1 : s.length = 1) :
    wideS r s = (r, [nth [] s 0, nth [] s 0], 0) ∧ monoS r [nth [] s 0, nth [] s 0] = (r, s, 0) := by
  have V := valid_facts hv
  match s, h1, V, hv with
  | [x], _, V, hv =>
    have hw : validB r [x, x] = true := by
      refine valid_of ⟨V.rate, by simp, by simp, V.len, fun c hc => ?_, fun c hc y hy => ?_⟩
      · obtain rfl : c = x := by simpa using hc
        rfl
      · obtain rfl : c = x := by simpa using hc
        exact V.smp c (by simp) y hy
    refine ⟨by simp [wideS, hv, nth], ?_⟩
    show monoS r [x, x] = (r, [x], 0)
    unfold monoS
    rw [if_pos hw]
    congr 2
    unfold monoL
    have hl : len0 [x, x] = x.length := rfl
    rw [hl]
    conv => rhs; rw [← range_map_nth 0 x]
    congr 1
    refine List.map_congr_left fun i hi => ?_
    show (if ([x, x] : List (List Int)).length = 2 then (nth 0 x i + nth 0 x i) / 2 else nth 0 x i) = nth 0 x i
    rw [if_pos (show ([x, x] : List (List Int)).length = 2 from rfl)]
    omega

/-! ### Parts -/
theorem sqSum_from (xs : List Int) : ∀ m : Int, xs.foldl (fun a x => a + x * x) m = m + sqSum xs := by
  unfold sqSum
  induction xs with
  | nil => intro m; simp
  | cons x xs ih =>
    intro m
    rw [List.foldl_cons, List.foldl_cons, ih, ih (0 + x * x)]
    omega
theorem sqSum_append (xs ys : List Int) : sqSum (xs ++ ys) = sqSum xs + sqSum ys := by
  unfold sqSum
  rw [List.foldl_append, sqSum_from ys]
  rfl
theorem parts {r : Int} {s : List (List Int)} (hv : validB r s = true) (n : Nat) (hn : n ≤ len0 s) :
    cutS r s 0 n = (r, s.map (fun c => c.take n), 0) ∧ cutS r s n (len0 s) = (r, s.map (fun c => c.drop n), 0) ∧
    joinS r (s.map (fun c => c.take n)) r (s.map (fun c => c.drop n)) = (r, s, 0) ∧
    powerS r (s.map (fun c => c.take n)) = (s.map (fun c => sqSum (c.take n)), 0) ∧ powerS r (s.map (fun c => c.drop n)) = (s.map (fun c => sqSum (c.drop n)), 0) ∧ powerS r s = (s.map sqSum, 0) := by
  have V := valid_facts hv
  have h1 := V.one
  have h3 := V.len
  have ht : validB r (s.map (fun c => c.take n)) = true := by
    refine valid_map V _ n (by simp) (by omega) (fun c hc => ?_) (fun c hc x hx => ?_)
    · obtain ⟨d, hd, rfl⟩ := List.mem_map.1 hc
      rw [List.length_take, V.same d hd]; omega
    · obtain ⟨d, hd, rfl⟩ := List.mem_map.1 hc
      exact V.smp d hd x (List.mem_of_mem_take hx)
  have hd : validB r (s.map (fun c => c.drop n)) = true := by
    refine valid_map V _ (len0 s - n) (by simp) (by omega) (fun c hc => ?_) (fun c hc x hx => ?_)
    · obtain ⟨d, hd, rfl⟩ := List.mem_map.1 hc
      rw [List.length_drop, V.same d hd]
    · obtain ⟨d, hd, rfl⟩ := List.mem_map.1 hc
      exact V.smp d hd x (List.mem_of_mem_drop hx)
  have lt : len0 (s.map (fun c => c.take n)) = n := len0_map s _ n h1 fun c hc => by rw [List.length_take, V.same c hc]; omega
  have ld : len0 (s.map (fun c => c.drop n)) = len0 s - n := len0_map s _ _ h1 fun c hc => by rw [List.length_drop, V.same c hc]
  refine ⟨?_, ?_, ?_, ?_, ?_, ?_⟩
  · unfold cutS
    rw [if_pos hv, if_pos (by simp [cutOk]; omega)]
    simp
  · unfold cutS
    rw [if_pos hv, if_pos (by simp [cutOk]; omega)]
    congr 2
    refine List.map_congr_left fun c hc => ?_
    rw [Int.toNat_natCast, Int.toNat_natCast, List.take_of_length_le (by rw [V.same c hc]; exact Nat.le_refl _)]
  · unfold joinS
    have ha : alikeE r (s.map (fun c => c.take n)) r (s.map (fun c => c.drop n)) = 0 := by simp [alikeE, ht, hd]
    rw [if_pos ha, if_pos (by rw [lt, ld]; omega)]
    congr 2
    rw [List.length_map]
    conv => rhs; rw [← range_map_nth [] s]
    refine List.map_congr_left fun j hj => ?_
    have hj := List.mem_range.1 hj
    rw [nth_map_list [] [] _ s j hj, nth_map_list [] [] _ s j hj, List.take_append_drop]
  · unfold powerS; rw [if_pos ht]; simp
  · unfold powerS; rw [if_pos hd]; simp
  · unfold powerS; rw [if_pos hv]
theorem power_sum (s : List (List Int)) (n : Nat) (j : Nat) (hj : j < s.length) : nth 0 (s.map (fun c => sqSum (c.take n))) j + nth 0 (s.map (fun c => sqSum (c.drop n))) j = nth 0 (s.map sqSum) j := by
  rw [nth_map_list [] 0 _ s j hj, nth_map_list [] 0 _ s j hj, nth_map_list [] 0 _ s j hj, ← sqSum_append, List.take_append_drop]
end Go.Proofs.YtijcecakofmhcaaDoor
