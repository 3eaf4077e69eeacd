/- pcm: Peak, Power: what each call returns, for any sound. -/
import Derived.Test.YtijcecakofmhcaaDoorPcmH
namespace Go.Proofs.YtijcecakofmhcaaDoor
open Go.RowKit

theorem absMax_if (m x : Int) : (if (if m < x then x else m) < -x then -x else (if m < x then x else m)) = absMax m x := by unfold absMax; split <;> split at * <;> omega
theorem peak_bd (xs : List Int) (h : ∀ x ∈ xs, -32768 ≤ x ∧ x ≤ 32767) (k : Nat) : 0 ≤ peakL (xs.take k) ∧ peakL (xs.take k) ≤ 32768 := by
  have key : ∀ (ys : List Int) (m : Int), (∀ x ∈ ys, -32768 ≤ x ∧ x ≤ 32767) → 0 ≤ m → m ≤ 32768 → 0 ≤ ys.foldl absMax m ∧ ys.foldl absMax m ≤ 32768 := by
    intro ys
    induction ys with
    | nil => intro m _ h1 h2; exact ⟨h1, h2⟩
    | cons y ys ih =>
      intro m hy h1 h2
      have hyy := hy y (by simp)
      exact ih _ (fun x hx => hy x (by simp [hx])) (by unfold absMax; omega) (by unfold absMax; omega)
  exact key _ 0 (fun x hx => h x (List.mem_of_mem_take hx)) (by omega) (by omega)
theorem weave_smp {s : List (List Int)} (h : ∀ c ∈ s, ∀ x ∈ c, -32768 ≤ x ∧ x ≤ 32767) : ∀ x ∈ weave s, -32768 ≤ x ∧ x ≤ 32767 := by
  intro x hx
  simp only [weave, weaveN, List.mem_flatMap, col, List.mem_map] at hx
  obtain ⟨i, _, c, hc, rfl⟩ := hx
  by_cases hi : i < c.length
  · exact h c hc _ (nth_mem 0 c i hi)
  · have : nth 0 c i = 0 := by simp [nth, List.getD_eq_getElem?_getD, List.getElem?_eq_none (show c.length ≤ i by omega)]
    omega
theorem peak_snoc (xs : List Int) (k : Nat) (h : k < xs.length) : peakL (xs.take (k + 1)) = absMax (peakL (xs.take k)) (nth 0 xs k) := by
  rw [take_succ_nth 0 xs k h]; simp [peakL]

set_option maxHeartbeats 1000000 in
set_option maxRecDepth 100000 in
theorem peak_any (r : Int) (A : Option Addr) (c : Nat) (s : List (List Int)) (w : World) (hG : GR w) (hS : R2 w A c s) :
    Calls Tryd.prog 33 #[.agg #[.int .i64 r, .slice A s.length c]] w fun e w' => e = .returned (.tuple #[.int .i64 (peakS r s).1, .int .i64 (peakS r s).2]) ∧ Below w.heap.size w w' := by
  have hn := hS.len
  cases hv : validB r s
  · have H := Lib.hid (checkE_no hv)
    have HF := Lib.hid (show peakS r s = (0, 1) by simp [peakS, hv])
    clear hv
    go_enter Tryd.func33, Tryd.ntmps33
    go_wp2_with (first | ((with_reducible refine at_dst (N := 1) rfl ?_); refine ev_new #[.int .i64 r, .slice A s.length c] 24 rfl ?hr ?_; (case hr => first | (go_simp; done) | (go_simp; rfl)); intro g1 w1 eg1 zg1 b1 Bg1; have k0 := Bg1.cell 0 rfl; have k1 := Bg1.cell 1 rfl) | (go_at_call 48; refine (check_any _ _ _ _ _ (hG.below b1) (hS.below b1)).mono ?_; rintro e w2 ⟨rfl, b2⟩; rw [H.out]; replace b1 := below2 b1 b2))
    go_ret2
    exact ⟨ret_two (by rw [HF.out]; rfl) (by rw [HF.out]; rfl), b1⟩
  · have V := valid_facts hv
    have H := Lib.hid (checkE_ok hv)
    have HF := Lib.hid (show peakS r s = (peakL (weave s), 0) by simp [peakS, hv])
    have HB := Lib.hid (peak_bd (weave s) (weave_smp V.smp))
    have HW := Lib.hid (weave_smp V.smp)
    have hlen : (weave s).length ≤ 16384 := by
      have h5 : len0 s * s.length ≤ 8192 * 2 := Nat.mul_le_mul V.len V.two
      rw [weave, weaveN_length]; omega
    clear hv
    go_enter Tryd.func33, Tryd.ntmps33
    go_wp2_with (first | ((with_reducible refine at_dst (N := 1) rfl ?_); refine ev_new #[.int .i64 r, .slice A s.length c] 24 rfl ?hr ?_; (case hr => first | (go_simp; done) | (go_simp; rfl)); intro g1 w1 eg1 zg1 b1 Bg1; have k0 := Bg1.cell 0 rfl; have k1 := Bg1.cell 1 rfl) | (go_at_call 48; refine (check_any _ _ _ _ _ (hG.below b1) (hS.below b1)).mono ?_; rintro e w2 ⟨rfl, b2⟩; rw [H.out]; replace b1 := below2 b1 b2; replace k0 := cell_below b2 k0; replace k1 := cell_below b2 k1) | (go_at_call 55; refine (woven_any _ _ _ _ _ (hS.below b1) V.one V.two V.len V.same).mono ?_; rintro e w3 ⟨v3, rfl, hO, b3⟩; obtain ⟨A3, c3, rfl, hR⟩ := hO.rd))
    go_loop [5, 16] (fun m i => ∃ k : Nat, k ≤ (weave s).length ∧ i = .int .i64 k ∧ m = .int .i64 (peakL ((weave s).take k))) (fun _ i => (weave s).length - (intOf i).toNat)
    case atStart => exact ⟨0, Nat.zero_le _, rfl, rfl⟩
    case round =>
      obtain ⟨k, hk, rfl, rfl⟩ := hrel
      by_cases hlt : k < (weave s).length
      · obtain ⟨ad, rfl, hc⟩ := rd_int hR k hlt
        have bb := HB.out k
        have bx := HW.out _ (nth_mem 0 (weave s) k hlt)
        have HS := Lib.hid (peak_snoc (weave s) k hlt)
        go_wp2
        go_round
        case rel => exact ⟨k + 1, by omega, by go_num, by rw [HS.out, ← absMax_if]⟩
        case measure => simp [intOf]; omega
      · obtain rfl : k = (weave s).length := by omega
        go_wp2
        go_ret2
        exact ⟨ret_two (by rw [HF.out]; simp) (by rw [HF.out]; rfl), below2 b1 b3⟩

theorem sq_snoc (xs : List Int) (k : Nat) (h : k < xs.length) : sqSum (xs.take (k + 1)) = sqSum (xs.take k) + nth 0 xs k * nth 0 xs k := by
  rw [take_succ_nth 0 xs k h]; simp [sqSum]
theorem sq_bd1 {x : Int} (h : -32768 ≤ x ∧ x ≤ 32767) : 0 ≤ x * x ∧ x * x ≤ 1073741824 := by
  obtain ⟨h1, h2⟩ := h
  have a := Int.mul_nonneg (show 0 ≤ x + 32768 by omega) (show 0 ≤ 32768 - x by omega)
  simp only [Int.add_mul, Int.mul_add, Int.sub_mul, Int.mul_sub] at a
  refine ⟨?_, by omega⟩
  rcases Int.le_total 0 x with hx | hx
  · exact Int.mul_nonneg hx hx
  · have := Int.mul_nonneg (show 0 ≤ -x by omega) (show 0 ≤ -x by omega)
    rwa [Int.neg_mul_neg] at this
theorem sq_bd (xs : List Int) (h : ∀ x ∈ xs, -32768 ≤ x ∧ x ≤ 32767) (hl : xs.length ≤ 8192) : ∀ k, k ≤ xs.length → 0 ≤ sqSum (xs.take k) ∧ sqSum (xs.take k) ≤ 1073741824 * k := by
  intro k
  induction k with
  | zero => intro _; simp [sqSum]
  | succ k ih =>
    intro hk
    have h1 := ih (by omega)
    have h2 := sq_bd1 (h _ (nth_mem 0 xs k (by omega)))
    rw [sq_snoc xs k (by omega)]
    omega

set_option maxHeartbeats 1000000 in
set_option maxRecDepth 100000 in
theorem power_any (r : Int) (A : Option Addr) (c : Nat) (s : List (List Int)) (w : World) (hG : GR w) (hS : R2 w A c s) :
    Calls Tryd.prog 38 #[.agg #[.int .i64 r, .slice A s.length c]] w fun e w' => ∃ v, e = .returned (.tuple #[v, .int .i64 (powerS r s).2]) ∧ OwnI 3 .i64 w.heap.size w' v (powerS r s).1 ∧ Below w.heap.size w w' := by
  have hn := hS.len
  cases hv : validB r s
  · have H := Lib.hid (checkE_no hv)
    have HF := Lib.hid (show powerS r s = ([], 1) by simp [powerS, hv])
    clear hv
    go_enter Tryd.func38, Tryd.ntmps38
    go_wp2_with (first | ((with_reducible refine at_dst (N := 1) rfl ?_); refine ev_new #[.int .i64 r, .slice A s.length c] 24 rfl ?hr ?_; (case hr => first | (go_simp; done) | (go_simp; rfl)); intro g1 w1 eg1 zg1 b1 Bg1; have k0 := Bg1.cell 0 rfl; have k1 := Bg1.cell 1 rfl) | (go_at_call 48; refine (check_any _ _ _ _ _ (hG.below b1) (hS.below b1)).mono ?_; rintro e w2 ⟨rfl, b2⟩; rw [H.out]; replace b1 := below2 b1 b2))
    go_ret2
    rw [HF.out]
    exact ⟨_, rfl, OwnI.nil _ _ _ _, b1⟩
  · have V := valid_facts hv
    have H := Lib.hid (checkE_ok hv)
    have HF := Lib.hid (show powerS r s = (s.map sqSum, 0) by simp [powerS, hv])
    have hs2 := V.two
    clear hv
    go_enter Tryd.func38, Tryd.ntmps38
    go_wp2_with (first | ((with_reducible refine at_dst (N := 1) rfl ?_); refine ev_new #[.int .i64 r, .slice A s.length c] 24 rfl ?hr ?_; (case hr => first | (go_simp; done) | (go_simp; rfl)); intro g1 w1 eg1 zg1 b1 Bg1; have k0 := Bg1.cell 0 rfl; have k1 := Bg1.cell 1 rfl) | (go_at_call 48; refine (check_any _ _ _ _ _ (hG.below b1) (hS.below b1)).mono ?_; rintro e w2 ⟨rfl, b2⟩; rw [H.out]; replace b1 := below2 b1 b2; replace k0 := cell_below b2 k0; replace k1 := cell_below b2 k1))
    go_loopw [5, 19] (fun v i wr => ∃ k : Nat, k ≤ s.length ∧ i = .int .i64 k ∧ OwnI 3 .i64 w2.heap.size wr v ((s.take k).map sqSum) ∧ Below w2.heap.size w2 wr) (fun _ i _ => s.length - (intOf i).toNat)
    case atStart => exact ⟨0, Nat.zero_le _, rfl, OwnI.nil _ _ _ _, Below.refl _ _⟩
    case round =>
      obtain ⟨k, hk, rfl, hO, hB⟩ := hrel
      by_cases hlt : k < s.length
      · obtain ⟨ad, A', c', rfl, hc, hs'⟩ := rd_sl ((hS.below b1).below hB) k hlt
        have hlen : (nth [] s k).length ≤ 8192 := by rw [V.same _ (nth_mem [] s k hlt)]; exact V.len
        have HQ := Lib.hid (sq_bd (nth [] s k) (V.smp _ (nth_mem [] s k hlt)) hlen)
        have HX := Lib.hid (fun j (hj : j < (nth [] s k).length) => sq_bd1 (V.smp _ (nth_mem [] s k hlt) _ (nth_mem 0 (nth [] s k) j hj)))
        go_wp2
        go_loop [8, 25] (fun v i => ∃ j : Nat, j ≤ (nth [] s k).length ∧ i = .int .i64 j ∧ v = .int .i64 (sqSum ((nth [] s k).take j))) (fun _ i => (nth [] s k).length - (intOf i).toNat)
        case atStart => exact ⟨0, Nat.zero_le _, rfl, rfl⟩
        case round =>
          obtain ⟨j, hj, rfl, rfl⟩ := hrel
          by_cases hl : j < (nth [] s k).length
          · obtain ⟨ad', rfl, hc'⟩ := rd_int hs' j hl
            have q1 := HQ.out j hj
            have q2 := HX.out j hl
            have HS := Lib.hid (sq_snoc (nth [] s k) j hl)
            go_wp2
            go_round
            case rel => exact ⟨j + 1, by omega, by go_num, by rw [HS.out]⟩
            case measure => simp [intOf]; omega
          · obtain rfl : j = (nth [] s k).length := by omega
            have hb8 : (((s.take k).map sqSum).length + 1) * 8 ≤ 140737488355328 := by rw [List.length_map, List.length_take]; omega
            go_wp2_with (at_builtin; (refine append_one (w0 := w2) w2.heap.size rfl (.tmp 35) (.tmp 37) 36 3 .i64 8 rfl Tryd.underlying36 infoI (by decide) _ _ _ rfl rfl hO hB hB.size hb8 ?_); intro v1 w4 hO1 hB1 _ _)
            go_roundw
            case rel => exact ⟨k + 1, by omega, by go_num, by rw [take_succ_nth [] s k hlt, List.map_append]; simpa using hO1, hB1⟩
            case measure => simp [intOf]; omega
      · obtain rfl : k = s.length := by omega
        rw [List.take_length] at hO
        go_wp2
        go_ret2
        rw [HF.out]
        exact ⟨_, rfl, hO.mono b1.size, below2 b1 hB⟩
end Go.Proofs.YtijcecakofmhcaaDoor
