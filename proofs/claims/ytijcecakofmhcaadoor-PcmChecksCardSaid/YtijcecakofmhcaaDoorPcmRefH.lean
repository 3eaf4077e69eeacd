/- The document's answer, layer 2: Peak, Power. -/
import Derived.Test.YtijcecakofmhcaaDoorPcmRefB
import Derived.Test.YtijcecakofmhcaaDoorPcmL
namespace Go.Proofs.YtijcecakofmhcaaDoor
open Go.RowKit

/-- The greatest absolute value of the first channels, and of a part of the next one. -/
def peakC (s : List (List Int)) (k : Nat) : Int := (s.take k).foldl (fun m c => c.foldl absMax m) 0
def peakD (m : Int) (c : List Int) (j : Nat) : Int := (c.take j).foldl absMax m
theorem peakC_succ (s : List (List Int)) (k : Nat) (h : k < s.length) : peakC s (k + 1) = peakD (peakC s k) (nth [] s k) (nth [] s k).length := by
  unfold peakC peakD
  rw [take_succ_nth [] s k h, List.foldl_append, List.take_length]
  rfl
theorem peakD_succ (m : Int) (c : List Int) (j : Nat) (h : j < c.length) : peakD m c (j + 1) = absMax (peakD m c j) (nth 0 c j) := by
  unfold peakD
  rw [take_succ_nth 0 c j h, List.foldl_append]
  rfl
theorem absMax_iff (xs : List Int) : ∀ m B : Int, xs.foldl absMax m ≤ B ↔ m ≤ B ∧ ∀ x ∈ xs, x ≤ B ∧ -x ≤ B := by
  induction xs with
  | nil => intro m B; simp
  | cons x xs ih =>
    intro m B
    rw [List.foldl_cons, ih]
    unfold absMax
    simp only [List.mem_cons, forall_eq_or_imp]
    constructor
    · rintro ⟨h1, h2⟩; exact ⟨by omega, ⟨by omega, by omega⟩, h2⟩
    · rintro ⟨h1, ⟨h2, h3⟩, h4⟩; exact ⟨by omega, h4⟩
theorem peakC_iff (s : List (List Int)) : ∀ m B : Int, s.foldl (fun m c => c.foldl absMax m) m ≤ B ↔ m ≤ B ∧ ∀ c ∈ s, ∀ x ∈ c, x ≤ B ∧ -x ≤ B := by
  induction s with
  | nil => intro m B; simp
  | cons c s ih =>
    intro m B
    rw [List.foldl_cons, ih, absMax_iff]
    simp only [List.mem_cons, forall_eq_or_imp]
    exact and_assoc
theorem peak_weave (s : List (List Int)) (h : ∀ c ∈ s, c.length = len0 s) : peakC s s.length = peakL (weave s) := by
  have key : ∀ B, peakC s s.length ≤ B ↔ peakL (weave s) ≤ B := by
    intro B
    unfold peakC peakL
    rw [List.take_length, peakC_iff, absMax_iff]
    refine and_congr Iff.rfl ⟨fun h2 x hx => ?_, fun h2 c hc x hx => h2 x ?_⟩
    · simp only [weave, weaveN, List.mem_flatMap, col, List.mem_map, List.mem_range] at hx
      obtain ⟨i, hi, c, hc, rfl⟩ := hx
      exact h2 c hc _ (nth_mem 0 c i (by rw [h c hc]; exact hi))
    · obtain ⟨i, hi, rfl⟩ := List.mem_iff_getElem.1 hx
      simp only [weave, weaveN, List.mem_flatMap, col, List.mem_map, List.mem_range]
      exact ⟨i, by rw [← h c hc]; exact hi, c, hc, nth_eq 0 c i hi⟩
  have h1 := (key _).1 (Int.le_refl _)
  have h2 := (key _).2 (Int.le_refl _)
  omega
theorem peakD_bd (m : Int) (c : List Int) (h : ∀ x ∈ c, -32768 ≤ x ∧ x ≤ 32767) (hm : 0 ≤ m ∧ m ≤ 32768) : ∀ j, j ≤ c.length → 0 ≤ peakD m c j ∧ peakD m c j ≤ 32768 := by
  intro j
  induction j with
  | zero => intro _; simpa [peakD] using hm
  | succ j ih =>
    intro hj
    have h1 := ih (by omega)
    have h2 := h _ (nth_mem 0 c j (by omega))
    rw [peakD_succ m c j (by omega)]
    unfold absMax
    omega
theorem peakC_bd (s : List (List Int)) (h : ∀ c ∈ s, ∀ x ∈ c, -32768 ≤ x ∧ x ≤ 32767) : ∀ k, k ≤ s.length → 0 ≤ peakC s k ∧ peakC s k ≤ 32768 := by
  intro k
  induction k with
  | zero => intro _; simp [peakC]
  | succ k ih =>
    intro hk
    rw [peakC_succ s k (by omega)]
    exact peakD_bd _ _ (h _ (nth_mem [] s k (by omega))) (ih (by omega)) _ (Nat.le_refl _)

set_option maxHeartbeats 1000000 in
set_option maxRecDepth 100000 in
theorem refPeak_any (r : Int) (A : Option Addr) (c : Nat) (s : List (List Int)) (w : World) (hS : R2 w A c s) :
    Calls Tryd.prog 46 #[.agg #[.int .i64 r, .slice A s.length c]] w fun e w' => e = .returned (.tuple #[.int .i64 (peakS r s).1, .int .i64 (peakS r s).2]) ∧ Below w.heap.size w w' := by
  have hn := hS.len
  cases hv : validB r s
  · have HP := Lib.hid (show peakS r s = (0, 1) by simp [peakS, hv])
    have HV := Lib.hid hv
    clear hv
    go_enter Tryd.func46, Tryd.ntmps46
    go_wp2_with (first | ((with_reducible refine at_dst (N := 1) rfl ?_); refine ev_new #[.int .i64 r, .slice A s.length c] 24 rfl ?hr ?_; (case hr => first | (go_simp; done) | (go_simp; rfl)); intro g1 w1 eg1 zg1 b1 Bg1; have k0 := Bg1.cell 0 rfl; have k1 := Bg1.cell 1 rfl) | (go_at_call 25; refine (refValid_any r A c s _ (hS.below b1)).mono ?_; rintro e w2 ⟨rfl, b2⟩; rw [HV.out]))
    go_ret2
    rw [HP.out]
    exact ⟨rfl, below2 b1 b2⟩
  · have V := valid_facts hv
    have HP := Lib.hid (show peakS r s = (peakC s s.length, 0) by rw [peak_weave s V.same]; simp [peakS, hv])
    have HV := Lib.hid hv
    have HC := Lib.hid (peakC_bd s V.smp)
    have HM := Lib.hid V.smp
    clear hv V
    go_enter Tryd.func46, Tryd.ntmps46
    go_wp2_with (first | ((with_reducible refine at_dst (N := 1) rfl ?_); refine ev_new #[.int .i64 r, .slice A s.length c] 24 rfl ?hr ?_; (case hr => first | (go_simp; done) | (go_simp; rfl)); intro g1 w1 eg1 zg1 b1 Bg1; have k0 := Bg1.cell 0 rfl; have k1 := Bg1.cell 1 rfl) | (go_at_call 25; refine (refValid_any r A c s _ (hS.below b1)).mono ?_; rintro e w2 ⟨rfl, b2⟩; rw [HV.out]; replace b1 := below2 b1 b2; have q1 := (Bg1.below b2).cell 1 rfl))
    have hS2 := hS.below b1
    go_loop [4, 15] (fun v i => ∃ k : Nat, k ≤ s.length ∧ i = .int .i64 k ∧ v = .int .i64 (peakC s k)) (fun _ i => s.length - (intOf i).toNat)
    case atStart => exact ⟨0, Nat.zero_le _, rfl, rfl⟩
    case round =>
      obtain ⟨k, hk, rfl, rfl⟩ := hrel
      by_cases hlt : k < s.length
      · obtain ⟨ad, A', c', rfl, hc, hs'⟩ := rd_sl hS2 k hlt
        have HS := Lib.hid (peakC_succ s k hlt)
        have hsm := HM.out _ (nth_mem [] s k hlt)
        have HD := Lib.hid (peakD_bd (peakC s k) (nth [] s k) hsm (HC.out k hk))
        have HX := Lib.hid hsm
        obtain ⟨cc, hcc⟩ : ∃ cc, nth [] s k = cc := ⟨_, rfl⟩
        obtain ⟨m, hm⟩ : ∃ m, peakC s k = m := ⟨_, rfl⟩
        rw [hcc] at hc hs' HS HD HX
        rw [hm] at HS HD ⊢
        have hle := hs'.len
        clear hsm hcc hm
        go_wp2
        go_loop [4, 21] (fun v i => ∃ j : Nat, j ≤ cc.length ∧ i = .int .i64 j ∧ v = .int .i64 (peakD m cc j)) (fun _ i => cc.length - (intOf i).toNat)
        case atStart => exact ⟨0, Nat.zero_le _, rfl, by simp [peakD]⟩
        case round =>
          obtain ⟨j, hj, rfl, rfl⟩ := hrel
          by_cases hl : j < cc.length
          · obtain ⟨ad', rfl, hc'⟩ := rd_int hs' j hl
            have q1 := HD.out j hj
            have q2 := HX.out _ (nth_mem 0 cc j hl)
            have HSJ := Lib.hid (peakD_succ m cc j hl)
            go_wp2
            go_round
            case rel => exact ⟨j + 1, by omega, by go_num, by rw [HSJ.out, ← absMax_if]⟩
            case measure => simp [intOf]; omega
          · obtain rfl : j = cc.length := by omega
            go_wp2
            go_round
            case rel => exact ⟨k + 1, by omega, by go_num, by rw [HS.out]⟩
            case measure => simp [intOf]; omega
      · obtain rfl : k = s.length := by omega
        go_wp2
        go_ret2
        rw [HP.out]
        exact ⟨rfl, b1⟩

set_option maxHeartbeats 1000000 in
set_option maxRecDepth 100000 in
theorem refPower_any (r : Int) (A : Option Addr) (c : Nat) (s : List (List Int)) (w : World) (hS : R2 w A c s) :
    Calls Tryd.prog 47 #[.agg #[.int .i64 r, .slice A s.length c]] w fun e w' => ∃ v, e = .returned (.tuple #[v, .int .i64 (powerS r s).2]) ∧ OwnI 3 .i64 w.heap.size w' v (powerS r s).1 ∧ Below w.heap.size w w' := by
  have hn := hS.len
  cases hv : validB r s
  · have HP := Lib.hid (show powerS r s = ([], 1) by simp [powerS, hv])
    have HV := Lib.hid hv
    clear hv
    go_enter Tryd.func47, Tryd.ntmps47
    go_wp2_with (first | ((with_reducible refine at_dst (N := 1) rfl ?_); refine ev_new #[.int .i64 r, .slice A s.length c] 24 rfl ?hr ?_; (case hr => first | (go_simp; done) | (go_simp; rfl)); intro g1 w1 eg1 zg1 b1 Bg1; have k0 := Bg1.cell 0 rfl; have k1 := Bg1.cell 1 rfl) | (go_at_call 25; refine (refValid_any r A c s _ (hS.below b1)).mono ?_; rintro e w2 ⟨rfl, b2⟩; rw [HV.out]))
    go_ret2
    rw [HP.out]
    exact ⟨_, rfl, OwnI.nil _ _ _ _, below2 b1 b2⟩
  · have V := valid_facts hv
    have HF := Lib.hid (show powerS r s = (s.map sqSum, 0) by simp [powerS, hv])
    have hs2 := V.two
    have HV := Lib.hid hv
    clear hv
    go_enter Tryd.func47, Tryd.ntmps47
    go_wp2_with (first | ((with_reducible refine at_dst (N := 1) rfl ?_); refine ev_new #[.int .i64 r, .slice A s.length c] 24 rfl ?hr ?_; (case hr => first | (go_simp; done) | (go_simp; rfl)); intro g1 w1 eg1 zg1 b1 Bg1; have k0 := Bg1.cell 0 rfl; have k1 := Bg1.cell 1 rfl) | (go_at_call 25; refine (refValid_any r A c s _ (hS.below b1)).mono ?_; rintro e w2 ⟨rfl, b2⟩; rw [HV.out]; replace b1 := below2 b1 b2; replace k0 := cell_below b2 k0; replace k1 := cell_below b2 k1))
    go_loopw [4, 16] (fun v i wr => ∃ k : Nat, k ≤ s.length ∧ i = .int .i64 k ∧ OwnI 3 .i64 w2.heap.size wr v ((s.take k).map sqSum) ∧ Below w2.heap.size w2 wr) (fun _ i _ => s.length - (intOf i).toNat)
    case atStart => exact ⟨0, Nat.zero_le _, rfl, OwnI.nil _ _ _ _, Below.refl _ _⟩
    case round =>
      obtain ⟨k, hk, rfl, hO, hB⟩ := hrel
      by_cases hlt : k < s.length
      · obtain ⟨ad, A', c', rfl, hc, hs'⟩ := rd_sl ((hS.below b1).below hB) k hlt
        have hlen : (nth [] s k).length ≤ 8192 := by rw [V.same _ (nth_mem [] s k hlt)]; exact V.len
        have HQ := Lib.hid (sq_bd (nth [] s k) (V.smp _ (nth_mem [] s k hlt)) hlen)
        have HX := Lib.hid (fun j (hj : j < (nth [] s k).length) => sq_bd1 (V.smp _ (nth_mem [] s k hlt) _ (nth_mem 0 (nth [] s k) j hj)))
        go_wp2
        go_loop [7, 22] (fun v i => ∃ j : Nat, j ≤ (nth [] s k).length ∧ i = .int .i64 j ∧ v = .int .i64 (sqSum ((nth [] s k).take j))) (fun _ i => (nth [] s k).length - (intOf i).toNat)
        case atStart => exact ⟨0, Nat.zero_le _, rfl, rfl⟩
        case round =>
          obtain ⟨j, hj, rfl, rfl⟩ := hrel
          by_cases hl : j < (nth [] s k).length
          · obtain ⟨ad', rfl, hc'⟩ := rd_int hs' j hl
            have q1 := HQ.out j hj
            have q2 := HX.out j hl
            have HS := Lib.hid (sq_snoc (nth [] s k) j hl)
            go_wp2
            go_round
            case rel => exact ⟨j + 1, by omega, by go_num, by rw [HS.out]⟩
            case measure => simp [intOf]; omega
          · obtain rfl : j = (nth [] s k).length := by omega
            have hb8 : (((s.take k).map sqSum).length + 1) * 8 ≤ 140737488355328 := by rw [List.length_map, List.length_take]; omega
            go_wp2_with (at_builtin; (refine append_one (w0 := w2) w2.heap.size rfl (.tmp 32) (.tmp 34) 36 3 .i64 8 rfl Tryd.underlying36 infoI (by decide) _ _ _ rfl rfl hO hB hB.size hb8 ?_); intro v1 w4 hO1 hB1 _ _)
            go_roundw
            case rel => exact ⟨k + 1, by omega, by go_num, by rw [take_succ_nth [] s k hlt, List.map_append]; simpa using hO1, hB1⟩
            case measure => simp [intOf]; omega
      · obtain rfl : k = s.length := by omega
        rw [List.take_length] at hO
        go_wp2
        go_ret2
        rw [HF.out]
        exact ⟨_, rfl, hO.mono b1.size, below2 b1 hB⟩
end Go.Proofs.YtijcecakofmhcaaDoor
