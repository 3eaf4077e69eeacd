/- pcm: Check: what the call returns, for any sound. -/
import Derived.Test.YtijcecakofmhcaaDoorPcmA
namespace Go.Proofs.YtijcecakofmhcaaDoor
open Go.RowKit

theorem checkE_rate {r : Int} {s : List (List Int)} (h : isRateB r = false) : checkE r s = 1 := by simp [checkE, validB, h]
theorem checkE_few {r : Int} {s : List (List Int)} (h : s.length < 1) : checkE r s = 1 := by
  have : decide (1 ≤ s.length) = false := decide_eq_false (by omega)
  simp [checkE, validB, this]
theorem checkE_many {r : Int} {s : List (List Int)} (h : 2 < s.length) : checkE r s = 1 := by
  have : decide (s.length ≤ 2) = false := decide_eq_false (by omega)
  simp [checkE, validB, this]
theorem checkE_long {r : Int} {s : List (List Int)} (h : 8192 < len0 s) : checkE r s = 1 := by
  have : decide (len0 s ≤ 8192) = false := decide_eq_false (by omega)
  simp [checkE, validB, this]
theorem checkE_all {r : Int} {s : List (List Int)} (h : isRateB r = true) (h1 : 1 ≤ s.length) (h2 : s.length ≤ 2) (h3 : len0 s ≤ 8192) : checkE r s = if s.all (chanB (len0 s)) then 0 else 1 := by
  simp only [checkE, validB, h, decide_eq_true h1, decide_eq_true h2, decide_eq_true h3, Bool.true_and]

set_option maxHeartbeats 1000000 in
theorem check_any (r : Int) (A : Option Addr) (c : Nat) (s : List (List Int)) (w : World) (hG : GR w) (h : R2 w A c s) :
    Calls Tryd.prog 48 #[.agg #[.int .i64 r, .slice A s.length c]] w fun e w' => e = .returned (.int .i64 (checkE r s)) ∧ Below w.heap.size w w' := by
  have hn := h.len
  have hcase : isRateB r = false ∨ (isRateB r = true ∧ (s.length < 1 ∨ (1 ≤ s.length ∧ 2 < s.length) ∨ (1 ≤ s.length ∧ s.length ≤ 2 ∧ (8192 < len0 s ∨ (len0 s ≤ 8192 ∧ ∃ b, s.all (chanB (len0 s)) = b))))) := by
    cases isRateB r
    · exact .inl rfl
    · refine .inr ⟨rfl, ?_⟩
      by_cases h1 : s.length < 1
      · exact .inl h1
      · by_cases h2 : 2 < s.length
        · exact .inr (.inl ⟨by omega, h2⟩)
        · refine .inr (.inr ⟨by omega, by omega, ?_⟩)
          by_cases h3 : 8192 < len0 s
          · exact .inl h3
          · exact .inr ⟨by omega, _, rfl⟩
  rcases hcase with h0 | ⟨h0, h1 | ⟨h1, h2⟩ | ⟨h1, h2, h3 | ⟨h3, b, h4⟩⟩⟩
  · have H := Lib.hid (checkE_rate (s := s) h0)
    have H0 := Lib.hid h0
    clear h0
    go_enter Tryd.func48, Tryd.ntmps48
    go_wp2_with (first | ((with_reducible refine at_dst (N := 1) rfl ?_); refine ev_new #[.int .i64 r, .slice A s.length c] 24 rfl (by go_simp) ?_; intro g w1 hg hz hb hk; have k0 := hk.cell 0 rfl; have k1 := hk.cell 1 rfl) | (go_at_call 63; refine (isRate_any _ _ (hG.below hb)).mono ?_; rintro e w' ⟨rfl, rfl⟩; rw [H0.out]))
    go_ret
    exact ⟨ret_int H.out.symm, hb⟩
  · have H := Lib.hid (checkE_few (r := r) h1)
    have H0 := Lib.hid h0
    clear h0
    go_enter Tryd.func48, Tryd.ntmps48
    go_wp2_with (first | ((with_reducible refine at_dst (N := 1) rfl ?_); refine ev_new #[.int .i64 r, .slice A s.length c] 24 rfl (by go_simp) ?_; intro g w1 hg hz hb hk; have k0 := hk.cell 0 rfl; have k1 := hk.cell 1 rfl) | (go_at_call 63; refine (isRate_any _ _ (hG.below hb)).mono ?_; rintro e w' ⟨rfl, rfl⟩; rw [H0.out]) | (go_at_call 52; refine (size_any _ _ _ _ _ (h.below hb) h1).mono ?_; rintro e w2 ⟨rfl, hb2⟩; replace hb := below2 hb hb2; have q0 := cell_below hb2 k0; have q1 := cell_below hb2 k1; have hl : g < w2.heap.size := World.block_lt_of_cell? _ _ q0) | (go_at_call 82; refine (all_chans_any _ _ _ (len0 s) _ _ (h.below (below_alloc hb _)) ?hc).mono ?_; (case hc => go_simp); rintro e w3 ⟨rfl, rfl⟩; rw [H4.out]))
    go_ret
    exact ⟨ret_int H.out.symm, hb⟩
  · have H := Lib.hid (checkE_many (r := r) h2)
    have H0 := Lib.hid h0
    clear h0
    go_enter Tryd.func48, Tryd.ntmps48
    go_wp2_with (first | ((with_reducible refine at_dst (N := 1) rfl ?_); refine ev_new #[.int .i64 r, .slice A s.length c] 24 rfl (by go_simp) ?_; intro g w1 hg hz hb hk; have k0 := hk.cell 0 rfl; have k1 := hk.cell 1 rfl) | (go_at_call 63; refine (isRate_any _ _ (hG.below hb)).mono ?_; rintro e w' ⟨rfl, rfl⟩; rw [H0.out]) | (go_at_call 52; refine (size_any _ _ _ _ _ (h.below hb) h1).mono ?_; rintro e w2 ⟨rfl, hb2⟩; replace hb := below2 hb hb2; have q0 := cell_below hb2 k0; have q1 := cell_below hb2 k1; have hl : g < w2.heap.size := World.block_lt_of_cell? _ _ q0) | (go_at_call 82; refine (all_chans_any _ _ _ (len0 s) _ _ (h.below (below_alloc hb _)) ?hc).mono ?_; (case hc => go_simp); rintro e w3 ⟨rfl, rfl⟩; rw [H4.out]))
    go_ret
    exact ⟨ret_int H.out.symm, hb⟩
  · have H := Lib.hid (checkE_long (r := r) h3)
    have H0 := Lib.hid h0
    clear h0
    go_enter Tryd.func48, Tryd.ntmps48
    go_wp2_with (first | ((with_reducible refine at_dst (N := 1) rfl ?_); refine ev_new #[.int .i64 r, .slice A s.length c] 24 rfl (by go_simp) ?_; intro g w1 hg hz hb hk; have k0 := hk.cell 0 rfl; have k1 := hk.cell 1 rfl) | (go_at_call 63; refine (isRate_any _ _ (hG.below hb)).mono ?_; rintro e w' ⟨rfl, rfl⟩; rw [H0.out]) | (go_at_call 52; refine (size_any _ _ _ _ _ (h.below hb) h1).mono ?_; rintro e w2 ⟨rfl, hb2⟩; replace hb := below2 hb hb2; have q0 := cell_below hb2 k0; have q1 := cell_below hb2 k1; have hl : g < w2.heap.size := World.block_lt_of_cell? _ _ q0) | (go_at_call 82; refine (all_chans_any _ _ _ (len0 s) _ _ (h.below (below_alloc hb _)) ?hc).mono ?_; (case hc => go_simp); rintro e w3 ⟨rfl, rfl⟩; rw [H4.out]))
    go_ret
    exact ⟨ret_int H.out.symm, below_alloc hb _⟩
  · have H := Lib.hid (checkE_all h0 h1 h2 h3)
    have H0 := Lib.hid h0
    have H4 := Lib.hid h4
    clear h0 h4
    cases b
    all_goals
      go_enter Tryd.func48, Tryd.ntmps48
      go_wp2_with (first | ((with_reducible refine at_dst (N := 1) rfl ?_); refine ev_new #[.int .i64 r, .slice A s.length c] 24 rfl (by go_simp) ?_; intro g w1 hg hz hb hk; have k0 := hk.cell 0 rfl; have k1 := hk.cell 1 rfl) | (go_at_call 63; refine (isRate_any _ _ (hG.below hb)).mono ?_; rintro e w' ⟨rfl, rfl⟩; rw [H0.out]) | (go_at_call 52; refine (size_any _ _ _ _ _ (h.below hb) h1).mono ?_; rintro e w2 ⟨rfl, hb2⟩; replace hb := below2 hb hb2; have q0 := cell_below hb2 k0; have q1 := cell_below hb2 k1; have hl : g < w2.heap.size := World.block_lt_of_cell? _ _ q0) | (go_at_call 82; refine (all_chans_any _ _ _ (len0 s) _ _ (h.below (below_alloc hb _)) ?hc).mono ?_; (case hc => go_simp); rintro e w3 ⟨rfl, rfl⟩; rw [H4.out]))
      go_ret
      exact ⟨ret_int (by rw [H.out, H4.out]; rfl), below_alloc hb _⟩
end Go.Proofs.YtijcecakofmhcaaDoor
