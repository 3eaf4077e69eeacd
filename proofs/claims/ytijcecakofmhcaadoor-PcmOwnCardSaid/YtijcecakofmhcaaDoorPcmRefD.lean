/- The document's answer, layer 2: own, Down, Mono. -/
import Derived.Test.YtijcecakofmhcaaDoorPcmRefB
import Derived.IntWalk
namespace Go.Proofs.YtijcecakofmhcaaDoor
open Go.RowKit

set_option maxHeartbeats 400000 in
theorem own_any (A : Option Addr) (c : Nat) (xs : List Int) (w : World) (h : RI w A c xs) (hl : xs.length ≤ 1000000) :
    Calls Tryd.prog 70 #[.slice A xs.length c] w fun e w' => ∃ v, e = .returned v ∧ OwnI 3 .i64 w.heap.size w' v xs ∧ Below w.heap.size w w' := by
  have O0 := own_lit w 3 .i64 [] (by decide)
  have B0 := below_alloc (Below.refl w.heap.size w) (.cells (nums .i64 []).toArray 3)
  go_enter Tryd.func70, Tryd.ntmps70
  go_wp2_with (at_builtin; go_loud (refine append_row (w0 := w) w.heap.size rfl (.tmp 3) (.tmp 4) 36 3 .i64 8 rfl Tryd.underlying36 infoI (by decide) (.slice (some ⟨w.heap.size, 0, none⟩) 0 0) [] xs A c rfl rfl O0 (h.below B0) B0 B0.size (by simp; omega) ?_); intro v1 w4 hO1 hB1 _ _)
  go_ret
  exact ⟨_, rfl, hO1, hB1⟩

theorem ediv_range (a b : Int) (ha : -4611686018427387904 ≤ a ∧ a ≤ 4611686018427387904) (hb : 1 ≤ b) : -4611686018427387904 ≤ a / b ∧ a / b ≤ 4611686018427387904 := by
  rcases Int.lt_or_le a 0 with h | h
  · have h1 : a ≤ a / b := Int.le_ediv_of_mul_le (by omega) (by
      have := Int.mul_nonneg (show 0 ≤ -a by omega) (show 0 ≤ b - 1 by omega)
      rw [Int.mul_sub, Int.mul_one, Int.neg_mul] at this
      omega)
    have h2 : a / b < 0 := Int.ediv_neg_of_neg_of_pos h (by omega)
    omega
  · have h1 := Int.ediv_nonneg h (show 0 ≤ b by omega)
    have h2 := Int.ediv_le_self b h
    omega
set_option maxHeartbeats 400000 in
theorem down_any (a b : Int) (w : World) (ha : -4611686018427387904 ≤ a ∧ a ≤ 4611686018427387904) (hb : 1 ≤ b ∧ b ≤ 1000000) :
    Calls Tryd.prog 69 #[.int .i64 a, .int .i64 b] w fun e w' => e = .returned (.int .i64 (a / b)) ∧ w = w' := by
  go_enter Tryd.func69, Tryd.ntmps69
  have hb0 : ¬ b = 0 := by omega
  go_wp2
  all_goals
    have e := Int.mul_tdiv_add_tmod a b
    have l1 : -b < a.tmod b := Int.lt_tmod_of_pos a (by omega)
    have l2 : a.tmod b < b := Int.tmod_lt_of_pos a (by omega)
  · have hm : a.tmod b < 0 := by assumption
    have hq : a / b = a.tdiv b - 1 := by
      have e2 : a = (a.tmod b + b) + b * (a.tdiv b - 1) := by rw [Int.mul_sub]; omega
      have e3 : ((a.tmod b + b) + b * (a.tdiv b - 1)) / b = (a.tmod b + b) / b + (a.tdiv b - 1) := Int.add_mul_ediv_left _ _ hb0
      have e4 : (a.tmod b + b) / b = 0 := Int.ediv_eq_zero_of_lt (by omega) (by omega)
      rw [← e2, e4] at e3
      omega
    have hr := ediv_range a b ha hb.1
    have hw : wrap64 (a.tdiv b - 1) = a / b := by rw [← hq, IntWalk.wrap64_in _ (by omega)]
    go_ret
    exact ⟨ret_int hw, rfl⟩
  · have hm : 0 ≤ a.tmod b := by assumption
    have hq : a / b = a.tdiv b := by
      have e2 : a = a.tmod b + b * a.tdiv b := by omega
      have e3 : (a.tmod b + b * a.tdiv b) / b = a.tmod b / b + a.tdiv b := Int.add_mul_ediv_left _ _ hb0
      have e4 : a.tmod b / b = 0 := Int.ediv_eq_zero_of_lt hm l2
      rw [← e2, e4] at e3
      omega
    go_ret
    exact ⟨ret_int hq.symm, rfl⟩
end Go.Proofs.YtijcecakofmhcaaDoor
