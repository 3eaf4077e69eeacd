/- slices: Clone, Grow of nil, Concat, at lists of ints: what each call returns. -/
import Derived.Test.YtijcecakofmhcaaDoorLibB
namespace Go.Proofs.YtijcecakofmhcaaDoor
open Go.RowKit

theorem infoI : (Tryd.prog.info? 3).map (fun i => (i.zero, i.size, i.bytes)) = some (some (.int .i64 0), 1, 8) := by kernel_rfl

set_option maxHeartbeats 400000 in
theorem grow_any (n : Nat) (w : World) (hn : n * 8 ≤ 140737488355328) :
    Calls Tryd.prog 90 #[.slice none 0 0, .int .i64 n] w fun e w' => ∃ v, e = .returned v ∧ OwnI 3 .i64 w.heap.size w' v [] ∧ Below w.heap.size w w' := by
  obtain ⟨i0, hi, hz0, hz1, hz2⟩ := info_parts infoI
  by_cases h0 : n = 0
  · subst h0
    go_enter Tryd.func90, Tryd.ntmps90
    go_wp2
    go_ret
    exact ⟨_, rfl, OwnI.nil _ _ _ _, Below.refl _ _⟩
  · have hp : 0 < n := by omega
    have H : ∀ W : World, ∃ g cap w1, (Builtin.append_ #[36, 3] 36 #[.slice none 0 0, .int .i64 n]).run Tryd.prog W = .ok (.slice (some ⟨g, 0, none⟩) n cap) w1 ∧ n ≤ cap ∧ cap ≤ 9223372036854775807 ∧
        OwnI 3 .i64 W.heap.size w1 (.slice (some ⟨g, 0, none⟩) 0 cap) [] ∧ Below W.heap.size W w1 := fun W => by
      have hq : grownCap W n 0 3 ≤ 9223372036854775807 := by simpa [maxLen] using grownCap_le_maxLen W n 0 3 (by simp only [maxLen]; omega)
      exact ⟨_, _, _, Lib.run_append_nil_zeros (P := Tryd.prog) W 36 3 36 3 i0 _ .i64 .i64 Tryd.underlying36 Tryd.underlying3 hi hz0 n hp (by omega) (by omega) (by rw [hz2]; omega), grownCap_ge W n 0 3, hq,
        own_grown W 3 .i64 n _ hq _ rfl (grownCap_ge W n 0 3), (Below.refl _ W).drew.alloc (Nat.le_refl _) _⟩
    have HH := Lib.hid H
    clear H
    go_enter Tryd.func90, Tryd.ntmps90
    go_wp2_with (at_builtin; obtain ⟨g, cap, w1, hr, h1, h2, hO, hB⟩ := HH.out w; refine Lib.wpList_append_run _ rfl (.tmp 20) (.tmp 21) 36 3 rfl _ _ rfl rfl _ _ hr ?_; clear hr)
    go_ret
    exact ⟨_, rfl, hO, hB⟩

set_option maxHeartbeats 400000 in
theorem clone_any (A : Option Addr) (c : Nat) (xs : List Int) (w : World) (hS : RI w A c xs) (hl : xs.length * 8 ≤ 140737488355328) :
    Calls Tryd.prog 68 #[.slice A xs.length c] w fun e w' => ∃ v, e = .returned v ∧ OwnI 3 .i64 w.heap.size w' v xs ∧ Below w.heap.size w w' := by
  have hn := hS.len
  cases A with
  | none =>
    have h0 : xs = [] := by
      rcases Nat.eq_zero_or_pos xs.length with h0 | h0
      · exact List.eq_nil_of_length_eq_zero h0
      · obtain ⟨ad, h, _⟩ := rd_int hS 0 h0
        cases h
    subst h0
    have he := Lib.run_eql_slice_nil (P := Tryd.prog)
    go_enter Tryd.func68, Tryd.ntmps68
    go_wp2
    go_ret
    exact ⟨_, rfl, OwnI.nil _ _ _ _, Below.refl _ _⟩
  | some ad =>
    have he := fun w => Lib.run_eql_slice_nil (P := Tryd.prog) w 36 3 (some ad) xs.length c 0 0 Tryd.underlying36
    go_enter Tryd.func68, Tryd.ntmps68
    go_wp2_with (at_builtin; (refine append_row (w0 := w.alloc (.cells #[] 3)) w.heap.size rfl (.tmp 5) (.tmp 6) 36 3 .i64 8 rfl Tryd.underlying36 infoI (by decide) _ [] xs (some ad) c rfl rfl (own_lit w 3 .i64 [] (by simp)) (hS.below (below_alloc (Below.refl _ _) _)) (Below.refl _ _) (by simp) (by simpa using hl) ?_); intro v1 w1 hO hB _ _)
    go_ret
    exact ⟨_, rfl, hO, (below_alloc (Below.refl _ _) _).trans hB⟩

def sumLen (vs : List (List Int)) : Nat := (vs.map List.length).sum
theorem sumLen_take (vs : List (List Int)) (k : Nat) (h : k < vs.length) : sumLen (vs.take (k + 1)) = sumLen (vs.take k) + (nth [] vs k).length := by
  rw [take_succ_nth [] vs k h]; simp [sumLen]
theorem sumLen_le (vs : List (List Int)) (k : Nat) : sumLen (vs.take k) ≤ sumLen vs := by
  have h : sumLen vs = sumLen (vs.take k) + sumLen (vs.drop k) := by
    simp [sumLen, ← List.sum_append, List.take_append_drop]
  omega
theorem flat_take (vs : List (List Int)) (k : Nat) (h : k < vs.length) : (vs.take (k + 1)).flatten = (vs.take k).flatten ++ nth [] vs k := by
  rw [take_succ_nth [] vs k h]; simp
theorem flat_len (vs : List (List Int)) : vs.flatten.length = sumLen vs := by simp [sumLen, List.length_flatten]

set_option maxHeartbeats 1000000 in
set_option maxRecDepth 100000 in
theorem concat_any (A : Option Addr) (c : Nat) (vs : List (List Int)) (w : World) (hS : R2 w A c vs) (hl : sumLen vs * 8 ≤ 140737488355328) :
    Calls Tryd.prog 77 #[.slice A vs.length c] w fun e w' => ∃ v, e = .returned v ∧ OwnI 3 .i64 w.heap.size w' v vs.flatten ∧ Below w.heap.size w w' := by
  have hn := hS.len
  have hb := sumLen_le vs
  have HB := Lib.hid hb
  clear hb
  go_enter Tryd.func77, Tryd.ntmps77
  go_wp2
  go_loop [3, 11] (fun v i => ∃ k : Nat, k ≤ vs.length ∧ i = .int .i64 k ∧ v = .int .i64 (sumLen (vs.take k))) (fun _ i => vs.length - (intOf i).toNat)
  case atStart => exact ⟨0, Nat.zero_le _, rfl, rfl⟩
  case round =>
    obtain ⟨k, hk, rfl, rfl⟩ := hrel
    by_cases hlt : k < vs.length
    · obtain ⟨ad, A', c', rfl, hc, hs'⟩ := rd_sl hS k hlt
      have h1 := HB.out (k + 1)
      have h2 := sumLen_take vs k hlt
      have h3 : sumLen (vs.take k) + (nth [] vs k).length ≤ 140737488355328 := by omega
      have h4 : ¬ ((sumLen (vs.take k) : Int) + ((nth [] vs k).length : Int) < 0) := by omega
      have H2 := Lib.hid h2
      clear h1 h2
      go_wp2
      go_round
      case rel => exact ⟨k + 1, by omega, by go_num, by rw [H2.out]; simp⟩
      case measure => simp [intOf]; omega
    · obtain rfl : k = vs.length := by omega
      rw [List.take_length]
      go_wp2_with (go_at_call 90; refine (grow_any _ _ hl).mono ?_; rintro e w1 ⟨v1, rfl, hO1, hB1⟩)
      go_loopw [6, 27] (fun v i wr => ∃ k : Nat, k ≤ vs.length ∧ i = .int .i64 k ∧ OwnI 3 .i64 w.heap.size wr v (vs.take k).flatten ∧ Below w.heap.size w wr) (fun _ i _ => vs.length - (intOf i).toNat)
      case atStart => exact ⟨0, Nat.zero_le _, rfl, hO1, hB1⟩
      case round =>
        clear hO1 hB1
        obtain ⟨k, hk, rfl, hO, hB⟩ := hrel
        by_cases hlt : k < vs.length
        · obtain ⟨ad, A', c', rfl, hc, hs'⟩ := rd_sl (hS.below hB) k hlt
          have h1 := HB.out (k + 1)
          have h2 := sumLen_take vs k hlt
          have hl8 : ((vs.take k).flatten.length + (nth [] vs k).length) * 8 ≤ 140737488355328 := by rw [flat_len]; omega
          have H2 := Lib.hid (flat_take vs k hlt)
          clear h1 h2
          go_wp2_with (at_builtin; (refine append_row (w0 := w) w.heap.size rfl (.tmp 31) (.tmp 32) 36 3 .i64 8 rfl Tryd.underlying36 infoI (by decide) _ _ _ A' c' rfl rfl hO hs' hB hB.size hl8 ?_); intro v2 w2 hO2 hB2 _ _)
          go_roundw
          case rel => exact ⟨k + 1, by omega, by go_num, by rw [H2.out]; exact hO2, hB2⟩
          case measure => simp [intOf]; omega
        · obtain rfl : k = vs.length := by omega
          rw [List.take_length] at hO
          go_wp2
          go_ret
          exact ⟨_, rfl, hO, hB⟩
end Go.Proofs.YtijcecakofmhcaaDoor
