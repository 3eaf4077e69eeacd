/- pcm: woven, Interleave: what the call returns, for any sound. -/
import Derived.Test.YtijcecakofmhcaaDoorPcmB
import Derived.Test.YtijcecakofmhcaaDoorSlices
namespace Go.Proofs.YtijcecakofmhcaaDoor
open Go.RowKit


set_option maxHeartbeats 1000000 in
set_option maxRecDepth 100000 in
theorem woven_any (r : Int) (A : Option Addr) (c : Nat) (s : List (List Int)) (w : World) (hS : R2 w A c s) (h1 : 1 ≤ s.length) (h2 : s.length ≤ 2) (h3 : len0 s ≤ 8192) (h4 : ∀ c ∈ s, c.length = len0 s) :
    Calls Tryd.prog 55 #[.agg #[.int .i64 r, .slice A s.length c]] w fun e w' => ∃ v, e = .returned v ∧ OwnI 3 .i64 w.heap.size w' v (weave s) ∧ Below w.heap.size w w' := by
  have H4 := Lib.hid h4
  clear h4
  go_enter Tryd.func55, Tryd.ntmps55
  go_wp2_with (first | ((with_reducible refine at_dst (N := 1) rfl ?_); refine ev_new #[.int .i64 r, .slice A s.length c] 24 rfl (by go_simp) ?_; intro g w1 hg hz hb hk; have k0 := hk.cell 0 rfl; have k1 := hk.cell 1 rfl) | (go_at_call 52; refine (size_any _ _ _ _ _ (hS.below hb) h1).mono ?_; rintro e w2 ⟨rfl, hb2⟩; replace hb := below2 hb hb2; have q0 := cell_below hb2 k0; have q1 := cell_below hb2 k1))
  go_loopw [3, 9] (fun v i wr => ∃ k : Nat, k ≤ len0 s ∧ i = .int .i64 k ∧ OwnI 3 .i64 w2.heap.size wr v (weaveN s k) ∧ Below w2.heap.size w2 wr) (fun _ i _ => len0 s - (intOf i).toNat)
  case atStart => exact ⟨0, Nat.zero_le _, rfl, OwnI.nil _ _ _ _, Below.refl _ _⟩
  case round =>
    obtain ⟨k, hk, rfl, hO, hB⟩ := hrel
    obtain ⟨wo, rfl⟩ : ∃ wo : World, wo = wr := ⟨_, rfl⟩
    have r1 := cell_below hB q1
    by_cases hlt : k < len0 s
    · go_wp2
      go_loopw [3, 15] (fun v i wr => ∃ j : Nat, j ≤ s.length ∧ i = .int .i64 j ∧ OwnI 3 .i64 w2.heap.size wr v (weaveN s k ++ (col s k).take j) ∧ Below w2.heap.size w2 wr) (fun _ i _ => s.length - (intOf i).toNat)
      case atStart => exact ⟨0, Nat.zero_le _, rfl, by simpa using hO, hB⟩
      case round =>
        clear hO r1 hB
        obtain ⟨j, hj, rfl, hO, hB⟩ := hrel
        by_cases hl : j < s.length
        · obtain ⟨ad, A', c', rfl, hc, hs'⟩ := rd_sl ((hS.below hb).below hB) j hl
          have hm : k < (nth [] s j).length := by rw [H4.out _ (nth_mem [] s j hl)]; exact hlt
          obtain ⟨ad', rfl, hc'⟩ := rd_int hs' k hm
          have hb8 : ((weaveN s k ++ (col s k).take j).length + 1) * 8 ≤ 140737488355328 := by
            have h5 : k * s.length ≤ 8192 * 2 := Nat.mul_le_mul (by omega) h2
            rw [List.length_append, weaveN_length, List.length_take, col_length]; omega
          go_wp2_with (at_builtin; go_loud (refine append_one (w0 := w2) w2.heap.size rfl (.tmp 19) (.tmp 24) 36 3 .i64 8 rfl Tryd.underlying36 infoI (by decide) _ _ _ rfl rfl hO hB hB.size hb8 ?_); intro v1 w4 hO1 hB1 _ _)
          go_roundw
          case rel => exact ⟨j + 1, by omega, by go_num, by rw [col_take s k j hl, ← List.append_assoc]; exact hO1, hB1⟩
          case measure => simp [intOf]; omega
        · rw [List.take_of_length_le (by rw [col_length]; omega), ← weaveN_succ] at hO
          go_wp2
          go_roundw
          case rel => exact ⟨k + 1, by omega, by go_num, hO, hB⟩
          case measure => simp [intOf]; omega
    · obtain rfl : k = len0 s := by omega
      go_wp2
      go_ret
      exact ⟨_, rfl, hO.mono hb.size, below2 hb hB⟩
end Go.Proofs.YtijcecakofmhcaaDoor
