/- pcm: at, and the function that Mix gives to change. -/
import Derived.Test.YtijcecakofmhcaaDoorPcmF
namespace Go.Proofs.YtijcecakofmhcaaDoor
open Go.RowKit

set_option maxHeartbeats 400000 in
theorem at_any (A : Option Addr) (c : Nat) (xs : List Int) (i : Nat) (w : World) (hS : RI w A c xs) (_ : i ≤ 9223372036854775807) :
    Calls Tryd.prog 75 #[.slice A xs.length c, .int .i64 i] w fun e w' => e = .returned (.int .i64 (nth 0 xs i)) ∧ w' = w := by
  have hn := hS.len
  by_cases hl : i < xs.length
  · obtain ⟨ad, rfl, hc⟩ := rd_int hS i hl
    go_enter Tryd.func75, Tryd.ntmps75
    go_wp2
    go_ret
    exact ⟨rfl, rfl⟩
  · have H := Lib.hid (show (0 : Int) = nth 0 xs i from by simp [nth, List.getD_eq_getElem?_getD, List.getElem?_eq_none (show xs.length ≤ i by omega)])
    go_enter Tryd.func75, Tryd.ntmps75
    go_wp2
    go_ret
    exact ⟨ret_int H.out, rfl⟩

theorem mixL_succ (g h : Int) (xs ys : List Int) (n : Nat) : mixL g h xs ys (n + 1) = mixL g h xs ys n ++ [mixV g h (nth 0 xs n) (nth 0 ys n)] := by simp [mixL, List.range_succ]
theorem mixV_if (g h x y : Int) : (if 32767 < if (g * x + h * y + 128) / 256 < -32768 then -32768 else (g * x + h * y + 128) / 256 then 32767 else if (g * x + h * y + 128) / 256 < -32768 then -32768 else (g * x + h * y + 128) / 256) = mixV g h x y := by
  unfold mixV; split <;> split at * <;> omega
theorem mixL_length (g h : Int) (xs ys : List Int) (n : Nat) : (mixL g h xs ys n).length = n := by simp [mixL]
theorem nth_smp {xs : List Int} (h : ∀ x ∈ xs, -32768 ≤ x ∧ x ≤ 32767) (i : Nat) : -32768 ≤ nth 0 xs i ∧ nth 0 xs i ≤ 32767 := by
  by_cases hi : i < xs.length
  · exact h _ (nth_mem 0 xs i hi)
  · have : nth 0 xs i = 0 := by simp [nth, List.getD_eq_getElem?_getD, List.getElem?_eq_none (show xs.length ≤ i by omega)]
    omega
theorem mul_bd {g x : Int} (h1 : -1024 ≤ g) (h2 : g ≤ 1024) (h3 : -32768 ≤ x) (h4 : x ≤ 32767) : -33554432 ≤ g * x ∧ g * x ≤ 33554432 := by
  have a := Int.mul_nonneg (show 0 ≤ g + 1024 by omega) (show 0 ≤ x + 32768 by omega)
  have b := Int.mul_nonneg (show 0 ≤ 1024 - g by omega) (show 0 ≤ x + 32768 by omega)
  have c := Int.mul_nonneg (show 0 ≤ g + 1024 by omega) (show 0 ≤ 32768 - x by omega)
  have d := Int.mul_nonneg (show 0 ≤ 1024 - g by omega) (show 0 ≤ 32768 - x by omega)
  simp only [Int.add_mul, Int.mul_add, Int.sub_mul, Int.mul_sub] at a b c d
  omega

set_option maxHeartbeats 1000000 in
set_option maxRecDepth 100000 in
theorem mix1_makes (bk bn bg bh gb n0 n : Nat) (g h : Int) (Ab : Option Addr) (cb : Nat) (sb s : List (List Int)) (hs : ∀ c ∈ s, ∀ x ∈ c, -32768 ≤ x ∧ x ≤ 32767) (hb : ∀ c ∈ sb, ∀ x ∈ c, -32768 ≤ x ∧ x ≤ 32767) (hn8 : n ≤ 8192)
    (g1 : -1024 ≤ g) (g2 : g ≤ 1024) (h1 : -1024 ≤ h) (h2 : h ≤ 1024) (hl : s.length = sb.length) (hs2 : s.length ≤ 2) (hgb : gb < n0) (hne : gb ≠ bk) (_ : bn < n0) (hn2 : bn ≠ bk) (_ : bg < n0) (hg2 : bg ≠ bk) (_ : bh < n0) (hh2 : bh ≠ bk) :
    Makes 74 #[.pointer (some ⟨bk, 0, none⟩), .pointer (some ⟨bn, 0, none⟩), .pointer (some ⟨bg, 0, none⟩), .pointer (some ⟨bh, 0, none⟩), .pointer (some ⟨gb, 0, none⟩)] bk n0
      (fun j w => Blk w bk #[.int .i64 ((j : Int) - 1)] 3 ∧ w.cell? ⟨bn, 0, none⟩ = some (.int .i64 n) ∧ w.cell? ⟨bg, 0, none⟩ = some (.int .i64 g) ∧ w.cell? ⟨bh, 0, none⟩ = some (.int .i64 h) ∧ SeesB gb bk n0 Ab cb sb w) s (fun j => mixL g h (nth [] s j) (nth [] sb j) n) := by
  rintro j A w hj ⟨hi1, hin, hig, hih, hi2⟩ hr hn
  have hls := nth_smp (hs _ (nth_mem [] s j hj))
  have hlb := nth_smp (hb _ (nth_mem [] sb j (by omega)))
  have hjb : j < sb.length := by omega
  have k0 := hi1.cell 0 rfl
  have HL := Lib.hid hl
  clear hl
  go_enter Tryd.func74, Tryd.ntmps74
  go_wp2_with (first | ((with_reducible refine at_store (p := 1) rfl ?_); go_must ((refine ev_put1 (.int .i64 j) 0 rfl 3 (.tmp 1) (.tmp 12) rfl bk 3 #[.int .i64 ((j : Int) - 1)] rfl rfl hi1 sizeI (by simp) rfl ?_); intro w1 hk1 hw1 hz1; clear k0; have k0 := hk1.cell 0 rfl; have hS := hi2.keep hgb hne ((Keep.of_grown1 hw1).weak (fun i hi => hi.2)); have kb := hS.1; have kn := (Keep.of_grown1 hw1).cell hn2 hin; have kg := (Keep.of_grown1 hw1).cell hg2 hig; have kh := (Keep.of_grown1 hw1).cell hh2 hih; obtain ⟨ad, A', c', rfl, hc, hs'⟩ := rd_sl hS.2 j hjb; have hr1 := (hr.keep (Keep.of_grown1 hw1)).any; clear hin hig hih)) | fail)
  have HS := Lib.hid hls
  have HBd := Lib.hid hlb
  clear hls hlb
  go_loopw [8, 14] (fun v i wr => ∃ q : Nat, q ≤ n ∧ i = .int .i64 q ∧ OwnI 3 .i64 w1.heap.size wr v (mixL g h (nth [] s j) (nth [] sb j) q) ∧ Below w1.heap.size w1 wr) (fun _ i _ => n - (intOf i).toNat)
  case atStart => exact ⟨0, Nat.zero_le _, rfl, OwnI.nil _ _ _ _, Below.refl _ _⟩
  case round =>
    obtain ⟨q, hq, rfl, hO, hB⟩ := hrel
    by_cases hlt : q < n
    · have b1 := HS.out q
      have b2 := HBd.out q
      have m1 := mul_bd g1 g2 b1.1 b1.2
      have m2 := mul_bd h1 h2 b2.1 b2.2
      have k0' := cell_below hB k0
      have kb' := cell_below hB kb
      have kg' := cell_below hB kg
      have kh' := cell_below hB kh
      have kc' := cell_below hB hc
      have hra := hr1.below hB
      have hrb := hs'.any.below hB
      have hj0 : (0 : Int) ≤ (j : Int) := by omega
      have hj1 : (j : Int) < (sb.length : Int) := by omega
      go_wp2_with fail
      go_quiet ((go_at_call 75; first | exact Calls.quiet_of_same (at_any _ _ _ q _ (hra.drewN _) (by omega)) | exact Calls.quiet_of_same (at_any _ _ _ q _ (hrb.drewN _) (by omega))))
      have hOq := hO.below (below_drewN (Below.refl wr.heap.size wr) nq)
      have hBq := below_drewN hB nq
      have hb8 : ((mixL g h (nth [] s j) (nth [] sb j) q).length + 1) * 8 ≤ 140737488355328 := by rw [mixL_length]; omega
      go_wp2_with (at_builtin; (refine append_one (w0 := w1) w1.heap.size rfl (.tmp 34) (.tmp 38) 36 3 .i64 8 rfl Tryd.underlying36 infoI (by decide) _ _ _ rfl rfl hOq hBq hBq.size hb8 ?_); intro v1 w4 hO1 hB1 _ _)
      rw [mixV_if, ← mixL_succ] at hO1
      go_roundw
      case rel => exact ⟨q + 1, by omega, by go_num, hO1, hB1⟩
      case measure => simp [intOf]; omega
    · obtain rfl : q = n := by omega
      go_wp2
      go_ret
      refine ⟨_, rfl, hO.mono (by rw [hz1.out]; exact Nat.le_refl _), grown_trans hw1 (grown_of_below hB _), ?_, cell_below hB kn, cell_below hB kg, cell_below hB kh, cell_below hB kb, hS.2.below hB⟩
      simpa using hk1.below hB
end Go.Proofs.YtijcecakofmhcaaDoor
