/- pcm: isRate, isSample, all, Check, size: what each call returns, for any input and memory. -/
import Derived.Test.YtijcecakofmhcaaDoorPcmSpec
namespace Go.Proofs.YtijcecakofmhcaaDoor
open Go.RowKit

/-- What the listed variable holds. -/
def GR (w : World) : Prop := RI w (some ⟨0, 0, none⟩) 9 ratesL
theorem GR.below {w w' : World} (h : GR w) (hb : Below w.heap.size w w') : GR w' := Sl.below h hb

set_option maxHeartbeats 400000 in
theorem index_any (A : Option Addr) (c : Nat) (xs : List Int) (x : Int) (w : World) (h : RI w A c xs) :
    Calls Tryd.prog 92 #[.slice A xs.length c, .int .i64 x] w fun e w' => e = .returned (.int .i64 (idx xs x)) ∧ w = w' := by
  have hn := h.len
  go_enter Tryd.func92, Tryd.ntmps92
  go_wp2
  go_loop [8] (fun i => ∃ k : Nat, k ≤ xs.length ∧ i = .int .i64 k ∧ Hid (∀ j, j < k → nth 0 xs j ≠ x)) (fun i => xs.length - (intOf i).toNat)
  case atStart => exact ⟨0, Nat.zero_le _, rfl, fun j hj => absurd hj (by omega)⟩
  case round =>
    obtain ⟨k, hk, rfl, hne⟩ := hrel
    by_cases hlt : k < xs.length
    · obtain ⟨ad, rfl, hc⟩ := rd_int h k hlt
      by_cases hx : x = nth 0 xs k
      · have H := Lib.hid (idx_hit xs x k hlt hx.symm hne)
        have hb : (x == nth 0 xs k) = true := by simpa using hx
        clear hx
        go_wp2
        go_ret
        exact ⟨ret_int H.out.symm, rfl⟩
      · have hb : (x == nth 0 xs k) = false := by simpa using hx
        have hne' : Hid (∀ j, j < k + 1 → nth 0 xs j ≠ x) := fun j hj => by
          rcases Nat.lt_or_ge j k with h | h
          · exact hne j h
          · obtain rfl : j = k := by omega
            exact fun e => hx e.symm
        clear hx
        go_wp2
        go_round
        case rel => exact ⟨k + 1, by omega, by go_num, hne'⟩
        case measure => simp [intOf]; omega
    · have H := Lib.hid (idx_miss xs x (fun j hj => hne j (by omega)))
      go_wp2
      go_ret
      exact ⟨ret_int H.out.symm, rfl⟩

set_option maxHeartbeats 400000 in
theorem contains_any (A : Option Addr) (c : Nat) (xs : List Int) (x : Int) (w : World) (h : RI w A c xs) :
    Calls Tryd.prog 89 #[.slice A xs.length c, .int .i64 x] w fun e w' => e = .returned (.bool (hasB xs x)) ∧ w = w' := by
  have H := Lib.hid (idx_contains xs x)
  go_enter Tryd.func89, Tryd.ntmps89
  go_wp2_with (go_at_call 92; refine (index_any _ _ _ _ _ h).mono ?_; rintro e w' ⟨rfl, rfl⟩)
  go_ret
  exact ⟨ret_bool H.out, rfl⟩

set_option maxHeartbeats 400000 in
theorem isRate_any (n : Int) (w : World) (h : GR w) :
    Calls Tryd.prog 63 #[.int .i64 n] w fun e w' => e = .returned (.bool (isRateB n)) ∧ w = w' := by
  go_enter Tryd.func63, Tryd.ntmps63
  go_wp2_with (go_at_call 89; refine (contains_any _ _ ratesL _ _ h).mono ?_; rintro e w' ⟨rfl, rfl⟩)
  go_ret
  exact ⟨ret_bool rfl, rfl⟩

set_option maxHeartbeats 400000 in
theorem isSample_any (n : Int) (w : World) :
    Calls Tryd.prog 65 #[.int .i64 n] w fun e w' => e = .returned (.bool (smpB n)) ∧ w = w' := by
  by_cases h1 : -32768 ≤ n
  · go_enter Tryd.func65, Tryd.ntmps65
    go_wp2
    go_ret
    exact ⟨by simp [smpB, h1], rfl⟩
  · go_enter Tryd.func65, Tryd.ntmps65
    go_wp2
    go_ret
    exact ⟨by simp [smpB]; omega, rfl⟩

theorem all_snoc (p : Int → Bool) (xs : List Int) (k : Nat) (h : k < xs.length) : (xs.take (k + 1)).all p = ((xs.take k).all p && p (nth 0 xs k)) := by
  rw [take_succ_nth 0 xs k h]; simp
set_option maxHeartbeats 400000 in
theorem all_int_any (A : Option Addr) (c : Nat) (xs : List Int) (w : World) (h : RI w A c xs) :
    Calls Tryd.prog 64 #[.slice A xs.length c, .func (.func 65) #[] #[]] w fun e w' => e = .returned (.bool (xs.all smpB)) ∧ w = w' := by
  have hn := h.len
  go_enter Tryd.func64, Tryd.ntmps64
  go_wp2
  go_loop [9] (fun i => ∃ k : Nat, k ≤ xs.length ∧ i = .int .i64 k ∧ Hid ((xs.take k).all smpB = true)) (fun i => xs.length - (intOf i).toNat)
  case atStart => exact ⟨0, Nat.zero_le _, rfl, rfl⟩
  case round =>
    obtain ⟨k, hk, rfl, hne⟩ := hrel
    by_cases hlt : k < xs.length
    · obtain ⟨ad, rfl, hc⟩ := rd_int h k hlt
      have hs := all_snoc smpB xs k hlt
      by_cases hx : smpB (nth 0 xs k) = true
      · have H : Hid ((xs.take (k + 1)).all smpB = true) := by rw [hs, hx, hne.out]; rfl
        have hX := Lib.hid hx
        clear hs hx
        go_wp2_with (go_at_call 65; refine (isSample_any _ _).mono ?_; rintro e w' ⟨rfl, rfl⟩; rw [hX.out])
        go_round
        case rel => exact ⟨k + 1, by omega, by go_num, H⟩
        case measure => simp [intOf]; omega
      · have H : Hid (xs.all smpB = false) := by
          rw [List.all_eq_false]
          exact ⟨_, nth_mem 0 xs k hlt, hx⟩
        have hX := Lib.hid (Bool.eq_false_iff.2 hx)
        clear hs hx
        go_wp2_with (go_at_call 65; refine (isSample_any _ _).mono ?_; rintro e w' ⟨rfl, rfl⟩; rw [hX.out])
        go_ret
        exact ⟨ret_bool H.out.symm, rfl⟩
    · have H : Hid (xs.all smpB = true) := by
        have := hne.out
        rwa [List.take_of_length_le (by omega)] at this
      go_wp2
      go_ret
      exact ⟨ret_bool H.out.symm, rfl⟩

set_option maxHeartbeats 400000 in
theorem check1_any (g : Nat) (A : Option Addr) (c n : Nat) (xs : List Int) (w : World) (h : RI w A c xs) (hg : w.cell? ⟨g, 0, none⟩ = some (.int .i64 n)) :
    Calls Tryd.prog 81 #[.slice A xs.length c, .pointer (some ⟨g, 0, none⟩)] w fun e w' => e = .returned (.bool (chanB n xs)) ∧ w = w' := by
  have hn := h.len
  by_cases hl : xs.length = n
  · subst hl
    go_enter Tryd.func81, Tryd.ntmps81
    go_wp2_with (go_at_call 64; refine (all_int_any _ _ _ _ h).mono ?_; rintro e w' ⟨rfl, rfl⟩)
    go_ret
    exact ⟨by simp [chanB], rfl⟩
  · have hb : ((xs.length : Int) == n) = false := by simp; omega
    go_enter Tryd.func81, Tryd.ntmps81
    go_wp2
    go_ret
    exact ⟨by simp [chanB, hl], rfl⟩

theorem all_snocL {α : Type} (d : α) (p : α → Bool) (xs : List α) (k : Nat) (h : k < xs.length) : (xs.take (k + 1)).all p = ((xs.take k).all p && p (nth d xs k)) := by
  rw [take_succ_nth d xs k h]; simp
set_option maxHeartbeats 400000 in
theorem all_chans_any (g : Nat) (A : Option Addr) (c n : Nat) (xs : List (List Int)) (w : World) (h : R2 w A c xs) (hg : w.cell? ⟨g, 0, none⟩ = some (.int .i64 n)) :
    Calls Tryd.prog 82 #[.slice A xs.length c, .func (.func 81) #[] #[.pointer (some ⟨g, 0, none⟩)]] w fun e w' => e = .returned (.bool (xs.all (chanB n))) ∧ w = w' := by
  have hn := h.len
  go_enter Tryd.func82, Tryd.ntmps82
  go_wp2
  go_loop [9] (fun i => ∃ k : Nat, k ≤ xs.length ∧ i = .int .i64 k ∧ Hid ((xs.take k).all (chanB n) = true)) (fun i => xs.length - (intOf i).toNat)
  case atStart => exact ⟨0, Nat.zero_le _, rfl, rfl⟩
  case round =>
    obtain ⟨k, hk, rfl, hne⟩ := hrel
    by_cases hlt : k < xs.length
    · obtain ⟨ad, A', c', rfl, hc, hs'⟩ := rd_sl h k hlt
      have hs := all_snocL [] (chanB n) xs k hlt
      by_cases hx : chanB n (nth [] xs k) = true
      · have H : Hid ((xs.take (k + 1)).all (chanB n) = true) := by rw [hs, hx, hne.out]; rfl
        have hX := Lib.hid hx
        clear hs hx
        go_wp2_with (go_at_call 81; refine (check1_any _ _ _ n _ _ hs' hg).mono ?_; rintro e w' ⟨rfl, rfl⟩; rw [hX.out])
        go_round
        case rel => exact ⟨k + 1, by omega, by go_num, H⟩
        case measure => simp [intOf]; omega
      · have H : Hid (xs.all (chanB n) = false) := by
          rw [List.all_eq_false]
          exact ⟨_, nth_mem [] xs k hlt, hx⟩
        have hX := Lib.hid (Bool.eq_false_iff.2 hx)
        clear hs hx
        go_wp2_with (go_at_call 81; refine (check1_any _ _ _ n _ _ hs' hg).mono ?_; rintro e w' ⟨rfl, rfl⟩; rw [hX.out])
        go_ret
        exact ⟨ret_bool H.out.symm, rfl⟩
    · have H : Hid (xs.all (chanB n) = true) := by
        have := hne.out
        rwa [List.take_of_length_le (by omega)] at this
      go_wp2
      go_ret
      exact ⟨ret_bool H.out.symm, rfl⟩

set_option maxHeartbeats 400000 in
theorem size_any (r : Int) (A : Option Addr) (c : Nat) (s : List (List Int)) (w : World) (h : R2 w A c s) (hs : 1 ≤ s.length) :
    Calls Tryd.prog 52 #[.agg #[.int .i64 r, .slice A s.length c]] w fun e w' => e = .returned (.int .i64 (len0 s)) ∧ Below w.heap.size w w' := by
  obtain ⟨ad, A', c', rfl, hc, hs'⟩ := rd_sl h 0 hs
  rw [Addr.add] at hc
  simp only [if_true] at hc
  have h0 : 0 < s.length := by omega
  go_enter Tryd.func52, Tryd.ntmps52
  go_wp2_with ((with_reducible refine at_dst (N := 1) rfl ?_); refine ev_new #[.int .i64 r, .slice (some ad) s.length c] 24 rfl (by go_simp) ?_; intro g w1 hg hz hb hk; have k0 := hk.cell 0 rfl; have k1 := hk.cell 1 rfl; have hc1 := cell_below hb hc)
  go_ret
  exact ⟨rfl, hb⟩
end Go.Proofs.YtijcecakofmhcaaDoor
