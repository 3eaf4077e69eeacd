/- Functions that compare lists: what each call returns, for any lists and memory. -/
import Derived.Test.YtijcecakofmhcaaDoorPcmA
import Derived.BigQuiet
namespace Go.Proofs.YtijcecakofmhcaaDoor
open Go.RowKit

theorem nth_ext {α : Type} (d : α) {xs ys : List α} (hl : xs.length = ys.length) (h : ∀ j, j < xs.length → nth d xs j = nth d ys j) : xs = ys := by
  refine List.ext_getElem hl fun j h1 h2 => ?_
  rw [← nth_eq d xs j h1, ← nth_eq d ys j h2]
  exact h j h1

set_option maxHeartbeats 400000 in
theorem equalI_any (A : Option Addr) (c : Nat) (xs : List Int) (B : Option Addr) (d : Nat) (ys : List Int) (w : World) (h : Sl (kInt .i64) AnyB w A c xs) (h2 : Sl (kInt .i64) AnyB w B d ys) :
    Calls Tryd.prog 84 #[.slice A xs.length c, .slice B ys.length d] w fun e w' => e = .returned (.bool (decide (xs = ys))) ∧ ∃ m, w' = w.drewN m := by
  have hn := h.len
  have hn2 := h2.len
  by_cases hl : xs.length = ys.length
  · obtain ⟨n, hxn⟩ : ∃ n, xs.length = n := ⟨_, rfl⟩
    have hyn : ys.length = n := hl.symm.trans hxn
    have hLx := Lib.hid hxn
    have hLy := Lib.hid hyn
    clear hl
    rw [hxn] at hn ⊢
    rw [hyn] at hn2 ⊢
    clear hxn hyn
    go_enter Tryd.func84, Tryd.ntmps84
    go_wp2
    go_loopw [13] (fun i wr => ∃ k : Nat, k ≤ n ∧ i = .int .i64 k ∧ Hid (∀ j, j < k → nth 0 xs j = nth 0 ys j) ∧ Hid (∃ m, wr = w.drewN m)) (fun i _ => n - (intOf i).toNat)
    case atStart => exact ⟨0, Nat.zero_le _, rfl, fun j hj => absurd hj (by omega), 0, rfl⟩
    case round =>
      obtain ⟨k, hk, rfl, hne, hwd⟩ := hrel
      obtain ⟨m0, hwm⟩ : ∃ m0, Hid (wr = w.drewN m0) := hwd.out
      have hr1 := hwm.out ▸ h.drewN m0
      have hr2 := hwm.out ▸ h2.drewN m0
      by_cases hlt : k < n
      · obtain ⟨ad, rfl, hc⟩ := rd_int hr1 k (by rw [hLx.out]; exact hlt)
        obtain ⟨ad2, rfl, hc2⟩ := rd_int hr2 k (by rw [hLy.out]; exact hlt)
        by_cases hx : nth 0 xs k = nth 0 ys k
        · have hne' : Hid (∀ j, j < k + 1 → nth 0 xs j = nth 0 ys j) := fun j hj => by
            rcases Nat.lt_or_ge j k with h | h
            · exact hne j h
            · obtain rfl : j = k := by omega
              exact hx
          have hb : (nth 0 xs k != nth 0 ys k) = false := by simp [hx]
          clear hx
          go_wp2_with fail
          go_quiet (fail)
          go_wp2_with fail
          go_roundw
          case rel => exact ⟨k + 1, by omega, by go_num, hne', m0 + nq, by rw [hwm.out, World.drewN_drewN]⟩
          case measure => simp [intOf]; omega
        · have hb : (nth 0 xs k != nth 0 ys k) = true := by simpa using hx
          have H : Hid (xs ≠ ys) := fun e => hx (by rw [e])
          clear hx
          go_wp2_with fail
          go_quiet (fail)
          go_wp2_with fail
          go_ret
          exact ⟨ret_bool (by simp [H.out]), m0 + nq, by rw [hwm.out, World.drewN_drewN]⟩
      · have H : Hid (xs = ys) := nth_ext 0 (hLx.out.trans hLy.out.symm) fun j hj => hne j (by rw [hLx.out] at hj; omega)
        go_wp2
        go_ret
        exact ⟨ret_bool (by simp [H.out]), m0, hwm.out⟩
  · have H : Hid (xs ≠ ys) := fun e => hl (by rw [e])
    go_enter Tryd.func84, Tryd.ntmps84
    go_wp2
    go_ret
    exact ⟨ret_bool (by simp [H.out]), 0, rfl⟩

set_option maxHeartbeats 400000 in
theorem equalY_any (A : Option Addr) (c : Nat) (xs : List Int) (B : Option Addr) (d : Nat) (ys : List Int) (w : World) (h : Sl (kInt .u8) AnyB w A c xs) (h2 : Sl (kInt .u8) AnyB w B d ys) :
    Calls Tryd.prog 91 #[.slice A xs.length c, .slice B ys.length d] w fun e w' => e = .returned (.bool (decide (xs = ys))) ∧ ∃ m, w' = w.drewN m := by
  have hn := h.len
  have hn2 := h2.len
  by_cases hl : xs.length = ys.length
  · obtain ⟨n, hxn⟩ : ∃ n, xs.length = n := ⟨_, rfl⟩
    have hyn : ys.length = n := hl.symm.trans hxn
    have hLx := Lib.hid hxn
    have hLy := Lib.hid hyn
    clear hl
    rw [hxn] at hn ⊢
    rw [hyn] at hn2 ⊢
    clear hxn hyn
    go_enter Tryd.func91, Tryd.ntmps91
    go_wp2
    go_loopw [13] (fun i wr => ∃ k : Nat, k ≤ n ∧ i = .int .i64 k ∧ Hid (∀ j, j < k → nth 0 xs j = nth 0 ys j) ∧ Hid (∃ m, wr = w.drewN m)) (fun i _ => n - (intOf i).toNat)
    case atStart => exact ⟨0, Nat.zero_le _, rfl, fun j hj => absurd hj (by omega), 0, rfl⟩
    case round =>
      obtain ⟨k, hk, rfl, hne, hwd⟩ := hrel
      obtain ⟨m0, hwm⟩ : ∃ m0, Hid (wr = w.drewN m0) := hwd.out
      have hr1 := hwm.out ▸ h.drewN m0
      have hr2 := hwm.out ▸ h2.drewN m0
      by_cases hlt : k < n
      · obtain ⟨ad, rfl, hc⟩ := rd_int hr1 k (by rw [hLx.out]; exact hlt)
        obtain ⟨ad2, rfl, hc2⟩ := rd_int hr2 k (by rw [hLy.out]; exact hlt)
        by_cases hx : nth 0 xs k = nth 0 ys k
        · have hne' : Hid (∀ j, j < k + 1 → nth 0 xs j = nth 0 ys j) := fun j hj => by
            rcases Nat.lt_or_ge j k with h | h
            · exact hne j h
            · obtain rfl : j = k := by omega
              exact hx
          have hb : (nth 0 xs k != nth 0 ys k) = false := by simp [hx]
          clear hx
          go_wp2_with fail
          go_quiet (fail)
          go_wp2_with fail
          go_roundw
          case rel => exact ⟨k + 1, by omega, by go_num, hne', m0 + nq, by rw [hwm.out, World.drewN_drewN]⟩
          case measure => simp [intOf]; omega
        · have hb : (nth 0 xs k != nth 0 ys k) = true := by simpa using hx
          have H : Hid (xs ≠ ys) := fun e => hx (by rw [e])
          clear hx
          go_wp2_with fail
          go_quiet (fail)
          go_wp2_with fail
          go_ret
          exact ⟨ret_bool (by simp [H.out]), m0 + nq, by rw [hwm.out, World.drewN_drewN]⟩
      · have H : Hid (xs = ys) := nth_ext 0 (hLx.out.trans hLy.out.symm) fun j hj => hne j (by rw [hLx.out] at hj; omega)
        go_wp2
        go_ret
        exact ⟨ret_bool (by simp [H.out]), m0, hwm.out⟩
  · have H : Hid (xs ≠ ys) := fun e => hl (by rw [e])
    go_enter Tryd.func91, Tryd.ntmps91
    go_wp2
    go_ret
    exact ⟨ret_bool (by simp [H.out]), 0, rfl⟩

set_option maxHeartbeats 400000 in
theorem ints_any (A : Option Addr) (c : Nat) (xs : List Int) (B : Option Addr) (d : Nat) (ys : List Int) (w : World) (h : Sl (kInt .i64) AnyB w A c xs) (h2 : Sl (kInt .i64) AnyB w B d ys) :
    Calls Tryd.prog 24 #[.slice A xs.length c, .slice B ys.length d] w fun e w' => e = .returned (.bool (decide (xs = ys))) ∧ ∃ m, w' = w.drewN m := by
  have hn := h.len
  have hn2 := h2.len
  by_cases hl : xs.length = ys.length
  · obtain ⟨n, hxn⟩ : ∃ n, xs.length = n := ⟨_, rfl⟩
    have hyn : ys.length = n := hl.symm.trans hxn
    have hLx := Lib.hid hxn
    have hLy := Lib.hid hyn
    clear hl
    rw [hxn] at hn ⊢
    rw [hyn] at hn2 ⊢
    clear hxn hyn
    go_enter Tryd.func24, Tryd.ntmps24
    go_wp2
    go_loopw [13] (fun i wr => ∃ k : Nat, k ≤ n ∧ i = .int .i64 k ∧ Hid (∀ j, j < k → nth 0 xs j = nth 0 ys j) ∧ Hid (∃ m, wr = w.drewN m)) (fun i _ => n - (intOf i).toNat)
    case atStart => exact ⟨0, Nat.zero_le _, rfl, fun j hj => absurd hj (by omega), 0, rfl⟩
    case round =>
      obtain ⟨k, hk, rfl, hne, hwd⟩ := hrel
      obtain ⟨m0, hwm⟩ : ∃ m0, Hid (wr = w.drewN m0) := hwd.out
      have hr1 := hwm.out ▸ h.drewN m0
      have hr2 := hwm.out ▸ h2.drewN m0
      by_cases hlt : k < n
      · obtain ⟨ad, rfl, hc⟩ := rd_int hr1 k (by rw [hLx.out]; exact hlt)
        obtain ⟨ad2, rfl, hc2⟩ := rd_int hr2 k (by rw [hLy.out]; exact hlt)
        by_cases hx : nth 0 xs k = nth 0 ys k
        · have hne' : Hid (∀ j, j < k + 1 → nth 0 xs j = nth 0 ys j) := fun j hj => by
            rcases Nat.lt_or_ge j k with h | h
            · exact hne j h
            · obtain rfl : j = k := by omega
              exact hx
          have hb : (nth 0 xs k != nth 0 ys k) = false := by simp [hx]
          clear hx
          go_wp2_with fail
          go_quiet (fail)
          go_wp2_with fail
          go_roundw
          case rel => exact ⟨k + 1, by omega, by go_num, hne', m0 + nq, by rw [hwm.out, World.drewN_drewN]⟩
          case measure => simp [intOf]; omega
        · have hb : (nth 0 xs k != nth 0 ys k) = true := by simpa using hx
          have H : Hid (xs ≠ ys) := fun e => hx (by rw [e])
          clear hx
          go_wp2_with fail
          go_quiet (fail)
          go_wp2_with fail
          go_ret
          exact ⟨ret_bool (by simp [H.out]), m0 + nq, by rw [hwm.out, World.drewN_drewN]⟩
      · have H : Hid (xs = ys) := nth_ext 0 (hLx.out.trans hLy.out.symm) fun j hj => hne j (by rw [hLx.out] at hj; omega)
        go_wp2
        go_ret
        exact ⟨ret_bool (by simp [H.out]), m0, hwm.out⟩
  · have H : Hid (xs ≠ ys) := fun e => hl (by rw [e])
    go_enter Tryd.func24, Tryd.ntmps24
    go_wp2
    go_ret
    exact ⟨ret_bool (by simp [H.out]), 0, rfl⟩

set_option maxHeartbeats 400000 in
theorem same1_any (A : Option Addr) (c : Nat) (xs : List Int) (B : Option Addr) (d : Nat) (ys : List Int) (w : World) (h : Sl (kInt .u8) AnyB w A c xs) (h2 : Sl (kInt .u8) AnyB w B d ys) :
    Calls Tryd.prog 18 #[.slice A xs.length c, .slice B ys.length d] w fun e w' => e = .returned (.bool (decide (xs = ys))) ∧ ∃ m, w' = w.drewN m := by
  have hn := h.len
  have hn2 := h2.len
  by_cases hl : xs.length = ys.length
  · obtain ⟨n, hxn⟩ : ∃ n, xs.length = n := ⟨_, rfl⟩
    have hyn : ys.length = n := hl.symm.trans hxn
    have hLx := Lib.hid hxn
    have hLy := Lib.hid hyn
    clear hl
    rw [hxn] at hn ⊢
    rw [hyn] at hn2 ⊢
    clear hxn hyn
    go_enter Tryd.func18, Tryd.ntmps18
    go_wp2
    go_loopw [13] (fun i wr => ∃ k : Nat, k ≤ n ∧ i = .int .i64 k ∧ Hid (∀ j, j < k → nth 0 xs j = nth 0 ys j) ∧ Hid (∃ m, wr = w.drewN m)) (fun i _ => n - (intOf i).toNat)
    case atStart => exact ⟨0, Nat.zero_le _, rfl, fun j hj => absurd hj (by omega), 0, rfl⟩
    case round =>
      obtain ⟨k, hk, rfl, hne, hwd⟩ := hrel
      obtain ⟨m0, hwm⟩ : ∃ m0, Hid (wr = w.drewN m0) := hwd.out
      have hr1 := hwm.out ▸ h.drewN m0
      have hr2 := hwm.out ▸ h2.drewN m0
      by_cases hlt : k < n
      · obtain ⟨ad, rfl, hc⟩ := rd_int hr1 k (by rw [hLx.out]; exact hlt)
        obtain ⟨ad2, rfl, hc2⟩ := rd_int hr2 k (by rw [hLy.out]; exact hlt)
        by_cases hx : nth 0 xs k = nth 0 ys k
        · have hne' : Hid (∀ j, j < k + 1 → nth 0 xs j = nth 0 ys j) := fun j hj => by
            rcases Nat.lt_or_ge j k with h | h
            · exact hne j h
            · obtain rfl : j = k := by omega
              exact hx
          have hb : (nth 0 xs k != nth 0 ys k) = false := by simp [hx]
          clear hx
          go_wp2_with fail
          go_quiet (fail)
          go_wp2_with fail
          go_roundw
          case rel => exact ⟨k + 1, by omega, by go_num, hne', m0 + nq, by rw [hwm.out, World.drewN_drewN]⟩
          case measure => simp [intOf]; omega
        · have hb : (nth 0 xs k != nth 0 ys k) = true := by simpa using hx
          have H : Hid (xs ≠ ys) := fun e => hx (by rw [e])
          clear hx
          go_wp2_with fail
          go_quiet (fail)
          go_wp2_with fail
          go_ret
          exact ⟨ret_bool (by simp [H.out]), m0 + nq, by rw [hwm.out, World.drewN_drewN]⟩
      · have H : Hid (xs = ys) := nth_ext 0 (hLx.out.trans hLy.out.symm) fun j hj => hne j (by rw [hLx.out] at hj; omega)
        go_wp2
        go_ret
        exact ⟨ret_bool (by simp [H.out]), m0, hwm.out⟩
  · have H : Hid (xs ≠ ys) := fun e => hl (by rw [e])
    go_enter Tryd.func18, Tryd.ntmps18
    go_wp2
    go_ret
    exact ⟨ret_bool (by simp [H.out]), 0, rfl⟩

end Go.Proofs.YtijcecakofmhcaaDoor
