/- Two sounds compared: what the calls return, for any sounds and memory. -/
import Derived.Test.YtijcecakofmhcaaDoorPcmR
import Derived.Test.YtijcecakofmhcaaDoorPcmH
namespace Go.Proofs.YtijcecakofmhcaaDoor
open Go.RowKit

theorem dec_true {p : Prop} [Decidable p] (h : p) : decide p = true := decide_eq_true h
theorem dec_false {p : Prop} [Decidable p] (h : ¬ p) : decide p = false := decide_eq_false h

set_option maxHeartbeats 1000000 in
theorem equalFunc_any (A : Option Addr) (c : Nat) (s : List (List Int)) (B : Option Addr) (d : Nat) (s2 : List (List Int)) (w : World) (h : R2 w A c s) (h2 : R2 w B d s2) :
    Calls Tryd.prog 83 #[.slice A s.length c, .slice B s2.length d, .func (.func 84) #[] #[]] w fun e w' => e = .returned (.bool (decide (s = s2))) ∧ ∃ m, w' = w.drewN m := by
  have hn := h.len
  have hn2 := h2.len
  by_cases hl : s.length = s2.length
  · obtain ⟨n, hxn⟩ : ∃ n, s.length = n := ⟨_, rfl⟩
    have hyn : s2.length = n := hl.symm.trans hxn
    have hLx := Lib.hid hxn
    have hLy := Lib.hid hyn
    clear hl
    rw [hxn] at hn ⊢
    rw [hyn] at hn2 ⊢
    clear hxn hyn
    go_enter Tryd.func83, Tryd.ntmps83
    go_wp2
    go_loopw [17] (fun i wr => ∃ k : Nat, k ≤ n ∧ i = .int .i64 k ∧ Hid (∀ j, j < k → nth [] s j = nth [] s2 j) ∧ Hid (∃ m, wr = w.drewN m)) (fun i _ => n - (intOf i).toNat)
    case atStart => exact ⟨0, Nat.zero_le _, rfl, fun j hj => absurd hj (by omega), 0, rfl⟩
    case round =>
      obtain ⟨k, hk, rfl, hne, hwd⟩ := hrel
      obtain ⟨m0, hwm⟩ : ∃ m0, Hid (wr = w.drewN m0) := hwd.out
      have hr1 := hwm.out ▸ h.drewN m0
      have hr2 := hwm.out ▸ h2.drewN m0
      by_cases hlt : k < n
      · obtain ⟨ad, A', c', rfl, hc, hs'⟩ := rd_sl hr1 k (by rw [hLx.out]; exact hlt)
        obtain ⟨ad2, B', d', rfl, hc2, hs2'⟩ := rd_sl hr2 k (by rw [hLy.out]; exact hlt)
        by_cases hx : nth [] s k = nth [] s2 k
        · have hne' : Hid (∀ j, j < k + 1 → nth [] s j = nth [] s2 j) := fun j hj => by
            rcases Nat.lt_or_ge j k with h | h
            · exact hne j h
            · obtain rfl : j = k := by omega
              exact hx
          have H := Lib.hid (dec_true hx)
          clear hx
          go_wp2_with (go_at_call 84; refine (equalI_any _ _ _ _ _ _ _ hs' hs2').mono ?_; rintro e w' ⟨rfl, m1, hm1⟩; rw [H.out]; have HM := Lib.hid hm1; clear hm1)
          go_roundw
          case rel => exact ⟨k + 1, by omega, by go_num, hne', m0 + m1, by rw [HM.out, hwm.out, World.drewN_drewN]⟩
          case measure => simp [intOf]; omega
        · have H := Lib.hid (dec_false hx)
          have H2 : Hid (s ≠ s2) := fun e => hx (by rw [e])
          clear hx
          go_wp2_with (go_at_call 84; refine (equalI_any _ _ _ _ _ _ _ hs' hs2').mono ?_; rintro e w' ⟨rfl, m1, hm1⟩; rw [H.out]; have HM := Lib.hid hm1; clear hm1)
          go_ret
          exact ⟨ret_bool (by simp [H2.out]), m0 + m1, by rw [HM.out, hwm.out, World.drewN_drewN]⟩
      · have H : Hid (s = s2) := nth_ext [] (hLx.out.trans hLy.out.symm) fun j hj => hne j (by rw [hLx.out] at hj; omega)
        go_wp2
        go_ret
        exact ⟨ret_bool (by simp [H.out]), m0, hwm.out⟩
  · have H : Hid (s ≠ s2) := fun e => hl (by rw [e])
    go_enter Tryd.func83, Tryd.ntmps83
    go_wp2
    go_ret
    exact ⟨ret_bool (by simp [H.out]), 0, rfl⟩

def sameB (r : Int) (s : List (List Int)) (r2 : Int) (s2 : List (List Int)) : Bool := decide (r = r2) && decide (s = s2)

set_option maxHeartbeats 1000000 in
theorem same_any (r : Int) (A : Option Addr) (c : Nat) (s : List (List Int)) (r2 : Int) (B : Option Addr) (d : Nat) (s2 : List (List Int)) (w : World) (h : R2 w A c s) (h2 : R2 w B d s2) :
    Calls Tryd.prog 50 #[.agg #[.int .i64 r, .slice A s.length c], .agg #[.int .i64 r2, .slice B s2.length d]] w fun e w' => e = .returned (.bool (sameB r s r2 s2)) ∧ Below w.heap.size w w' := by
  have hn := h.len
  have hn2 := h2.len
  by_cases hr : r = r2
  · have hb : (r == r2) = true := by simpa using hr
    have H := Lib.hid (show sameB r s r2 s2 = decide (s = s2) by simp [sameB, hr])
    clear hr
    go_enter Tryd.func50, Tryd.ntmps50
    go_wp2_with (first | ((with_reducible refine at_dst (N := 2) rfl ?_); refine ev_new #[.int .i64 r, .slice A s.length c] 24 rfl ?hr ?_; (case hr => first | (go_simp; done) | (go_simp; rfl)); intro g1 w1 eg1 zg1 b1 Bg1; skip) | ((with_reducible refine at_dst (N := 3) rfl ?_); refine ev_new #[.int .i64 r2, .slice B s2.length d] 24 rfl ?hr ?_; (case hr => first | (go_simp; done) | (go_simp; rfl)); intro g3 w3 eg3 zg3 b3 Bg3; replace Bg1 := Bg1.below b3; replace b1 := below2 b1 b3; have k0 := Bg1.cell 0 rfl; have k1 := Bg1.cell 1 rfl; have k2 := Bg3.cell 0 rfl; have k3 := Bg3.cell 1 rfl) | (go_at_call 83; refine (equalFunc_any _ _ _ _ _ _ _ (h.below b1) (h2.below b1)).mono ?_; rintro e w4 ⟨rfl, m1, rfl⟩; rw [← H.out]))
    go_ret
    exact ⟨rfl, below_drewN b1 m1⟩
  · have hb : (r == r2) = false := by simpa using hr
    have H := Lib.hid (show sameB r s r2 s2 = false by simp [sameB, hr])
    clear hr
    go_enter Tryd.func50, Tryd.ntmps50
    go_wp2_with (first | ((with_reducible refine at_dst (N := 2) rfl ?_); refine ev_new #[.int .i64 r, .slice A s.length c] 24 rfl ?hr ?_; (case hr => first | (go_simp; done) | (go_simp; rfl)); intro g1 w1 eg1 zg1 b1 Bg1; skip) | ((with_reducible refine at_dst (N := 3) rfl ?_); refine ev_new #[.int .i64 r2, .slice B s2.length d] 24 rfl ?hr ?_; (case hr => first | (go_simp; done) | (go_simp; rfl)); intro g3 w3 eg3 zg3 b3 Bg3; replace Bg1 := Bg1.below b3; replace b1 := below2 b1 b3; have k0 := Bg1.cell 0 rfl; have k1 := Bg1.cell 1 rfl; have k2 := Bg3.cell 0 rfl; have k3 := Bg3.cell 1 rfl))
    go_ret
    exact ⟨ret_bool H.out.symm, b1⟩

set_option maxHeartbeats 1000000 in
theorem refSame_any (r : Int) (A : Option Addr) (c : Nat) (s : List (List Int)) (r2 : Int) (B : Option Addr) (d : Nat) (s2 : List (List Int)) (w : World) (h : R2 w A c s) (h2 : R2 w B d s2) :
    Calls Tryd.prog 19 #[.agg #[.int .i64 r, .slice A s.length c], .agg #[.int .i64 r2, .slice B s2.length d]] w fun e w' => e = .returned (.bool (sameB r s r2 s2)) ∧ Below w.heap.size w w' := by
  have hn := h.len
  have hn2 := h2.len
  by_cases hr : r = r2
  · have hb : (r != r2) = false := by simpa using hr
    have hH := (show sameB r s r2 s2 = decide (s = s2) by simp [sameB, hr])
    clear hr
    by_cases hl : s.length = s2.length
    · obtain ⟨n, hxn⟩ : ∃ n, s.length = n := ⟨_, rfl⟩
      have hyn : s2.length = n := hl.symm.trans hxn
      have hLx := Lib.hid hxn
      have hLy := Lib.hid hyn
      have H := Lib.hid hH
      clear hl hH
      rw [hxn] at hn ⊢
      rw [hyn] at hn2 ⊢
      clear hxn hyn
      go_enter Tryd.func19, Tryd.ntmps19
      go_wp2_with (first | ((with_reducible refine at_dst (N := 2) rfl ?_); refine ev_new #[.int .i64 r, .slice A n c] 24 rfl ?hr ?_; (case hr => first | (go_simp; done) | (go_simp; rfl)); intro g1 w1 eg1 zg1 b1 Bg1; skip) | ((with_reducible refine at_dst (N := 3) rfl ?_); refine ev_new #[.int .i64 r2, .slice B n d] 24 rfl ?hr ?_; (case hr => first | (go_simp; done) | (go_simp; rfl)); intro g3 w3 eg3 zg3 b3 Bg3; replace Bg1 := Bg1.below b3; replace b1 := below2 b1 b3; have k0 := Bg1.cell 0 rfl; have k1 := Bg1.cell 1 rfl; have k2 := Bg3.cell 0 rfl; have k3 := Bg3.cell 1 rfl))
      clear k0 k1 k2 k3
      go_loopw [23] (fun i wr => ∃ k : Nat, k ≤ n ∧ i = .int .i64 k ∧ Hid (∀ j, j < k → nth [] s j = nth [] s2 j) ∧ Below w3.heap.size w3 wr) (fun i _ => n - (intOf i).toNat)
      case atStart => exact ⟨0, Nat.zero_le _, rfl, fun j hj => absurd hj (by omega), Below.refl _ _⟩
      case round =>
        obtain ⟨k, hk, rfl, hne, hB⟩ := hrel
        have C1 := Bg1.below hB
        have C3 := Bg3.below hB
        have k0 := C1.cell 1 rfl
        have k1 := C3.cell 1 rfl
        have BX := below2 b1 hB
        have hr1 := h.below BX
        have hr2 := h2.below BX
        by_cases hlt : k < n
        · obtain ⟨ad, A', c', rfl, hc, hs'⟩ := rd_sl hr1 k (by rw [hLx.out]; exact hlt)
          obtain ⟨ad2, B', d', rfl, hc2, hs2'⟩ := rd_sl hr2 k (by rw [hLy.out]; exact hlt)
          by_cases hx : nth [] s k = nth [] s2 k
          · have hne' : Hid (∀ j, j < k + 1 → nth [] s j = nth [] s2 j) := fun j hj => by
              rcases Nat.lt_or_ge j k with h | h
              · exact hne j h
              · obtain rfl : j = k := by omega
                exact hx
            have HX := Lib.hid (dec_true hx)
            clear hx
            go_wp2_with fail
            go_quiet ((go_at_call 24; exact Calls.quiet_of ((ints_any _ _ _ _ _ _ _ (hs'.drewN _) (hs2'.drewN _)).mono fun e w' he => ⟨he.1.trans (ret_bool HX.out), he.2⟩)))
            go_wp2_with fail
            go_roundw
            case rel => exact ⟨k + 1, by omega, by go_num, hne', below_drewN hB _⟩
            case measure => simp [intOf]; omega
          · have HX := Lib.hid (dec_false hx)
            have H2 : Hid (s ≠ s2) := fun e => hx (by rw [e])
            clear hx
            go_wp2_with fail
            go_quiet ((go_at_call 24; exact Calls.quiet_of ((ints_any _ _ _ _ _ _ _ (hs'.drewN _) (hs2'.drewN _)).mono fun e w' he => ⟨he.1.trans (ret_bool HX.out), he.2⟩)))
            go_wp2_with fail
            go_ret
            exact ⟨ret_bool (by rw [H.out]; simp [H2.out]), below_drewN BX _⟩
        · have H2 : Hid (s = s2) := nth_ext [] (hLx.out.trans hLy.out.symm) fun j hj => hne j (by rw [hLx.out] at hj; omega)
          go_wp2
          go_ret
          exact ⟨ret_bool (by rw [H.out]; simp [H2.out]), BX⟩
    · have H2 : Hid (s ≠ s2) := fun e => hl (by rw [e])
      have H := Lib.hid hH
      clear hH
      go_enter Tryd.func19, Tryd.ntmps19
      go_wp2_with (first | ((with_reducible refine at_dst (N := 2) rfl ?_); refine ev_new #[.int .i64 r, .slice A s.length c] 24 rfl ?hr ?_; (case hr => first | (go_simp; done) | (go_simp; rfl)); intro g1 w1 eg1 zg1 b1 Bg1; skip) | ((with_reducible refine at_dst (N := 3) rfl ?_); refine ev_new #[.int .i64 r2, .slice B s2.length d] 24 rfl ?hr ?_; (case hr => first | (go_simp; done) | (go_simp; rfl)); intro g3 w3 eg3 zg3 b3 Bg3; replace Bg1 := Bg1.below b3; replace b1 := below2 b1 b3; have k0 := Bg1.cell 0 rfl; have k1 := Bg1.cell 1 rfl; have k2 := Bg3.cell 0 rfl; have k3 := Bg3.cell 1 rfl))
      go_ret
      exact ⟨ret_bool (by rw [H.out]; simp [H2.out]), b1⟩
  · have hb : (r != r2) = true := by simpa using hr
    have H := Lib.hid (show sameB r s r2 s2 = false by simp [sameB, hr])
    clear hr
    go_enter Tryd.func19, Tryd.ntmps19
    go_wp2_with (first | ((with_reducible refine at_dst (N := 2) rfl ?_); refine ev_new #[.int .i64 r, .slice A s.length c] 24 rfl ?hr ?_; (case hr => first | (go_simp; done) | (go_simp; rfl)); intro g1 w1 eg1 zg1 b1 Bg1; skip) | ((with_reducible refine at_dst (N := 3) rfl ?_); refine ev_new #[.int .i64 r2, .slice B s2.length d] 24 rfl ?hr ?_; (case hr => first | (go_simp; done) | (go_simp; rfl)); intro g3 w3 eg3 zg3 b3 Bg3; replace Bg1 := Bg1.below b3; replace b1 := below2 b1 b3; have k0 := Bg1.cell 0 rfl; have k1 := Bg1.cell 1 rfl; have k2 := Bg3.cell 0 rfl; have k3 := Bg3.cell 1 rfl))
    go_ret
    exact ⟨ret_bool H.out.symm, b1⟩
end Go.Proofs.YtijcecakofmhcaaDoor
