/- The document's answer, layer 2: Rate, sample, Valid, Check, Len, Small. -/
import Derived.Test.YtijcecakofmhcaaDoorPcmM
import Derived.Test.YtijcecakofmhcaaDoorPcmV
namespace Go.Proofs.YtijcecakofmhcaaDoor
open Go.RowKit

set_option maxHeartbeats 400000 in
theorem refRate_any (n : Int) (w : World) :
    Calls Tryd.prog 66 #[.int .i64 n] w fun e w' => e = .returned (.bool (isRateB n)) ∧ Below w.heap.size w w' := by
  have L := lit_sl w 3 .i64 ratesL (by decide)
  have hB := below_alloc (Below.refl w.heap.size w) (.cells (nums .i64 ratesL).toArray 3)
  go_enter Tryd.func66, Tryd.ntmps66
  go_wp2
  go_loop [7] (fun i => ∃ k : Nat, k ≤ 9 ∧ i = .int .i64 k ∧ Hid (∀ j, j < k → nth 0 ratesL j ≠ n)) (fun i => 9 - (intOf i).toNat)
  case atStart => exact ⟨0, Nat.zero_le _, rfl, fun j h => absurd h (by omega)⟩
  case round =>
    obtain ⟨k, hk, rfl, hne⟩ := hrel
    by_cases hlt : k < 9
    · obtain ⟨ad, e1, hc⟩ := rd_int L k hlt
      injection e1 with e1
      subst e1
      rw [add_plain] at hc
      have hc' : ((w.alloc (.cells #[.int .i64 8000, .int .i64 11025, .int .i64 12000, .int .i64 16000, .int .i64 22050, .int .i64 24000, .int .i64 32000, .int .i64 44100, .int .i64 48000] 3))).cell? ⟨w.heap.size, k, none⟩ = some (.int .i64 (nth 0 ratesL k)) := hc
      have hm := nth_mem 0 ratesL k hlt
      obtain ⟨y, hy⟩ : ∃ y, nth 0 ratesL k = y := ⟨_, rfl⟩
      rw [hy] at hc' hm
      clear hc
      by_cases he : n = y
      · subst he
        have H : Hid (isRateB n = true) := Lib.hid (by unfold isRateB hasB; rw [List.contains_eq_mem]; exact decide_eq_true hm)
        clear hy hm
        go_wp2
        go_ret
        rw [H.out]
        exact ⟨rfl, hB⟩
      · have HY := Lib.hid hy
        clear hy hm
        go_wp2
        go_round
        case rel => exact ⟨k + 1, by omega, by go_num, Lib.hid fun j hj => by
          rcases Nat.lt_or_ge j k with h | h
          · exact hne.out j h
          · obtain rfl : j = k := by omega
            rw [HY.out]; exact fun e => he e.symm⟩
        case measure => simp [intOf]; omega
    · obtain rfl : k = 9 := by omega
      have H : Hid (isRateB n = false) := Lib.hid (by
        unfold isRateB hasB
        rw [List.contains_eq_mem]
        refine decide_eq_false fun hm => ?_
        obtain ⟨j, hj, he⟩ := List.mem_iff_getElem.1 hm
        exact hne.out j hj (by rw [nth_eq 0 ratesL j hj]; exact he))
      go_wp2
      go_ret
      rw [H.out]
      exact ⟨rfl, hB⟩

theorem refSample_any (n : Int) (w : World) :
    Calls Tryd.prog 67 #[.int .i64 n] w fun e w' => e = .returned (.bool (smpB n)) ∧ w = w' := by
  by_cases h1 : -32768 ≤ n
  · go_enter Tryd.func67, Tryd.ntmps67
    go_wp2
    go_ret
    exact ⟨by simp [smpB, h1], rfl⟩
  · go_enter Tryd.func67, Tryd.ntmps67
    go_wp2
    go_ret
    exact ⟨by simp [smpB]; omega, rfl⟩

theorem all_snoc2 (p : List Int → Bool) (xs : List (List Int)) (k : Nat) (h : k < xs.length) : (xs.take (k + 1)).all p = ((xs.take k).all p && p (nth [] xs k)) := by
  rw [take_succ_nth [] xs k h]; simp
/-- What the document's answer asks of a channel. -/
def chanR (n : Nat) (c : List Int) : Bool := (c.length == n && decide (c.length ≤ 8192)) && c.all smpB
theorem valid_chanR (r : Int) (s : List (List Int)) (h1 : 1 ≤ s.length) (h2 : s.length ≤ 2) (hr : isRateB r = true) : validB r s = s.all (chanR (len0 s)) := by
  have hm := nth_mem [] s 0 h1
  rw [Bool.eq_iff_iff]
  simp only [validB, hr, h1, h2, decide_true, Bool.true_and, Bool.and_eq_true, decide_eq_true_eq, List.all_eq_true, chanB, chanR, beq_iff_eq]
  constructor
  · rintro ⟨a, b⟩ c hc
    exact ⟨⟨(b c hc).1, by rw [(b c hc).1]; exact a⟩, (b c hc).2⟩
  · intro b
    exact ⟨(b _ hm).1.2, fun c hc => ⟨(b c hc).1.1, (b c hc).2⟩⟩

set_option maxHeartbeats 1000000 in
set_option maxRecDepth 100000 in
theorem refValid_any (r : Int) (A : Option Addr) (c : Nat) (s : List (List Int)) (w : World) (hS : R2 w A c s) :
    Calls Tryd.prog 25 #[.agg #[.int .i64 r, .slice A s.length c]] w fun e w' => e = .returned (.bool (validB r s)) ∧ Below w.heap.size w w' := by
  have hn := hS.len
  cases hr : isRateB r
  · have HP := Lib.hid (show validB r s = false by simp [validB, hr])
    go_enter Tryd.func25, Tryd.ntmps25
    go_wp2_with (first | ((with_reducible refine at_dst (N := 1) rfl ?_); refine ev_new #[.int .i64 r, .slice A s.length c] 24 rfl ?hr ?_; (case hr => first | (go_simp; done) | (go_simp; rfl)); intro g1 w1 eg1 zg1 b1 Bg1; have k0 := Bg1.cell 0 rfl; have k1 := Bg1.cell 1 rfl) | (go_at_call 66; refine (refRate_any _ _).mono ?_; rintro e w2 ⟨rfl, b2⟩; rw [hr]))
    go_ret
    rw [HP.out]
    exact ⟨rfl, below2 b1 b2⟩
  · by_cases h1 : s.length < 1
    · have HP := Lib.hid (show validB r s = false by simp [validB]; omega)
      go_enter Tryd.func25, Tryd.ntmps25
      go_wp2_with (first | ((with_reducible refine at_dst (N := 1) rfl ?_); refine ev_new #[.int .i64 r, .slice A s.length c] 24 rfl ?hr ?_; (case hr => first | (go_simp; done) | (go_simp; rfl)); intro g1 w1 eg1 zg1 b1 Bg1; have k0 := Bg1.cell 0 rfl; have k1 := Bg1.cell 1 rfl) | (go_at_call 66; refine (refRate_any _ _).mono ?_; rintro e w2 ⟨rfl, b2⟩; rw [hr]; have q1 := (Bg1.below b2).cell 1 rfl))
      go_ret
      rw [HP.out]
      exact ⟨rfl, below2 b1 b2⟩
    · by_cases h2 : 2 < s.length
      · have HP := Lib.hid (show validB r s = false by simp [validB]; omega)
        go_enter Tryd.func25, Tryd.ntmps25
        go_wp2_with (first | ((with_reducible refine at_dst (N := 1) rfl ?_); refine ev_new #[.int .i64 r, .slice A s.length c] 24 rfl ?hr ?_; (case hr => first | (go_simp; done) | (go_simp; rfl)); intro g1 w1 eg1 zg1 b1 Bg1; have k0 := Bg1.cell 0 rfl; have k1 := Bg1.cell 1 rfl) | (go_at_call 66; refine (refRate_any _ _).mono ?_; rintro e w2 ⟨rfl, b2⟩; rw [hr]; have q1 := (Bg1.below b2).cell 1 rfl))
        go_ret
        rw [HP.out]
        exact ⟨rfl, below2 b1 b2⟩
      · have HP := Lib.hid (valid_chanR r s (by omega) (by omega) hr)
        have H1 := Lib.hid hr
        clear hr
        obtain ⟨ad, A0, c0, hA, hc0, hs0⟩ := rd_sl hS 0 (by omega)
        go_enter Tryd.func25, Tryd.ntmps25
        go_wp2_with (first | ((with_reducible refine at_dst (N := 1) rfl ?_); refine ev_new #[.int .i64 r, .slice A s.length c] 24 rfl ?hr ?_; (case hr => first | (go_simp; done) | (go_simp; rfl)); intro g1 w1 eg1 zg1 b1 Bg1; have k0 := Bg1.cell 0 rfl; have k1 := Bg1.cell 1 rfl) | (go_at_call 66; refine (refRate_any _ _).mono ?_; rintro e w2 ⟨rfl, b2⟩; rw [H1.out]; have q1 := (Bg1.below b2).cell 1 rfl))
        have BX := below2 b1 b2
        have hS2 := hS.below BX
        replace hc0 := cell_below BX hc0
        rw [Addr.add] at hc0
        simp only [if_true] at hc0
        subst hA
        obtain ⟨n0, hn0⟩ : ∃ n0, (nth [] s 0).length = n0 := ⟨_, rfl⟩
        have hl0 : Hid (len0 s = n0) := Lib.hid hn0
        rw [hn0] at hc0
        clear hn0 hs0 k0 k1
        go_loop [26] (fun i => ∃ k : Nat, k ≤ s.length ∧ i = .int .i64 k ∧ Hid ((s.take k).all (chanR n0) = true)) (fun i => s.length - (intOf i).toNat)
        case atStart => exact ⟨0, Nat.zero_le _, rfl, rfl⟩
        case round =>
          obtain ⟨k, hk, rfl, hall⟩ := hrel
          by_cases hlt : k < s.length
          · have hsn := Lib.hid (all_snoc2 (chanR n0) s k hlt)
            have hmem := Lib.hid (nth_mem [] s k hlt)
            obtain ⟨ad', A', c', e1, hc, hs'⟩ := rd_sl hS2 k hlt
            injection e1 with e1
            subst e1
            obtain ⟨cc, hcc⟩ : ∃ cc, nth [] s k = cc := ⟨_, rfl⟩
            rw [hcc] at hc hs' hsn hmem
            have hle := hs'.len
            by_cases hl1 : cc.length = n0
            · by_cases hl2 : 8192 < cc.length
              · have HF : Hid (s.all (chanR n0) = false) := Lib.hid (by rw [List.all_eq_false]; exact ⟨cc, hmem.out, by simp [chanR]; omega⟩)
                have hi2 : (8192 : Int) < (cc.length : Int) := by omega
                have hi1 : (cc.length : Int) = (n0 : Int) := by omega
                go_wp2
                go_ret
                rw [HP.out, hl0.out, HF.out]
                exact ⟨rfl, BX⟩
              · have hi2 : ¬ (8192 : Int) < (cc.length : Int) := by omega
                have hi1 : (cc.length : Int) = (n0 : Int) := by omega
                go_wp2_with fail
                go_loop [45] (fun i => ∃ j : Nat, j ≤ cc.length ∧ i = .int .i64 j ∧ Hid ((cc.take j).all smpB = true)) (fun i => cc.length - (intOf i).toNat)
                case atStart => exact ⟨0, Nat.zero_le _, rfl, rfl⟩
                case round =>
                  obtain ⟨j, hj, rfl, hin⟩ := hrel
                  by_cases hjl : j < cc.length
                  · obtain ⟨ad2, rfl, hc2⟩ := rd_int hs' j hjl
                    have hs2 := all_snoc smpB cc j hjl
                    cases hx : smpB (nth 0 cc j)
                    · have HF : Hid (s.all (chanR n0) = false) := Lib.hid (by rw [List.all_eq_false]; exact ⟨cc, hmem.out, by simp [chanR]; exact fun _ _ => ⟨_, nth_mem 0 cc j hjl, hx⟩⟩)
                      have hX := Lib.hid hx
                      clear hs2 hx
                      go_wp2_with (go_at_call 67; refine (refSample_any _ _).mono ?_; rintro e w' ⟨rfl, rfl⟩; rw [hX.out])
                      go_ret
                      rw [HP.out, hl0.out, HF.out]
                      exact ⟨rfl, BX⟩
                    · have H : Hid ((cc.take (j + 1)).all smpB = true) := by rw [hs2, hx, hin.out]; rfl
                      have hX := Lib.hid hx
                      clear hs2 hx
                      go_wp2_with (go_at_call 67; refine (refSample_any _ _).mono ?_; rintro e w' ⟨rfl, rfl⟩; rw [hX.out])
                      go_round
                      case rel => exact ⟨j + 1, by omega, by go_num, H⟩
                      case measure => simp [intOf]; omega
                  · obtain rfl : j = cc.length := by omega
                    rw [List.take_length] at hin
                    have H : Hid ((s.take (k + 1)).all (chanR n0) = true) := Lib.hid (by rw [hsn.out, hall.out]; simp [chanR, hl1, hin.out]; omega)
                    go_wp2
                    go_round
                    case rel => exact ⟨k + 1, by omega, by go_num, H⟩
                    case measure => simp [intOf]; omega
            · have HF : Hid (s.all (chanR n0) = false) := Lib.hid (by rw [List.all_eq_false]; exact ⟨cc, hmem.out, by simp [chanR, hl1]⟩)
              have hi1 : ¬ (cc.length : Int) = (n0 : Int) := by omega
              go_wp2
              go_ret
              rw [HP.out, hl0.out, HF.out]
              exact ⟨rfl, BX⟩
          · obtain rfl : k = s.length := by omega
            rw [List.take_length] at hall
            go_wp2
            go_ret
            rw [HP.out, hl0.out, hall.out]
            exact ⟨rfl, BX⟩
end Go.Proofs.YtijcecakofmhcaaDoor
