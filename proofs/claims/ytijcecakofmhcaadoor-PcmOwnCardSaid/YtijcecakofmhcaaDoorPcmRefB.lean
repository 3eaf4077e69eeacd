/- The document's answer, layer 2: Check, Len, Frames, Small, few, Interleave. -/
import Derived.Test.YtijcecakofmhcaaDoorPcmRefA
namespace Go.Proofs.YtijcecakofmhcaaDoor
open Go.RowKit

set_option maxHeartbeats 400000 in
theorem refCheck_any (r : Int) (A : Option Addr) (c : Nat) (s : List (List Int)) (w : World) (hS : R2 w A c s) :
    Calls Tryd.prog 49 #[.agg #[.int .i64 r, .slice A s.length c]] w fun e w' => e = .returned (.int .i64 (checkE r s)) ∧ Below w.heap.size w w' := by
  obtain ⟨bv, hbv⟩ : ∃ bv, validB r s = bv := ⟨_, rfl⟩
  have HV := Lib.hid hbv
  have HP := Lib.hid (show checkE r s = if bv then 0 else 1 by unfold checkE; rw [hbv])
  clear hbv
  cases bv <;>
  · go_enter Tryd.func49, Tryd.ntmps49
    go_wp2_with (first | ((with_reducible refine at_dst (N := 1) rfl ?_); refine ev_new #[.int .i64 r, .slice A s.length c] 24 rfl ?hr ?_; (case hr => first | (go_simp; done) | (go_simp; rfl)); intro g1 w1 eg1 zg1 b1 Bg1; have k0 := Bg1.cell 0 rfl; have k1 := Bg1.cell 1 rfl) | (go_at_call 25; refine (refValid_any r A c s _ (hS.below b1)).mono ?_; rintro e w2 ⟨rfl, b2⟩; rw [HV.out]))
    go_ret
    rw [HP.out]
    exact ⟨rfl, below2 b1 b2⟩

set_option maxHeartbeats 400000 in
theorem refLen_any (r : Int) (A : Option Addr) (c : Nat) (s : List (List Int)) (w : World) (h : R2 w A c s) (hs : 1 ≤ s.length) :
    Calls Tryd.prog 34 #[.agg #[.int .i64 r, .slice A s.length c]] w fun e w' => e = .returned (.int .i64 (len0 s)) ∧ Below w.heap.size w w' := by
  obtain ⟨ad, A', c', rfl, hc, hs'⟩ := rd_sl h 0 hs
  rw [Addr.add] at hc
  simp only [if_true] at hc
  have h0 : 0 < s.length := by omega
  go_enter Tryd.func34, Tryd.ntmps34
  go_wp2_with (((with_reducible refine at_dst (N := 1) rfl ?_); refine ev_new #[.int .i64 r, .slice (some ad) s.length c] 24 rfl ?hr ?_; (case hr => first | (go_simp; done) | (go_simp; rfl)); intro g1 w1 eg1 zg1 b1 Bg1; have k0 := Bg1.cell 0 rfl; have k1 := Bg1.cell 1 rfl; have hc1 := cell_below b1 hc))
  go_ret
  exact ⟨rfl, b1⟩

set_option maxHeartbeats 1000000 in
theorem refFrames_any (r : Int) (A : Option Addr) (c : Nat) (s : List (List Int)) (w : World) (hS : R2 w A c s) :
    Calls Tryd.prog 44 #[.agg #[.int .i64 r, .slice A s.length c]] w fun e w' => e = .returned (.tuple #[.int .i64 (framesS r s).1, .int .i64 (framesS r s).2]) ∧ Below w.heap.size w w' := by
  have hn := hS.len
  cases hv : validB r s
  · have HP := Lib.hid (show framesS r s = (0, 1) by simp [framesS, hv])
    have HV := Lib.hid hv
    clear hv
    go_enter Tryd.func44, Tryd.ntmps44
    go_wp2_with (first | ((with_reducible refine at_dst (N := 1) rfl ?_); refine ev_new #[.int .i64 r, .slice A s.length c] 24 rfl ?hr ?_; (case hr => first | (go_simp; done) | (go_simp; rfl)); intro g1 w1 eg1 zg1 b1 Bg1; have k0 := Bg1.cell 0 rfl; have k1 := Bg1.cell 1 rfl) | (go_at_call 25; refine (refValid_any r A c s _ (hS.below b1)).mono ?_; rintro e w2 ⟨rfl, b2⟩; rw [HV.out]))
    go_ret2
    rw [HP.out]
    exact ⟨rfl, below2 b1 b2⟩
  · have V := valid_facts hv
    have h1 := V.one
    have h3 := V.len
    have HP := Lib.hid (show framesS r s = (((framesN s : Nat) : Int), 0) by simp [framesS, hv])
    have HV := Lib.hid hv
    clear hv
    go_enter Tryd.func44, Tryd.ntmps44
    go_wp2_with (first | ((with_reducible refine at_dst (N := 1) rfl ?_); refine ev_new #[.int .i64 r, .slice A s.length c] 24 rfl ?hr ?_; (case hr => first | (go_simp; done) | (go_simp; rfl)); intro g1 w1 eg1 zg1 b1 Bg1; have k0 := Bg1.cell 0 rfl; have k1 := Bg1.cell 1 rfl) | (go_at_call 25; refine (refValid_any r A c s _ (hS.below b1)).mono ?_; rintro e w2 ⟨rfl, b2⟩; rw [HV.out]; replace b1 := below2 b1 b2; replace Bg1 := Bg1.below b2; clear k0 k1; have k0 : w2.cell? ⟨g1, 0, none⟩ = some (.int .i64 r) := Bg1.cell 0 rfl; have k1 : w2.cell? ⟨g1, 1, none⟩ = some (.slice A s.length c) := Bg1.cell 1 rfl) | (go_at_call 34; refine (refLen_any r A c s _ (hS.below b1) h1).mono ?_; rintro e w3 ⟨rfl, b3⟩))
    go_ret2
    rw [HP.out]
    exact ⟨by unfold framesN; go_num, below2 b1 b3⟩

/-- The numbers of a sound's channels. -/
def totL (s : List (List Int)) (k : Nat) : Nat := s.length + ((s.take k).map List.length).sum
theorem totL_succ (s : List (List Int)) (k : Nat) (h : k < s.length) : totL s (k + 1) = totL s k + (nth [] s k).length := by
  unfold totL
  rw [take_succ_nth [] s k h]
  simp
  omega
theorem totL_mono (s : List (List Int)) (k : Nat) (h : k ≤ s.length) : totL s k ≤ totL s s.length := by
  have : ∀ d, k + d ≤ s.length → totL s k ≤ totL s (k + d) := by
    intro d
    induction d with
    | zero => intro _; exact Nat.le_refl _
    | succ d ih => intro h; have := ih (by omega); rw [← Nat.add_assoc, totL_succ s (k + d) (by omega)]; omega
  have h2 := this (s.length - k) (by omega)
  rwa [Nat.add_sub_cancel' h] at h2
def smallB (s : List (List Int)) (m : Int) : Bool := decide ((totL s s.length : Int) ≤ m)

set_option maxHeartbeats 1000000 in
set_option maxRecDepth 100000 in
theorem small_any (r : Int) (A : Option Addr) (c : Nat) (s : List (List Int)) (m : Int) (w : World) (hS : R2 w A c s) (hm : 0 ≤ m) (hm2 : m ≤ 100000) (hb1 : s.length ≤ 140737488355328) (hb2 : ∀ c ∈ s, c.length ≤ 140737488355328) :
    Calls Tryd.prog 39 #[.agg #[.int .i64 r, .slice A s.length c], .int .i64 m] w fun e w' => e = .returned (.bool (smallB s m)) ∧ Below w.heap.size w w' := by
  have hn := hS.len
  go_enter Tryd.func39, Tryd.ntmps39
  go_wp2_with (((with_reducible refine at_dst (N := 2) rfl ?_); refine ev_new #[.int .i64 r, .slice A s.length c] 24 rfl ?hr ?_; (case hr => first | (go_simp; done) | (go_simp; rfl)); intro g1 w1 eg1 zg1 b1 Bg1; have k0 := Bg1.cell 0 rfl; have k1 := Bg1.cell 1 rfl))
  have hS1 := hS.below b1
  go_loop [5, 14] (fun t i => ∃ k : Nat, k ≤ s.length ∧ i = .int .i64 k ∧ t = .int .i64 (totL s k : Nat) ∧ ((totL s k : Int) ≤ m ∨ k = 0)) (fun _ i => s.length - (intOf i).toNat)
  case atStart => exact ⟨0, Nat.zero_le _, rfl, by simp [totL], .inr rfl⟩
  case round =>
    obtain ⟨k, hk, rfl, rfl, hb⟩ := hrel
    by_cases hlt : k < s.length
    · obtain ⟨ad, A', c', rfl, hc, hs'⟩ := rd_sl hS1 k hlt
      have hT := Lib.hid (totL_succ s k hlt)
      have hM := Lib.hid (totL_mono s (k + 1) (by omega))
      obtain ⟨cc, hcc⟩ : ∃ cc, nth [] s k = cc := ⟨_, rfl⟩
      rw [hcc] at hc hs' hT
      have hle : cc.length ≤ 140737488355328 := hb2 cc (hcc ▸ nth_mem [] s k hlt)
      have h0 : totL s 0 = s.length := by simp [totL]
      have hq : totL s k ≤ 140737488355328 := by
        rcases hb with h | rfl
        · omega
        · omega
      obtain ⟨q, hq'⟩ : ∃ q, totL s k = q := ⟨_, rfl⟩
      rw [hq'] at hT hq ⊢
      have HQ := Lib.hid hq'
      clear hq' h0 hb hcc
      by_cases hbig : m < ((q + cc.length : Nat) : Int)
      · have HF : Hid (smallB s m = false) := Lib.hid (by unfold smallB; exact decide_eq_false (by have := hM.out; rw [hT.out] at this; omega))
        have hbi : m < (q : Int) + (cc.length : Int) := by omega
        go_wp2
        go_ret
        rw [HF.out]
        exact ⟨rfl, b1⟩
      · have hbi : ¬ m < (q : Int) + (cc.length : Int) := by omega
        go_wp2
        go_roundw
        case rel => exact ⟨k + 1, by omega, by go_num, by rw [hT.out]; go_num, .inl (by rw [hT.out]; omega)⟩
        case measure => simp [intOf]; omega
    · obtain rfl : k = s.length := by omega
      go_wp2
      go_ret
      exact ⟨rfl, b1⟩
end Go.Proofs.YtijcecakofmhcaaDoor
