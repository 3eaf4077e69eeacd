/- pcm: alike: what the call returns, for any two sounds. -/
import Derived.Test.YtijcecakofmhcaaDoorPcmH
namespace Go.Proofs.YtijcecakofmhcaaDoor
open Go.RowKit

set_option maxHeartbeats 1000000 in
set_option maxRecDepth 100000 in
theorem alike_any (r : Int) (A : Option Addr) (c : Nat) (s : List (List Int)) (r2 : Int) (A2 : Option Addr) (c2 : Nat) (s2 : List (List Int)) (w : World) (hG : GR w) (hS : R2 w A c s) (hS2 : R2 w A2 c2 s2) :
    Calls Tryd.prog 73 #[.agg #[.int .i64 r, .slice A s.length c], .agg #[.int .i64 r2, .slice A2 s2.length c2]] w fun e w' => e = .returned (.int .i64 (alikeE r s r2 s2)) ∧ Below w.heap.size w w' := by
  have hn := hS.len
  have hn2 := hS2.len
  cases hv : validB r s
  · have H := Lib.hid (checkE_no hv)
    have HP := Lib.hid (show alikeE r s r2 s2 = 1 by simp [alikeE, hv])
    clear hv
    go_enter Tryd.func73, Tryd.ntmps73
    go_wp2_with (first | ((with_reducible refine at_dst (N := 2) rfl ?_); refine ev_new #[.int .i64 r, .slice A s.length c] 24 rfl ?hr ?_; (case hr => first | (go_simp; done) | (go_simp; rfl)); intro g1 w1 eg1 zg1 b1 Bg1; have k0 := Bg1.cell 0 rfl; have k1 := Bg1.cell 1 rfl) | ((with_reducible refine at_dst (N := 3) rfl ?_); refine ev_new #[.int .i64 r2, .slice A2 s2.length c2] 24 rfl ?hr ?_; (case hr => first | (go_simp; done) | (go_simp; rfl)); intro g2 w2 eg2 zg2 b2 Bg2; replace Bg1 := Bg1.below b2; replace b1 := below2 b1 b2; clear k0 k1; have k0 := Bg1.cell 0 rfl; have k1 := Bg1.cell 1 rfl))
    refine (check_any r A c s _ (hG.below b1) (hS.below b1)).mono ?_
    rintro e w3 ⟨rfl, b3⟩
    rw [H.out]
    go_wp2_with fail
    go_ret
    exact ⟨ret_int HP.out.symm, below2 b1 b3⟩
  · have H := Lib.hid (checkE_ok hv)
    have hdec : alikeE r s r2 s2 = if validB r2 s2 then (if r = r2 ∧ s.length = s2.length then 0 else 4) else 1 := by simp [alikeE, hv]
    clear hv
    cases hv : validB r2 s2
    · have H2 := Lib.hid (checkE_no hv)
      have HP := Lib.hid (show alikeE r s r2 s2 = 1 by simp [hdec, hv])
      clear hv hdec
      go_enter Tryd.func73, Tryd.ntmps73
      go_wp2_with (first | ((with_reducible refine at_dst (N := 2) rfl ?_); refine ev_new #[.int .i64 r, .slice A s.length c] 24 rfl ?hr ?_; (case hr => first | (go_simp; done) | (go_simp; rfl)); intro g1 w1 eg1 zg1 b1 Bg1; have k0 := Bg1.cell 0 rfl; have k1 := Bg1.cell 1 rfl) | ((with_reducible refine at_dst (N := 3) rfl ?_); refine ev_new #[.int .i64 r2, .slice A2 s2.length c2] 24 rfl ?hr ?_; (case hr => first | (go_simp; done) | (go_simp; rfl)); intro g2 w2 eg2 zg2 b2 Bg2; replace Bg1 := Bg1.below b2; replace b1 := below2 b1 b2; clear k0 k1; have k0 := Bg1.cell 0 rfl; have k1 := Bg1.cell 1 rfl))
      refine (check_any r A c s _ (hG.below b1) (hS.below b1)).mono ?_
      rintro e w3 ⟨rfl, b3⟩
      rw [H.out]
      replace b1 := below2 b1 b3
      have q0 := (Bg2.below b3).cell 0 rfl
      have q1 := (Bg2.below b3).cell 1 rfl
      go_wp2_with fail
      refine (check_any r2 A2 c2 s2 _ (hG.below b1) (hS2.below b1)).mono ?_
      rintro e w4 ⟨rfl, b4⟩
      rw [H2.out]
      go_wp2_with fail
      go_ret
      exact ⟨ret_int HP.out.symm, below2 b1 b4⟩
    · have H2 := Lib.hid (checkE_ok hv)
      have hd : alikeE r s r2 s2 = if r = r2 ∧ s.length = s2.length then 0 else 4 := by simp [hdec, hv]
      clear hv hdec
      have hcase : (r = r2 ∧ s.length = s2.length) ∨ r ≠ r2 ∨ (r = r2 ∧ s.length ≠ s2.length) := by omega
      have hb : ∃ b1 b2 : Bool, (r != r2) = b1 ∧ ((s.length : Int) != (s2.length : Int)) = b2 ∧ alikeE r s r2 s2 = if b1 || b2 then 4 else 0 := by
        refine ⟨_, _, rfl, rfl, ?_⟩
        rw [hd]
        by_cases e1 : r = r2 <;> by_cases e2 : s.length = s2.length <;> simp [e1, e2] <;> omega
      clear hcase hd
      obtain ⟨x1, x2, hx1, hx2, hP⟩ := hb
      have HP := Lib.hid hP
      clear hP
      cases x1 <;> cases x2
      all_goals
        go_enter Tryd.func73, Tryd.ntmps73
        go_wp2_with (first | ((with_reducible refine at_dst (N := 2) rfl ?_); refine ev_new #[.int .i64 r, .slice A s.length c] 24 rfl ?hr ?_; (case hr => first | (go_simp; done) | (go_simp; rfl)); intro g1 w1 eg1 zg1 b1 Bg1; have k0 := Bg1.cell 0 rfl; have k1 := Bg1.cell 1 rfl) | ((with_reducible refine at_dst (N := 3) rfl ?_); refine ev_new #[.int .i64 r2, .slice A2 s2.length c2] 24 rfl ?hr ?_; (case hr => first | (go_simp; done) | (go_simp; rfl)); intro g2 w2 eg2 zg2 b2 Bg2; replace Bg1 := Bg1.below b2; replace b1 := below2 b1 b2; clear k0 k1; have k0 := Bg1.cell 0 rfl; have k1 := Bg1.cell 1 rfl))
        refine (check_any r A c s _ (hG.below b1) (hS.below b1)).mono ?_
        rintro e w3 ⟨rfl, b3⟩
        rw [H.out]
        replace b1 := below2 b1 b3
        have q0 := (Bg2.below b3).cell 0 rfl
        have q1 := (Bg2.below b3).cell 1 rfl
        go_wp2_with fail
        refine (check_any r2 A2 c2 s2 _ (hG.below b1) (hS2.below b1)).mono ?_
        rintro e w4 ⟨rfl, b4⟩
        rw [H2.out]
        have p0 := ((Bg1.below b3).below b4).cell 0 rfl
        have p1 := ((Bg1.below b3).below b4).cell 1 rfl
        have p2 := ((Bg2.below b3).below b4).cell 0 rfl
        have p3 := ((Bg2.below b3).below b4).cell 1 rfl
        go_wp2_with fail
        go_ret
        exact ⟨ret_int (by rw [HP.out]; rfl), below2 b1 b4⟩
end Go.Proofs.YtijcecakofmhcaaDoor
