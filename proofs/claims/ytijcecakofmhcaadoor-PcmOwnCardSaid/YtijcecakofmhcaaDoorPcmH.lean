/- pcm: Frames, Interleave, Peak, Power: what each call returns, for any sound. -/
import Derived.Test.YtijcecakofmhcaaDoorPcmC
import Derived.Test.YtijcecakofmhcaaDoorPcmD
namespace Go.Proofs.YtijcecakofmhcaaDoor
open Go.RowKit

set_option maxHeartbeats 1000000 in
theorem frames_any (r : Int) (A : Option Addr) (c : Nat) (s : List (List Int)) (w : World) (hG : GR w) (hS : R2 w A c s) :
    Calls Tryd.prog 43 #[.agg #[.int .i64 r, .slice A s.length c]] w fun e w' => e = .returned (.tuple #[.int .i64 (framesS r s).1, .int .i64 (framesS r s).2]) ∧ Below w.heap.size w w' := by
  have hn := hS.len
  cases hv : validB r s
  · have H := Lib.hid (checkE_no hv)
    have HF := Lib.hid (show framesS r s = (0, 1) by simp [framesS, hv])
    clear hv
    go_enter Tryd.func43, Tryd.ntmps43
    go_wp2_with (first | ((with_reducible refine at_dst (N := 1) rfl ?_); refine ev_new #[.int .i64 r, .slice A s.length c] 24 rfl ?hr ?_; (case hr => first | (go_simp; done) | (go_simp; rfl)); intro g1 w1 eg1 zg1 b1 Bg1; have k0 := Bg1.cell 0 rfl; have k1 := Bg1.cell 1 rfl) | (go_at_call 48; refine (check_any _ _ _ _ _ (hG.below b1) (hS.below b1)).mono ?_; rintro e w2 ⟨rfl, b2⟩; rw [H.out]; replace b1 := below2 b1 b2))
    go_ret2
    exact ⟨ret_two (by rw [HF.out]; rfl) (by rw [HF.out]; rfl), b1⟩
  · have V := valid_facts hv
    have H := Lib.hid (checkE_ok hv)
    have HF := Lib.hid (show framesS r s = (((framesN s : Nat) : Int), 0) by simp [framesS, hv])
    have h1 := V.one
    have h3 := V.len
    clear hv
    go_enter Tryd.func43, Tryd.ntmps43
    go_wp2_with (first | ((with_reducible refine at_dst (N := 1) rfl ?_); refine ev_new #[.int .i64 r, .slice A s.length c] 24 rfl ?hr ?_; (case hr => first | (go_simp; done) | (go_simp; rfl)); intro g1 w1 eg1 zg1 b1 Bg1; have k0 := Bg1.cell 0 rfl; have k1 := Bg1.cell 1 rfl) | (go_at_call 48; refine (check_any _ _ _ _ _ (hG.below b1) (hS.below b1)).mono ?_; rintro e w2 ⟨rfl, b2⟩; rw [H.out]; replace b1 := below2 b1 b2; replace k0 := cell_below b2 k0; replace k1 := cell_below b2 k1) | (go_at_call 52; refine (size_any _ _ _ _ _ (hS.below b1) h1).mono ?_; rintro e w3 ⟨rfl, b3⟩; replace b1 := below2 b1 b3))
    go_ret2
    refine ⟨ret_two ?_ (by rw [HF.out]; rfl), b1⟩
    rw [HF.out]
    simp [framesN]
    omega

set_option maxHeartbeats 1000000 in
theorem inter_any (r : Int) (A : Option Addr) (c : Nat) (s : List (List Int)) (w : World) (hG : GR w) (hS : R2 w A c s) :
    Calls Tryd.prog 20 #[.agg #[.int .i64 r, .slice A s.length c]] w fun e w' => ∃ v, e = .returned (.tuple #[v, .int .i64 (interS r s).2]) ∧ OwnI 3 .i64 w.heap.size w' v (interS r s).1 ∧ Below w.heap.size w w' := by
  have hn := hS.len
  cases hv : validB r s
  · have H := Lib.hid (checkE_no hv)
    have HF := Lib.hid (show interS r s = ([], 1) by simp [interS, hv])
    clear hv
    go_enter Tryd.func20, Tryd.ntmps20
    go_wp2_with (first | ((with_reducible refine at_dst (N := 1) rfl ?_); refine ev_new #[.int .i64 r, .slice A s.length c] 24 rfl ?hr ?_; (case hr => first | (go_simp; done) | (go_simp; rfl)); intro g1 w1 eg1 zg1 b1 Bg1; have k0 := Bg1.cell 0 rfl; have k1 := Bg1.cell 1 rfl) | (go_at_call 48; refine (check_any _ _ _ _ _ (hG.below b1) (hS.below b1)).mono ?_; rintro e w2 ⟨rfl, b2⟩; rw [H.out]; replace b1 := below2 b1 b2))
    go_ret2
    rw [HF.out]
    exact ⟨_, rfl, OwnI.nil _ _ _ _, b1⟩
  · have V := valid_facts hv
    have H := Lib.hid (checkE_ok hv)
    have HF := Lib.hid (show interS r s = (weave s, 0) by simp [interS, hv])
    clear hv
    go_enter Tryd.func20, Tryd.ntmps20
    go_wp2_with (first | ((with_reducible refine at_dst (N := 1) rfl ?_); refine ev_new #[.int .i64 r, .slice A s.length c] 24 rfl ?hr ?_; (case hr => first | (go_simp; done) | (go_simp; rfl)); intro g1 w1 eg1 zg1 b1 Bg1; have k0 := Bg1.cell 0 rfl; have k1 := Bg1.cell 1 rfl) | (go_at_call 48; refine (check_any _ _ _ _ _ (hG.below b1) (hS.below b1)).mono ?_; rintro e w2 ⟨rfl, b2⟩; rw [H.out]; replace b1 := below2 b1 b2; replace k0 := cell_below b2 k0; replace k1 := cell_below b2 k1) | (go_at_call 55; refine (woven_any _ _ _ _ _ (hS.below b1) V.one V.two V.len V.same).mono ?_; rintro e w3 ⟨v3, rfl, hO, b3⟩; skip))
    go_ret2
    rw [HF.out]
    exact ⟨_, rfl, hO.mono b1.size, below2 b1 b3⟩
end Go.Proofs.YtijcecakofmhcaaDoor
