/- pcm: Mix: what the call returns, for any two sounds and gains. -/
import Derived.Test.YtijcecakofmhcaaDoorPcmO
import Derived.Test.YtijcecakofmhcaaDoorPcmE
import Derived.Test.YtijcecakofmhcaaDoorPcmG
namespace Go.Proofs.YtijcecakofmhcaaDoor
open Go.RowKit

set_option maxHeartbeats 4000000 in
set_option maxRecDepth 100000 in
theorem mix_bad (r : Int) (A : Option Addr) (c : Nat) (s : List (List Int)) (r2 : Int) (A2 : Option Addr) (c2 : Nat) (s2 : List (List Int)) (p q : Int) (w : World) (hG : GR w) (hS : R2 w A c s) (hS2 : R2 w A2 c2 s2)
    (hv : (validB r s && validB r2 s2 && gainOk p q) = false) :
    Calls Tryd.prog 32 #[.agg #[.int .i64 r, .slice A s.length c], .agg #[.int .i64 r2, .slice A2 s2.length c2], .int .i64 p, .int .i64 q] w fun e w' => RetT w.heap.size (mixS r s r2 s2 p q) e w' ∧ Below w.heap.size w w' := by
  have hn := hS.len
  have hn2 := hS2.len
  have HP := Lib.hid (show mixS r s r2 s2 p q = (0, [], 1) by simp [mixS, hv])
  have hcase : validB r s = false ∨ (validB r s = true ∧ validB r2 s2 = false) ∨ (validB r s = true ∧ validB r2 s2 = true ∧ ((p < q ∧ 1024 < q) ∨ (p < q ∧ ¬ 1024 < q ∧ p < -1024) ∨ (q < p ∧ 1024 < p) ∨ (q < p ∧ ¬ 1024 < p ∧ q < -1024) ∨ (¬ p < q ∧ ¬ q < p ∧ 1024 < p) ∨ (¬ p < q ∧ ¬ q < p ∧ ¬ 1024 < p ∧ p < -1024))) := by
    cases h1 : validB r s
    · exact .inl rfl
    · cases h2 : validB r2 s2
      · exact .inr (.inl ⟨rfl, rfl⟩)
      · rw [h1, h2] at hv
        simp only [Bool.true_and, gainOk, Bool.and_eq_false_iff, decide_eq_false_iff_not] at hv
        refine .inr (.inr ⟨rfl, rfl, ?_⟩)
        omega
  clear hv
  rcases hcase with h1 | ⟨h1, h2⟩ | ⟨h1, h2, ⟨h3, h4⟩ | ⟨h3, h4, h5⟩ | ⟨h3, h4⟩ | ⟨h3, h4, h5⟩ | ⟨h3, h6, h4⟩ | ⟨h3, h6, h4, h5⟩⟩
  · have H1 := Lib.hid (checkE_no h1)
    clear h1
    go_enter Tryd.func32, Tryd.ntmps32
    go_wp2_with (first | ((with_reducible refine at_dst (N := 4) rfl ?_); refine ev_new #[.int .i64 r, .slice A s.length c] 24 rfl ?hr ?_; (case hr => first | (go_simp; done) | (go_simp; rfl)); intro g1 w1 eg1 zg1 b1 Bg1; skip) | ((with_reducible refine at_dst (N := 5) rfl ?_); refine ev_new #[.int .i64 r2, .slice A2 s2.length c2] 24 rfl ?hr ?_; (case hr => first | (go_simp; done) | (go_simp; rfl)); intro g3 w3 eg3 zg3 b3 Bg3; replace Bg1 := Bg1.below b3; replace b1 := below2 b1 b3) | ((with_reducible refine at_dst (N := 6) rfl ?_); refine ev_new #[.int .i64 p] 3 rfl ?hr ?_; (case hr => first | (go_simp; done) | (go_simp; rfl)); intro g4 w4 eg4 zg4 b4 Bg4; replace Bg1 := Bg1.below b4; replace Bg3 := Bg3.below b4; replace b1 := below2 b1 b4) | ((with_reducible refine at_dst (N := 7) rfl ?_); refine ev_new #[.int .i64 q] 3 rfl ?hr ?_; (case hr => first | (go_simp; done) | (go_simp; rfl)); intro g5 w5 eg5 zg5 b5 Bg5; replace Bg1 := Bg1.below b5; replace Bg3 := Bg3.below b5; replace Bg4 := Bg4.below b5; replace b1 := below2 b1 b5) | ((with_reducible refine at_dst (N := 8) rfl ?_); refine ev_new #[.int .i64 0, .slice none 0 0] 24 rfl ?hr ?_; (case hr => first | (go_simp; done) | (go_simp; rfl)); intro g2 w2 eg2 zg2 b2 Bg2; replace Bg1 := Bg1.below b2; replace Bg3 := Bg3.below b2; replace Bg4 := Bg4.below b2; replace Bg5 := Bg5.below b2; replace b1 := below2 b1 b2; have k0 := Bg1.cell 0 rfl; have k1 := Bg1.cell 1 rfl))
    refine (check_any r A c s _ (hG.below b1) (hS.below b1)).mono ?_
    rintro e w6 ⟨rfl, b6⟩
    rw [H1.out]
    replace Bg2 := Bg2.below b6
    have BX := below2 b1 b6
    clear k0 k1
    have G2 : w.heap.size ≤ g2 := by have := eg2.out; have := zg5.out; have := eg5.out; have := zg4.out; have := eg4.out; have := zg3.out; have := eg3.out; have := zg1.out; have := eg1.out; omega
    go_wp2_with (((with_reducible refine at_store (p := 8) rfl ?_); (refine ev_put #[.int .i64 0, .slice none 0 0] rfl 24 (.tmp 8) (.tmp 33) rfl g2 24 _ rfl rfl Bg2 sizeS rfl rfl ?_); intro wf Bq hqf hzf; have z0 := Bq.cell 0 rfl; have z1 := Bq.cell 1 rfl))
    refine bodyPost_ret (v := .tuple #[.agg #[.int .i64 0, .slice none 0 0], .int .i64 1]) (by simp [results, Tryd.results32, go_sem, z0, z1]) rfl ⟨?_, ?_⟩
    · rw [HP.out]; exact RetT.none _ _ _
    · exact below_grown BX BX.size hqf (fun k e => by have := Option.some.inj e; omega)
  · have H1 := Lib.hid (checkE_ok h1)
    have H2 := Lib.hid (checkE_no h2)
    clear h1 h2
    go_enter Tryd.func32, Tryd.ntmps32
    go_wp2_with (first | ((with_reducible refine at_dst (N := 4) rfl ?_); refine ev_new #[.int .i64 r, .slice A s.length c] 24 rfl ?hr ?_; (case hr => first | (go_simp; done) | (go_simp; rfl)); intro g1 w1 eg1 zg1 b1 Bg1; skip) | ((with_reducible refine at_dst (N := 5) rfl ?_); refine ev_new #[.int .i64 r2, .slice A2 s2.length c2] 24 rfl ?hr ?_; (case hr => first | (go_simp; done) | (go_simp; rfl)); intro g3 w3 eg3 zg3 b3 Bg3; replace Bg1 := Bg1.below b3; replace b1 := below2 b1 b3) | ((with_reducible refine at_dst (N := 6) rfl ?_); refine ev_new #[.int .i64 p] 3 rfl ?hr ?_; (case hr => first | (go_simp; done) | (go_simp; rfl)); intro g4 w4 eg4 zg4 b4 Bg4; replace Bg1 := Bg1.below b4; replace Bg3 := Bg3.below b4; replace b1 := below2 b1 b4) | ((with_reducible refine at_dst (N := 7) rfl ?_); refine ev_new #[.int .i64 q] 3 rfl ?hr ?_; (case hr => first | (go_simp; done) | (go_simp; rfl)); intro g5 w5 eg5 zg5 b5 Bg5; replace Bg1 := Bg1.below b5; replace Bg3 := Bg3.below b5; replace Bg4 := Bg4.below b5; replace b1 := below2 b1 b5) | ((with_reducible refine at_dst (N := 8) rfl ?_); refine ev_new #[.int .i64 0, .slice none 0 0] 24 rfl ?hr ?_; (case hr => first | (go_simp; done) | (go_simp; rfl)); intro g2 w2 eg2 zg2 b2 Bg2; replace Bg1 := Bg1.below b2; replace Bg3 := Bg3.below b2; replace Bg4 := Bg4.below b2; replace Bg5 := Bg5.below b2; replace b1 := below2 b1 b2; have k0 := Bg1.cell 0 rfl; have k1 := Bg1.cell 1 rfl))
    refine (check_any r A c s _ (hG.below b1) (hS.below b1)).mono ?_
    rintro e w6 ⟨rfl, b6⟩
    rw [H1.out]
    replace Bg2 := Bg2.below b6
    replace Bg3 := Bg3.below b6
    have BX := below2 b1 b6
    clear k0 k1
    have k0 := Bg3.cell 0 rfl
    have k1 := Bg3.cell 1 rfl
    go_wp2_with fail
    refine (check_any r2 A2 c2 s2 _ (hG.below BX) (hS2.below BX)).mono ?_
    rintro e w7 ⟨rfl, b7⟩
    rw [H2.out]
    replace Bg2 := Bg2.below b7
    replace BX := below2 BX b7
    clear k0 k1
    have G2 : w.heap.size ≤ g2 := by have := eg2.out; have := zg5.out; have := eg5.out; have := zg4.out; have := eg4.out; have := zg3.out; have := eg3.out; have := zg1.out; have := eg1.out; omega
    go_wp2_with (((with_reducible refine at_store (p := 8) rfl ?_); (refine ev_put #[.int .i64 0, .slice none 0 0] rfl 24 (.tmp 8) (.tmp 33) rfl g2 24 _ rfl rfl Bg2 sizeS rfl rfl ?_); intro wf Bq hqf hzf; have z0 := Bq.cell 0 rfl; have z1 := Bq.cell 1 rfl))
    refine bodyPost_ret (v := .tuple #[.agg #[.int .i64 0, .slice none 0 0], .int .i64 1]) (by simp [results, Tryd.results32, go_sem, z0, z1]) rfl ⟨?_, ?_⟩
    · rw [HP.out]; exact RetT.none _ _ _
    · exact below_grown BX BX.size hqf (fun k e => by have := Option.some.inj e; omega)
  all_goals
    have H1 := Lib.hid (checkE_ok h1)
    have H2 := Lib.hid (checkE_ok h2)
    clear h1 h2
    go_enter Tryd.func32, Tryd.ntmps32
    go_wp2_with (first | ((with_reducible refine at_dst (N := 4) rfl ?_); refine ev_new #[.int .i64 r, .slice A s.length c] 24 rfl ?hr ?_; (case hr => first | (go_simp; done) | (go_simp; rfl)); intro g1 w1 eg1 zg1 b1 Bg1; skip) | ((with_reducible refine at_dst (N := 5) rfl ?_); refine ev_new #[.int .i64 r2, .slice A2 s2.length c2] 24 rfl ?hr ?_; (case hr => first | (go_simp; done) | (go_simp; rfl)); intro g3 w3 eg3 zg3 b3 Bg3; replace Bg1 := Bg1.below b3; replace b1 := below2 b1 b3) | ((with_reducible refine at_dst (N := 6) rfl ?_); refine ev_new #[.int .i64 p] 3 rfl ?hr ?_; (case hr => first | (go_simp; done) | (go_simp; rfl)); intro g4 w4 eg4 zg4 b4 Bg4; replace Bg1 := Bg1.below b4; replace Bg3 := Bg3.below b4; replace b1 := below2 b1 b4) | ((with_reducible refine at_dst (N := 7) rfl ?_); refine ev_new #[.int .i64 q] 3 rfl ?hr ?_; (case hr => first | (go_simp; done) | (go_simp; rfl)); intro g5 w5 eg5 zg5 b5 Bg5; replace Bg1 := Bg1.below b5; replace Bg3 := Bg3.below b5; replace Bg4 := Bg4.below b5; replace b1 := below2 b1 b5) | ((with_reducible refine at_dst (N := 8) rfl ?_); refine ev_new #[.int .i64 0, .slice none 0 0] 24 rfl ?hr ?_; (case hr => first | (go_simp; done) | (go_simp; rfl)); intro g2 w2 eg2 zg2 b2 Bg2; replace Bg1 := Bg1.below b2; replace Bg3 := Bg3.below b2; replace Bg4 := Bg4.below b2; replace Bg5 := Bg5.below b2; replace b1 := below2 b1 b2; have k0 := Bg1.cell 0 rfl; have k1 := Bg1.cell 1 rfl))
    refine (check_any r A c s _ (hG.below b1) (hS.below b1)).mono ?_
    rintro e w6 ⟨rfl, b6⟩
    rw [H1.out]
    replace Bg2 := Bg2.below b6
    replace Bg3 := Bg3.below b6
    have BX := below2 b1 b6
    clear k0 k1
    have k0 := Bg3.cell 0 rfl
    have k1 := Bg3.cell 1 rfl
    go_wp2_with fail
    refine (check_any r2 A2 c2 s2 _ (hG.below BX) (hS2.below BX)).mono ?_
    rintro e w7 ⟨rfl, b7⟩
    rw [H2.out]
    replace Bg2 := Bg2.below b7
    replace BX := below2 BX b7
    clear k0 k1
    have k4 := ((Bg4.below b6).below b7).cell 0 rfl
    have k5 := ((Bg5.below b6).below b7).cell 0 rfl
    have G2 : w.heap.size ≤ g2 := by have := eg2.out; have := zg5.out; have := eg5.out; have := zg4.out; have := eg4.out; have := zg3.out; have := eg3.out; have := zg1.out; have := eg1.out; omega
    go_wp2_with (((with_reducible refine at_store (p := 8) rfl ?_); (refine ev_put #[.int .i64 0, .slice none 0 0] rfl 24 (.tmp 8) (.tmp 33) rfl g2 24 _ rfl rfl Bg2 sizeS rfl rfl ?_); intro wf Bq hqf hzf; have z0 := Bq.cell 0 rfl; have z1 := Bq.cell 1 rfl))
    refine bodyPost_ret (v := .tuple #[.agg #[.int .i64 0, .slice none 0 0], .int .i64 1]) (by simp [results, Tryd.results32, go_sem, z0, z1]) rfl ⟨?_, ?_⟩
    · rw [HP.out]; exact RetT.none _ _ _
    · exact below_grown BX BX.size hqf (fun k e => by have := Option.some.inj e; omega)
end Go.Proofs.YtijcecakofmhcaaDoor
