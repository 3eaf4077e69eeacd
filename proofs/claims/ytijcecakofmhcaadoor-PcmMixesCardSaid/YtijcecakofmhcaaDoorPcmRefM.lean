/- The document's answer, layer 2: Mix. -/
import Derived.Test.YtijcecakofmhcaaDoorPcmRefL
import Derived.Test.YtijcecakofmhcaaDoorPcmRefD
import Derived.Test.YtijcecakofmhcaaDoorPcmQ
namespace Go.Proofs.YtijcecakofmhcaaDoor
open Go.RowKit

theorem mixL_snoc (g h : Int) (xs ys : List Int) (n : Nat) : mixL g h xs ys (n + 1) = mixL g h xs ys n ++ [mixV g h (nth 0 xs n) (nth 0 ys n)] := by simp [mixL, List.range_succ]
theorem mixL_len (g h : Int) (xs ys : List Int) (n : Nat) : (mixL g h xs ys n).length = n := by simp [mixL]
/-- The document's form of the sum. -/
theorem mixV_ref (a b : Int) : (2 * (a + b) + 256) / 512 = (a + b + 128) / 256 := by omega

set_option maxHeartbeats 4000000 in
set_option maxRecDepth 100000 in
theorem refMix_any (r : Int) (A : Option Addr) (c : Nat) (s : List (List Int)) (r2 : Int) (A2 : Option Addr) (c2 : Nat) (s2 : List (List Int)) (p q : Int) (w : World) (hS : R2 w A c s) (hS2 : R2 w A2 c2 s2) :
    Calls Tryd.prog 37 #[.agg #[.int .i64 r, .slice A s.length c], .agg #[.int .i64 r2, .slice A2 s2.length c2], .int .i64 p, .int .i64 q] w fun e w' => RetA (mixS r s r2 s2 p q) e w' ∧ Below w.heap.size w w' := by
  have hn := hS.len
  have hn2 := hS2.len
  cases hv : validB r s
  · have H := Lib.hid hv
    have HP := Lib.hid (show mixS r s r2 s2 p q = (0, [], 1) by simp [mixS, hv])
    clear hv
    go_enter Tryd.func37, Tryd.ntmps37
    go_wp2_with (first | ((with_reducible refine at_dst (N := 4) rfl ?_); refine ev_new #[.int .i64 r, .slice A s.length c] 24 rfl ?hr ?_; (case hr => first | (go_simp; done) | (go_simp; rfl)); intro g1 w1 eg1 zg1 b1 Bg1; skip) | ((with_reducible refine at_dst (N := 5) rfl ?_); refine ev_new #[.int .i64 r2, .slice A2 s2.length c2] 24 rfl ?hr ?_; (case hr => first | (go_simp; done) | (go_simp; rfl)); intro g3 w3 eg3 zg3 b3 Bg3; replace Bg1 := Bg1.below b3; replace b1 := below2 b1 b3) | ((with_reducible refine at_dst (N := 8) rfl ?_); refine ev_new #[.int .i64 0, .slice none 0 0] 24 rfl ?hr ?_; (case hr => first | (go_simp; done) | (go_simp; rfl)); intro g2 w2 eg2 zg2 b2 Bg2; replace Bg1 := Bg1.below b2; replace Bg3 := Bg3.below b2; replace b1 := below2 b1 b2; have k0 : w2.cell? ⟨g1, 0, none⟩ = some (.int .i64 r) := Bg1.cell 0 rfl; have k1 : w2.cell? ⟨g1, 1, none⟩ = some (.slice A s.length c) := Bg1.cell 1 rfl; have k2 : w2.cell? ⟨g3, 0, none⟩ = some (.int .i64 r2) := Bg3.cell 0 rfl; have k3 : w2.cell? ⟨g3, 1, none⟩ = some (.slice A2 s2.length c2) := Bg3.cell 1 rfl))
    refine (refValid_any r A c s _ (hS.below b1)).mono ?_
    rintro e w5 ⟨rfl, b5⟩
    rw [H.out]
    replace Bg1 := Bg1.below b5
    replace Bg3 := Bg3.below b5
    replace Bg2 := Bg2.below b5
    replace b1 := below2 b1 b5
    clear k0 k1 k2 k3
    have k0 : w5.cell? ⟨g1, 0, none⟩ = some (.int .i64 r) := Bg1.cell 0 rfl
    have k1 : w5.cell? ⟨g1, 1, none⟩ = some (.slice A s.length c) := Bg1.cell 1 rfl
    have k2 : w5.cell? ⟨g3, 0, none⟩ = some (.int .i64 r2) := Bg3.cell 0 rfl
    have k3 : w5.cell? ⟨g3, 1, none⟩ = some (.slice A2 s2.length c2) := Bg3.cell 1 rfl
    go_wp2_with ((with_reducible refine at_store (p := 8) rfl ?_); (refine ev_put #[.int .i64 0, .slice none 0 0] rfl 24 (.tmp 8) (.tmp 40) rfl g2 24 _ rfl rfl Bg2 sizeS rfl rfl ?_); intro wf Bq hqf hzf; have z0 := Bq.cell 0 rfl; have z1 := Bq.cell 1 rfl)
    have G2 : w.heap.size ≤ g2 := by have := eg2.out; have := zg3.out; have := eg3.out; have := zg1.out; have := eg1.out; omega
    refine bodyPost_ret (v := .tuple #[.agg #[.int .i64 0, .slice none 0 0], .int .i64 1]) (by simp [results, Tryd.results37, go_sem, z0, z1]) rfl ⟨?_, ?_⟩
    · rw [HP.out]; exact RetA.none _ _
    · exact below_grown b1 b1.size hqf (fun k e => by have := Option.some.inj e; omega)
  cases hv2 : validB r2 s2
  · have H := Lib.hid hv
    have H2 := Lib.hid hv2
    have HP := Lib.hid (show mixS r s r2 s2 p q = (0, [], 1) by simp [mixS, hv2])
    clear hv hv2
    go_enter Tryd.func37, Tryd.ntmps37
    go_wp2_with (first | ((with_reducible refine at_dst (N := 4) rfl ?_); refine ev_new #[.int .i64 r, .slice A s.length c] 24 rfl ?hr ?_; (case hr => first | (go_simp; done) | (go_simp; rfl)); intro g1 w1 eg1 zg1 b1 Bg1; skip) | ((with_reducible refine at_dst (N := 5) rfl ?_); refine ev_new #[.int .i64 r2, .slice A2 s2.length c2] 24 rfl ?hr ?_; (case hr => first | (go_simp; done) | (go_simp; rfl)); intro g3 w3 eg3 zg3 b3 Bg3; replace Bg1 := Bg1.below b3; replace b1 := below2 b1 b3) | ((with_reducible refine at_dst (N := 8) rfl ?_); refine ev_new #[.int .i64 0, .slice none 0 0] 24 rfl ?hr ?_; (case hr => first | (go_simp; done) | (go_simp; rfl)); intro g2 w2 eg2 zg2 b2 Bg2; replace Bg1 := Bg1.below b2; replace Bg3 := Bg3.below b2; replace b1 := below2 b1 b2; have k0 : w2.cell? ⟨g1, 0, none⟩ = some (.int .i64 r) := Bg1.cell 0 rfl; have k1 : w2.cell? ⟨g1, 1, none⟩ = some (.slice A s.length c) := Bg1.cell 1 rfl; have k2 : w2.cell? ⟨g3, 0, none⟩ = some (.int .i64 r2) := Bg3.cell 0 rfl; have k3 : w2.cell? ⟨g3, 1, none⟩ = some (.slice A2 s2.length c2) := Bg3.cell 1 rfl))
    refine (refValid_any r A c s _ (hS.below b1)).mono ?_
    rintro e w5 ⟨rfl, b5⟩
    rw [H.out]
    replace Bg1 := Bg1.below b5
    replace Bg3 := Bg3.below b5
    replace Bg2 := Bg2.below b5
    replace b1 := below2 b1 b5
    clear k0 k1 k2 k3
    have k0 : w5.cell? ⟨g1, 0, none⟩ = some (.int .i64 r) := Bg1.cell 0 rfl
    have k1 : w5.cell? ⟨g1, 1, none⟩ = some (.slice A s.length c) := Bg1.cell 1 rfl
    have k2 : w5.cell? ⟨g3, 0, none⟩ = some (.int .i64 r2) := Bg3.cell 0 rfl
    have k3 : w5.cell? ⟨g3, 1, none⟩ = some (.slice A2 s2.length c2) := Bg3.cell 1 rfl
    go_wp2_with fail
    refine (refValid_any r2 A2 c2 s2 _ (hS2.below b1)).mono ?_
    rintro e w6 ⟨rfl, b6⟩
    rw [H2.out]
    replace Bg1 := Bg1.below b6
    replace Bg3 := Bg3.below b6
    replace Bg2 := Bg2.below b6
    replace b1 := below2 b1 b6
    clear k0 k1 k2 k3
    have k0 : w6.cell? ⟨g1, 0, none⟩ = some (.int .i64 r) := Bg1.cell 0 rfl
    have k1 : w6.cell? ⟨g1, 1, none⟩ = some (.slice A s.length c) := Bg1.cell 1 rfl
    have k2 : w6.cell? ⟨g3, 0, none⟩ = some (.int .i64 r2) := Bg3.cell 0 rfl
    have k3 : w6.cell? ⟨g3, 1, none⟩ = some (.slice A2 s2.length c2) := Bg3.cell 1 rfl
    go_wp2_with ((with_reducible refine at_store (p := 8) rfl ?_); (refine ev_put #[.int .i64 0, .slice none 0 0] rfl 24 (.tmp 8) (.tmp 40) rfl g2 24 _ rfl rfl Bg2 sizeS rfl rfl ?_); intro wf Bq hqf hzf; have z0 := Bq.cell 0 rfl; have z1 := Bq.cell 1 rfl)
    have G2 : w.heap.size ≤ g2 := by have := eg2.out; have := zg3.out; have := eg3.out; have := zg1.out; have := eg1.out; omega
    refine bodyPost_ret (v := .tuple #[.agg #[.int .i64 0, .slice none 0 0], .int .i64 1]) (by simp [results, Tryd.results37, go_sem, z0, z1]) rfl ⟨?_, ?_⟩
    · rw [HP.out]; exact RetA.none _ _
    · exact below_grown b1 b1.size hqf (fun k e => by have := Option.some.inj e; omega)
  have H := Lib.hid hv
  have H2 := Lib.hid hv2
  have hgo : gainOk p q = true ↔ ¬ p < -1024 ∧ ¬ 1024 < p ∧ ¬ q < -1024 ∧ ¬ 1024 < q := by simp only [gainOk, Bool.and_eq_true, decide_eq_true_eq]; omega
  have HGO := Lib.hid hgo
  clear hgo
  by_cases g4 : p < -1024
  · have HP := Lib.hid (show mixS r s r2 s2 p q = (0, [], 1) by
      have h : gainOk p q = false := by
        cases hg : gainOk p q
        · rfl
        · have := HGO.out.1 hg; omega
      simp [mixS, h])
    clear hv hv2
    go_enter Tryd.func37, Tryd.ntmps37
    go_wp2_with (first | ((with_reducible refine at_dst (N := 4) rfl ?_); refine ev_new #[.int .i64 r, .slice A s.length c] 24 rfl ?hr ?_; (case hr => first | (go_simp; done) | (go_simp; rfl)); intro g1 w1 eg1 zg1 b1 Bg1; skip) | ((with_reducible refine at_dst (N := 5) rfl ?_); refine ev_new #[.int .i64 r2, .slice A2 s2.length c2] 24 rfl ?hr ?_; (case hr => first | (go_simp; done) | (go_simp; rfl)); intro g3 w3 eg3 zg3 b3 Bg3; replace Bg1 := Bg1.below b3; replace b1 := below2 b1 b3) | ((with_reducible refine at_dst (N := 8) rfl ?_); refine ev_new #[.int .i64 0, .slice none 0 0] 24 rfl ?hr ?_; (case hr => first | (go_simp; done) | (go_simp; rfl)); intro g2 w2 eg2 zg2 b2 Bg2; replace Bg1 := Bg1.below b2; replace Bg3 := Bg3.below b2; replace b1 := below2 b1 b2; have k0 : w2.cell? ⟨g1, 0, none⟩ = some (.int .i64 r) := Bg1.cell 0 rfl; have k1 : w2.cell? ⟨g1, 1, none⟩ = some (.slice A s.length c) := Bg1.cell 1 rfl; have k2 : w2.cell? ⟨g3, 0, none⟩ = some (.int .i64 r2) := Bg3.cell 0 rfl; have k3 : w2.cell? ⟨g3, 1, none⟩ = some (.slice A2 s2.length c2) := Bg3.cell 1 rfl))
    refine (refValid_any r A c s _ (hS.below b1)).mono ?_
    rintro e w5 ⟨rfl, b5⟩
    rw [H.out]
    replace Bg1 := Bg1.below b5
    replace Bg3 := Bg3.below b5
    replace Bg2 := Bg2.below b5
    replace b1 := below2 b1 b5
    clear k0 k1 k2 k3
    have k0 : w5.cell? ⟨g1, 0, none⟩ = some (.int .i64 r) := Bg1.cell 0 rfl
    have k1 : w5.cell? ⟨g1, 1, none⟩ = some (.slice A s.length c) := Bg1.cell 1 rfl
    have k2 : w5.cell? ⟨g3, 0, none⟩ = some (.int .i64 r2) := Bg3.cell 0 rfl
    have k3 : w5.cell? ⟨g3, 1, none⟩ = some (.slice A2 s2.length c2) := Bg3.cell 1 rfl
    go_wp2_with fail
    refine (refValid_any r2 A2 c2 s2 _ (hS2.below b1)).mono ?_
    rintro e w6 ⟨rfl, b6⟩
    rw [H2.out]
    replace Bg1 := Bg1.below b6
    replace Bg3 := Bg3.below b6
    replace Bg2 := Bg2.below b6
    replace b1 := below2 b1 b6
    clear k0 k1 k2 k3
    have k0 : w6.cell? ⟨g1, 0, none⟩ = some (.int .i64 r) := Bg1.cell 0 rfl
    have k1 : w6.cell? ⟨g1, 1, none⟩ = some (.slice A s.length c) := Bg1.cell 1 rfl
    have k2 : w6.cell? ⟨g3, 0, none⟩ = some (.int .i64 r2) := Bg3.cell 0 rfl
    have k3 : w6.cell? ⟨g3, 1, none⟩ = some (.slice A2 s2.length c2) := Bg3.cell 1 rfl
    go_wp2_with ((with_reducible refine at_store (p := 8) rfl ?_); (refine ev_put #[.int .i64 0, .slice none 0 0] rfl 24 (.tmp 8) (.tmp 40) rfl g2 24 _ rfl rfl Bg2 sizeS rfl rfl ?_); intro wf Bq hqf hzf; have z0 := Bq.cell 0 rfl; have z1 := Bq.cell 1 rfl)
    have G2 : w.heap.size ≤ g2 := by have := eg2.out; have := zg3.out; have := eg3.out; have := zg1.out; have := eg1.out; omega
    refine bodyPost_ret (v := .tuple #[.agg #[.int .i64 0, .slice none 0 0], .int .i64 1]) (by simp [results, Tryd.results37, go_sem, z0, z1]) rfl ⟨?_, ?_⟩
    · rw [HP.out]; exact RetA.none _ _
    · exact below_grown b1 b1.size hqf (fun k e => by have := Option.some.inj e; omega)
  by_cases g5 : 1024 < p
  · have HP := Lib.hid (show mixS r s r2 s2 p q = (0, [], 1) by
      have h : gainOk p q = false := by
        cases hg : gainOk p q
        · rfl
        · have := HGO.out.1 hg; omega
      simp [mixS, h])
    clear hv hv2
    go_enter Tryd.func37, Tryd.ntmps37
    go_wp2_with (first | ((with_reducible refine at_dst (N := 4) rfl ?_); refine ev_new #[.int .i64 r, .slice A s.length c] 24 rfl ?hr ?_; (case hr => first | (go_simp; done) | (go_simp; rfl)); intro g1 w1 eg1 zg1 b1 Bg1; skip) | ((with_reducible refine at_dst (N := 5) rfl ?_); refine ev_new #[.int .i64 r2, .slice A2 s2.length c2] 24 rfl ?hr ?_; (case hr => first | (go_simp; done) | (go_simp; rfl)); intro g3 w3 eg3 zg3 b3 Bg3; replace Bg1 := Bg1.below b3; replace b1 := below2 b1 b3) | ((with_reducible refine at_dst (N := 8) rfl ?_); refine ev_new #[.int .i64 0, .slice none 0 0] 24 rfl ?hr ?_; (case hr => first | (go_simp; done) | (go_simp; rfl)); intro g2 w2 eg2 zg2 b2 Bg2; replace Bg1 := Bg1.below b2; replace Bg3 := Bg3.below b2; replace b1 := below2 b1 b2; have k0 : w2.cell? ⟨g1, 0, none⟩ = some (.int .i64 r) := Bg1.cell 0 rfl; have k1 : w2.cell? ⟨g1, 1, none⟩ = some (.slice A s.length c) := Bg1.cell 1 rfl; have k2 : w2.cell? ⟨g3, 0, none⟩ = some (.int .i64 r2) := Bg3.cell 0 rfl; have k3 : w2.cell? ⟨g3, 1, none⟩ = some (.slice A2 s2.length c2) := Bg3.cell 1 rfl))
    refine (refValid_any r A c s _ (hS.below b1)).mono ?_
    rintro e w5 ⟨rfl, b5⟩
    rw [H.out]
    replace Bg1 := Bg1.below b5
    replace Bg3 := Bg3.below b5
    replace Bg2 := Bg2.below b5
    replace b1 := below2 b1 b5
    clear k0 k1 k2 k3
    have k0 : w5.cell? ⟨g1, 0, none⟩ = some (.int .i64 r) := Bg1.cell 0 rfl
    have k1 : w5.cell? ⟨g1, 1, none⟩ = some (.slice A s.length c) := Bg1.cell 1 rfl
    have k2 : w5.cell? ⟨g3, 0, none⟩ = some (.int .i64 r2) := Bg3.cell 0 rfl
    have k3 : w5.cell? ⟨g3, 1, none⟩ = some (.slice A2 s2.length c2) := Bg3.cell 1 rfl
    go_wp2_with fail
    refine (refValid_any r2 A2 c2 s2 _ (hS2.below b1)).mono ?_
    rintro e w6 ⟨rfl, b6⟩
    rw [H2.out]
    replace Bg1 := Bg1.below b6
    replace Bg3 := Bg3.below b6
    replace Bg2 := Bg2.below b6
    replace b1 := below2 b1 b6
    clear k0 k1 k2 k3
    have k0 : w6.cell? ⟨g1, 0, none⟩ = some (.int .i64 r) := Bg1.cell 0 rfl
    have k1 : w6.cell? ⟨g1, 1, none⟩ = some (.slice A s.length c) := Bg1.cell 1 rfl
    have k2 : w6.cell? ⟨g3, 0, none⟩ = some (.int .i64 r2) := Bg3.cell 0 rfl
    have k3 : w6.cell? ⟨g3, 1, none⟩ = some (.slice A2 s2.length c2) := Bg3.cell 1 rfl
    go_wp2_with ((with_reducible refine at_store (p := 8) rfl ?_); (refine ev_put #[.int .i64 0, .slice none 0 0] rfl 24 (.tmp 8) (.tmp 40) rfl g2 24 _ rfl rfl Bg2 sizeS rfl rfl ?_); intro wf Bq hqf hzf; have z0 := Bq.cell 0 rfl; have z1 := Bq.cell 1 rfl)
    have G2 : w.heap.size ≤ g2 := by have := eg2.out; have := zg3.out; have := eg3.out; have := zg1.out; have := eg1.out; omega
    refine bodyPost_ret (v := .tuple #[.agg #[.int .i64 0, .slice none 0 0], .int .i64 1]) (by simp [results, Tryd.results37, go_sem, z0, z1]) rfl ⟨?_, ?_⟩
    · rw [HP.out]; exact RetA.none _ _
    · exact below_grown b1 b1.size hqf (fun k e => by have := Option.some.inj e; omega)
  by_cases g6 : q < -1024
  · have HP := Lib.hid (show mixS r s r2 s2 p q = (0, [], 1) by
      have h : gainOk p q = false := by
        cases hg : gainOk p q
        · rfl
        · have := HGO.out.1 hg; omega
      simp [mixS, h])
    clear hv hv2
    go_enter Tryd.func37, Tryd.ntmps37
    go_wp2_with (first | ((with_reducible refine at_dst (N := 4) rfl ?_); refine ev_new #[.int .i64 r, .slice A s.length c] 24 rfl ?hr ?_; (case hr => first | (go_simp; done) | (go_simp; rfl)); intro g1 w1 eg1 zg1 b1 Bg1; skip) | ((with_reducible refine at_dst (N := 5) rfl ?_); refine ev_new #[.int .i64 r2, .slice A2 s2.length c2] 24 rfl ?hr ?_; (case hr => first | (go_simp; done) | (go_simp; rfl)); intro g3 w3 eg3 zg3 b3 Bg3; replace Bg1 := Bg1.below b3; replace b1 := below2 b1 b3) | ((with_reducible refine at_dst (N := 8) rfl ?_); refine ev_new #[.int .i64 0, .slice none 0 0] 24 rfl ?hr ?_; (case hr => first | (go_simp; done) | (go_simp; rfl)); intro g2 w2 eg2 zg2 b2 Bg2; replace Bg1 := Bg1.below b2; replace Bg3 := Bg3.below b2; replace b1 := below2 b1 b2; have k0 : w2.cell? ⟨g1, 0, none⟩ = some (.int .i64 r) := Bg1.cell 0 rfl; have k1 : w2.cell? ⟨g1, 1, none⟩ = some (.slice A s.length c) := Bg1.cell 1 rfl; have k2 : w2.cell? ⟨g3, 0, none⟩ = some (.int .i64 r2) := Bg3.cell 0 rfl; have k3 : w2.cell? ⟨g3, 1, none⟩ = some (.slice A2 s2.length c2) := Bg3.cell 1 rfl))
    refine (refValid_any r A c s _ (hS.below b1)).mono ?_
    rintro e w5 ⟨rfl, b5⟩
    rw [H.out]
    replace Bg1 := Bg1.below b5
    replace Bg3 := Bg3.below b5
    replace Bg2 := Bg2.below b5
    replace b1 := below2 b1 b5
    clear k0 k1 k2 k3
    have k0 : w5.cell? ⟨g1, 0, none⟩ = some (.int .i64 r) := Bg1.cell 0 rfl
    have k1 : w5.cell? ⟨g1, 1, none⟩ = some (.slice A s.length c) := Bg1.cell 1 rfl
    have k2 : w5.cell? ⟨g3, 0, none⟩ = some (.int .i64 r2) := Bg3.cell 0 rfl
    have k3 : w5.cell? ⟨g3, 1, none⟩ = some (.slice A2 s2.length c2) := Bg3.cell 1 rfl
    go_wp2_with fail
    refine (refValid_any r2 A2 c2 s2 _ (hS2.below b1)).mono ?_
    rintro e w6 ⟨rfl, b6⟩
    rw [H2.out]
    replace Bg1 := Bg1.below b6
    replace Bg3 := Bg3.below b6
    replace Bg2 := Bg2.below b6
    replace b1 := below2 b1 b6
    clear k0 k1 k2 k3
    have k0 : w6.cell? ⟨g1, 0, none⟩ = some (.int .i64 r) := Bg1.cell 0 rfl
    have k1 : w6.cell? ⟨g1, 1, none⟩ = some (.slice A s.length c) := Bg1.cell 1 rfl
    have k2 : w6.cell? ⟨g3, 0, none⟩ = some (.int .i64 r2) := Bg3.cell 0 rfl
    have k3 : w6.cell? ⟨g3, 1, none⟩ = some (.slice A2 s2.length c2) := Bg3.cell 1 rfl
    go_wp2_with ((with_reducible refine at_store (p := 8) rfl ?_); (refine ev_put #[.int .i64 0, .slice none 0 0] rfl 24 (.tmp 8) (.tmp 40) rfl g2 24 _ rfl rfl Bg2 sizeS rfl rfl ?_); intro wf Bq hqf hzf; have z0 := Bq.cell 0 rfl; have z1 := Bq.cell 1 rfl)
    have G2 : w.heap.size ≤ g2 := by have := eg2.out; have := zg3.out; have := eg3.out; have := zg1.out; have := eg1.out; omega
    refine bodyPost_ret (v := .tuple #[.agg #[.int .i64 0, .slice none 0 0], .int .i64 1]) (by simp [results, Tryd.results37, go_sem, z0, z1]) rfl ⟨?_, ?_⟩
    · rw [HP.out]; exact RetA.none _ _
    · exact below_grown b1 b1.size hqf (fun k e => by have := Option.some.inj e; omega)
  by_cases g7 : 1024 < q
  · have HP := Lib.hid (show mixS r s r2 s2 p q = (0, [], 1) by
      have h : gainOk p q = false := by
        cases hg : gainOk p q
        · rfl
        · have := HGO.out.1 hg; omega
      simp [mixS, h])
    clear hv hv2
    go_enter Tryd.func37, Tryd.ntmps37
    go_wp2_with (first | ((with_reducible refine at_dst (N := 4) rfl ?_); refine ev_new #[.int .i64 r, .slice A s.length c] 24 rfl ?hr ?_; (case hr => first | (go_simp; done) | (go_simp; rfl)); intro g1 w1 eg1 zg1 b1 Bg1; skip) | ((with_reducible refine at_dst (N := 5) rfl ?_); refine ev_new #[.int .i64 r2, .slice A2 s2.length c2] 24 rfl ?hr ?_; (case hr => first | (go_simp; done) | (go_simp; rfl)); intro g3 w3 eg3 zg3 b3 Bg3; replace Bg1 := Bg1.below b3; replace b1 := below2 b1 b3) | ((with_reducible refine at_dst (N := 8) rfl ?_); refine ev_new #[.int .i64 0, .slice none 0 0] 24 rfl ?hr ?_; (case hr => first | (go_simp; done) | (go_simp; rfl)); intro g2 w2 eg2 zg2 b2 Bg2; replace Bg1 := Bg1.below b2; replace Bg3 := Bg3.below b2; replace b1 := below2 b1 b2; have k0 : w2.cell? ⟨g1, 0, none⟩ = some (.int .i64 r) := Bg1.cell 0 rfl; have k1 : w2.cell? ⟨g1, 1, none⟩ = some (.slice A s.length c) := Bg1.cell 1 rfl; have k2 : w2.cell? ⟨g3, 0, none⟩ = some (.int .i64 r2) := Bg3.cell 0 rfl; have k3 : w2.cell? ⟨g3, 1, none⟩ = some (.slice A2 s2.length c2) := Bg3.cell 1 rfl))
    refine (refValid_any r A c s _ (hS.below b1)).mono ?_
    rintro e w5 ⟨rfl, b5⟩
    rw [H.out]
    replace Bg1 := Bg1.below b5
    replace Bg3 := Bg3.below b5
    replace Bg2 := Bg2.below b5
    replace b1 := below2 b1 b5
    clear k0 k1 k2 k3
    have k0 : w5.cell? ⟨g1, 0, none⟩ = some (.int .i64 r) := Bg1.cell 0 rfl
    have k1 : w5.cell? ⟨g1, 1, none⟩ = some (.slice A s.length c) := Bg1.cell 1 rfl
    have k2 : w5.cell? ⟨g3, 0, none⟩ = some (.int .i64 r2) := Bg3.cell 0 rfl
    have k3 : w5.cell? ⟨g3, 1, none⟩ = some (.slice A2 s2.length c2) := Bg3.cell 1 rfl
    go_wp2_with fail
    refine (refValid_any r2 A2 c2 s2 _ (hS2.below b1)).mono ?_
    rintro e w6 ⟨rfl, b6⟩
    rw [H2.out]
    replace Bg1 := Bg1.below b6
    replace Bg3 := Bg3.below b6
    replace Bg2 := Bg2.below b6
    replace b1 := below2 b1 b6
    clear k0 k1 k2 k3
    have k0 : w6.cell? ⟨g1, 0, none⟩ = some (.int .i64 r) := Bg1.cell 0 rfl
    have k1 : w6.cell? ⟨g1, 1, none⟩ = some (.slice A s.length c) := Bg1.cell 1 rfl
    have k2 : w6.cell? ⟨g3, 0, none⟩ = some (.int .i64 r2) := Bg3.cell 0 rfl
    have k3 : w6.cell? ⟨g3, 1, none⟩ = some (.slice A2 s2.length c2) := Bg3.cell 1 rfl
    go_wp2_with ((with_reducible refine at_store (p := 8) rfl ?_); (refine ev_put #[.int .i64 0, .slice none 0 0] rfl 24 (.tmp 8) (.tmp 40) rfl g2 24 _ rfl rfl Bg2 sizeS rfl rfl ?_); intro wf Bq hqf hzf; have z0 := Bq.cell 0 rfl; have z1 := Bq.cell 1 rfl)
    have G2 : w.heap.size ≤ g2 := by have := eg2.out; have := zg3.out; have := eg3.out; have := zg1.out; have := eg1.out; omega
    refine bodyPost_ret (v := .tuple #[.agg #[.int .i64 0, .slice none 0 0], .int .i64 1]) (by simp [results, Tryd.results37, go_sem, z0, z1]) rfl ⟨?_, ?_⟩
    · rw [HP.out]; exact RetA.none _ _
    · exact below_grown b1 b1.size hqf (fun k e => by have := Option.some.inj e; omega)
  have hg : gainOk p q = true := HGO.out.2 ⟨g4, g5, g6, g7⟩
  by_cases ha : alikeE r s r2 s2 = 0
  case neg =>
    have HP := Lib.hid (show mixS r s r2 s2 p q = (0, [], alikeE r s r2 s2) by simp [mixS, hv, hv2, hg, ha])
    obtain ⟨err, he⟩ : ∃ err, alikeE r s r2 s2 = err := ⟨_, rfl⟩
    rw [he] at ha HP
    have hb : (err != 0) = true := by simpa using ha
    have HE := Lib.hid he
    clear hv hv2 hg ha he
    go_enter Tryd.func37, Tryd.ntmps37
    go_wp2_with (first | ((with_reducible refine at_dst (N := 4) rfl ?_); refine ev_new #[.int .i64 r, .slice A s.length c] 24 rfl ?hr ?_; (case hr => first | (go_simp; done) | (go_simp; rfl)); intro g1 w1 eg1 zg1 b1 Bg1; skip) | ((with_reducible refine at_dst (N := 5) rfl ?_); refine ev_new #[.int .i64 r2, .slice A2 s2.length c2] 24 rfl ?hr ?_; (case hr => first | (go_simp; done) | (go_simp; rfl)); intro g3 w3 eg3 zg3 b3 Bg3; replace Bg1 := Bg1.below b3; replace b1 := below2 b1 b3) | ((with_reducible refine at_dst (N := 8) rfl ?_); refine ev_new #[.int .i64 0, .slice none 0 0] 24 rfl ?hr ?_; (case hr => first | (go_simp; done) | (go_simp; rfl)); intro g2 w2 eg2 zg2 b2 Bg2; replace Bg1 := Bg1.below b2; replace Bg3 := Bg3.below b2; replace b1 := below2 b1 b2; have k0 : w2.cell? ⟨g1, 0, none⟩ = some (.int .i64 r) := Bg1.cell 0 rfl; have k1 : w2.cell? ⟨g1, 1, none⟩ = some (.slice A s.length c) := Bg1.cell 1 rfl; have k2 : w2.cell? ⟨g3, 0, none⟩ = some (.int .i64 r2) := Bg3.cell 0 rfl; have k3 : w2.cell? ⟨g3, 1, none⟩ = some (.slice A2 s2.length c2) := Bg3.cell 1 rfl))
    refine (refValid_any r A c s _ (hS.below b1)).mono ?_
    rintro e w5 ⟨rfl, b5⟩
    rw [H.out]
    replace Bg1 := Bg1.below b5
    replace Bg3 := Bg3.below b5
    replace Bg2 := Bg2.below b5
    replace b1 := below2 b1 b5
    clear k0 k1 k2 k3
    have k0 : w5.cell? ⟨g1, 0, none⟩ = some (.int .i64 r) := Bg1.cell 0 rfl
    have k1 : w5.cell? ⟨g1, 1, none⟩ = some (.slice A s.length c) := Bg1.cell 1 rfl
    have k2 : w5.cell? ⟨g3, 0, none⟩ = some (.int .i64 r2) := Bg3.cell 0 rfl
    have k3 : w5.cell? ⟨g3, 1, none⟩ = some (.slice A2 s2.length c2) := Bg3.cell 1 rfl
    go_wp2_with fail
    refine (refValid_any r2 A2 c2 s2 _ (hS2.below b1)).mono ?_
    rintro e w6 ⟨rfl, b6⟩
    rw [H2.out]
    replace Bg1 := Bg1.below b6
    replace Bg3 := Bg3.below b6
    replace Bg2 := Bg2.below b6
    replace b1 := below2 b1 b6
    clear k0 k1 k2 k3
    have k0 : w6.cell? ⟨g1, 0, none⟩ = some (.int .i64 r) := Bg1.cell 0 rfl
    have k1 : w6.cell? ⟨g1, 1, none⟩ = some (.slice A s.length c) := Bg1.cell 1 rfl
    have k2 : w6.cell? ⟨g3, 0, none⟩ = some (.int .i64 r2) := Bg3.cell 0 rfl
    have k3 : w6.cell? ⟨g3, 1, none⟩ = some (.slice A2 s2.length c2) := Bg3.cell 1 rfl
    go_wp2_with fail
    refine (refAlike_any r A c s r2 A2 c2 s2 _ (hS.below b1) (hS2.below b1)).mono ?_
    rintro e w7 ⟨rfl, b7⟩
    rw [HE.out]
    replace Bg1 := Bg1.below b7
    replace Bg3 := Bg3.below b7
    replace Bg2 := Bg2.below b7
    replace b1 := below2 b1 b7
    clear k0 k1 k2 k3
    have k0 : w7.cell? ⟨g1, 0, none⟩ = some (.int .i64 r) := Bg1.cell 0 rfl
    have k1 : w7.cell? ⟨g1, 1, none⟩ = some (.slice A s.length c) := Bg1.cell 1 rfl
    have k2 : w7.cell? ⟨g3, 0, none⟩ = some (.int .i64 r2) := Bg3.cell 0 rfl
    have k3 : w7.cell? ⟨g3, 1, none⟩ = some (.slice A2 s2.length c2) := Bg3.cell 1 rfl
    go_wp2_with ((with_reducible refine at_store (p := 8) rfl ?_); (refine ev_put #[.int .i64 0, .slice none 0 0] rfl 24 (.tmp 8) (.tmp 46) rfl g2 24 _ rfl rfl Bg2 sizeS rfl rfl ?_); intro wf Bq hqf hzf; have z0 := Bq.cell 0 rfl; have z1 := Bq.cell 1 rfl)
    have G2 : w.heap.size ≤ g2 := by have := eg2.out; have := zg3.out; have := eg3.out; have := zg1.out; have := eg1.out; omega
    refine bodyPost_ret (v := .tuple #[.agg #[.int .i64 0, .slice none 0 0], .int .i64 err]) (by simp [results, Tryd.results37, go_sem, z0, z1]) rfl ⟨?_, ?_⟩
    · rw [HP.out]; exact RetA.none _ _
    · exact below_grown b1 b1.size hqf (fun k e => by have := Option.some.inj e; omega)
  case pos =>
    have hal := ha
    obtain ⟨V, V2, hl, hr⟩ := alike_ok ha
    have h1 := V.one
    have h2 := V.two
    have h12 := V2.one
    have h3 := V.len
    have h32 := V2.len
    have HS1 := Lib.hid V.smp
    have HS2 := Lib.hid V2.smp
    have HLEN := Lib.hid (fun j (hj : j < s.length) => V.same _ (nth_mem [] s j hj))
    have HLEN2 := Lib.hid (fun j (hj : j < s2.length) => V2.same _ (nth_mem [] s2 j hj))
    have HA := Lib.hid hal
    obtain ⟨F, hF⟩ : ∃ F : Nat → List Int, F = fun j => mixL p q (nth [] s j) (nth [] s2 j) (max (len0 s) (len0 s2)) := ⟨_, rfl⟩
    have HP := Lib.hid (show mixS r s r2 s2 p q = (r, (List.range s.length).map F, 0) by simp [mixS, hv, hv2, hg, hal, hF])
    obtain ⟨N0, hN0⟩ : ∃ N, len0 s = N := ⟨_, rfl⟩
    obtain ⟨N1, hN1⟩ : ∃ N, len0 s2 = N := ⟨_, rfl⟩
    rw [hN0] at h3
    rw [hN1] at h32
    rw [hN0, hN1] at hF
    have HN0 := Lib.hid hN0
    have HN1 := Lib.hid hN1
    have HF := Lib.hid hF
    have HL := Lib.hid hl
    clear hv hv2 hg ha hal V V2 hl hr hN0 hN1 hF
    go_enter Tryd.func37, Tryd.ntmps37
    go_wp2_with (first | ((with_reducible refine at_dst (N := 4) rfl ?_); refine ev_new #[.int .i64 r, .slice A s.length c] 24 rfl ?hr ?_; (case hr => first | (go_simp; done) | (go_simp; rfl)); intro g1 w1 eg1 zg1 b1 Bg1; skip) | ((with_reducible refine at_dst (N := 5) rfl ?_); refine ev_new #[.int .i64 r2, .slice A2 s2.length c2] 24 rfl ?hr ?_; (case hr => first | (go_simp; done) | (go_simp; rfl)); intro g3 w3 eg3 zg3 b3 Bg3; replace Bg1 := Bg1.below b3; replace b1 := below2 b1 b3) | ((with_reducible refine at_dst (N := 8) rfl ?_); refine ev_new #[.int .i64 0, .slice none 0 0] 24 rfl ?hr ?_; (case hr => first | (go_simp; done) | (go_simp; rfl)); intro g2 w2 eg2 zg2 b2 Bg2; replace Bg1 := Bg1.below b2; replace Bg3 := Bg3.below b2; replace b1 := below2 b1 b2; have k0 : w2.cell? ⟨g1, 0, none⟩ = some (.int .i64 r) := Bg1.cell 0 rfl; have k1 : w2.cell? ⟨g1, 1, none⟩ = some (.slice A s.length c) := Bg1.cell 1 rfl; have k2 : w2.cell? ⟨g3, 0, none⟩ = some (.int .i64 r2) := Bg3.cell 0 rfl; have k3 : w2.cell? ⟨g3, 1, none⟩ = some (.slice A2 s2.length c2) := Bg3.cell 1 rfl))
    refine (refValid_any r A c s _ (hS.below b1)).mono ?_
    rintro e w5 ⟨rfl, b5⟩
    rw [H.out]
    replace Bg1 := Bg1.below b5
    replace Bg3 := Bg3.below b5
    replace Bg2 := Bg2.below b5
    replace b1 := below2 b1 b5
    clear k0 k1 k2 k3
    have k0 : w5.cell? ⟨g1, 0, none⟩ = some (.int .i64 r) := Bg1.cell 0 rfl
    have k1 : w5.cell? ⟨g1, 1, none⟩ = some (.slice A s.length c) := Bg1.cell 1 rfl
    have k2 : w5.cell? ⟨g3, 0, none⟩ = some (.int .i64 r2) := Bg3.cell 0 rfl
    have k3 : w5.cell? ⟨g3, 1, none⟩ = some (.slice A2 s2.length c2) := Bg3.cell 1 rfl
    go_wp2_with fail
    refine (refValid_any r2 A2 c2 s2 _ (hS2.below b1)).mono ?_
    rintro e w6 ⟨rfl, b6⟩
    rw [H2.out]
    replace Bg1 := Bg1.below b6
    replace Bg3 := Bg3.below b6
    replace Bg2 := Bg2.below b6
    replace b1 := below2 b1 b6
    clear k0 k1 k2 k3
    have k0 : w6.cell? ⟨g1, 0, none⟩ = some (.int .i64 r) := Bg1.cell 0 rfl
    have k1 : w6.cell? ⟨g1, 1, none⟩ = some (.slice A s.length c) := Bg1.cell 1 rfl
    have k2 : w6.cell? ⟨g3, 0, none⟩ = some (.int .i64 r2) := Bg3.cell 0 rfl
    have k3 : w6.cell? ⟨g3, 1, none⟩ = some (.slice A2 s2.length c2) := Bg3.cell 1 rfl
    go_wp2_with fail
    refine (refAlike_any r A c s r2 A2 c2 s2 _ (hS.below b1) (hS2.below b1)).mono ?_
    rintro e w7 ⟨rfl, b7⟩
    rw [HA.out]
    replace Bg1 := Bg1.below b7
    replace Bg3 := Bg3.below b7
    replace Bg2 := Bg2.below b7
    replace b1 := below2 b1 b7
    clear k0 k1 k2 k3
    have k0 : w7.cell? ⟨g1, 0, none⟩ = some (.int .i64 r) := Bg1.cell 0 rfl
    have k1 : w7.cell? ⟨g1, 1, none⟩ = some (.slice A s.length c) := Bg1.cell 1 rfl
    have k2 : w7.cell? ⟨g3, 0, none⟩ = some (.int .i64 r2) := Bg3.cell 0 rfl
    have k3 : w7.cell? ⟨g3, 1, none⟩ = some (.slice A2 s2.length c2) := Bg3.cell 1 rfl
    have G2 : w.heap.size ≤ g2 := by have := eg2.out; have := zg3.out; have := eg3.out; have := zg1.out; have := eg1.out; omega
    have z26 : g2 < w7.heap.size := Bg2.lt
    have z36 : g3 < w7.heap.size := Bg3.lt
    have z16 : g1 < w7.heap.size := Bg1.lt
    go_wp2_with (first | ((with_reducible refine at_dst (N := 11) rfl ?_); refine ev_new #[.int .i64 0, .slice none 0 0] 24 rfl ?hr ?_; (case hr => first | (go_simp; done) | (go_simp; rfl)); intro g7 w8 eg7 zg7 b8 Bg7; replace Bg1 := Bg1.below b8; replace Bg2 := Bg2.below b8; replace Bg3 := Bg3.below b8; have BX7 := below2 b1 b8; clear k0 k1 k2 k3) | ((with_reducible refine at_store (p := 11) rfl ?_); (refine ev_put #[.int .i64 r, .slice none 0 0] rfl 24 (.tmp 11) (.tmp 50) rfl g7 24 _ rfl rfl Bg7 sizeS rfl rfl ?_); intro w9 B7 hb8 hz8; have e17 : g1 ≠ g7 := (by have := eg7.out; omega); have e27 : g2 ≠ g7 := (by have := eg7.out; omega); have e37 : g3 ≠ g7 := (by have := eg7.out; omega); have B1 := Bg1.keep (Keep.of_grown1 hb8) e17; have B2 := Bg2.keep (Keep.of_grown1 hb8) e27; have B3 := Bg3.keep (Keep.of_grown1 hb8) e37; have k1 := B1.cell 1 rfl))
    have G7 : w.heap.size ≤ g7 := by have := eg7.out; have := b1.size; omega
    have BX8 : Below w.heap.size w w9 := below_grown BX7 BX7.size hb8 (fun k e => by have := Option.some.inj e; omega)
    have L1 := B1.lt
    have L2 := B2.lt
    have L3 := B3.lt
    have L7 := B7.lt
    clear k1
    go_loopw [54] (fun i wr => ∃ (k : Nat) (v : Value), k ≤ s.length ∧ i = .int .i64 k ∧ Blk wr g1 #[.int .i64 r, .slice A s.length c] 24 ∧ Blk wr g3 #[.int .i64 r2, .slice A2 s2.length c2] 24 ∧ Blk wr g2 #[.int .i64 0, .slice none 0 0] 24 ∧ Blk wr g7 #[.int .i64 r, v] 24
        ∧ OwnK (kSl (kInt .i64)) 36 w9.heap.size (fun b => w9.heap.size ≤ b) wr v ((List.range k).map F) ∧ w9.grownBy wr (some g7)) (fun i _ => s.length - (intOf i).toNat)
    case atStart => exact ⟨0, _, Nat.zero_le _, rfl, B1, B3, B2, B7, OwnK.nil _ _ _ _ _, World.grownBy.refl _ _⟩
    case round =>
      clear B1 B2 B3 B7
      obtain ⟨k, v, hk, rfl, B1, B3, B2, B7, hO, hg⟩ := hrel
      have hgs := hg.size
      by_cases hlt : k < s.length
      · have hlt2 : k < s2.length := by have := HL.out; omega
        have HX : Below w.heap.size w wr := below_grown BX8 BX8.size hg (fun b e => by have := Option.some.inj e; omega)
        have qa : wr.cell? ⟨g1, 0, none⟩ = some (.int .i64 r) := B1.cell 0 rfl
        have qb : wr.cell? ⟨g1, 1, none⟩ = some (.slice A s.length c) := B1.cell 1 rfl
        have qc : wr.cell? ⟨g3, 0, none⟩ = some (.int .i64 r2) := B3.cell 0 rfl
        have qd : wr.cell? ⟨g3, 1, none⟩ = some (.slice A2 s2.length c2) := B3.cell 1 rfl
        obtain ⟨M, hM, hMx⟩ : ∃ M, max N0 N1 = M ∧ M ≤ 8192 := ⟨_, rfl, by omega⟩
        have HM := Lib.hid hM
        have hmx : (¬ N0 < N1 ∧ N0 = M) ∨ (N0 < N1 ∧ N1 = M) := by omega
        clear hM
        go_upto_region 11 with fail
        go_cut [61, 62] (fun s61 s62 wx => s61 = .int .i64 M ∧ s62 = .int .i64 0 ∧ Below wr.heap.size wr wx)
        case first =>
          rcases hmx with ⟨m1, rfl⟩ | ⟨m1, rfl⟩
          all_goals
            have tok : True := trivial
            go_region_held3 (fun W => W.cell? ⟨g1, 0, none⟩ = some (.int .i64 r) ∧ W.cell? ⟨g1, 1, none⟩ = some (.slice A s.length c) ∧ W.cell? ⟨g3, 0, none⟩ = some (.int .i64 r2) ∧ W.cell? ⟨g3, 1, none⟩ = some (.slice A2 s2.length c2)) (go_keep) (first | (go_at_call 34; have _t := tok; refine (refLen_any r A c s _ ?h1 h1).mono ?_; (case h1 => exact hS.below HX.drew); clear tok; rw [HN0.out]; rintro e V1 ⟨rfl, d1⟩; replace qa := cell_below d1 qa; replace qb := cell_below d1 qb; replace qc := cell_below d1 qc; replace qd := cell_below d1 qd) | (go_at_call 34; refine (refLen_any r2 A2 c2 s2 _ ?h1 h12).mono ?_; (case h1 => exact hS2.below (below2 HX.drew d1)); rw [HN1.out]; rintro e V2 ⟨rfl, d2⟩; replace qa := cell_below d2 qa; replace qb := cell_below d2 qb; replace qc := cell_below d2 qc; replace qd := cell_below d2 qd))
            go_wp2_with fail
            go_meet
            exact ⟨rfl, rfl, below2 (below2 (Below.refl wr.heap.size wr).drew d1) d2⟩
        case rest =>
          obtain ⟨rfl, rfl, bc⟩ := hcut
          clear qa qb qc qd
          have C1 := B1.below bc
          have C3 := B3.below bc
          have C7 := B7.below bc
          go_wp2_with fail
          have hwc := bc.size
          go_loopw [13, 62] (fun l i wr => ∃ j : Nat, j ≤ M ∧ i = .int .i64 j ∧ OwnI 3 .i64 wc.heap.size wr l (mixL p q (nth [] s k) (nth [] s2 k) j) ∧ Below wc.heap.size wc wr) (fun _ i _ => M - (intOf i).toNat)
          case atStart => exact ⟨0, Nat.zero_le _, rfl, OwnI.nil _ _ _ _, Below.refl _ _⟩
          case round =>
            obtain ⟨j, hj, rfl, hI, hB⟩ := hrel
            have E1 := C1.below hB
            have E3 := C3.below hB
            have k0 := E1.cell 1 rfl
            have k1 := E3.cell 1 rfl
            by_cases hlj : j < M
            · have HW := below2 (below2 HX bc) hB
              obtain ⟨ad, A', c', rfl, qc, hs'⟩ := rd_sl (hS.below HW) k hlt
              obtain ⟨ad2, A2', c2', rfl, qd, hs2'⟩ := rd_sl (hS2.below HW) k hlt2
              have rX := nth_smp (fun x hx => HS1.out _ (nth_mem [] s k hlt) x hx) j
              have rY := nth_smp (fun x hx => HS2.out _ (nth_mem [] s2 k hlt2) x hx) j
              have mX := mul_bd (show -1024 ≤ p by omega) (show p ≤ 1024 by omega) rX.1 rX.2
              have mY := mul_bd (show -1024 ≤ q by omega) (show q ≤ 1024 by omega) rY.1 rY.2
              have hsn := mixL_snoc p q (nth [] s k) (nth [] s2 k) j
              unfold mixV at hsn
              obtain ⟨P1, hP1⟩ : ∃ P1, p * nth 0 (nth [] s k) j = P1 := ⟨_, rfl⟩
              obtain ⟨Q1, hQ1⟩ : ∃ Q1, q * nth 0 (nth [] s2 k) j = Q1 := ⟨_, rfl⟩
              rw [hP1, hQ1] at hsn
              rw [hP1] at mX
              rw [hQ1] at mY
              have w1 : IntKind.i64.wrap (p * nth 0 (nth [] s k) j) = P1 := by rw [hP1]; exact IntWalk.i64_in _ (by omega)
              have w2 : IntKind.i64.wrap (q * nth 0 (nth [] s2 k) j) = Q1 := by rw [hQ1]; exact IntWalk.i64_in _ (by omega)
              have w3' : IntKind.i64.wrap (P1 + Q1) = P1 + Q1 := IntWalk.i64_in _ (by omega)
              have w4' : IntKind.i64.wrap (2 * (P1 + Q1)) = 2 * (P1 + Q1) := IntWalk.i64_in _ (by omega)
              have w5' : IntKind.i64.wrap (2 * (P1 + Q1) + 256) = 2 * (P1 + Q1) + 256 := IntWalk.i64_in _ (by omega)
              rw [← mixV_ref] at hsn
              obtain ⟨D, hD⟩ : ∃ D, (2 * (P1 + Q1) + 256) / 512 = D := ⟨_, rfl⟩
              rw [hD] at hsn
              have hTB : -4611686018427387904 ≤ 2 * (P1 + Q1) + 256 ∧ 2 * (P1 + Q1) + 256 ≤ 4611686018427387904 := by omega
              have HDn := Lib.hid (fun (W : World) => (down_any (2 * (P1 + Q1) + 256) 512 W hTB (by decide)).mono (fun e w' h => (⟨h.1.trans (by rw [hD]), h.2.symm⟩ : e = .returned (.int .i64 D) ∧ w' = W)))
              have hj9 : j ≤ 9223372036854775807 := by omega
              have hb8 : ((mixL p q (nth [] s k) (nth [] s2 k) j).length + 1) * 8 ≤ 140737488355328 := by rw [mixL_len]; omega
              have hdc : ∃ Z, min (max D (-32768)) 32767 = Z ∧ ((¬ D < 32767 ∧ Z = 32767) ∨ (D < 32767 ∧ -32768 < D ∧ Z = D) ∨ (D < 32767 ∧ ¬ -32768 < D ∧ Z = -32768)) := ⟨_, rfl, by omega⟩
              obtain ⟨Z, hZ, hdz⟩ := hdc
              rw [hZ] at hsn
              have HSN := Lib.hid hsn
              clear hP1 hQ1 mX mY rX rY hD hTB hsn hZ
              rcases hdz with ⟨m1, rfl⟩ | ⟨m1, m2, rfl⟩ | ⟨m1, m2, rfl⟩
              all_goals
                go_wp2_with fail
                go_quiet (first | (go_at_call 79; exact Calls.quiet_of_same (refAt_any _ _ _ j _ (by first | exact hs'.drewN _ | exact hs2'.drewN _) hj9)) | (go_at_call 69; exact Calls.quiet_of_same (HDn.out _)))
                go_wp2_with (at_builtin; (refine append_one (w0 := wc) wc.heap.size rfl (.tmp 87) (.tmp 91) 36 3 .i64 8 rfl Tryd.underlying36 infoI (by decide) _ _ _ rfl rfl (hI.below (below_drewN (Below.refl _ _) _)) (below_drewN hB _) (below_drewN hB _).size hb8 ?_); intro v1 w4 hO1 hB1 _ _)
                go_roundw
                case rel => exact ⟨j + 1, by omega, by go_num, by rw [HSN.out]; exact hO1, hB1⟩
                case measure => simp [intOf]; omega
            · obtain rfl : j = M := by omega
              have HB2 := below2 bc hB
              have D7 := C7.below hB
              have hFk := Lib.hid (show mixL p q (nth [] s k) (nth [] s2 k) j = F k by rw [HF.out, ← HM.out])
              rw [hFk.out] at hI
              have hOb := hO.below HB2
              obtain ⟨A5, c5, rfl, hs5⟩ := hI.rd
              have k5 : wr.cell? ⟨g7, 1, none⟩ = some v := D7.cell 1 rfl
              have f5 := D7.free 1
              have k5a := cell_below (below_alloc (Below.refl wr.heap.size wr) (.cells #[.slice A5 (F k).length c5] 36)) k5
              go_wp2_with (at_builtin; go_loud ((refine append_k (W := wr) (k := kSl (kInt .i64)) w9.heap.size ?a1 (.tmp 95) (.tmp 97) 22 36 (.slice none 0 0) 24 (fun b => w9.heap.size ≤ b) ?a2 Tryd.underlying22 infoS ?a3 ?a4 ?a5 v ((List.range k).map F) (F k) [.slice A5 (F k).length c5] ?a6 ?a7 ?a8 ?hO ?hx ?hb ?hl ?_); (case a1 => rfl); (case a2 => rfl); (case a3 => rfl); (case a4 => decide); (case a5 => decide); (case a6 => rfl); (case a7 => rfl); (case a8 => rfl); (case hO => exact hOb); (case hx => exact ⟨A5, c5, rfl, hs5.weak (fun b _ hb => ⟨by have : wc.heap.size ≤ b := hb.1; omega, fun he => by have := (hO.lt b he).2; have : wc.heap.size ≤ b := hb.1; omega⟩)⟩); (case hb => exact Nat.le_trans hgs HB2.size); (case hl => simp; omega)); intro g9 cap9 w10 hO9 hg8 hb9 ha9; have C9 : Blk w10 g7 #[.int .i64 r, v] 24 := D7.keep (Keep.of_grown hg8) (fun e => by have := hO.base_le g7 e.symm; omega); have k6 := C9.cell 1 rfl; have f6 := C9.free 1; clear k5 k5a f5)
              go_roundw
              case rel =>
                have hst := grown_setCell w10 g7 1 (.slice (some ⟨g9, 0, none⟩) (k + 1) cap9)
                refine ⟨k + 1, _, by omega, by go_num, ((B1.below HB2).keep (Keep.of_grown hg8) (fun e => by have := hO.base_le g1 e.symm; omega)).keep (Keep.of_grown1 hst) e17, ((B3.below HB2).keep (Keep.of_grown hg8) (fun e => by have := hO.base_le g3 e.symm; omega)).keep (Keep.of_grown1 hst) e37, ((B2.below HB2).keep (Keep.of_grown hg8) (fun e => by have := hO.base_le g2 e.symm; omega)).keep (Keep.of_grown1 hst) e27, C9.set 1 _, ?_, ?_⟩
                · rw [List.range_succ, List.map_append]
                  simp only [List.length_map, List.length_range] at hO9
                  exact hO9.keep (Keep.of_grown1 hst) (fun b hb e => by have := hO9.base_le b hb; omega) (fun b hb e => by omega) ⟨rfl, rfl, rfl⟩
                · exact grown_trans (grown_row (grown_row hg (grown_of_below HB2 none) (fun _ e => by cases e)) hg8 (fun b e => hO.base_le b e)) hst
              case measure => simp [intOf]; omega
      · obtain rfl : k = s.length := by omega
        obtain ⟨Ao, co, rfl, Ro⟩ := hO.rd
        have k7 := B7.cell 0 rfl
        have k7' := B7.cell 1 rfl
        have kb := B1.cell 1 rfl
        simp only [List.length_map, List.length_range] at Ro B7 k7 k7' ⊢
        go_wp2_with ((with_reducible refine at_store (p := 8) rfl ?_); (refine ev_put #[.int .i64 r, .slice Ao s.length co] rfl 24 (.tmp 8) (.tmp 101) rfl g2 24 _ rfl rfl B2 sizeS rfl rfl ?_); intro wf Bq hqf hzf; have z0 := Bq.cell 0 rfl; have z1 := Bq.cell 1 rfl)
        refine bodyPost_ret (v := .tuple #[.agg #[.int .i64 r, .slice Ao s.length co], .int .i64 0]) (by simp [results, Tryd.results37, go_sem, z0, z1]) rfl ⟨?_, ?_⟩
        · rw [HP.out]
          refine ⟨Ao, co, by simp, ?_⟩
          refine ((Ro.weak (ok' := fun b => w9.heap.size ≤ b) (fun b _ hb => ?_)).keep ((Keep.of_grown1 hqf).weak (fun i hi => by omega))).any
          rcases hb with hb | hb
          · exact hb
          · exact hO.base_le b (by simpa using hb)
        · exact below_grown (below_grown BX8 BX8.size hg (fun k e => by have := Option.some.inj e; omega)) (Nat.le_trans BX8.size hg.size) hqf (fun k e => by have := Option.some.inj e; omega)
end Go.Proofs.YtijcecakofmhcaaDoor
