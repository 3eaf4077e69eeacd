/- pcm: Join: what the call returns, for any two sounds. -/
import Derived.Test.YtijcecakofmhcaaDoorPcmK
import Derived.Test.YtijcecakofmhcaaDoorPcmE
import Derived.Test.YtijcecakofmhcaaDoorPcmF
import Derived.IntWalk
namespace Go.Proofs.YtijcecakofmhcaaDoor
open Go.RowKit

theorem alike_ok {r r2 : Int} {s s2 : List (List Int)} (h : alikeE r s r2 s2 = 0) : VFacts r s ∧ VFacts r2 s2 ∧ s.length = s2.length ∧ r = r2 := by
  unfold alikeE at h
  split at h
  · rename_i hv
    simp only [Bool.and_eq_true] at hv
    split at h
    · rename_i hq
      exact ⟨valid_facts hv.1, valid_facts hv.2, hq.2, hq.1⟩
    · cases h
  · cases h

set_option maxHeartbeats 2000000 in
set_option maxRecDepth 100000 in
theorem join_T (r : Int) (A : Option Addr) (c : Nat) (s : List (List Int)) (r2 : Int) (A2 : Option Addr) (c2 : Nat) (s2 : List (List Int)) (w : World) (hG : GR w) (hS : R2 w A c s) (hS2 : R2 w A2 c2 s2) :
    Calls Tryd.prog 35 #[.agg #[.int .i64 r, .slice A s.length c], .agg #[.int .i64 r2, .slice A2 s2.length c2]] w fun e w' => RetT w.heap.size (joinS r s r2 s2) e w' ∧ Below w.heap.size w w' := by
  have hn := hS.len
  have hn2 := hS2.len
  by_cases hv : alikeE r s r2 s2 = 0
  · obtain ⟨V, V2, hl, hr⟩ := alike_ok hv
    have H := Lib.hid hv
    have h1 := V.one
    have h2 := V.two
    have h3 := V.len
    have h12 := V2.one
    have h32 := V2.len
    have hj : joinS r s r2 s2 = if len0 s + len0 s2 ≤ 8192 then (r, (List.range s.length).map (fun j => nth [] s j ++ nth [] s2 j), 0) else (0, [], 2) := by simp [joinS, hv]
    clear hv
    have HL := Lib.hid hl
    clear hl hr
    by_cases hf : len0 s + len0 s2 ≤ 8192
    · have HP := Lib.hid (hj.trans (if_pos hf))
      clear hj
      go_enter Tryd.func35, Tryd.ntmps35
      go_wp2_with (first | ((with_reducible refine at_dst (N := 2) rfl ?_); refine ev_new #[.int .i64 r, .slice A s.length c] 24 rfl ?hr ?_; (case hr => first | (go_simp; done) | (go_simp; rfl)); intro g1 w1 eg1 zg1 b1 Bg1; skip) | ((with_reducible refine at_dst (N := 3) rfl ?_); refine ev_new #[.int .i64 r2, .slice A2 s2.length c2] 24 rfl ?hr ?_; (case hr => first | (go_simp; done) | (go_simp; rfl)); intro g3 w3 eg3 zg3 b3 Bg3; replace Bg1 := Bg1.below b3; replace b1 := below2 b1 b3) | ((with_reducible refine at_dst (N := 4) rfl ?_); refine ev_new #[.int .i64 0, .slice none 0 0] 24 rfl ?hr ?_; (case hr => first | (go_simp; done) | (go_simp; rfl)); intro g2 w2 eg2 zg2 b2 Bg2; replace Bg1 := Bg1.below b2; replace Bg3 := Bg3.below b2; replace b1 := below2 b1 b2; have k0 := Bg1.cell 0 rfl; have k1 := Bg1.cell 1 rfl; have k2 := Bg3.cell 0 rfl; have k3 := Bg3.cell 1 rfl) | (go_at_call 73; refine (alike_any _ _ _ _ _ _ _ _ _ (hG.below b1) (hS.below b1) (hS2.below b1)).mono ?_; rintro e w4 ⟨rfl, b4⟩; rw [H.out]; replace b1 := below2 b1 b4; replace Bg1 := Bg1.below b4; replace Bg3 := Bg3.below b4; replace Bg2 := Bg2.below b4; clear k0 k1 k2 k3; have k0 : w4.cell? ⟨g1, 0, none⟩ = some (.int .i64 r) := Bg1.cell 0 rfl; have k1 : w4.cell? ⟨g1, 1, none⟩ = some (.slice A s.length c) := Bg1.cell 1 rfl; have k2 : w4.cell? ⟨g3, 0, none⟩ = some (.int .i64 r2) := Bg3.cell 0 rfl; have k3 : w4.cell? ⟨g3, 1, none⟩ = some (.slice A2 s2.length c2) := Bg3.cell 1 rfl))
      have tok : True := trivial
      have hwr : IntKind.i64.wrap ((len0 s : Int) + (len0 s2 : Int)) = (len0 s : Int) + (len0 s2 : Int) := IntWalk.i64_in _ (by omega)
      go_region_held3 (fun W => W.cell? ⟨g1, 0, none⟩ = some (.int .i64 r) ∧ W.cell? ⟨g1, 1, none⟩ = some (.slice A s.length c) ∧ W.cell? ⟨g3, 0, none⟩ = some (.int .i64 r2) ∧ W.cell? ⟨g3, 1, none⟩ = some (.slice A2 s2.length c2)) (go_keep) (first | (go_at_call 52; have _t := tok; refine (size_any r A c s _ ?h1 h1).mono ?_; (case h1 => exact hS.below (b1.drew)); clear tok; rintro e w5 ⟨rfl, b5⟩; have q0 := cell_below b5 k0; have q1 := cell_below b5 k1; have q2 := cell_below b5 k2; have q3 := cell_below b5 k3) | (go_at_call 52; refine (size_any r2 A2 c2 s2 _ ?h1 h12).mono ?_; (case h1 => exact hS2.below (below2 b1.drew b5)); rintro e w6 ⟨rfl, b6⟩; replace q0 := cell_below b6 q0; replace q1 := cell_below b6 q1; replace q2 := cell_below b6 q2; replace q3 := cell_below b6 q3))
      clear hwr
      have b46 := below2 ((Below.refl w4.heap.size w4).drew.trans b5) b6
      have BX := below2 (below2 b1.drew b5) b6
      replace Bg1 := Bg1.below b46
      replace Bg2 := Bg2.below b46
      replace Bg3 := Bg3.below b46
      have G2 : w.heap.size ≤ g2 := by have := eg2.out; have := zg3.out; have := eg3.out; have := zg1.out; have := eg1.out; omega
      have z26 : g2 < w6.heap.size := Bg2.lt
      have z36 : g3 < w6.heap.size := Bg3.lt
      have z16 : g1 < w6.heap.size := Bg1.lt
      clear k0 k1 k2 k3
      go_wp2_with (first | ((with_reducible refine at_dst (N := 7) rfl ?_); refine ev_new #[.int .i64 0] 3 rfl ?hr ?_; (case hr => first | (go_simp; done) | (go_simp; rfl)); intro g7 w7 eg7 zg7 b7 Bg7; replace Bg1 := Bg1.below b7; replace Bg2 := Bg2.below b7; replace Bg3 := Bg3.below b7; have BX7 := below2 BX b7) | ((with_reducible refine at_store (p := 7) rfl ?_); (refine ev_put1 (.int .i64 (-1)) 0 rfl 3 (.tmp 7) (.const (.int .i64 (-1))) rfl g7 3 #[.int .i64 0] rfl rfl Bg7 sizeI (by simp) rfl ?_); intro w8 Bh7 hg8 hz8; have n17 : g1 ≠ g7 := (by have := eg7.out; omega); have n27 : g2 ≠ g7 := (by have := eg7.out; omega); have n37 : g3 ≠ g7 := (by have := eg7.out; omega); replace Bg1 := Bg1.keep (Keep.of_grown1 hg8) n17; replace Bg2 := Bg2.keep (Keep.of_grown1 hg8) n27; replace Bg3 := Bg3.keep (Keep.of_grown1 hg8) n37; have k0 := Bg1.cell 0 rfl; have k1 := Bg1.cell 1 rfl))
      have g7le : w.heap.size ≤ g7 := by have := eg7.out; have := BX.size; omega
      have g2lt : g2 < w8.heap.size := Bg2.lt
      have hSa := (hS.apart BX7 g7le).keep (Keep.of_grown1 hg8)
      have hSb := ((hS2.apart BX7 g7le).keep (Keep.of_grown1 hg8)).weak (ok' := fun b => b < w8.heap.size ∧ b ≠ g7) fun b hb ho => ⟨hb, ho⟩
      have hI0 : Blk w8 g7 #[.int .i64 (((0 : Nat) : Int) - 1)] 3 := by simpa using Bh7
      refine (change_Join _ g7 _ _ r A c s w8 hSa Bh7.lt (join1_makes g7 g3 w8.heap.size A2 c2 s2 s (fun c hc => by rw [V.same c hc]; exact h3) (fun c hc => by rw [V2.same c hc]; exact h32) HL.out h2 Bg3.lt n37) (fun j a b h k => ⟨h.1.keep k Bh7.lt, h.2.keep Bg3.lt n37 (k.weak fun i hi => hi.1)⟩) ⟨hI0, Bg3.cell 1 rfl, hSb⟩ h2).mono ?_
      rintro e w9 ⟨A', c', rfl, hSl, hg9, _⟩
      replace Bg2 := Bg2.keep (Keep.of_grown1 hg9) n27
      go_wp2_with (((with_reducible refine at_store (p := 4) rfl ?_); (refine ev_put #[.int .i64 r, .slice A' s.length c'] rfl 24 (.tmp 4) (.tmp 24) rfl g2 24 _ rfl rfl Bg2 sizeS rfl rfl ?_); intro wf Bq hqf hzf; have z0 := Bq.cell 0 rfl; have z1 := Bq.cell 1 rfl))
      refine bodyPost_ret (v := .tuple #[.agg #[.int .i64 r, .slice A' s.length c'], .int .i64 0]) (by simp [results, Tryd.results35, go_sem, z0, z1]) rfl ⟨?_, ?_⟩
      · rw [HP.out]
        refine ⟨A', c', by simp, ?_⟩
        have hlt : w.heap.size ≤ w8.heap.size := Nat.le_trans BX7.size hg8.size
        exact (hSl.keep ((Keep.of_grown1 hqf).weak fun b hb => by omega)).weak fun b _ hb => by omega
      · exact below_grown (below_grown (below_grown BX7 BX7.size hg8 (fun k e => by have := Option.some.inj e; omega)) (Nat.le_trans BX7.size hg8.size) hg9 (fun k e => by have := Option.some.inj e; omega)) (Nat.le_trans (Nat.le_trans BX7.size hg8.size) hg9.size) hqf (fun k e => by have := Option.some.inj e; omega)
    · have HP := Lib.hid (hj.trans (if_neg hf))
      clear hj
      go_enter Tryd.func35, Tryd.ntmps35
      go_wp2_with (first | ((with_reducible refine at_dst (N := 2) rfl ?_); refine ev_new #[.int .i64 r, .slice A s.length c] 24 rfl ?hr ?_; (case hr => first | (go_simp; done) | (go_simp; rfl)); intro g1 w1 eg1 zg1 b1 Bg1; skip) | ((with_reducible refine at_dst (N := 3) rfl ?_); refine ev_new #[.int .i64 r2, .slice A2 s2.length c2] 24 rfl ?hr ?_; (case hr => first | (go_simp; done) | (go_simp; rfl)); intro g3 w3 eg3 zg3 b3 Bg3; replace Bg1 := Bg1.below b3; replace b1 := below2 b1 b3) | ((with_reducible refine at_dst (N := 4) rfl ?_); refine ev_new #[.int .i64 0, .slice none 0 0] 24 rfl ?hr ?_; (case hr => first | (go_simp; done) | (go_simp; rfl)); intro g2 w2 eg2 zg2 b2 Bg2; replace Bg1 := Bg1.below b2; replace Bg3 := Bg3.below b2; replace b1 := below2 b1 b2; have k0 := Bg1.cell 0 rfl; have k1 := Bg1.cell 1 rfl; have k2 := Bg3.cell 0 rfl; have k3 := Bg3.cell 1 rfl) | (go_at_call 73; refine (alike_any _ _ _ _ _ _ _ _ _ (hG.below b1) (hS.below b1) (hS2.below b1)).mono ?_; rintro e w4 ⟨rfl, b4⟩; rw [H.out]; replace b1 := below2 b1 b4; replace Bg1 := Bg1.below b4; replace Bg3 := Bg3.below b4; replace Bg2 := Bg2.below b4; clear k0 k1 k2 k3; have k0 : w4.cell? ⟨g1, 0, none⟩ = some (.int .i64 r) := Bg1.cell 0 rfl; have k1 : w4.cell? ⟨g1, 1, none⟩ = some (.slice A s.length c) := Bg1.cell 1 rfl; have k2 : w4.cell? ⟨g3, 0, none⟩ = some (.int .i64 r2) := Bg3.cell 0 rfl; have k3 : w4.cell? ⟨g3, 1, none⟩ = some (.slice A2 s2.length c2) := Bg3.cell 1 rfl))
      have tok : True := trivial
      have hwr : IntKind.i64.wrap ((len0 s : Int) + (len0 s2 : Int)) = (len0 s : Int) + (len0 s2 : Int) := IntWalk.i64_in _ (by omega)
      go_region_held3 (fun W => W.cell? ⟨g1, 0, none⟩ = some (.int .i64 r) ∧ W.cell? ⟨g1, 1, none⟩ = some (.slice A s.length c) ∧ W.cell? ⟨g3, 0, none⟩ = some (.int .i64 r2) ∧ W.cell? ⟨g3, 1, none⟩ = some (.slice A2 s2.length c2)) (go_keep) (first | (go_at_call 52; have _t := tok; refine (size_any r A c s _ ?h1 h1).mono ?_; (case h1 => exact hS.below (b1.drew)); clear tok; rintro e w5 ⟨rfl, b5⟩; have q0 := cell_below b5 k0; have q1 := cell_below b5 k1; have q2 := cell_below b5 k2; have q3 := cell_below b5 k3) | (go_at_call 52; refine (size_any r2 A2 c2 s2 _ ?h1 h12).mono ?_; (case h1 => exact hS2.below (below2 b1.drew b5)); rintro e w6 ⟨rfl, b6⟩; replace q0 := cell_below b6 q0; replace q1 := cell_below b6 q1; replace q2 := cell_below b6 q2; replace q3 := cell_below b6 q3))
      clear hwr
      have b46 := below2 ((Below.refl w4.heap.size w4).drew.trans b5) b6
      have BX := below2 (below2 b1.drew b5) b6
      replace Bg2 := Bg2.below b46
      have G2 : w.heap.size ≤ g2 := by have := eg2.out; have := zg3.out; have := eg3.out; have := zg1.out; have := eg1.out; omega
      go_wp2_with (((with_reducible refine at_store (p := 4) rfl ?_); (refine ev_put #[.int .i64 0, .slice none 0 0] rfl 24 (.tmp 4) (.tmp 21) rfl g2 24 _ rfl rfl Bg2 sizeS rfl rfl ?_); intro wf Bq hqf hzf; have z0 := Bq.cell 0 rfl; have z1 := Bq.cell 1 rfl))
      refine bodyPost_ret (v := .tuple #[.agg #[.int .i64 0, .slice none 0 0], .int .i64 2]) (by simp [results, Tryd.results35, go_sem, z0, z1]) rfl ⟨?_, ?_⟩
      · rw [HP.out]; exact RetT.none _ _ _
      · exact below_grown BX BX.size hqf (fun k e => by have := Option.some.inj e; omega)
  · have HP := Lib.hid (show joinS r s r2 s2 = (0, [], alikeE r s r2 s2) by simp [joinS, hv])
    obtain ⟨err, he⟩ : ∃ err, alikeE r s r2 s2 = err := ⟨_, rfl⟩
    rw [he] at hv HP
    have hb : (err != 0) = true := by simpa using hv
    have HE := Lib.hid he
    clear hv he
    go_enter Tryd.func35, Tryd.ntmps35
    go_wp2_with (first | ((with_reducible refine at_dst (N := 2) rfl ?_); refine ev_new #[.int .i64 r, .slice A s.length c] 24 rfl ?hr ?_; (case hr => first | (go_simp; done) | (go_simp; rfl)); intro g1 w1 eg1 zg1 b1 Bg1; skip) | ((with_reducible refine at_dst (N := 3) rfl ?_); refine ev_new #[.int .i64 r2, .slice A2 s2.length c2] 24 rfl ?hr ?_; (case hr => first | (go_simp; done) | (go_simp; rfl)); intro g3 w3 eg3 zg3 b3 Bg3; replace Bg1 := Bg1.below b3; replace b1 := below2 b1 b3) | ((with_reducible refine at_dst (N := 4) rfl ?_); refine ev_new #[.int .i64 0, .slice none 0 0] 24 rfl ?hr ?_; (case hr => first | (go_simp; done) | (go_simp; rfl)); intro g2 w2 eg2 zg2 b2 Bg2; replace Bg1 := Bg1.below b2; replace Bg3 := Bg3.below b2; replace b1 := below2 b1 b2; have k0 := Bg1.cell 0 rfl; have k1 := Bg1.cell 1 rfl; have k2 := Bg3.cell 0 rfl; have k3 := Bg3.cell 1 rfl) | (go_at_call 73; refine (alike_any _ _ _ _ _ _ _ _ _ (hG.below b1) (hS.below b1) (hS2.below b1)).mono ?_; rintro e w4 ⟨rfl, b4⟩; rw [HE.out]; replace b1 := below2 b1 b4; replace Bg2 := Bg2.below b4) | ((with_reducible refine at_store (p := 4) rfl ?_); (refine ev_put #[.int .i64 0, .slice none 0 0] rfl 24 (.tmp 4) (.tmp 13) rfl g2 24 _ rfl rfl Bg2 sizeS rfl rfl ?_); intro wf Bq hqf hzf; have z0 := Bq.cell 0 rfl; have z1 := Bq.cell 1 rfl))
    have G2 : w.heap.size ≤ g2 := by have := eg2.out; have := zg3.out; have := eg3.out; have := zg1.out; have := eg1.out; omega
    refine bodyPost_ret (v := .tuple #[.agg #[.int .i64 0, .slice none 0 0], .int .i64 err]) (by simp [results, Tryd.results35, go_sem, z0, z1]) rfl ⟨?_, ?_⟩
    · rw [HP.out]; exact RetT.none _ _ _
    · exact below_grown b1 b1.size hqf (fun k e => by have := Option.some.inj e; omega)
theorem join_any (r : Int) (A : Option Addr) (c : Nat) (s : List (List Int)) (r2 : Int) (A2 : Option Addr) (c2 : Nat) (s2 : List (List Int)) (w : World) (hG : GR w) (hS : R2 w A c s) (hS2 : R2 w A2 c2 s2) :
    Calls Tryd.prog 35 #[.agg #[.int .i64 r, .slice A s.length c], .agg #[.int .i64 r2, .slice A2 s2.length c2]] w fun e w' => RetS w.heap.size (joinS r s r2 s2) e w' ∧ Below w.heap.size w w' :=
  (join_T r A c s r2 A2 c2 s2 w hG hS hS2).mono fun _ _ h => ⟨h.1.toS, h.2⟩
end Go.Proofs.YtijcecakofmhcaaDoor
