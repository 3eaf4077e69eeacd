/- pcm: Mix: what the call returns for two right sounds and gains. -/
import Derived.Test.YtijcecakofmhcaaDoorPcmP
import Derived.Deep.DeepCutAuto
namespace Go.Proofs.YtijcecakofmhcaaDoor
open Go.RowKit

def MixInv (bk bn bg bh gb n0 n : Nat) (g h : Int) (Ab : Option Addr) (cb : Nat) (sb : List (List Int)) : Nat → World → Prop := fun j w =>
  Blk w bk #[.int .i64 ((j : Int) - 1)] 3 ∧ w.cell? ⟨bn, 0, none⟩ = some (.int .i64 n) ∧ w.cell? ⟨bg, 0, none⟩ = some (.int .i64 g) ∧ w.cell? ⟨bh, 0, none⟩ = some (.int .i64 h) ∧ SeesB gb bk n0 Ab cb sb w
theorem mix1_run (bk bn bg bh gb n0 n : Nat) (g h : Int) (Ab : Option Addr) (cb : Nat) (sb s : List (List Int)) (hs : ∀ c ∈ s, ∀ x ∈ c, -32768 ≤ x ∧ x ≤ 32767) (hb : ∀ c ∈ sb, ∀ x ∈ c, -32768 ≤ x ∧ x ≤ 32767) (hn8 : n ≤ 8192)
    (g1 : -1024 ≤ g) (g2 : g ≤ 1024) (h1 : -1024 ≤ h) (h2 : h ≤ 1024) (hl : s.length = sb.length) (hs2 : s.length ≤ 2) (hgb : gb < n0) (hne : gb ≠ bk) (hn1 : bn < n0) (hn2 : bn ≠ bk) (hg1 : bg < n0) (hg2 : bg ≠ bk) (hh1 : bh < n0) (hh2 : bh ≠ bk) :
    Makes 74 #[.pointer (some ⟨bk, 0, none⟩), .pointer (some ⟨bn, 0, none⟩), .pointer (some ⟨bg, 0, none⟩), .pointer (some ⟨bh, 0, none⟩), .pointer (some ⟨gb, 0, none⟩)] bk n0
      (MixInv bk bn bg bh gb n0 n g h Ab cb sb) s (fun j => mixL g h (nth [] s j) (nth [] sb j) n) :=
  mix1_makes bk bn bg bh gb n0 n g h Ab cb sb s hs hb hn8 g1 g2 h1 h2 hl hs2 hgb hne hn1 hn2 hg1 hg2 hh1 hh2
theorem mixInv_kept (bk bn bg bh gb n0 n : Nat) (g h : Int) (Ab : Option Addr) (cb : Nat) (sb : List (List Int)) (l0 : bk < n0) (l1 : bn < n0) (l2 : bg < n0) (l3 : bh < n0) (l4 : gb < n0) (hne : gb ≠ bk) :
    InvKept n0 (MixInv bk bn bg bh gb n0 n g h Ab cb sb) := fun _ _ _ hi k =>
  ⟨hi.1.keep k l0, k.cell l1 hi.2.1, k.cell l2 hi.2.2.1, k.cell l3 hi.2.2.2.1, hi.2.2.2.2.keep l4 hne (k.weak fun _ hi => hi.1)⟩
theorem keep_set {W : World} {b : Nat} {v : Value} {a : Addr} {x : Value} (h : W.cell? a = some x) (hne : a.block ≠ b) : (W.setCell ⟨b, 0, none⟩ v).cell? a = some x := (Keep.of_grown1 (grown_setCell W b 0 v)).cell hne h
set_option maxHeartbeats 4000000 in
set_option maxRecDepth 100000 in
theorem mix_al (r : Int) (A : Option Addr) (c : Nat) (s : List (List Int)) (r2 : Int) (A2 : Option Addr) (c2 : Nat) (s2 : List (List Int)) (p q : Int) (w : World) (hG : GR w) (hS : R2 w A c s) (hS2 : R2 w A2 c2 s2)
    (hv : validB r s = true) (hv2 : validB r2 s2 = true) (hg : gainOk p q = true) (hal : alikeE r s r2 s2 ≠ 0) :
    Calls Tryd.prog 32 #[.agg #[.int .i64 r, .slice A s.length c], .agg #[.int .i64 r2, .slice A2 s2.length c2], .int .i64 p, .int .i64 q] w fun e w' => RetT w.heap.size (mixS r s r2 s2 p q) e w' ∧ Below w.heap.size w w' := by
  have hn := hS.len
  have hn2 := hS2.len
  have HP := Lib.hid (show mixS r s r2 s2 p q = (0, [], alikeE r s r2 s2) by simp [mixS, hv, hv2, hg, hal])
  obtain ⟨err, he⟩ : ∃ err, alikeE r s r2 s2 = err := ⟨_, rfl⟩
  rw [he] at hal HP
  have hb : (err != 0) = true := by simpa using hal
  have HE := Lib.hid he
  have hcase : (p < q ∧ ¬ q < p ∧ ¬ 1024 < q ∧ ¬ p < -1024) ∨ (¬ p < q ∧ q < p ∧ ¬ 1024 < p ∧ ¬ q < -1024) ∨ (¬ p < q ∧ ¬ q < p ∧ ¬ 1024 < p ∧ ¬ p < -1024) := by
    simp only [gainOk, Bool.and_eq_true, decide_eq_true_eq] at hg
    omega
  have H1 := Lib.hid (checkE_ok hv)
  have H2 := Lib.hid (checkE_ok hv2)
  clear hv hv2 hg hal he
  rcases hcase with ⟨a3, a4, a5, a6⟩ | ⟨a3, a4, a5, a6⟩ | ⟨a3, a4, a5, a6⟩
  all_goals
    go_enter Tryd.func32, Tryd.ntmps32
    go_wp2_with (first | ((with_reducible refine at_dst (N := 4) rfl ?_); refine ev_new #[.int .i64 r, .slice A s.length c] 24 rfl ?hr ?_; (case hr => first | (go_simp; done) | (go_simp; rfl)); intro g1 w1 eg1 zg1 b1 Bg1; skip) | ((with_reducible refine at_dst (N := 5) rfl ?_); refine ev_new #[.int .i64 r2, .slice A2 s2.length c2] 24 rfl ?hr ?_; (case hr => first | (go_simp; done) | (go_simp; rfl)); intro g3 w3 eg3 zg3 b3 Bg3; replace Bg1 := Bg1.below b3; replace b1 := below2 b1 b3) | ((with_reducible refine at_dst (N := 6) rfl ?_); refine ev_new #[.int .i64 p] 3 rfl ?hr ?_; (case hr => first | (go_simp; done) | (go_simp; rfl)); intro g4 w4 eg4 zg4 b4 Bg4; replace Bg1 := Bg1.below b4; replace Bg3 := Bg3.below b4; replace b1 := below2 b1 b4) | ((with_reducible refine at_dst (N := 7) rfl ?_); refine ev_new #[.int .i64 q] 3 rfl ?hr ?_; (case hr => first | (go_simp; done) | (go_simp; rfl)); intro g5 w5 eg5 zg5 b5 Bg5; replace Bg1 := Bg1.below b5; replace Bg3 := Bg3.below b5; replace Bg4 := Bg4.below b5; replace b1 := below2 b1 b5) | ((with_reducible refine at_dst (N := 8) rfl ?_); refine ev_new #[.int .i64 0, .slice none 0 0] 24 rfl ?hr ?_; (case hr => first | (go_simp; done) | (go_simp; rfl)); intro g2 w2 eg2 zg2 b2 Bg2; replace Bg1 := Bg1.below b2; replace Bg3 := Bg3.below b2; replace Bg4 := Bg4.below b2; replace Bg5 := Bg5.below b2; replace b1 := below2 b1 b2; have k0 := Bg1.cell 0 rfl; have k1 := Bg1.cell 1 rfl))
    refine (check_any r A c s _ (hG.below b1) (hS.below b1)).mono ?_
    rintro e w6 ⟨rfl, b6⟩
    rw [H1.out]
    replace Bg1 := Bg1.below b6
    replace Bg2 := Bg2.below b6
    replace Bg3 := Bg3.below b6
    have BX := below2 b1 b6
    clear k0 k1
    have k0 := Bg3.cell 0 rfl
    have k1 := Bg3.cell 1 rfl
    go_wp2_with fail
    refine (check_any r2 A2 c2 s2 _ (hG.below BX) (hS2.below BX)).mono ?_
    rintro e w7 ⟨rfl, b7⟩
    rw [H2.out]
    replace Bg1 := Bg1.below b7
    replace Bg2 := Bg2.below b7
    replace Bg3 := Bg3.below b7
    replace BX := below2 BX b7
    clear k0 k1
    replace Bg4 := (Bg4.below b6).below b7
    replace Bg5 := (Bg5.below b6).below b7
    have k0 := Bg1.cell 0 rfl
    have k1 := Bg1.cell 1 rfl
    have k2 := Bg3.cell 0 rfl
    have k3 := Bg3.cell 1 rfl
    have k4 := Bg4.cell 0 rfl
    have k5 := Bg5.cell 0 rfl
    have G2 : w.heap.size ≤ g2 := by have := eg2.out; have := zg5.out; have := eg5.out; have := zg4.out; have := eg4.out; have := zg3.out; have := eg3.out; have := zg1.out; have := eg1.out; omega
    go_wp2_with (first | (go_at_call 73; refine (alike_any _ _ _ _ _ _ _ _ _ (hG.below BX) (hS.below BX) (hS2.below BX)).mono ?_; rintro e w8 ⟨rfl, b8⟩; rw [HE.out]; replace BX := below2 BX b8; replace Bg2 := Bg2.below b8) | ((with_reducible refine at_store (p := 8) rfl ?_); (refine ev_put #[.int .i64 0, .slice none 0 0] rfl 24 (.tmp 8) (.tmp 39) rfl g2 24 _ rfl rfl Bg2 sizeS rfl rfl ?_); intro wf Bq hqf hzf; have z0 := Bq.cell 0 rfl; have z1 := Bq.cell 1 rfl))
    refine bodyPost_ret (v := .tuple #[.agg #[.int .i64 0, .slice none 0 0], .int .i64 err]) (by simp [results, Tryd.results32, go_sem, z0, z1]) rfl ⟨?_, ?_⟩
    · rw [HP.out]; exact RetT.none _ _ _
    · exact below_grown BX BX.size hqf (fun k e => by have := Option.some.inj e; omega)

set_option maxHeartbeats 4000000 in
set_option maxRecDepth 100000 in
theorem mix_ok (r : Int) (A : Option Addr) (c : Nat) (s : List (List Int)) (r2 : Int) (A2 : Option Addr) (c2 : Nat) (s2 : List (List Int)) (p q : Int) (w : World) (hG : GR w) (hS : R2 w A c s) (hS2 : R2 w A2 c2 s2)
    (hv : validB r s = true) (hv2 : validB r2 s2 = true) (hg : gainOk p q = true) (hal : alikeE r s r2 s2 = 0) :
    Calls Tryd.prog 32 #[.agg #[.int .i64 r, .slice A s.length c], .agg #[.int .i64 r2, .slice A2 s2.length c2], .int .i64 p, .int .i64 q] w fun e w' => RetT w.heap.size (mixS r s r2 s2 p q) e w' ∧ Below w.heap.size w w' := by
  have hn := hS.len
  have hn2 := hS2.len
  have HP0 := (show mixS r s r2 s2 p q = (r, (List.range s.length).map (fun j => mixL p q (nth [] s j) (nth [] s2 j) (max (len0 s) (len0 s2))), 0) by simp [mixS, hv, hv2, hg, hal])
  obtain ⟨V, V2, hl, hr⟩ := alike_ok hal
  have H := Lib.hid hal
  have hcase : (p < q ∧ ¬ q < p ∧ ¬ 1024 < q ∧ ¬ p < -1024) ∨ (¬ p < q ∧ q < p ∧ ¬ 1024 < p ∧ ¬ q < -1024) ∨ (¬ p < q ∧ ¬ q < p ∧ ¬ 1024 < p ∧ ¬ p < -1024) := by
    simp only [gainOk, Bool.and_eq_true, decide_eq_true_eq] at hg
    omega
  obtain ⟨N, hN⟩ : ∃ N, max (len0 s) (len0 s2) = N := ⟨_, rfl⟩
  rw [hN] at HP0
  have HP := Lib.hid HP0
  have H1 := Lib.hid (checkE_ok hv)
  have H2 := Lib.hid (checkE_ok hv2)
  have h1 := V.one
  have h2 := V.two
  have h3 := V.len
  have h12 := V2.one
  have h32 := V2.len
  have hN8 : N ≤ 8192 := by omega
  have HL := Lib.hid hl
  have HG1 : Hid (p ≤ 1024 ∧ q ≤ 1024 ∧ -1024 ≤ p ∧ -1024 ≤ q) := by
    simp only [gainOk, Bool.and_eq_true, decide_eq_true_eq] at hg
    exact Lib.hid (by omega)
  have hlen : (¬ len0 s < len0 s2 ∧ len0 s = N) ∨ (len0 s < len0 s2 ∧ len0 s2 = N) := by omega
  clear hv hv2 hg hal hl hr HP0
  have HN := Lib.hid hN
  clear hN
  rcases hlen with ⟨m1, m2⟩ | ⟨m1, m2⟩ <;> rcases hcase with ⟨a3, a4, a5, a6⟩ | ⟨a3, a4, a5, a6⟩ | ⟨a3, a4, a5, a6⟩
  all_goals
    go_enter Tryd.func32, Tryd.ntmps32
    go_wp2_with (first | ((with_reducible refine at_dst (N := 4) rfl ?_); refine ev_new #[.int .i64 r, .slice A s.length c] 24 rfl ?hr ?_; (case hr => first | (go_simp; done) | (go_simp; rfl)); intro g1 w1 eg1 zg1 b1 Bg1; skip) | ((with_reducible refine at_dst (N := 5) rfl ?_); refine ev_new #[.int .i64 r2, .slice A2 s2.length c2] 24 rfl ?hr ?_; (case hr => first | (go_simp; done) | (go_simp; rfl)); intro g3 w3 eg3 zg3 b3 Bg3; replace Bg1 := Bg1.below b3; replace b1 := below2 b1 b3) | ((with_reducible refine at_dst (N := 6) rfl ?_); refine ev_new #[.int .i64 p] 3 rfl ?hr ?_; (case hr => first | (go_simp; done) | (go_simp; rfl)); intro g4 w4 eg4 zg4 b4 Bg4; replace Bg1 := Bg1.below b4; replace Bg3 := Bg3.below b4; replace b1 := below2 b1 b4) | ((with_reducible refine at_dst (N := 7) rfl ?_); refine ev_new #[.int .i64 q] 3 rfl ?hr ?_; (case hr => first | (go_simp; done) | (go_simp; rfl)); intro g5 w5 eg5 zg5 b5 Bg5; replace Bg1 := Bg1.below b5; replace Bg3 := Bg3.below b5; replace Bg4 := Bg4.below b5; replace b1 := below2 b1 b5) | ((with_reducible refine at_dst (N := 8) rfl ?_); refine ev_new #[.int .i64 0, .slice none 0 0] 24 rfl ?hr ?_; (case hr => first | (go_simp; done) | (go_simp; rfl)); intro g2 w2 eg2 zg2 b2 Bg2; replace Bg1 := Bg1.below b2; replace Bg3 := Bg3.below b2; replace Bg4 := Bg4.below b2; replace Bg5 := Bg5.below b2; replace b1 := below2 b1 b2; have k0 := Bg1.cell 0 rfl; have k1 := Bg1.cell 1 rfl))
    refine (check_any r A c s _ (hG.below b1) (hS.below b1)).mono ?_
    rintro e w6 ⟨rfl, b6⟩
    rw [H1.out]
    replace Bg1 := Bg1.below b6
    replace Bg2 := Bg2.below b6
    replace Bg3 := Bg3.below b6
    have BX := below2 b1 b6
    clear k0 k1
    have k0 := Bg3.cell 0 rfl
    have k1 := Bg3.cell 1 rfl
    go_wp2_with fail
    refine (check_any r2 A2 c2 s2 _ (hG.below BX) (hS2.below BX)).mono ?_
    rintro e w7 ⟨rfl, b7⟩
    rw [H2.out]
    replace Bg1 := Bg1.below b7
    replace Bg2 := Bg2.below b7
    replace Bg3 := Bg3.below b7
    replace BX := below2 BX b7
    clear k0 k1
    replace Bg4 := (Bg4.below b6).below b7
    replace Bg5 := (Bg5.below b6).below b7
    have k0 := Bg1.cell 0 rfl
    have k1 := Bg1.cell 1 rfl
    have k2 := Bg3.cell 0 rfl
    have k3 := Bg3.cell 1 rfl
    have k4 := Bg4.cell 0 rfl
    have k5 := Bg5.cell 0 rfl
    have G2 : w.heap.size ≤ g2 := by have := eg2.out; have := zg5.out; have := eg5.out; have := zg4.out; have := eg4.out; have := zg3.out; have := eg3.out; have := zg1.out; have := eg1.out; omega
    have M2 := Lib.hid m2
    clear m2
    have tok : True := trivial
    go_wp2_with (first | (go_at_call 73; refine (alike_any _ _ _ _ _ _ _ _ _ (hG.below BX) (hS.below BX) (hS2.below BX)).mono ?_; rintro e w8 ⟨rfl, b8⟩; rw [H.out]; replace BX := below2 BX b8; replace Bg1 := Bg1.below b8; replace Bg2 := Bg2.below b8; replace Bg3 := Bg3.below b8; replace Bg4 := Bg4.below b8; replace Bg5 := Bg5.below b8; clear k0 k1 k2 k3 k4 k5; have k0 : w8.cell? ⟨g1, 0, none⟩ = some (.int .i64 r) := Bg1.cell 0 rfl; have k1 : w8.cell? ⟨g1, 1, none⟩ = some (.slice A s.length c) := Bg1.cell 1 rfl; have k2 : w8.cell? ⟨g3, 0, none⟩ = some (.int .i64 r2) := Bg3.cell 0 rfl; have k3 : w8.cell? ⟨g3, 1, none⟩ = some (.slice A2 s2.length c2) := Bg3.cell 1 rfl))
    have lt1 : g1 < w8.heap.size := Bg1.lt
    have lt3 : g3 < w8.heap.size := Bg3.lt
    have e18 : g1 ≠ w8.heap.size := by omega
    have e38 : g3 ≠ w8.heap.size := by omega
    go_upto_region 6 with fail
    go_cut [11] (fun s11 wx => ∃ g : Nat, s11 = .pointer (some ⟨g, 0, none⟩) ∧ Blk wx g #[.int .i64 N] 3 ∧ Below w8.heap.size w8 wx ∧ w8.heap.size ≤ g)
    case first =>
      go_region_held3 (fun W => W.cell? ⟨g1, 0, none⟩ = some (.int .i64 r) ∧ W.cell? ⟨g1, 1, none⟩ = some (.slice A s.length c) ∧ W.cell? ⟨g3, 0, none⟩ = some (.int .i64 r2) ∧ W.cell? ⟨g3, 1, none⟩ = some (.slice A2 s2.length c2)) (first | go_keep | exact ⟨keep_set q0 e19, keep_set q1 e19, keep_set q2 e39, keep_set q3 e39⟩ | exact ⟨keep_set q0 e18, keep_set q1 e18, keep_set q2 e38, keep_set q3 e38⟩) (first | (go_at_call 52; have _t := tok; refine (size_any r A c s _ ?h1 h1).mono ?_; (case h1 => first | exact hS.below (BX.drew) | exact hS.below (below_alloc BX.drew _)); clear tok; rintro e w9 ⟨rfl, b9⟩; have b89 : Below w8.heap.size w8 w9 := (by first | exact (Below.refl w8.heap.size w8).drew.trans b9 | exact below2 (below_alloc (Below.refl w8.heap.size w8).drew _) b9); have s9 := b89.size; have e19 : g1 ≠ w9.heap.size := (by omega); have e39 : g3 ≠ w9.heap.size := (by omega); have q0 := cell_below b89 k0; have q1 := cell_below b89 k1; have q2 := cell_below b89 k2; have q3 := cell_below b89 k3; (try (have Bn : Blk w9 w8.heap.size #[.int .i64 0] 3 := Blk.below (w := w8.alloc (.cells #[.int .i64 0] 3 (0, 0))) (heap_alloc_new _ (.cells #[.int .i64 0] 3 (0, 0))) ((Below.refl _ _).drew.trans b9); have d0 := Bn.cell 0 rfl; have f0 := Bn.free 0; have ln := Bn.lt))) | (go_at_call 52; refine (size_any r2 A2 c2 s2 _ ?h1 h12).mono ?_; (case h1 => first | exact hS2.below (below2 BX b89) | exact hS2.below (below_alloc (below2 BX b89) _)); rintro e w10 ⟨rfl, b10⟩; have b80 : Below w8.heap.size w8 w10 := (by first | exact below2 b89 b10 | exact below2 (below_alloc b89 _) b10); replace q0 := cell_below b80 k0; replace q1 := cell_below b80 k1; replace q2 := cell_below b80 k2; replace q3 := cell_below b80 k3; (first | (replace Bn := Bn.below b10; clear d0 f0 ln; have d0 := Bn.cell 0 rfl; have f0 := Bn.free 0; have ln := Bn.lt) | (try (have Bn := Blk.below (heap_alloc_new _ (.cells #[.int .i64 0] 3 (0, 0))) b10; have d0 := Bn.cell 0 rfl; have f0 := Bn.free 0; have ln := Bn.lt)))))
      all_goals
        rw [M2.out]
        go_wp2_with fail
        go_meet
        have s0 := b80.size
        first
          | exact ⟨_, rfl, by simpa using Bn.set 0 (.int .i64 N), below_grown b80 b80.size (grown_setCell _ _ 0 _) (fun k e => by have := Option.some.inj e; omega), by omega⟩
          | exact ⟨_, rfl, heap_alloc_new _ _, below_alloc b80 _, b80.size⟩
    case rest =>
      obtain ⟨g11, rfl, B11, b8x, s8x⟩ := hcut
      have BY := below2 BX b8x
      replace Bg1 := Bg1.below b8x
      replace Bg2 := Bg2.below b8x
      replace Bg3 := Bg3.below b8x
      replace Bg4 := Bg4.below b8x
      replace Bg5 := Bg5.below b8x
      clear k0 k1 k2 k3
      have lt11 := B11.lt
      have lt2 := Bg2.lt
      have lt4 := Bg4.lt
      have lt5 := Bg5.lt
      have hsz := b8x.size
      have hszw := BX.size
      replace lt1 := Nat.lt_of_lt_of_le lt1 hsz
      replace lt3 := Nat.lt_of_lt_of_le lt3 hsz
      go_wp2_with (first | ((with_reducible refine at_dst (N := 12) rfl ?_); refine ev_new #[.int .i64 0] 3 rfl ?hr ?_; (case hr => first | (go_simp; done) | (go_simp; rfl)); intro g12 w12 eg12 zg12 b12 Bg12; replace Bg1 := Bg1.below b12; replace Bg2 := Bg2.below b12; replace Bg3 := Bg3.below b12; replace Bg4 := Bg4.below b12; replace Bg5 := Bg5.below b12; replace B11 := B11.below b12; have BX7 := below2 BY b12; have n1 : g1 ≠ g12 := (by have := eg12.out; omega); have n2 : g2 ≠ g12 := (by have := eg12.out; omega); have n3 : g3 ≠ g12 := (by have := eg12.out; omega); have n4 : g4 ≠ g12 := (by have := eg12.out; omega); have n5 : g5 ≠ g12 := (by have := eg12.out; omega); have n11 : g11 ≠ g12 := (by have := eg12.out; omega)) | ((with_reducible refine at_store (p := 12) rfl ?_); (refine ev_put1 (.int .i64 (-1)) 0 rfl 3 (.tmp 12) (.const (.int .i64 (-1))) rfl g12 3 #[.int .i64 0] rfl rfl Bg12 sizeI (by simp) rfl ?_); intro w13 Bh hg13 hz13; have kk := Keep.of_grown1 hg13; replace Bg1 := Bg1.keep kk n1; replace Bg2 := Bg2.keep kk n2; replace Bg3 := Bg3.keep kk n3; replace Bg4 := Bg4.keep kk n4; replace Bg5 := Bg5.keep kk n5; replace B11 := B11.keep kk n11; have k0 := Bg1.cell 0 rfl; have k1 := Bg1.cell 1 rfl))
      have ge12 := eg12.out
      have g2lt : g2 < w13.heap.size := Bg2.lt
      have g12le : w.heap.size ≤ g12 := by omega
      have hSa := (hS.apart BX7 g12le).keep (Keep.of_grown1 hg13)
      have hSb := ((hS2.apart BX7 g12le).keep (Keep.of_grown1 hg13)).weak (ok' := fun b => b < w13.heap.size ∧ b ≠ g12) fun b hb ho => ⟨hb, ho⟩
      have hI0 : Blk w13 g12 #[.int .i64 (((0 : Nat) : Int) - 1)] 3 := by simpa using Bh
      have hg := HG1.out
      have E4 := V.smp
      have E5 := V2.smp
      have M0 := mix1_run g12 g11 g4 g5 g3 w13.heap.size N p q A2 c2 s2 s E4 E5 hN8 hg.2.2.1 hg.1 hg.2.2.2 hg.2.1 HL.out h2 Bg3.lt n3 B11.lt n11 Bg4.lt n4 Bg5.lt n5
      have K0 := mixInv_kept g12 g11 g4 g5 g3 w13.heap.size N p q A2 c2 s2 Bh.lt B11.lt Bg4.lt Bg5.lt Bg3.lt n3
      have I0 : MixInv g12 g11 g4 g5 g3 w13.heap.size N p q A2 c2 s2 0 w13 := ⟨hI0, B11.cell 0 rfl, Bg4.cell 0 rfl, Bg5.cell 0 rfl, Bg3.cell 1 rfl, hSb⟩
      refine (change_Mix _ g12 _ _ r A c s w13 hSa Bh.lt M0 K0 I0 h2).mono ?_
      rintro e w9 ⟨A', c', rfl, hSl, hg9, _⟩
      replace Bg2 := Bg2.keep (Keep.of_grown1 hg9) n2
      go_wp2_with (((with_reducible refine at_store (p := 8) rfl ?_); (refine ev_put #[.int .i64 r, .slice A' s.length c'] rfl 24 (.tmp 8) (.tmp 48) rfl g2 24 _ rfl rfl Bg2 sizeS rfl rfl ?_); intro wf Bq hqf hzf; have z0 := Bq.cell 0 rfl; have z1 := Bq.cell 1 rfl))
      refine bodyPost_ret (v := .tuple #[.agg #[.int .i64 r, .slice A' s.length c'], .int .i64 0]) (by simp [results, Tryd.results32, go_sem, z0, z1]) rfl ⟨?_, ?_⟩
      · rw [HP.out]
        refine ⟨A', c', by simp, ?_⟩
        have hlt : w.heap.size ≤ w13.heap.size := Nat.le_trans BX7.size hg13.size
        exact (hSl.keep ((Keep.of_grown1 hqf).weak fun b hb => by omega)).weak fun b _ hb => by omega
      · exact below_grown (below_grown (below_grown BX7 BX7.size hg13 (fun k e => by have := Option.some.inj e; omega)) (Nat.le_trans BX7.size hg13.size) hg9 (fun k e => by have := Option.some.inj e; omega)) (Nat.le_trans (Nat.le_trans BX7.size hg13.size) hg9.size) hqf (fun k e => by have := Option.some.inj e; omega)

set_option maxRecDepth 10000 in
theorem mix_T (r : Int) (A : Option Addr) (c : Nat) (s : List (List Int)) (r2 : Int) (A2 : Option Addr) (c2 : Nat) (s2 : List (List Int)) (p q : Int) (w : World) (hG : GR w) (hS : R2 w A c s) (hS2 : R2 w A2 c2 s2) :
    Calls Tryd.prog 32 #[.agg #[.int .i64 r, .slice A s.length c], .agg #[.int .i64 r2, .slice A2 s2.length c2], .int .i64 p, .int .i64 q] w fun e w' => RetT w.heap.size (mixS r s r2 s2 p q) e w' ∧ Below w.heap.size w w' := by
  cases hv : (validB r s && validB r2 s2 && gainOk p q)
  · exact mix_bad r A c s r2 A2 c2 s2 p q w hG hS hS2 hv
  · simp only [Bool.and_eq_true] at hv
    by_cases h : alikeE r s r2 s2 = 0
    · exact mix_ok r A c s r2 A2 c2 s2 p q w hG hS hS2 hv.1.1 hv.1.2 hv.2 h
    · exact mix_al r A c s r2 A2 c2 s2 p q w hG hS hS2 hv.1.1 hv.1.2 hv.2 h
theorem mix_any (r : Int) (A : Option Addr) (c : Nat) (s : List (List Int)) (r2 : Int) (A2 : Option Addr) (c2 : Nat) (s2 : List (List Int)) (p q : Int) (w : World) (hG : GR w) (hS : R2 w A c s) (hS2 : R2 w A2 c2 s2) :
    Calls Tryd.prog 32 #[.agg #[.int .i64 r, .slice A s.length c], .agg #[.int .i64 r2, .slice A2 s2.length c2], .int .i64 p, .int .i64 q] w fun e w' => RetS w.heap.size (mixS r s r2 s2 p q) e w' ∧ Below w.heap.size w w' :=
  (mix_T r A c s r2 A2 c2 s2 p q w hG hS hS2).mono fun _ _ h => ⟨h.1.toS, h.2⟩
end Go.Proofs.YtijcecakofmhcaaDoor
