/- pcm: Cut: what the call returns, for any sound and positions. -/
import Derived.Test.YtijcecakofmhcaaDoorPcmH
import Derived.Test.YtijcecakofmhcaaDoorPcmE
import Derived.Test.YtijcecakofmhcaaDoorPcmF
namespace Go.Proofs.YtijcecakofmhcaaDoor
open Go.RowKit

theorem cut_map (s : List (List Int)) (a b : Nat) : (List.range s.length).map (fun j => ((nth [] s j).take b).drop a) = s.map (fun c => (c.take b).drop a) := by
  apply List.ext_getElem
  · simp
  · intro i h1 h2
    simp at h1
    simp [nth_eq [] s i h1]
set_option maxHeartbeats 1000000 in
set_option maxRecDepth 100000 in
theorem cut_no (r : Int) (A : Option Addr) (c : Nat) (s : List (List Int)) (a b : Int) (w : World) (hG : GR w) (hS : R2 w A c s) (hv : validB r s = false) :
    Calls Tryd.prog 30 #[.agg #[.int .i64 r, .slice A s.length c], .int .i64 a, .int .i64 b] w fun e w' => RetT w.heap.size (cutS r s a b) e w' ∧ Below w.heap.size w w' := by
  have hn := hS.len
  have H := Lib.hid (checkE_no hv)
  have HP := Lib.hid (show cutS r s a b = (0, [], 1) by simp [cutS, hv])
  clear hv
  go_enter Tryd.func30, Tryd.ntmps30
  go_wp2_with (first | ((with_reducible refine at_dst (N := 3) rfl ?_); refine ev_new #[.int .i64 r, .slice A s.length c] 24 rfl ?hr ?_; (case hr => first | (go_simp; done) | (go_simp; rfl)); intro g1 w1 eg1 zg1 b1 Bg1; have k0 := Bg1.cell 0 rfl; have k1 := Bg1.cell 1 rfl) | ((with_reducible refine at_dst (N := 4) rfl ?_); refine ev_new #[.int .i64 a] 3 rfl ?hr ?_; (case hr => first | (go_simp; done) | (go_simp; rfl)); intro g4 w4 eg4 zg4 b4 Bg4; replace Bg1 := Bg1.below b4; replace b1 := below2 b1 b4) | ((with_reducible refine at_dst (N := 5) rfl ?_); refine ev_new #[.int .i64 b] 3 rfl ?hr ?_; (case hr => first | (go_simp; done) | (go_simp; rfl)); intro g5 w5 eg5 zg5 b5 Bg5; replace Bg1 := Bg1.below b5; replace b1 := below2 b1 b5) | ((with_reducible refine at_dst (N := 6) rfl ?_); refine ev_new #[.int .i64 0, .slice none 0 0] 24 rfl ?hr ?_; (case hr => first | (go_simp; done) | (go_simp; rfl)); intro g2 w2 eg2 zg2 b2 Bg2; replace Bg1 := Bg1.below b2; replace b1 := below2 b1 b2; clear k0 k1; have k0 := Bg1.cell 0 rfl; have k1 := Bg1.cell 1 rfl) | (go_at_call 48; refine (check_any _ _ _ _ _ (hG.below b1) (hS.below b1)).mono ?_; rintro e w3 ⟨rfl, b3⟩; rw [H.out]; replace Bg2 := Bg2.below b3) | ((with_reducible refine at_store (p := 6) rfl ?_); (refine ev_put #[.int .i64 0, .slice none 0 0] rfl 24 (.tmp 6) (.tmp 13) rfl g2 24 _ rfl rfl Bg2 sizeS rfl rfl ?_); intro w4 Bq hq4 hz4; have z0 := Bq.cell 0 rfl; have z1 := Bq.cell 1 rfl))
  refine bodyPost_ret (v := .tuple #[.agg #[.int .i64 0, .slice none 0 0], .int .i64 1]) (by simp [results, Tryd.results30, go_sem, z0, z1]) rfl ⟨?_, ?_⟩
  · rw [HP.out]; exact RetT.none _ _ _
  · exact below_grown (below2 b1 b3) (below2 b1 b3).size hq4 (fun k e => by have := Option.some.inj e; have := eg2.out; have := zg5.out; have := eg5.out; have := zg4.out; have := eg4.out; have := zg1.out; have := eg1.out; omega)

set_option maxHeartbeats 2000000 in
set_option maxRecDepth 100000 in
theorem cut_yes (r : Int) (A : Option Addr) (c : Nat) (s : List (List Int)) (a b : Int) (w : World) (hG : GR w) (hS : R2 w A c s) (hv : validB r s = true) :
    Calls Tryd.prog 30 #[.agg #[.int .i64 r, .slice A s.length c], .int .i64 a, .int .i64 b] w fun e w' => RetT w.heap.size (cutS r s a b) e w' ∧ Below w.heap.size w w' := by
  have hn := hS.len
  have V := valid_facts hv
  have h1 := V.one
  have h3 := V.len
  have H := Lib.hid (checkE_ok hv)
  have hcase : a < 0 ∨ (0 ≤ a ∧ b < a) ∨ (0 ≤ a ∧ a ≤ b ∧ (len0 s : Int) < b) ∨ (0 ≤ a ∧ a ≤ b ∧ b ≤ (len0 s : Int)) := by omega
  rcases hcase with h | ⟨h0, h⟩ | ⟨h0, h', h⟩ | ⟨h0, h', h⟩
  · have HP := Lib.hid (show cutS r s a b = (0, [], 6) by simp [cutS, hv, cutOk]; omega)
    clear hv
    have hd1 : decide (a < 0) = true := decide_eq_true h
    go_enter Tryd.func30, Tryd.ntmps30
    go_wp2_with (first | ((with_reducible refine at_dst (N := 3) rfl ?_); refine ev_new #[.int .i64 r, .slice A s.length c] 24 rfl ?hr ?_; (case hr => first | (go_simp; done) | (go_simp; rfl)); intro g1 w1 eg1 zg1 b1 Bg1; have k0 := Bg1.cell 0 rfl; have k1 := Bg1.cell 1 rfl) | ((with_reducible refine at_dst (N := 4) rfl ?_); refine ev_new #[.int .i64 a] 3 rfl ?hr ?_; (case hr => first | (go_simp; done) | (go_simp; rfl)); intro g4 w4 eg4 zg4 b4 Bg4; replace Bg1 := Bg1.below b4; replace b1 := below2 b1 b4) | ((with_reducible refine at_dst (N := 5) rfl ?_); refine ev_new #[.int .i64 b] 3 rfl ?hr ?_; (case hr => first | (go_simp; done) | (go_simp; rfl)); intro g5 w5 eg5 zg5 b5 Bg5; replace Bg1 := Bg1.below b5; replace b1 := below2 b1 b5; replace Bg4 := Bg4.below b5) | ((with_reducible refine at_dst (N := 6) rfl ?_); refine ev_new #[.int .i64 0, .slice none 0 0] 24 rfl ?hr ?_; (case hr => first | (go_simp; done) | (go_simp; rfl)); intro g2 w2 eg2 zg2 b2 Bg2; replace Bg1 := Bg1.below b2; replace Bg4 := Bg4.below b2; replace Bg5 := Bg5.below b2; replace b1 := below2 b1 b2; clear k0 k1; have k0 := Bg1.cell 0 rfl; have k1 := Bg1.cell 1 rfl) | (go_at_call 48; refine (check_any _ _ _ _ _ (hG.below b1) (hS.below b1)).mono ?_; rintro e w3 ⟨rfl, b3⟩; rw [H.out]; have g2le : w.heap.size ≤ g2 := (by have := eg2.out; have := zg5.out; have := eg5.out; have := zg4.out; have := eg4.out; have := zg1.out; have := eg1.out; omega); replace b1 := below2 b1 b3; replace Bg1 := Bg1.below b3; replace Bg2 := Bg2.below b3; replace Bg4 := Bg4.below b3; replace Bg5 := Bg5.below b3; clear k0 k1; have k0 : w3.cell? ⟨g1, 0, none⟩ = some (.int .i64 r) := Bg1.cell 0 rfl; have k1 : w3.cell? ⟨g1, 1, none⟩ = some (.slice A s.length c) := Bg1.cell 1 rfl; have k4 : w3.cell? ⟨g4, 0, none⟩ = some (.int .i64 a) := Bg4.cell 0 rfl; have k5 : w3.cell? ⟨g5, 0, none⟩ = some (.int .i64 b) := Bg5.cell 0 rfl))
    go_quiet (fail)
    have BX := below_drewN b1 nq
    replace Bg2 := Bg2.below (below_drewN (Below.refl w3.heap.size w3) nq)
    go_wp2_with (((with_reducible refine at_store (p := 6) rfl ?_); (refine ev_put #[.int .i64 0, .slice none 0 0] rfl 24 (.tmp 6) (.tmp 28) rfl g2 24 _ rfl rfl Bg2 sizeS rfl rfl ?_); intro w7 Bq hq4 hz4; have z0 := Bq.cell 0 rfl; have z1 := Bq.cell 1 rfl))
    refine bodyPost_ret (v := .tuple #[.agg #[.int .i64 0, .slice none 0 0], .int .i64 6]) (by simp [results, Tryd.results30, go_sem, z0, z1]) rfl ⟨?_, ?_⟩
    · rw [HP.out]; exact RetT.none _ _ _
    · exact below_grown BX BX.size hq4 (fun k e => by have := Option.some.inj e; omega)
  · have HP := Lib.hid (show cutS r s a b = (0, [], 6) by simp [cutS, hv, cutOk]; omega)
    clear hv
    have hd1 : decide (a < 0) = false := decide_eq_false (by omega)
    have hd2 : decide (b < a) = true := decide_eq_true h
    go_enter Tryd.func30, Tryd.ntmps30
    go_wp2_with (first | ((with_reducible refine at_dst (N := 3) rfl ?_); refine ev_new #[.int .i64 r, .slice A s.length c] 24 rfl ?hr ?_; (case hr => first | (go_simp; done) | (go_simp; rfl)); intro g1 w1 eg1 zg1 b1 Bg1; have k0 := Bg1.cell 0 rfl; have k1 := Bg1.cell 1 rfl) | ((with_reducible refine at_dst (N := 4) rfl ?_); refine ev_new #[.int .i64 a] 3 rfl ?hr ?_; (case hr => first | (go_simp; done) | (go_simp; rfl)); intro g4 w4 eg4 zg4 b4 Bg4; replace Bg1 := Bg1.below b4; replace b1 := below2 b1 b4) | ((with_reducible refine at_dst (N := 5) rfl ?_); refine ev_new #[.int .i64 b] 3 rfl ?hr ?_; (case hr => first | (go_simp; done) | (go_simp; rfl)); intro g5 w5 eg5 zg5 b5 Bg5; replace Bg1 := Bg1.below b5; replace b1 := below2 b1 b5; replace Bg4 := Bg4.below b5) | ((with_reducible refine at_dst (N := 6) rfl ?_); refine ev_new #[.int .i64 0, .slice none 0 0] 24 rfl ?hr ?_; (case hr => first | (go_simp; done) | (go_simp; rfl)); intro g2 w2 eg2 zg2 b2 Bg2; replace Bg1 := Bg1.below b2; replace Bg4 := Bg4.below b2; replace Bg5 := Bg5.below b2; replace b1 := below2 b1 b2; clear k0 k1; have k0 := Bg1.cell 0 rfl; have k1 := Bg1.cell 1 rfl) | (go_at_call 48; refine (check_any _ _ _ _ _ (hG.below b1) (hS.below b1)).mono ?_; rintro e w3 ⟨rfl, b3⟩; rw [H.out]; have g2le : w.heap.size ≤ g2 := (by have := eg2.out; have := zg5.out; have := eg5.out; have := zg4.out; have := eg4.out; have := zg1.out; have := eg1.out; omega); replace b1 := below2 b1 b3; replace Bg1 := Bg1.below b3; replace Bg2 := Bg2.below b3; replace Bg4 := Bg4.below b3; replace Bg5 := Bg5.below b3; clear k0 k1; have k0 : w3.cell? ⟨g1, 0, none⟩ = some (.int .i64 r) := Bg1.cell 0 rfl; have k1 : w3.cell? ⟨g1, 1, none⟩ = some (.slice A s.length c) := Bg1.cell 1 rfl; have k4 : w3.cell? ⟨g4, 0, none⟩ = some (.int .i64 a) := Bg4.cell 0 rfl; have k5 : w3.cell? ⟨g5, 0, none⟩ = some (.int .i64 b) := Bg5.cell 0 rfl))
    go_quiet (fail)
    have BX := below_drewN b1 nq
    replace Bg2 := Bg2.below (below_drewN (Below.refl w3.heap.size w3) nq)
    go_wp2_with (((with_reducible refine at_store (p := 6) rfl ?_); (refine ev_put #[.int .i64 0, .slice none 0 0] rfl 24 (.tmp 6) (.tmp 28) rfl g2 24 _ rfl rfl Bg2 sizeS rfl rfl ?_); intro w7 Bq hq4 hz4; have z0 := Bq.cell 0 rfl; have z1 := Bq.cell 1 rfl))
    refine bodyPost_ret (v := .tuple #[.agg #[.int .i64 0, .slice none 0 0], .int .i64 6]) (by simp [results, Tryd.results30, go_sem, z0, z1]) rfl ⟨?_, ?_⟩
    · rw [HP.out]; exact RetT.none _ _ _
    · exact below_grown BX BX.size hq4 (fun k e => by have := Option.some.inj e; omega)
  · have HP := Lib.hid (show cutS r s a b = (0, [], 6) by simp [cutS, hv, cutOk]; omega)
    clear hv
    have hd1 : decide (a < 0) = false := decide_eq_false (by omega)
    have hd2 : decide (b < a) = false := decide_eq_false (by omega)
    have hd3 : decide ((len0 s : Int) < b) = true := decide_eq_true h
    go_enter Tryd.func30, Tryd.ntmps30
    go_wp2_with (first | ((with_reducible refine at_dst (N := 3) rfl ?_); refine ev_new #[.int .i64 r, .slice A s.length c] 24 rfl ?hr ?_; (case hr => first | (go_simp; done) | (go_simp; rfl)); intro g1 w1 eg1 zg1 b1 Bg1; have k0 := Bg1.cell 0 rfl; have k1 := Bg1.cell 1 rfl) | ((with_reducible refine at_dst (N := 4) rfl ?_); refine ev_new #[.int .i64 a] 3 rfl ?hr ?_; (case hr => first | (go_simp; done) | (go_simp; rfl)); intro g4 w4 eg4 zg4 b4 Bg4; replace Bg1 := Bg1.below b4; replace b1 := below2 b1 b4) | ((with_reducible refine at_dst (N := 5) rfl ?_); refine ev_new #[.int .i64 b] 3 rfl ?hr ?_; (case hr => first | (go_simp; done) | (go_simp; rfl)); intro g5 w5 eg5 zg5 b5 Bg5; replace Bg1 := Bg1.below b5; replace b1 := below2 b1 b5; replace Bg4 := Bg4.below b5) | ((with_reducible refine at_dst (N := 6) rfl ?_); refine ev_new #[.int .i64 0, .slice none 0 0] 24 rfl ?hr ?_; (case hr => first | (go_simp; done) | (go_simp; rfl)); intro g2 w2 eg2 zg2 b2 Bg2; replace Bg1 := Bg1.below b2; replace Bg4 := Bg4.below b2; replace Bg5 := Bg5.below b2; replace b1 := below2 b1 b2; clear k0 k1; have k0 := Bg1.cell 0 rfl; have k1 := Bg1.cell 1 rfl) | (go_at_call 48; refine (check_any _ _ _ _ _ (hG.below b1) (hS.below b1)).mono ?_; rintro e w3 ⟨rfl, b3⟩; rw [H.out]; have g2le : w.heap.size ≤ g2 := (by have := eg2.out; have := zg5.out; have := eg5.out; have := zg4.out; have := eg4.out; have := zg1.out; have := eg1.out; omega); replace b1 := below2 b1 b3; replace Bg1 := Bg1.below b3; replace Bg2 := Bg2.below b3; replace Bg4 := Bg4.below b3; replace Bg5 := Bg5.below b3; clear k0 k1; have k0 : w3.cell? ⟨g1, 0, none⟩ = some (.int .i64 r) := Bg1.cell 0 rfl; have k1 : w3.cell? ⟨g1, 1, none⟩ = some (.slice A s.length c) := Bg1.cell 1 rfl; have k4 : w3.cell? ⟨g4, 0, none⟩ = some (.int .i64 a) := Bg4.cell 0 rfl; have k5 : w3.cell? ⟨g5, 0, none⟩ = some (.int .i64 b) := Bg5.cell 0 rfl))
    go_region_held3 (fun W => W.cell? ⟨g1, 0, none⟩ = some (.int .i64 r) ∧ W.cell? ⟨g1, 1, none⟩ = some (.slice A s.length c) ∧ W.cell? ⟨g4, 0, none⟩ = some (.int .i64 a) ∧ W.cell? ⟨g5, 0, none⟩ = some (.int .i64 b)) (go_keep) (first | (go_at_call 52; refine (size_any _ _ _ _ _ ?h1 h1).mono ?_; (case h1 => exact hS.below (b1.drew)); rintro e w6 ⟨rfl, b6⟩; have q0 := cell_below b6 k0; have q1 := cell_below b6 k1; have q4 := cell_below b6 k4; have q5 := cell_below b6 k5))
    have BX := below2 b1.drew b6
    replace Bg2 := Bg2.below ((Below.refl w3.heap.size w3).drew.trans b6)
    go_wp2_with (((with_reducible refine at_store (p := 6) rfl ?_); (refine ev_put #[.int .i64 0, .slice none 0 0] rfl 24 (.tmp 6) (.tmp 28) rfl g2 24 _ rfl rfl Bg2 sizeS rfl rfl ?_); intro w7 Bq hq4 hz4; have z0 := Bq.cell 0 rfl; have z1 := Bq.cell 1 rfl))
    refine bodyPost_ret (v := .tuple #[.agg #[.int .i64 0, .slice none 0 0], .int .i64 6]) (by simp [results, Tryd.results30, go_sem, z0, z1]) rfl ⟨?_, ?_⟩
    · rw [HP.out]; exact RetT.none _ _ _
    · exact below_grown BX BX.size hq4 (fun k e => by have := Option.some.inj e; omega)
  · obtain ⟨an, rfl⟩ := Int.eq_ofNat_of_zero_le h0
    obtain ⟨bn, rfl⟩ := Int.eq_ofNat_of_zero_le (show 0 ≤ b by omega)
    have HP := Lib.hid (show cutS r s an bn = (r, s.map (fun c => (c.take bn).drop an), 0) by simp [cutS, hv, cutOk]; omega)
    clear hv
    have hd1 : decide ((an : Int) < 0) = false := decide_eq_false (by omega)
    have hd2 : decide (bn < an) = false := decide_eq_false (by omega)
    have hd3 : decide (len0 s < bn) = false := decide_eq_false (by omega)
    clear h0 h h'
    have h : bn ≤ len0 s := of_decide_eq_false hd3 |> Nat.not_lt.1
    have h' : an ≤ bn := of_decide_eq_false hd2 |> Nat.not_lt.1
    go_enter Tryd.func30, Tryd.ntmps30
    go_wp2_with (first | ((with_reducible refine at_dst (N := 3) rfl ?_); refine ev_new #[.int .i64 r, .slice A s.length c] 24 rfl ?hr ?_; (case hr => first | (go_simp; done) | (go_simp; rfl)); intro g1 w1 eg1 zg1 b1 Bg1; have k0 := Bg1.cell 0 rfl; have k1 := Bg1.cell 1 rfl) | ((with_reducible refine at_dst (N := 4) rfl ?_); refine ev_new #[.int .i64 an] 3 rfl ?hr ?_; (case hr => first | (go_simp; done) | (go_simp; rfl)); intro g4 w4 eg4 zg4 b4 Bg4; replace Bg1 := Bg1.below b4; replace b1 := below2 b1 b4) | ((with_reducible refine at_dst (N := 5) rfl ?_); refine ev_new #[.int .i64 bn] 3 rfl ?hr ?_; (case hr => first | (go_simp; done) | (go_simp; rfl)); intro g5 w5 eg5 zg5 b5 Bg5; replace Bg1 := Bg1.below b5; replace b1 := below2 b1 b5; replace Bg4 := Bg4.below b5) | ((with_reducible refine at_dst (N := 6) rfl ?_); refine ev_new #[.int .i64 0, .slice none 0 0] 24 rfl ?hr ?_; (case hr => first | (go_simp; done) | (go_simp; rfl)); intro g2 w2 eg2 zg2 b2 Bg2; replace Bg1 := Bg1.below b2; replace Bg4 := Bg4.below b2; replace Bg5 := Bg5.below b2; replace b1 := below2 b1 b2; clear k0 k1; have k0 := Bg1.cell 0 rfl; have k1 := Bg1.cell 1 rfl) | (go_at_call 48; refine (check_any _ _ _ _ _ (hG.below b1) (hS.below b1)).mono ?_; rintro e w3 ⟨rfl, b3⟩; rw [H.out]; have g2le : w.heap.size ≤ g2 := (by have := eg2.out; have := zg5.out; have := eg5.out; have := zg4.out; have := eg4.out; have := zg1.out; have := eg1.out; omega); replace b1 := below2 b1 b3; replace Bg1 := Bg1.below b3; replace Bg2 := Bg2.below b3; replace Bg4 := Bg4.below b3; replace Bg5 := Bg5.below b3; clear k0 k1; have k0 : w3.cell? ⟨g1, 0, none⟩ = some (.int .i64 r) := Bg1.cell 0 rfl; have k1 : w3.cell? ⟨g1, 1, none⟩ = some (.slice A s.length c) := Bg1.cell 1 rfl; have k4 : w3.cell? ⟨g4, 0, none⟩ = some (.int .i64 an) := Bg4.cell 0 rfl; have k5 : w3.cell? ⟨g5, 0, none⟩ = some (.int .i64 bn) := Bg5.cell 0 rfl))
    go_region_held3 (fun W => W.cell? ⟨g1, 0, none⟩ = some (.int .i64 r) ∧ W.cell? ⟨g1, 1, none⟩ = some (.slice A s.length c) ∧ W.cell? ⟨g4, 0, none⟩ = some (.int .i64 an) ∧ W.cell? ⟨g5, 0, none⟩ = some (.int .i64 bn)) (go_keep) (first | (go_at_call 52; refine (size_any _ _ _ _ _ ?h1 h1).mono ?_; (case h1 => exact hS.below (b1.drew)); rintro e w6 ⟨rfl, b6⟩; have q0 := cell_below b6 k0; have q1 := cell_below b6 k1; have q4 := cell_below b6 k4; have q5 := cell_below b6 k5))
    have BX := below2 b1.drew b6
    have b36 := (Below.refl w3.heap.size w3).drew.trans b6
    replace Bg2 := Bg2.below b36
    replace Bg4 := Bg4.below b36
    replace Bg5 := Bg5.below b36
    have g4le : w.heap.size ≤ g4 := by have := eg4.out; have := zg1.out; have := eg1.out; omega
    have n24 : g2 ≠ g4 := by have := eg2.out; have := zg5.out; have := eg5.out; have := zg4.out; omega
    go_wp2_with fail
    refine (change_Cut _ g4 _ _ r A c s w6 (hS.apart BX g4le) Bg4.lt (cut1_makes g4 g5 w6.heap.size an bn s (fun c hc => by rw [V.same c hc]; omega) (by omega) Bg4.lt Bg5.lt) (fun j a b h k => ⟨k.cell Bg4.lt h.1, k.cell Bg5.lt h.2⟩) ⟨q4, q5⟩ V.two).mono ?_
    rintro e w8 ⟨A', c', rfl, hSl, hg8, _⟩
    rw [cut_map] at hSl
    replace Bg2 := Bg2.keep (Keep.of_grown1 hg8) n24
    have g2lt : g2 < w6.heap.size := by have := eg2.out; have := zg2.out; have := b36.size; have := b3.size; omega
    go_wp2_with (((with_reducible refine at_store (p := 6) rfl ?_); (refine ev_put #[.int .i64 r, .slice A' s.length c'] rfl 24 (.tmp 6) (.tmp 31) rfl g2 24 _ rfl rfl Bg2 sizeS rfl rfl ?_); intro w9 Bq hq9 hz9; have z0 := Bq.cell 0 rfl; have z1 := Bq.cell 1 rfl))
    refine bodyPost_ret (v := .tuple #[.agg #[.int .i64 r, .slice A' s.length c'], .int .i64 0]) (by simp [results, Tryd.results30, go_sem, z0, z1]) rfl ⟨?_, ?_⟩
    · rw [HP.out]
      refine ⟨A', c', by simp, ?_⟩
      have hlt : w.heap.size ≤ w6.heap.size := BX.size
      exact (hSl.keep ((Keep.of_grown1 hq9).weak fun b hb => by omega)).weak fun b _ hb => by omega
    · exact below_grown (below_grown BX BX.size hg8 (fun k e => by have := Option.some.inj e; omega)) (Nat.le_trans BX.size hg8.size) hq9 (fun k e => by have := Option.some.inj e; omega)

theorem cut_T (r : Int) (A : Option Addr) (c : Nat) (s : List (List Int)) (a b : Int) (w : World) (hG : GR w) (hS : R2 w A c s) :
    Calls Tryd.prog 30 #[.agg #[.int .i64 r, .slice A s.length c], .int .i64 a, .int .i64 b] w fun e w' => RetT w.heap.size (cutS r s a b) e w' ∧ Below w.heap.size w w' := by
  cases hv : validB r s
  · exact cut_no r A c s a b w hG hS hv
  · exact cut_yes r A c s a b w hG hS hv
theorem cut_any (r : Int) (A : Option Addr) (c : Nat) (s : List (List Int)) (a b : Int) (w : World) (hG : GR w) (hS : R2 w A c s) :
    Calls Tryd.prog 30 #[.agg #[.int .i64 r, .slice A s.length c], .int .i64 a, .int .i64 b] w fun e w' => RetS w.heap.size (cutS r s a b) e w' ∧ Below w.heap.size w w' :=
  (cut_T r A c s a b w hG hS).mono fun _ _ h => ⟨h.1.toS, h.2⟩
end Go.Proofs.YtijcecakofmhcaaDoor
