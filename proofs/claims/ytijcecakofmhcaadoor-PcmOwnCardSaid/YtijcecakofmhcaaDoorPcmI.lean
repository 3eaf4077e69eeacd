/- pcm: Pad: what the call returns, for any sound. -/
import Derived.Test.YtijcecakofmhcaaDoorPcmH
import Derived.Test.YtijcecakofmhcaaDoorPcmE
import Derived.Test.YtijcecakofmhcaaDoorPcmF
namespace Go.Proofs.YtijcecakofmhcaaDoor
open Go.RowKit

theorem pad_map (s : List (List Int)) (m : Nat) : (List.range s.length).map (fun j => nth [] s j ++ List.replicate m 0) = s.map (fun c => c ++ List.replicate m 0) := by
  apply List.ext_getElem
  · simp
  · intro i h1 h2
    simp at h1
    simp [nth_eq [] s i h1]
theorem pad_more (s : List (List Int)) : (framesN s : Int) * 128 - (len0 s : Int) = ((padMore s : Nat) : Int) ∧ padMore s ≤ 128 ∧ framesN s ≤ len0 s + 1 := by
  unfold padMore framesN; omega
set_option maxHeartbeats 1000000 in
set_option maxRecDepth 100000 in
theorem pad_T (r : Int) (A : Option Addr) (c : Nat) (s : List (List Int)) (w : World) (hG : GR w) (hS : R2 w A c s) :
    Calls Tryd.prog 41 #[.agg #[.int .i64 r, .slice A s.length c]] w fun e w' => RetT w.heap.size (padS r s) e w' ∧ Below w.heap.size w w' := by
  have hn := hS.len
  cases hv : validB r s
  · have HF := Lib.hid (show framesS r s = (0, 1) by simp [framesS, hv])
    have HP := Lib.hid (show padS r s = (0, [], 1) by simp [padS, hv])
    clear hv
    go_enter Tryd.func41, Tryd.ntmps41
    go_wp2_with (first | ((with_reducible refine at_dst (N := 1) rfl ?_); refine ev_new #[.int .i64 r, .slice A s.length c] 24 rfl ?hr ?_; (case hr => first | (go_simp; done) | (go_simp; rfl)); intro g1 w1 eg1 zg1 b1 Bg1; have k0 := Bg1.cell 0 rfl; have k1 := Bg1.cell 1 rfl) | ((with_reducible refine at_dst (N := 2) rfl ?_); refine ev_new #[.int .i64 0, .slice none 0 0] 24 rfl ?hr ?_; (case hr => first | (go_simp; done) | (go_simp; rfl)); intro g2 w2 eg2 zg2 b2 Bg2; replace Bg1 := Bg1.below b2; replace k0 := cell_below b2 k0; replace k1 := cell_below b2 k1; replace b1 := below2 b1 b2) | (go_at_call 43; refine (frames_any _ _ _ _ _ (hG.below b1) (hS.below b1)).mono ?_; rintro e w3 ⟨rfl, b3⟩; rw [HF.out]; replace b1 := below2 b1 b3; replace Bg2 := Bg2.below b3) | ((with_reducible refine at_store (p := 2) rfl ?_); (refine ev_put #[.int .i64 0, .slice none 0 0] rfl 24 (.tmp 2) (.tmp 14) rfl g2 24 _ rfl rfl Bg2 sizeS rfl rfl ?_); intro w4 Bq hq4 hz4; have z0 := Bq.cell 0 rfl; have z1 := Bq.cell 1 rfl))
    refine bodyPost_ret (v := .tuple #[.agg #[.int .i64 0, .slice none 0 0], .int .i64 1]) (by simp [results, Tryd.results41, go_sem, z0, z1]) rfl ⟨?_, ?_⟩
    · rw [HP.out]; exact RetT.none _ _ _
    · exact below_grown b1 b1.size hq4 (fun k e => by have := Option.some.inj e; have := eg2.out; have := zg1.out; have := eg1.out; omega)
  · have V := valid_facts hv
    have HF := Lib.hid (show framesS r s = (((framesN s : Nat) : Int), 0) by simp [framesS, hv])
    have HP := Lib.hid (show padS r s = (r, s.map (fun c => c ++ List.replicate (padMore s) 0), 0) by simp [padS, hv])
    have h1 := V.one
    have h3 := V.len
    have hpm := pad_more s
    have hp2 := hpm.2.1
    have hp3 := hpm.2.2
    have HM := Lib.hid hpm.1
    clear hv hpm
    go_enter Tryd.func41, Tryd.ntmps41
    go_wp2_with (first | ((with_reducible refine at_dst (N := 1) rfl ?_); refine ev_new #[.int .i64 r, .slice A s.length c] 24 rfl ?hr ?_; (case hr => first | (go_simp; done) | (go_simp; rfl)); intro g1 w1 eg1 zg1 b1 Bg1; have k0 := Bg1.cell 0 rfl; have k1 := Bg1.cell 1 rfl) | ((with_reducible refine at_dst (N := 2) rfl ?_); refine ev_new #[.int .i64 0, .slice none 0 0] 24 rfl ?hr ?_; (case hr => first | (go_simp; done) | (go_simp; rfl)); intro g2 w2 eg2 zg2 b2 Bg2; replace Bg1 := Bg1.below b2; replace k0 := cell_below b2 k0; replace k1 := cell_below b2 k1; replace b1 := below2 b1 b2) | (go_at_call 43; refine (frames_any _ _ _ _ _ (hG.below b1) (hS.below b1)).mono ?_; rintro e w3 ⟨rfl, b3⟩; rw [HF.out]; replace b1 := below2 b1 b3; replace Bg1 := Bg1.below b3; replace Bg2 := Bg2.below b3; replace k0 := cell_below b3 k0; replace k1 := cell_below b3 k1) | (go_at_call 52; refine (size_any _ _ _ _ _ (hS.below b1) h1).mono ?_; rintro e w4 ⟨rfl, b4⟩; replace b1 := below2 b1 b4; replace Bg1 := Bg1.below b4; replace Bg2 := Bg2.below b4; replace k0 := cell_below b4 k0; replace k1 := cell_below b4 k1) | ((with_reducible refine at_dst (N := 6) rfl ?_); refine ev_new #[.int .i64 0] 3 rfl ?hr ?_; (case hr => first | (go_simp; done) | (go_simp; rfl)); intro g6 w6 eg6 zg6 b6 Bg6; replace Bg1 := Bg1.below b6; replace Bg2 := Bg2.below b6; replace k0 := cell_below b6 k0; replace k1 := cell_below b6 k1; have b61 := below2 b1 b6) | ((with_reducible refine at_store (p := 6) rfl ?_); go_must ((refine ev_put1 (.int .i64 (padMore s)) 0 rfl 3 (.tmp 6) (.tmp 20) rfl g6 3 #[.int .i64 0] rfl ?hy Bg6 sizeI (by simp) rfl ?_); (case hy => exact congrArg (Value.int IntKind.i64) HM.out); intro w7 Bh6 hg7 hz7; have n61 : g1 ≠ g6 := (by have := zg1.out; have := eg1.out; have := eg6.out; have := b1.size; have := b2.size; have := b3.size; have := b4.size; omega); have n62 : g2 ≠ g6 := (by have := eg2.out; have := zg2.out; have := eg6.out; have := b3.size; have := b4.size; omega); replace Bg1 := Bg1.keep (Keep.of_grown1 hg7) n61; replace Bg2 := Bg2.keep (Keep.of_grown1 hg7) n62; clear k0 k1; have k0 := Bg1.cell 0 rfl; have k1 := Bg1.cell 1 rfl)))
    have hS7 := (hS.apart b61 (g := g6) (by have := eg6.out; have := b1.size; omega)).keep (Keep.of_grown1 hg7)
    have g6le : w.heap.size ≤ g6 := by have := eg6.out; have := b1.size; omega
    have g2le : w.heap.size ≤ g2 := by have := eg2.out; have := zg1.out; have := eg1.out; omega
    refine (change_Pad _ g6 _ _ r A c s w7 hS7 Bh6.lt (pad1_makes g6 (padMore s) w7.heap.size s (fun c hc => by rw [V.same c hc]; exact h3) hp2 Bh6.lt) (fun j a b h k => k.cell Bh6.lt h) (Bh6.cell 0 rfl) V.two).mono ?_
    rintro e w8 ⟨A', c', rfl, hSl, hg8, _⟩
    rw [pad_map] at hSl
    replace Bg2 := Bg2.keep (Keep.of_grown1 hg8) n62
    go_wp2_with (((with_reducible refine at_store (p := 2) rfl ?_); go_must ((refine ev_put #[.int .i64 r, .slice A' s.length c'] rfl 24 (.tmp 2) (.tmp 23) rfl g2 24 _ rfl rfl Bg2 sizeS rfl rfl ?_); intro w9 Bq hq9 hz9; have z0 := Bq.cell 0 rfl; have z1 := Bq.cell 1 rfl)))
    refine bodyPost_ret (v := .tuple #[.agg #[.int .i64 r, .slice A' s.length c'], .int .i64 0]) (by simp [results, Tryd.results41, go_sem, z0, z1]) rfl ⟨?_, ?_⟩
    · rw [HP.out]
      refine ⟨A', c', by simp, ?_⟩
      have hlt : w.heap.size ≤ w7.heap.size := Nat.le_trans b61.size hg7.size
      have g27 : g2 < w7.heap.size := by have := eg2.out; have := zg2.out; have := b3.size; have := b4.size; have := b6.size; have := hg7.size; omega
      exact (hSl.keep ((Keep.of_grown1 hq9).weak fun b hb => by omega)).weak fun b _ hb => by omega
    · exact below_grown (below_grown (below_grown b61 b61.size hg7 (fun k e => by have := Option.some.inj e; omega)) (Nat.le_trans b61.size hg7.size) hg8 (fun k e => by have := Option.some.inj e; omega)) (Nat.le_trans (Nat.le_trans b61.size hg7.size) hg8.size) hq9 (fun k e => by have := Option.some.inj e; omega)
theorem pad_any (r : Int) (A : Option Addr) (c : Nat) (s : List (List Int)) (w : World) (hG : GR w) (hS : R2 w A c s) :
    Calls Tryd.prog 41 #[.agg #[.int .i64 r, .slice A s.length c]] w fun e w' => RetS w.heap.size (padS r s) e w' ∧ Below w.heap.size w w' :=
  (pad_T r A c s w hG hS).mono fun _ _ h => ⟨h.1.toS, h.2⟩
end Go.Proofs.YtijcecakofmhcaaDoor
