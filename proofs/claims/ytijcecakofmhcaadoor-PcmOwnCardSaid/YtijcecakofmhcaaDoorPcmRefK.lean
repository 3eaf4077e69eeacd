/- The document's answer, layer 2: Own. -/
import Derived.Test.YtijcecakofmhcaaDoorPcmRefG
namespace Go.Proofs.YtijcecakofmhcaaDoor
open Go.RowKit

set_option maxHeartbeats 1000000 in
set_option maxRecDepth 100000 in
theorem refOwn_K (r : Int) (A : Option Addr) (c : Nat) (s : List (List Int)) (w : World) (hS : R2 w A c s) (hl0 : s.length ≤ 100000) (hl1 : ∀ c ∈ s, c.length ≤ 100000) :
    Calls Tryd.prog 40 #[.agg #[.int .i64 r, .slice A s.length c]] w fun e w' => ∃ v, e = .returned (.agg #[.int .i64 r, v]) ∧ OwnK kT 36 w.heap.size (fun b => w.heap.size ≤ b) w' v s ∧ Below w.heap.size w w' := by
  have hn := hS.len
  have HLEN := Lib.hid (fun j (hj : j < s.length) => hl1 _ (nth_mem [] s j hj))
  clear hl1
  go_enter Tryd.func40, Tryd.ntmps40
  go_wp2_with (first | ((with_reducible refine at_dst (N := 1) rfl ?_); refine ev_new #[.int .i64 r, .slice A s.length c] 24 rfl ?hr ?_; (case hr => first | (go_simp; done) | (go_simp; rfl)); intro g1 w1 eg1 zg1 b1 Bg1; skip) | ((with_reducible refine at_dst (N := 2) rfl ?_); refine ev_new #[.int .i64 0, .slice none 0 0] 24 rfl ?hr ?_; (case hr => first | (go_simp; done) | (go_simp; rfl)); intro g2 w2 eg2 zg2 b2 Bg2; replace Bg1 := Bg1.below b2; replace b1 := below2 b1 b2; have k0 := Bg1.cell 0 rfl; have k1 := Bg1.cell 1 rfl) | ((with_reducible refine at_dst (N := 3) rfl ?_); refine ev_new #[.int .i64 0, .slice none 0 0] 24 rfl ?hr ?_; (case hr => first | (go_simp; done) | (go_simp; rfl)); intro g3 w6 eg3 zg3 b6 Bg3; replace Bg2 := Bg2.below b6; replace Bg1 := Bg1.below b6; clear k0 k1) | ((with_reducible refine at_store (p := 3) rfl ?_); (refine ev_put #[.int .i64 r, .slice none 0 0] rfl 24 (.tmp 3) (.tmp 8) rfl g3 24 _ rfl rfl Bg3 sizeS rfl rfl ?_); intro w4 B3 hb4 hz4; have e13 : g1 ≠ g3 := (by have := Bg1.lt; have := eg3.out; have l1 := eg1.out; have l2 := eg2.out; have l3 := zg1.out; have l4 := zg2.out; omega); have e23 : g2 ≠ g3 := (by have := eg3.out; have l2 := eg2.out; have l4 := zg2.out; omega); have B1 := Bg1.keep (Keep.of_grown hb4) (fun e => e13 (Option.some.inj e)); have B2 := Bg2.keep (Keep.of_grown hb4) (fun e => e23 (Option.some.inj e)); have k1 := B1.cell 1 rfl))
  have G3 : w.heap.size ≤ g3 := by have := eg3.out; have := b1.size; omega
  have BX : Below w.heap.size w w4 := below_grown (below2 b1 b6) (below2 b1 b6).size hb4 (fun k e => by have := Option.some.inj e; omega)
  have hA := (hS.apart (below2 b1 b6) G3).keep (Keep.of_grown1 hb4)
  have L1 := B1.lt
  have L2 := B2.lt
  have L3 := B3.lt
  obtain ⟨F, hF⟩ : ∃ F : Nat → List Int, F = fun j => nth [] s j := ⟨_, rfl⟩
  have HF := Lib.hid hF
  clear hF k1
  go_loopw [12] (fun i wr => ∃ (k : Nat) (v : Value), k ≤ s.length ∧ i = .int .i64 k ∧ Blk wr g1 #[.int .i64 r, .slice A s.length c] 24 ∧ Blk wr g2 #[.int .i64 0, .slice none 0 0] 24 ∧ Blk wr g3 #[.int .i64 r, v] 24
      ∧ OwnK kT 36 w4.heap.size (fun b => w4.heap.size ≤ b) wr v ((List.range k).map F) ∧ w4.grownBy wr (some g3)) (fun i _ => s.length - (intOf i).toNat)
  case atStart => exact ⟨0, _, Nat.zero_le _, rfl, B1, B2, B3, OwnK.nil _ _ _ _ _, World.grownBy.refl _ _⟩
  case round =>
    clear B1 B2 B3
    obtain ⟨k, v, hk, rfl, B1, B2, B3, hO, hg⟩ := hrel
    have k3 := B3.cell 1 rfl
    have hgs := hg.size
    by_cases hlt : k < s.length
    · obtain ⟨ad, A', c', rfl, hc, hs'⟩ := rd_sl (hA.keep (Keep.of_grown1 hg)) k hlt
      have HOwn := Lib.hid (own_any A' c' (nth [] s k) wr.drew ((hs'.below (Below.refl _ _).drew).any) (by have := HLEN.out k hlt; omega))
      have hFk : F k = nth [] s k := by rw [HF.out]
      rw [← hFk] at HOwn
      rw [← hFk] at hc
      clear hFk hs'
      go_wp2_with fail
      go_region_law (first | (go_simp; go_at_call 70; refine HOwn.out.mono ?_; rintro e w5 ⟨v5, rfl, hO5, hb5⟩; have k5 : w5.cell? ⟨g3, 1, none⟩ = some v := (B3.below (below2 (Below.refl wr.heap.size wr).drew hb5)).cell 1 rfl; obtain ⟨A5, c5, rfl, hs5⟩ := hO5.rdT; have k5a := cell_below (below_alloc (Below.refl w5.heap.size w5) (.cells #[.slice A5 (F k).length c5] 36)) k5) | ((refine step_append_k (W := w5) (k := kT) w4.heap.size ?a1 (.tmp 17) (.tmp 20) 22 36 (.slice none 0 0) 24 (fun b => w4.heap.size ≤ b) ?a2 Tryd.underlying22 infoS ?a3 ?a4 ?a5 v ((List.range k).map F) (F k) [.slice A5 (F k).length c5] ?a6 ?a7 ?a8 ?hO ?hx ?hb ?hl ?_); (case a1 => rfl); (case a2 => rfl); (case a3 => rfl); (case a4 => decide); (case a5 => decide); (case a6 => rfl); (case a7 => rfl); (case a8 => rfl); (case hO => exact hO.below (below2 (Below.refl wr.heap.size wr).drew hb5)); (case hx => exact ⟨A5, c5, rfl, hs5.weak (fun b _ hb => ⟨by have : wr.heap.size ≤ b := hb.1; omega, fun he => by have := (hO.lt b he).2; have : wr.heap.size ≤ b := hb.1; omega⟩)⟩); (case hb => exact Nat.le_trans hgs hb5.size); (case hl => simp; omega); intro g6 cap6 w6 hO6 hg6 hb6 ha6; have C3 : Blk w6 g3 #[.int .i64 r, v] 24 := (B3.below (below2 (Below.refl wr.heap.size wr).drew hb5)).keep (Keep.of_grown hg6) (fun e => by have := hO.base_le g3 e.symm; omega); have k6 := C3.cell 1 rfl; have f6 := C3.free 1; clear k5 k5a))
      all_goals
        go_wp2
        go_roundw
        case rel =>
          have hst := grown_setCell w6 g3 1 (.slice (some ⟨g6, 0, none⟩) (k + 1) cap6)
          have hbd := below2 (Below.refl wr.heap.size wr).drew hb5
          refine ⟨k + 1, _, by omega, by go_num, ((B1.below hbd).keep (Keep.of_grown hg6) (fun e => by have := hO.base_le g1 e.symm; omega)).keep (Keep.of_grown1 hst) e13, ((B2.below hbd).keep (Keep.of_grown hg6) (fun e => by have := hO.base_le g2 e.symm; omega)).keep (Keep.of_grown1 hst) e23, C3.set 1 _, ?_, ?_⟩
          · rw [List.range_succ, List.map_append]
            simp only [List.length_map, List.length_range] at hO6
            exact hO6.keep (Keep.of_grown1 hst) (fun b hb e => by have := hO6.base_le b hb; omega) (fun b hb e => by omega) ⟨rfl, rfl, rfl⟩
          · exact grown_trans (grown_row (grown_row hg (grown_of_below hbd none) (fun _ e => by cases e)) hg6 (fun b e => hO.base_le b e)) hst
        case measure => simp [intOf]; omega
    · obtain rfl : k = s.length := by omega
      obtain ⟨Ao, co, rfl, Ro⟩ := hO.rd
      simp only [List.length_map, List.length_range] at Ro B3 k3 hO ⊢
      have k3' := B3.cell 0 rfl
      go_wp2_with ((with_reducible refine at_store (p := 2) rfl ?_); (refine ev_put #[.int .i64 r, .slice Ao s.length co] rfl 24 (.tmp 2) (.tmp 24) rfl g2 24 _ rfl rfl B2 sizeS rfl rfl ?_); intro wf Bq hqf hzf; have z0 := Bq.cell 0 rfl; have z1 := Bq.cell 1 rfl)
      have e2 := eg2.out
      have e3 := zg1.out
      have e1 := eg1.out
      have hS4 : w.heap.size ≤ w4.heap.size := by omega
      refine bodyPost_ret (v := .agg #[.int .i64 r, .slice Ao s.length co]) (by simp [results, Tryd.results40, go_sem, z0, z1]) rfl ⟨_, rfl, ?_, ?_⟩
      · have hm : (List.range s.length).map F = s := by
          rw [HF.out]
          exact (map_range_nth s (fun c => c)).trans (List.map_id' s)
        rw [hm] at hO
        exact ((hO.keep (Keep.of_grown1 hqf) (fun b hb => by have := hO.base_le b hb; omega) (fun b hb => by have : w4.heap.size ≤ b := hb; omega) ⟨hqf.os, hqf.tape, hqf.output⟩).weak (fun b _ hb => by have : w4.heap.size ≤ b := hb; omega)).mono hS4
      · exact below_grown (below_grown BX BX.size hg (fun k e => by have := Option.some.inj e; omega)) (Nat.le_trans BX.size hg.size) hqf (fun k e => by have := Option.some.inj e; omega)
theorem refOwn_T (r : Int) (A : Option Addr) (c : Nat) (s : List (List Int)) (w : World) (hS : R2 w A c s) (hl0 : s.length ≤ 100000) (hl1 : ∀ c ∈ s, c.length ≤ 100000) :
    Calls Tryd.prog 40 #[.agg #[.int .i64 r, .slice A s.length c]] w fun e w' => ∃ A' c', e = .returned (.agg #[.int .i64 r, .slice A' s.length c']) ∧ Sl kT (fun b => w.heap.size ≤ b) w' A' c' s ∧ Below w.heap.size w w' :=
  (refOwn_K r A c s w hS hl0 hl1).mono fun _ _ ⟨v, h1, h2, h3⟩ => by
    obtain ⟨A', c', rfl, hR⟩ := h2.rd
    refine ⟨A', c', h1, hR.weak (fun b _ hb => ?_), h3⟩
    rcases hb with hb | hb
    · exact hb
    · exact h2.base_le b hb
theorem refOwn_any (r : Int) (A : Option Addr) (c : Nat) (s : List (List Int)) (w : World) (hS : R2 w A c s) (hl0 : s.length ≤ 100000) (hl1 : ∀ c ∈ s, c.length ≤ 100000) :
    Calls Tryd.prog 40 #[.agg #[.int .i64 r, .slice A s.length c]] w fun e w' => ∃ A' c', e = .returned (.agg #[.int .i64 r, .slice A' s.length c']) ∧ Sl (kSl (kInt .i64)) (fun b => w.heap.size ≤ b) w' A' c' s ∧ Below w.heap.size w w' :=
  (refOwn_T r A c s w hS hl0 hl1).mono fun _ _ ⟨A', c', h1, h2, h3⟩ => ⟨A', c', h1, h2.ofT, h3⟩
end Go.Proofs.YtijcecakofmhcaaDoor
