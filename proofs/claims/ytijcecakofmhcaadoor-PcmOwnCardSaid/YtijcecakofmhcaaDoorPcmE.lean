/- pcm: change, given each of the functions that pad, cut, join, mix: what the call returns. -/
import Derived.Test.YtijcecakofmhcaaDoorPcmD
namespace Go.Proofs.YtijcecakofmhcaaDoor
open Go.RowKit

set_option maxHeartbeats 2000000 in
set_option maxRecDepth 100000 in
theorem change_Pad (caps : Array Value) (bk : Nat) (Inv : Nat → World → Prop) (F : Nat → List Int) (r : Int) (A : Option Addr) (c : Nat) (s : List (List Int)) (w : World)
    (hS : Sl (kSl (kInt .i64)) (fun b => b ≠ bk) w A c s) (hbk : bk < w.heap.size) (hF : Makes 80 caps bk w.heap.size Inv s F) (hIk : InvKept w.heap.size Inv) (hI : Inv 0 w) (hs : s.length ≤ 2) :
    Calls Tryd.prog 71 #[.agg #[.int .i64 r, .slice A s.length c], .func (.func 80) #[] caps] w fun e w' => ∃ A' c', e = .returned (.agg #[.int .i64 r, .slice A' s.length c']) ∧
      Sl kT (fun b => w.heap.size ≤ b) w' A' c' ((List.range s.length).map F) ∧ w.grownBy w' (some bk) ∧ Inv s.length w' := by
  go_enter Tryd.func71, Tryd.ntmps71
  go_wp2_with (first | ((with_reducible refine at_dst (N := 2) rfl ?_); refine ev_new #[.int .i64 r, .slice A s.length c] 24 rfl ?hr ?_; (case hr => first | (go_simp; done) | (go_simp; rfl)); intro g1 w1 hg1 hz1 hb1 hk1; have k0 := hk1.cell 0 rfl; have k1 := hk1.cell 1 rfl) | ((with_reducible refine at_dst (N := 4) rfl ?_); refine ev_new #[.int .i64 0, .slice none 0 0] 24 rfl ?hr ?_; (case hr => first | (go_simp; done) | (go_simp; rfl)); intro g2 w2 hg2 hz2 hb2 hk2; replace k0 := cell_below hb2 k0; replace k1 := cell_below hb2 k1) | ((with_reducible refine at_dst (N := 5) rfl ?_); refine ev_new #[.int .i64 0, .slice none 0 0] 24 rfl ?hr ?_; (case hr => first | (go_simp; done) | (go_simp; rfl)); intro g3 w3 hg3 hz3 hb3 hk3; have q0 := hk3.cell 0 rfl; have q1 := hk3.cell 1 rfl; have f0 := hk3.free 0; have f1 := hk3.free 1; replace k0 := cell_below hb3 k0; replace k1 := cell_below hb3 k1) | ((with_reducible refine at_store (p := 5) rfl ?_); ((refine ev_put #[.int .i64 r, .slice none 0 0] rfl 24 (.tmp 5) (.tmp 10) rfl g3 24 _ rfl rfl hk3 sizeS rfl rfl ?_); intro w4 hk4 hb4 hz4; clear q0 q1 f0 f1 k0 k1; have e13 : g1 ≠ g3 := (by have := (hk1.below hb2).lt; have := hg3.out; omega); have e23 : g2 ≠ g3 := (by have := hk2.lt; have := hg3.out; omega); have B1 := ((hk1.below hb2).below hb3).keep (Keep.of_grown hb4) (fun e => e13 (Option.some.inj e)); have B2 := (hk2.below hb3).keep (Keep.of_grown hb4) (fun e => e23 (Option.some.inj e)); have k1 := B1.cell 1 rfl)))
  have hn := hS.len
  have L1 : g1 < w4.heap.size := B1.lt
  have L2 : g2 < w4.heap.size := B2.lt
  have L3 : g3 < w4.heap.size := hk4.lt
  have E1 : g1 ≠ bk := by have := hg1.out; omega
  have E2 : g2 ≠ bk := by have := hg2.out; have := hb1.size; omega
  have E3 : g3 ≠ bk := by have := hg3.out; have := (below2 hb1 hb2).size; omega
  have hg4 : w.grownBy w4 (some bk) := grown_row (grown_of_below (below2 (below2 hb1 hb2) hb3) _) hb4 (fun g e => by have e := Option.some.inj e; have := (below2 hb1 hb2).size; have := hg3.out; omega)
  have HS := hg4.size
  have G3 : w.heap.size ≤ g3 := by have := hg3.out; have := (below2 hb1 hb2).size; omega
  go_loopw [14] (fun i wr => ∃ (k : Nat) (v : Value), k ≤ s.length ∧ i = .int .i64 k ∧ Blk wr g1 #[.int .i64 r, .slice A s.length c] 24 ∧ Blk wr g2 #[.int .i64 0, .slice none 0 0] 24 ∧ Blk wr g3 #[.int .i64 r, v] 24
      ∧ OwnK kT 36 w4.heap.size (fun b => w.heap.size ≤ b ∧ b ≠ g1 ∧ b ≠ g2 ∧ b ≠ g3) wr v ((List.range k).map F) ∧ Inv k wr ∧ w.grownBy wr (some bk) ∧ Hid (w4.heap.size ≤ wr.heap.size)) (fun i _ => s.length - (intOf i).toNat)
  case atStart =>
    exact ⟨0, _, Nat.zero_le _, rfl, B1, B2, hk4, OwnK.nil _ _ _ _ _, hIk _ _ _ hI (((Keep.of_below (below2 (below2 hb1 hb2) hb3)).trans ⟨hb4.size, fun b hb ho => hb4.block b hb (fun e => by have := Option.some.inj e; have := hg3.out; have := (below2 hb1 hb2).size; omega)⟩)), hg4, Nat.le_refl _⟩
  case round =>
    clear B1 B2 k1 hk4
    obtain ⟨k, v, hk, rfl, B1, B2, B3, hO, hI1, hg, hz⟩ := hrel
    have k1 := B1.cell 1 rfl
    have k3 := B3.cell 1 rfl
    have l1 := B1.lt
    have l2 := B2.lt
    have l3 := B3.lt
    have l3' : g3 < w4.heap.size := L3
    have e3 : g3 ≠ bk := E3
    by_cases hlt : k < s.length
    · have hSr := hS.keep ((Keep.of_grown hg).weak (fun i hi e => hi (Option.some.inj e)))
      obtain ⟨ad, A', c', rfl, hc, hs'⟩ := rd_sl hSr k hlt
      have hle := hs'.le
      have hcap := hs'.cap
      go_wp2_with fail
      go_region_law (first | (go_simp; go_at_call 80; refine (hF.at k A' _ hlt ?h1 ?h2 ?h3 _ ?h4).mono ?_; (case h1 => exact hIk _ _ _ hI1 ⟨Nat.le_refl _, fun _ _ _ => rfl⟩); (case h2 => exact ⟨Nat.le_refl _, Nat.le_trans hle hcap, hs'.rd⟩); (case h3 => exact hg.size); (case h4 => rfl); rintro e w5 ⟨v5, rfl, hO5, hg5a, hI5⟩; have hg5 : wr.grownBy w5 (some bk) := ⟨hg5a.os, hg5a.tape, hg5a.output, hg5a.size, hg5a.block⟩; clear hg5a; have k5 : w5.cell? ⟨g3, 1, none⟩ = some v := hg5.cell k3 (fun e => e3 (Option.some.inj e)); have l5 : g3 < w5.heap.size := World.block_lt_of_cell? _ _ k5; obtain ⟨A5, c5, rfl, hs5⟩ := hO5.rdT) | ((refine step_append_k (k := kT) w4.heap.size ?a1 (.tmp 19) (.tmp 28) 22 36 (.slice none 0 0) 24 (fun b => w.heap.size ≤ b ∧ b ≠ g1 ∧ b ≠ g2 ∧ b ≠ g3) ?a2 Tryd.underlying22 infoS ?a3 ?a4 ?a5 v ((List.range k).map F) (F k) [.slice A5 (F k).length c5] ?a6 ?a7 ?a8 ?hO ?hx ?hb ?hl ?_); (case a1 => rfl); (case a2 => rfl); (case a3 => rfl); (case a4 => decide); (case a5 => decide); (case a6 => rfl); (case a7 => rfl); (case a8 => rfl); (case hO => exact change_own hO hg5 hbk hz.out hg4.size); (case hx => exact ⟨A5, c5, rfl, hs5.weak (fun b _ hb => change_new hO hb.1 l1 l2 l3 hg.size)⟩); (case hb => exact Nat.le_trans hz.out hg5.size); (case hl => simp; omega); intro g6 cap6 w6 hO6 hg6 hb6 ha6; have C3 : Blk w6 g3 #[.int .i64 r, v] 24 := change_blk B3 hg5 hg6 (fun e => e3 (Option.some.inj e)) (change_ne hO l3'); have k6 := C3.cell 1 rfl; have f6 := C3.free 1; clear k5))
      all_goals
        go_wp2
        go_roundw
        case rel =>
          have g6 := grown_setCell w6 g3 1 (.slice (some ⟨g6, 0, none⟩) (k + 1) cap6)
          refine ⟨k + 1, _, by omega, by go_num, (change_blk B1 hg5 hg6 (fun e => E1 (Option.some.inj e)) (change_ne hO L1)).keep (Keep.of_grown (grown_setCell _ g3 1 _)) (fun e => e13 (Option.some.inj e)), (change_blk B2 hg5 hg6 (fun e => E2 (Option.some.inj e)) (change_ne hO L2)).keep (Keep.of_grown (grown_setCell _ g3 1 _)) (fun e => e23 (Option.some.inj e)), C3.set 1 _, ?_, ?_, ?_, ?_⟩
          · rw [List.range_succ, List.map_append]
            simp only [List.length_map, List.length_range] at hO6
            exact hO6.keep (Keep.of_grown g6) (fun b hb he => by have := hO6.base_le b hb; have := Option.some.inj he; omega) (fun b hb he => hb.2.2.2 (Option.some.inj he)) ⟨rfl, rfl, rfl⟩
          · exact hIk _ _ _ hI5 (Keep.trans ⟨hg6.size, fun b hb ho => hg6.block b hb (fun e => by have := hO.base_le b e.symm; omega)⟩ ⟨g6.size, fun b hb ho => g6.block b hb (fun e => by have := Option.some.inj e; omega)⟩)
          · exact grown_row (grown_row (grown_trans hg hg5) hg6 (fun b e => by have := hO.base_le b e; omega)) g6 (fun b e => by have := Option.some.inj e; omega)
          · exact Nat.le_trans (Nat.le_trans hz.out hg5.size) (Nat.le_trans hg6.size g6.size)
        case measure => simp [intOf]; omega
    · obtain rfl : k = s.length := by omega
      obtain ⟨A', c', rfl, hs'⟩ := hO.rd
      simp only [List.length_map, List.length_range] at hs' B3 k3 ⊢
      have k3' := B3.cell 0 rfl
      go_wp2_with ((with_reducible refine at_store (p := 4) rfl ?_); (refine ev_put #[.int .i64 r, .slice A' s.length c'] rfl 24 (.tmp 4) (.tmp 32) rfl g2 24 _ rfl rfl B2 sizeS rfl rfl ?_); intro w7 hk7 hb7 hz7; clear k3 k3' k1; have z0 := hk7.cell 0 rfl; have z1 := hk7.cell 1 rfl)
      refine bodyPost_ret (v := .agg #[.int .i64 r, .slice A' s.length c']) (by simp [results, Tryd.results71, go_sem, z0, z1]) rfl ⟨A', c', rfl, ?_, ?_, ?_⟩
      · have hne : ∀ b, ((w.heap.size ≤ b ∧ b ≠ g1 ∧ b ≠ g2 ∧ b ≠ g3) ∨ (Value.slice A' s.length c').ownBlock = some b) → w.heap.size ≤ b ∧ b ≠ g2 := fun b hb => by
          rcases hb with hb | hb
          · exact ⟨hb.1, hb.2.2.1⟩
          · have := hO.base_le b (by simpa using hb)
            have := hg4.size
            exact ⟨by omega, by omega⟩
        exact ((hs'.weak (fun b _ hb => hne b hb)).keep ((Keep.of_grown hb7).weak (fun b hb he => hb.2 (Option.some.inj he)))).weak (fun b _ hb => hb.1)
      · exact grown_row hg hb7 (fun b e => by have := Option.some.inj e; have := hg2.out; have := hb1.size; omega)
      · exact hIk _ _ _ hI1 ⟨hb7.size, fun b hb ho => hb7.block b hb (fun e => by have := Option.some.inj e; have := hg2.out; have := hb1.size; omega)⟩

set_option maxHeartbeats 2000000 in
set_option maxRecDepth 100000 in
theorem change_Cut (caps : Array Value) (bk : Nat) (Inv : Nat → World → Prop) (F : Nat → List Int) (r : Int) (A : Option Addr) (c : Nat) (s : List (List Int)) (w : World)
    (hS : Sl (kSl (kInt .i64)) (fun b => b ≠ bk) w A c s) (hbk : bk < w.heap.size) (hF : Makes 72 caps bk w.heap.size Inv s F) (hIk : InvKept w.heap.size Inv) (hI : Inv 0 w) (hs : s.length ≤ 2) :
    Calls Tryd.prog 71 #[.agg #[.int .i64 r, .slice A s.length c], .func (.func 72) #[] caps] w fun e w' => ∃ A' c', e = .returned (.agg #[.int .i64 r, .slice A' s.length c']) ∧
      Sl kT (fun b => w.heap.size ≤ b) w' A' c' ((List.range s.length).map F) ∧ w.grownBy w' (some bk) ∧ Inv s.length w' := by
  go_enter Tryd.func71, Tryd.ntmps71
  go_wp2_with (first | ((with_reducible refine at_dst (N := 2) rfl ?_); refine ev_new #[.int .i64 r, .slice A s.length c] 24 rfl ?hr ?_; (case hr => first | (go_simp; done) | (go_simp; rfl)); intro g1 w1 hg1 hz1 hb1 hk1; have k0 := hk1.cell 0 rfl; have k1 := hk1.cell 1 rfl) | ((with_reducible refine at_dst (N := 4) rfl ?_); refine ev_new #[.int .i64 0, .slice none 0 0] 24 rfl ?hr ?_; (case hr => first | (go_simp; done) | (go_simp; rfl)); intro g2 w2 hg2 hz2 hb2 hk2; replace k0 := cell_below hb2 k0; replace k1 := cell_below hb2 k1) | ((with_reducible refine at_dst (N := 5) rfl ?_); refine ev_new #[.int .i64 0, .slice none 0 0] 24 rfl ?hr ?_; (case hr => first | (go_simp; done) | (go_simp; rfl)); intro g3 w3 hg3 hz3 hb3 hk3; have q0 := hk3.cell 0 rfl; have q1 := hk3.cell 1 rfl; have f0 := hk3.free 0; have f1 := hk3.free 1; replace k0 := cell_below hb3 k0; replace k1 := cell_below hb3 k1) | ((with_reducible refine at_store (p := 5) rfl ?_); ((refine ev_put #[.int .i64 r, .slice none 0 0] rfl 24 (.tmp 5) (.tmp 10) rfl g3 24 _ rfl rfl hk3 sizeS rfl rfl ?_); intro w4 hk4 hb4 hz4; clear q0 q1 f0 f1 k0 k1; have e13 : g1 ≠ g3 := (by have := (hk1.below hb2).lt; have := hg3.out; omega); have e23 : g2 ≠ g3 := (by have := hk2.lt; have := hg3.out; omega); have B1 := ((hk1.below hb2).below hb3).keep (Keep.of_grown hb4) (fun e => e13 (Option.some.inj e)); have B2 := (hk2.below hb3).keep (Keep.of_grown hb4) (fun e => e23 (Option.some.inj e)); have k1 := B1.cell 1 rfl)))
  have hn := hS.len
  have L1 : g1 < w4.heap.size := B1.lt
  have L2 : g2 < w4.heap.size := B2.lt
  have L3 : g3 < w4.heap.size := hk4.lt
  have E1 : g1 ≠ bk := by have := hg1.out; omega
  have E2 : g2 ≠ bk := by have := hg2.out; have := hb1.size; omega
  have E3 : g3 ≠ bk := by have := hg3.out; have := (below2 hb1 hb2).size; omega
  have hg4 : w.grownBy w4 (some bk) := grown_row (grown_of_below (below2 (below2 hb1 hb2) hb3) _) hb4 (fun g e => by have e := Option.some.inj e; have := (below2 hb1 hb2).size; have := hg3.out; omega)
  have HS := hg4.size
  have G3 : w.heap.size ≤ g3 := by have := hg3.out; have := (below2 hb1 hb2).size; omega
  go_loopw [14] (fun i wr => ∃ (k : Nat) (v : Value), k ≤ s.length ∧ i = .int .i64 k ∧ Blk wr g1 #[.int .i64 r, .slice A s.length c] 24 ∧ Blk wr g2 #[.int .i64 0, .slice none 0 0] 24 ∧ Blk wr g3 #[.int .i64 r, v] 24
      ∧ OwnK kT 36 w4.heap.size (fun b => w.heap.size ≤ b ∧ b ≠ g1 ∧ b ≠ g2 ∧ b ≠ g3) wr v ((List.range k).map F) ∧ Inv k wr ∧ w.grownBy wr (some bk) ∧ Hid (w4.heap.size ≤ wr.heap.size)) (fun i _ => s.length - (intOf i).toNat)
  case atStart =>
    exact ⟨0, _, Nat.zero_le _, rfl, B1, B2, hk4, OwnK.nil _ _ _ _ _, hIk _ _ _ hI (((Keep.of_below (below2 (below2 hb1 hb2) hb3)).trans ⟨hb4.size, fun b hb ho => hb4.block b hb (fun e => by have := Option.some.inj e; have := hg3.out; have := (below2 hb1 hb2).size; omega)⟩)), hg4, Nat.le_refl _⟩
  case round =>
    clear B1 B2 k1 hk4
    obtain ⟨k, v, hk, rfl, B1, B2, B3, hO, hI1, hg, hz⟩ := hrel
    have k1 := B1.cell 1 rfl
    have k3 := B3.cell 1 rfl
    have l1 := B1.lt
    have l2 := B2.lt
    have l3 := B3.lt
    have l3' : g3 < w4.heap.size := L3
    have e3 : g3 ≠ bk := E3
    by_cases hlt : k < s.length
    · have hSr := hS.keep ((Keep.of_grown hg).weak (fun i hi e => hi (Option.some.inj e)))
      obtain ⟨ad, A', c', rfl, hc, hs'⟩ := rd_sl hSr k hlt
      have hle := hs'.le
      have hcap := hs'.cap
      go_wp2_with fail
      go_region_law (first | (go_simp; go_at_call 72; refine (hF.at k A' _ hlt ?h1 ?h2 ?h3 _ ?h4).mono ?_; (case h1 => exact hIk _ _ _ hI1 ⟨Nat.le_refl _, fun _ _ _ => rfl⟩); (case h2 => exact ⟨Nat.le_refl _, Nat.le_trans hle hcap, hs'.rd⟩); (case h3 => exact hg.size); (case h4 => rfl); rintro e w5 ⟨v5, rfl, hO5, hg5a, hI5⟩; have hg5 : wr.grownBy w5 (some bk) := ⟨hg5a.os, hg5a.tape, hg5a.output, hg5a.size, hg5a.block⟩; clear hg5a; have k5 : w5.cell? ⟨g3, 1, none⟩ = some v := hg5.cell k3 (fun e => e3 (Option.some.inj e)); have l5 : g3 < w5.heap.size := World.block_lt_of_cell? _ _ k5; obtain ⟨A5, c5, rfl, hs5⟩ := hO5.rdT) | ((refine step_append_k (k := kT) w4.heap.size ?a1 (.tmp 19) (.tmp 28) 22 36 (.slice none 0 0) 24 (fun b => w.heap.size ≤ b ∧ b ≠ g1 ∧ b ≠ g2 ∧ b ≠ g3) ?a2 Tryd.underlying22 infoS ?a3 ?a4 ?a5 v ((List.range k).map F) (F k) [.slice A5 (F k).length c5] ?a6 ?a7 ?a8 ?hO ?hx ?hb ?hl ?_); (case a1 => rfl); (case a2 => rfl); (case a3 => rfl); (case a4 => decide); (case a5 => decide); (case a6 => rfl); (case a7 => rfl); (case a8 => rfl); (case hO => exact change_own hO hg5 hbk hz.out hg4.size); (case hx => exact ⟨A5, c5, rfl, hs5.weak (fun b _ hb => change_new hO hb.1 l1 l2 l3 hg.size)⟩); (case hb => exact Nat.le_trans hz.out hg5.size); (case hl => simp; omega); intro g6 cap6 w6 hO6 hg6 hb6 ha6; have C3 : Blk w6 g3 #[.int .i64 r, v] 24 := change_blk B3 hg5 hg6 (fun e => e3 (Option.some.inj e)) (change_ne hO l3'); have k6 := C3.cell 1 rfl; have f6 := C3.free 1; clear k5))
      all_goals
        go_wp2
        go_roundw
        case rel =>
          have g6 := grown_setCell w6 g3 1 (.slice (some ⟨g6, 0, none⟩) (k + 1) cap6)
          refine ⟨k + 1, _, by omega, by go_num, (change_blk B1 hg5 hg6 (fun e => E1 (Option.some.inj e)) (change_ne hO L1)).keep (Keep.of_grown (grown_setCell _ g3 1 _)) (fun e => e13 (Option.some.inj e)), (change_blk B2 hg5 hg6 (fun e => E2 (Option.some.inj e)) (change_ne hO L2)).keep (Keep.of_grown (grown_setCell _ g3 1 _)) (fun e => e23 (Option.some.inj e)), C3.set 1 _, ?_, ?_, ?_, ?_⟩
          · rw [List.range_succ, List.map_append]
            simp only [List.length_map, List.length_range] at hO6
            exact hO6.keep (Keep.of_grown g6) (fun b hb he => by have := hO6.base_le b hb; have := Option.some.inj he; omega) (fun b hb he => hb.2.2.2 (Option.some.inj he)) ⟨rfl, rfl, rfl⟩
          · exact hIk _ _ _ hI5 (Keep.trans ⟨hg6.size, fun b hb ho => hg6.block b hb (fun e => by have := hO.base_le b e.symm; omega)⟩ ⟨g6.size, fun b hb ho => g6.block b hb (fun e => by have := Option.some.inj e; omega)⟩)
          · exact grown_row (grown_row (grown_trans hg hg5) hg6 (fun b e => by have := hO.base_le b e; omega)) g6 (fun b e => by have := Option.some.inj e; omega)
          · exact Nat.le_trans (Nat.le_trans hz.out hg5.size) (Nat.le_trans hg6.size g6.size)
        case measure => simp [intOf]; omega
    · obtain rfl : k = s.length := by omega
      obtain ⟨A', c', rfl, hs'⟩ := hO.rd
      simp only [List.length_map, List.length_range] at hs' B3 k3 ⊢
      have k3' := B3.cell 0 rfl
      go_wp2_with ((with_reducible refine at_store (p := 4) rfl ?_); (refine ev_put #[.int .i64 r, .slice A' s.length c'] rfl 24 (.tmp 4) (.tmp 32) rfl g2 24 _ rfl rfl B2 sizeS rfl rfl ?_); intro w7 hk7 hb7 hz7; clear k3 k3' k1; have z0 := hk7.cell 0 rfl; have z1 := hk7.cell 1 rfl)
      refine bodyPost_ret (v := .agg #[.int .i64 r, .slice A' s.length c']) (by simp [results, Tryd.results71, go_sem, z0, z1]) rfl ⟨A', c', rfl, ?_, ?_, ?_⟩
      · have hne : ∀ b, ((w.heap.size ≤ b ∧ b ≠ g1 ∧ b ≠ g2 ∧ b ≠ g3) ∨ (Value.slice A' s.length c').ownBlock = some b) → w.heap.size ≤ b ∧ b ≠ g2 := fun b hb => by
          rcases hb with hb | hb
          · exact ⟨hb.1, hb.2.2.1⟩
          · have := hO.base_le b (by simpa using hb)
            have := hg4.size
            exact ⟨by omega, by omega⟩
        exact ((hs'.weak (fun b _ hb => hne b hb)).keep ((Keep.of_grown hb7).weak (fun b hb he => hb.2 (Option.some.inj he)))).weak (fun b _ hb => hb.1)
      · exact grown_row hg hb7 (fun b e => by have := Option.some.inj e; have := hg2.out; have := hb1.size; omega)
      · exact hIk _ _ _ hI1 ⟨hb7.size, fun b hb ho => hb7.block b hb (fun e => by have := Option.some.inj e; have := hg2.out; have := hb1.size; omega)⟩

set_option maxHeartbeats 2000000 in
set_option maxRecDepth 100000 in
theorem change_Join (caps : Array Value) (bk : Nat) (Inv : Nat → World → Prop) (F : Nat → List Int) (r : Int) (A : Option Addr) (c : Nat) (s : List (List Int)) (w : World)
    (hS : Sl (kSl (kInt .i64)) (fun b => b ≠ bk) w A c s) (hbk : bk < w.heap.size) (hF : Makes 76 caps bk w.heap.size Inv s F) (hIk : InvKept w.heap.size Inv) (hI : Inv 0 w) (hs : s.length ≤ 2) :
    Calls Tryd.prog 71 #[.agg #[.int .i64 r, .slice A s.length c], .func (.func 76) #[] caps] w fun e w' => ∃ A' c', e = .returned (.agg #[.int .i64 r, .slice A' s.length c']) ∧
      Sl kT (fun b => w.heap.size ≤ b) w' A' c' ((List.range s.length).map F) ∧ w.grownBy w' (some bk) ∧ Inv s.length w' := by
  go_enter Tryd.func71, Tryd.ntmps71
  go_wp2_with (first | ((with_reducible refine at_dst (N := 2) rfl ?_); refine ev_new #[.int .i64 r, .slice A s.length c] 24 rfl ?hr ?_; (case hr => first | (go_simp; done) | (go_simp; rfl)); intro g1 w1 hg1 hz1 hb1 hk1; have k0 := hk1.cell 0 rfl; have k1 := hk1.cell 1 rfl) | ((with_reducible refine at_dst (N := 4) rfl ?_); refine ev_new #[.int .i64 0, .slice none 0 0] 24 rfl ?hr ?_; (case hr => first | (go_simp; done) | (go_simp; rfl)); intro g2 w2 hg2 hz2 hb2 hk2; replace k0 := cell_below hb2 k0; replace k1 := cell_below hb2 k1) | ((with_reducible refine at_dst (N := 5) rfl ?_); refine ev_new #[.int .i64 0, .slice none 0 0] 24 rfl ?hr ?_; (case hr => first | (go_simp; done) | (go_simp; rfl)); intro g3 w3 hg3 hz3 hb3 hk3; have q0 := hk3.cell 0 rfl; have q1 := hk3.cell 1 rfl; have f0 := hk3.free 0; have f1 := hk3.free 1; replace k0 := cell_below hb3 k0; replace k1 := cell_below hb3 k1) | ((with_reducible refine at_store (p := 5) rfl ?_); ((refine ev_put #[.int .i64 r, .slice none 0 0] rfl 24 (.tmp 5) (.tmp 10) rfl g3 24 _ rfl rfl hk3 sizeS rfl rfl ?_); intro w4 hk4 hb4 hz4; clear q0 q1 f0 f1 k0 k1; have e13 : g1 ≠ g3 := (by have := (hk1.below hb2).lt; have := hg3.out; omega); have e23 : g2 ≠ g3 := (by have := hk2.lt; have := hg3.out; omega); have B1 := ((hk1.below hb2).below hb3).keep (Keep.of_grown hb4) (fun e => e13 (Option.some.inj e)); have B2 := (hk2.below hb3).keep (Keep.of_grown hb4) (fun e => e23 (Option.some.inj e)); have k1 := B1.cell 1 rfl)))
  have hn := hS.len
  have L1 : g1 < w4.heap.size := B1.lt
  have L2 : g2 < w4.heap.size := B2.lt
  have L3 : g3 < w4.heap.size := hk4.lt
  have E1 : g1 ≠ bk := by have := hg1.out; omega
  have E2 : g2 ≠ bk := by have := hg2.out; have := hb1.size; omega
  have E3 : g3 ≠ bk := by have := hg3.out; have := (below2 hb1 hb2).size; omega
  have hg4 : w.grownBy w4 (some bk) := grown_row (grown_of_below (below2 (below2 hb1 hb2) hb3) _) hb4 (fun g e => by have e := Option.some.inj e; have := (below2 hb1 hb2).size; have := hg3.out; omega)
  have HS := hg4.size
  have G3 : w.heap.size ≤ g3 := by have := hg3.out; have := (below2 hb1 hb2).size; omega
  go_loopw [14] (fun i wr => ∃ (k : Nat) (v : Value), k ≤ s.length ∧ i = .int .i64 k ∧ Blk wr g1 #[.int .i64 r, .slice A s.length c] 24 ∧ Blk wr g2 #[.int .i64 0, .slice none 0 0] 24 ∧ Blk wr g3 #[.int .i64 r, v] 24
      ∧ OwnK kT 36 w4.heap.size (fun b => w.heap.size ≤ b ∧ b ≠ g1 ∧ b ≠ g2 ∧ b ≠ g3) wr v ((List.range k).map F) ∧ Inv k wr ∧ w.grownBy wr (some bk) ∧ Hid (w4.heap.size ≤ wr.heap.size)) (fun i _ => s.length - (intOf i).toNat)
  case atStart =>
    exact ⟨0, _, Nat.zero_le _, rfl, B1, B2, hk4, OwnK.nil _ _ _ _ _, hIk _ _ _ hI (((Keep.of_below (below2 (below2 hb1 hb2) hb3)).trans ⟨hb4.size, fun b hb ho => hb4.block b hb (fun e => by have := Option.some.inj e; have := hg3.out; have := (below2 hb1 hb2).size; omega)⟩)), hg4, Nat.le_refl _⟩
  case round =>
    clear B1 B2 k1 hk4
    obtain ⟨k, v, hk, rfl, B1, B2, B3, hO, hI1, hg, hz⟩ := hrel
    have k1 := B1.cell 1 rfl
    have k3 := B3.cell 1 rfl
    have l1 := B1.lt
    have l2 := B2.lt
    have l3 := B3.lt
    have l3' : g3 < w4.heap.size := L3
    have e3 : g3 ≠ bk := E3
    by_cases hlt : k < s.length
    · have hSr := hS.keep ((Keep.of_grown hg).weak (fun i hi e => hi (Option.some.inj e)))
      obtain ⟨ad, A', c', rfl, hc, hs'⟩ := rd_sl hSr k hlt
      have hle := hs'.le
      have hcap := hs'.cap
      go_wp2_with fail
      go_region_law (first | (go_simp; go_at_call 76; refine (hF.at k A' _ hlt ?h1 ?h2 ?h3 _ ?h4).mono ?_; (case h1 => exact hIk _ _ _ hI1 ⟨Nat.le_refl _, fun _ _ _ => rfl⟩); (case h2 => exact ⟨Nat.le_refl _, Nat.le_trans hle hcap, hs'.rd⟩); (case h3 => exact hg.size); (case h4 => rfl); rintro e w5 ⟨v5, rfl, hO5, hg5a, hI5⟩; have hg5 : wr.grownBy w5 (some bk) := ⟨hg5a.os, hg5a.tape, hg5a.output, hg5a.size, hg5a.block⟩; clear hg5a; have k5 : w5.cell? ⟨g3, 1, none⟩ = some v := hg5.cell k3 (fun e => e3 (Option.some.inj e)); have l5 : g3 < w5.heap.size := World.block_lt_of_cell? _ _ k5; obtain ⟨A5, c5, rfl, hs5⟩ := hO5.rdT) | ((refine step_append_k (k := kT) w4.heap.size ?a1 (.tmp 19) (.tmp 28) 22 36 (.slice none 0 0) 24 (fun b => w.heap.size ≤ b ∧ b ≠ g1 ∧ b ≠ g2 ∧ b ≠ g3) ?a2 Tryd.underlying22 infoS ?a3 ?a4 ?a5 v ((List.range k).map F) (F k) [.slice A5 (F k).length c5] ?a6 ?a7 ?a8 ?hO ?hx ?hb ?hl ?_); (case a1 => rfl); (case a2 => rfl); (case a3 => rfl); (case a4 => decide); (case a5 => decide); (case a6 => rfl); (case a7 => rfl); (case a8 => rfl); (case hO => exact change_own hO hg5 hbk hz.out hg4.size); (case hx => exact ⟨A5, c5, rfl, hs5.weak (fun b _ hb => change_new hO hb.1 l1 l2 l3 hg.size)⟩); (case hb => exact Nat.le_trans hz.out hg5.size); (case hl => simp; omega); intro g6 cap6 w6 hO6 hg6 hb6 ha6; have C3 : Blk w6 g3 #[.int .i64 r, v] 24 := change_blk B3 hg5 hg6 (fun e => e3 (Option.some.inj e)) (change_ne hO l3'); have k6 := C3.cell 1 rfl; have f6 := C3.free 1; clear k5))
      all_goals
        go_wp2
        go_roundw
        case rel =>
          have g6 := grown_setCell w6 g3 1 (.slice (some ⟨g6, 0, none⟩) (k + 1) cap6)
          refine ⟨k + 1, _, by omega, by go_num, (change_blk B1 hg5 hg6 (fun e => E1 (Option.some.inj e)) (change_ne hO L1)).keep (Keep.of_grown (grown_setCell _ g3 1 _)) (fun e => e13 (Option.some.inj e)), (change_blk B2 hg5 hg6 (fun e => E2 (Option.some.inj e)) (change_ne hO L2)).keep (Keep.of_grown (grown_setCell _ g3 1 _)) (fun e => e23 (Option.some.inj e)), C3.set 1 _, ?_, ?_, ?_, ?_⟩
          · rw [List.range_succ, List.map_append]
            simp only [List.length_map, List.length_range] at hO6
            exact hO6.keep (Keep.of_grown g6) (fun b hb he => by have := hO6.base_le b hb; have := Option.some.inj he; omega) (fun b hb he => hb.2.2.2 (Option.some.inj he)) ⟨rfl, rfl, rfl⟩
          · exact hIk _ _ _ hI5 (Keep.trans ⟨hg6.size, fun b hb ho => hg6.block b hb (fun e => by have := hO.base_le b e.symm; omega)⟩ ⟨g6.size, fun b hb ho => g6.block b hb (fun e => by have := Option.some.inj e; omega)⟩)
          · exact grown_row (grown_row (grown_trans hg hg5) hg6 (fun b e => by have := hO.base_le b e; omega)) g6 (fun b e => by have := Option.some.inj e; omega)
          · exact Nat.le_trans (Nat.le_trans hz.out hg5.size) (Nat.le_trans hg6.size g6.size)
        case measure => simp [intOf]; omega
    · obtain rfl : k = s.length := by omega
      obtain ⟨A', c', rfl, hs'⟩ := hO.rd
      simp only [List.length_map, List.length_range] at hs' B3 k3 ⊢
      have k3' := B3.cell 0 rfl
      go_wp2_with ((with_reducible refine at_store (p := 4) rfl ?_); (refine ev_put #[.int .i64 r, .slice A' s.length c'] rfl 24 (.tmp 4) (.tmp 32) rfl g2 24 _ rfl rfl B2 sizeS rfl rfl ?_); intro w7 hk7 hb7 hz7; clear k3 k3' k1; have z0 := hk7.cell 0 rfl; have z1 := hk7.cell 1 rfl)
      refine bodyPost_ret (v := .agg #[.int .i64 r, .slice A' s.length c']) (by simp [results, Tryd.results71, go_sem, z0, z1]) rfl ⟨A', c', rfl, ?_, ?_, ?_⟩
      · have hne : ∀ b, ((w.heap.size ≤ b ∧ b ≠ g1 ∧ b ≠ g2 ∧ b ≠ g3) ∨ (Value.slice A' s.length c').ownBlock = some b) → w.heap.size ≤ b ∧ b ≠ g2 := fun b hb => by
          rcases hb with hb | hb
          · exact ⟨hb.1, hb.2.2.1⟩
          · have := hO.base_le b (by simpa using hb)
            have := hg4.size
            exact ⟨by omega, by omega⟩
        exact ((hs'.weak (fun b _ hb => hne b hb)).keep ((Keep.of_grown hb7).weak (fun b hb he => hb.2 (Option.some.inj he)))).weak (fun b _ hb => hb.1)
      · exact grown_row hg hb7 (fun b e => by have := Option.some.inj e; have := hg2.out; have := hb1.size; omega)
      · exact hIk _ _ _ hI1 ⟨hb7.size, fun b hb ho => hb7.block b hb (fun e => by have := Option.some.inj e; have := hg2.out; have := hb1.size; omega)⟩

set_option maxHeartbeats 2000000 in
set_option maxRecDepth 100000 in
theorem change_Mix (caps : Array Value) (bk : Nat) (Inv : Nat → World → Prop) (F : Nat → List Int) (r : Int) (A : Option Addr) (c : Nat) (s : List (List Int)) (w : World)
    (hS : Sl (kSl (kInt .i64)) (fun b => b ≠ bk) w A c s) (hbk : bk < w.heap.size) (hF : Makes 74 caps bk w.heap.size Inv s F) (hIk : InvKept w.heap.size Inv) (hI : Inv 0 w) (hs : s.length ≤ 2) :
    Calls Tryd.prog 71 #[.agg #[.int .i64 r, .slice A s.length c], .func (.func 74) #[] caps] w fun e w' => ∃ A' c', e = .returned (.agg #[.int .i64 r, .slice A' s.length c']) ∧
      Sl kT (fun b => w.heap.size ≤ b) w' A' c' ((List.range s.length).map F) ∧ w.grownBy w' (some bk) ∧ Inv s.length w' := by
  go_enter Tryd.func71, Tryd.ntmps71
  go_wp2_with (first | ((with_reducible refine at_dst (N := 2) rfl ?_); refine ev_new #[.int .i64 r, .slice A s.length c] 24 rfl ?hr ?_; (case hr => first | (go_simp; done) | (go_simp; rfl)); intro g1 w1 hg1 hz1 hb1 hk1; have k0 := hk1.cell 0 rfl; have k1 := hk1.cell 1 rfl) | ((with_reducible refine at_dst (N := 4) rfl ?_); refine ev_new #[.int .i64 0, .slice none 0 0] 24 rfl ?hr ?_; (case hr => first | (go_simp; done) | (go_simp; rfl)); intro g2 w2 hg2 hz2 hb2 hk2; replace k0 := cell_below hb2 k0; replace k1 := cell_below hb2 k1) | ((with_reducible refine at_dst (N := 5) rfl ?_); refine ev_new #[.int .i64 0, .slice none 0 0] 24 rfl ?hr ?_; (case hr => first | (go_simp; done) | (go_simp; rfl)); intro g3 w3 hg3 hz3 hb3 hk3; have q0 := hk3.cell 0 rfl; have q1 := hk3.cell 1 rfl; have f0 := hk3.free 0; have f1 := hk3.free 1; replace k0 := cell_below hb3 k0; replace k1 := cell_below hb3 k1) | ((with_reducible refine at_store (p := 5) rfl ?_); ((refine ev_put #[.int .i64 r, .slice none 0 0] rfl 24 (.tmp 5) (.tmp 10) rfl g3 24 _ rfl rfl hk3 sizeS rfl rfl ?_); intro w4 hk4 hb4 hz4; clear q0 q1 f0 f1 k0 k1; have e13 : g1 ≠ g3 := (by have := (hk1.below hb2).lt; have := hg3.out; omega); have e23 : g2 ≠ g3 := (by have := hk2.lt; have := hg3.out; omega); have B1 := ((hk1.below hb2).below hb3).keep (Keep.of_grown hb4) (fun e => e13 (Option.some.inj e)); have B2 := (hk2.below hb3).keep (Keep.of_grown hb4) (fun e => e23 (Option.some.inj e)); have k1 := B1.cell 1 rfl)))
  have hn := hS.len
  have L1 : g1 < w4.heap.size := B1.lt
  have L2 : g2 < w4.heap.size := B2.lt
  have L3 : g3 < w4.heap.size := hk4.lt
  have E1 : g1 ≠ bk := by have := hg1.out; omega
  have E2 : g2 ≠ bk := by have := hg2.out; have := hb1.size; omega
  have E3 : g3 ≠ bk := by have := hg3.out; have := (below2 hb1 hb2).size; omega
  have hg4 : w.grownBy w4 (some bk) := grown_row (grown_of_below (below2 (below2 hb1 hb2) hb3) _) hb4 (fun g e => by have e := Option.some.inj e; have := (below2 hb1 hb2).size; have := hg3.out; omega)
  have HS := hg4.size
  have G3 : w.heap.size ≤ g3 := by have := hg3.out; have := (below2 hb1 hb2).size; omega
  go_loopw [14] (fun i wr => ∃ (k : Nat) (v : Value), k ≤ s.length ∧ i = .int .i64 k ∧ Blk wr g1 #[.int .i64 r, .slice A s.length c] 24 ∧ Blk wr g2 #[.int .i64 0, .slice none 0 0] 24 ∧ Blk wr g3 #[.int .i64 r, v] 24
      ∧ OwnK kT 36 w4.heap.size (fun b => w.heap.size ≤ b ∧ b ≠ g1 ∧ b ≠ g2 ∧ b ≠ g3) wr v ((List.range k).map F) ∧ Inv k wr ∧ w.grownBy wr (some bk) ∧ Hid (w4.heap.size ≤ wr.heap.size)) (fun i _ => s.length - (intOf i).toNat)
  case atStart =>
    exact ⟨0, _, Nat.zero_le _, rfl, B1, B2, hk4, OwnK.nil _ _ _ _ _, hIk _ _ _ hI (((Keep.of_below (below2 (below2 hb1 hb2) hb3)).trans ⟨hb4.size, fun b hb ho => hb4.block b hb (fun e => by have := Option.some.inj e; have := hg3.out; have := (below2 hb1 hb2).size; omega)⟩)), hg4, Nat.le_refl _⟩
  case round =>
    clear B1 B2 k1 hk4
    obtain ⟨k, v, hk, rfl, B1, B2, B3, hO, hI1, hg, hz⟩ := hrel
    have k1 := B1.cell 1 rfl
    have k3 := B3.cell 1 rfl
    have l1 := B1.lt
    have l2 := B2.lt
    have l3 := B3.lt
    have l3' : g3 < w4.heap.size := L3
    have e3 : g3 ≠ bk := E3
    by_cases hlt : k < s.length
    · have hSr := hS.keep ((Keep.of_grown hg).weak (fun i hi e => hi (Option.some.inj e)))
      obtain ⟨ad, A', c', rfl, hc, hs'⟩ := rd_sl hSr k hlt
      have hle := hs'.le
      have hcap := hs'.cap
      go_wp2_with fail
      go_region_law (first | (go_simp; go_at_call 74; refine (hF.at k A' _ hlt ?h1 ?h2 ?h3 _ ?h4).mono ?_; (case h1 => exact hIk _ _ _ hI1 ⟨Nat.le_refl _, fun _ _ _ => rfl⟩); (case h2 => exact ⟨Nat.le_refl _, Nat.le_trans hle hcap, hs'.rd⟩); (case h3 => exact hg.size); (case h4 => rfl); rintro e w5 ⟨v5, rfl, hO5, hg5a, hI5⟩; have hg5 : wr.grownBy w5 (some bk) := ⟨hg5a.os, hg5a.tape, hg5a.output, hg5a.size, hg5a.block⟩; clear hg5a; have k5 : w5.cell? ⟨g3, 1, none⟩ = some v := hg5.cell k3 (fun e => e3 (Option.some.inj e)); have l5 : g3 < w5.heap.size := World.block_lt_of_cell? _ _ k5; obtain ⟨A5, c5, rfl, hs5⟩ := hO5.rdT) | ((refine step_append_k (k := kT) w4.heap.size ?a1 (.tmp 19) (.tmp 28) 22 36 (.slice none 0 0) 24 (fun b => w.heap.size ≤ b ∧ b ≠ g1 ∧ b ≠ g2 ∧ b ≠ g3) ?a2 Tryd.underlying22 infoS ?a3 ?a4 ?a5 v ((List.range k).map F) (F k) [.slice A5 (F k).length c5] ?a6 ?a7 ?a8 ?hO ?hx ?hb ?hl ?_); (case a1 => rfl); (case a2 => rfl); (case a3 => rfl); (case a4 => decide); (case a5 => decide); (case a6 => rfl); (case a7 => rfl); (case a8 => rfl); (case hO => exact change_own hO hg5 hbk hz.out hg4.size); (case hx => exact ⟨A5, c5, rfl, hs5.weak (fun b _ hb => change_new hO hb.1 l1 l2 l3 hg.size)⟩); (case hb => exact Nat.le_trans hz.out hg5.size); (case hl => simp; omega); intro g6 cap6 w6 hO6 hg6 hb6 ha6; have C3 : Blk w6 g3 #[.int .i64 r, v] 24 := change_blk B3 hg5 hg6 (fun e => e3 (Option.some.inj e)) (change_ne hO l3'); have k6 := C3.cell 1 rfl; have f6 := C3.free 1; clear k5))
      all_goals
        go_wp2
        go_roundw
        case rel =>
          have g6 := grown_setCell w6 g3 1 (.slice (some ⟨g6, 0, none⟩) (k + 1) cap6)
          refine ⟨k + 1, _, by omega, by go_num, (change_blk B1 hg5 hg6 (fun e => E1 (Option.some.inj e)) (change_ne hO L1)).keep (Keep.of_grown (grown_setCell _ g3 1 _)) (fun e => e13 (Option.some.inj e)), (change_blk B2 hg5 hg6 (fun e => E2 (Option.some.inj e)) (change_ne hO L2)).keep (Keep.of_grown (grown_setCell _ g3 1 _)) (fun e => e23 (Option.some.inj e)), C3.set 1 _, ?_, ?_, ?_, ?_⟩
          · rw [List.range_succ, List.map_append]
            simp only [List.length_map, List.length_range] at hO6
            exact hO6.keep (Keep.of_grown g6) (fun b hb he => by have := hO6.base_le b hb; have := Option.some.inj he; omega) (fun b hb he => hb.2.2.2 (Option.some.inj he)) ⟨rfl, rfl, rfl⟩
          · exact hIk _ _ _ hI5 (Keep.trans ⟨hg6.size, fun b hb ho => hg6.block b hb (fun e => by have := hO.base_le b e.symm; omega)⟩ ⟨g6.size, fun b hb ho => g6.block b hb (fun e => by have := Option.some.inj e; omega)⟩)
          · exact grown_row (grown_row (grown_trans hg hg5) hg6 (fun b e => by have := hO.base_le b e; omega)) g6 (fun b e => by have := Option.some.inj e; omega)
          · exact Nat.le_trans (Nat.le_trans hz.out hg5.size) (Nat.le_trans hg6.size g6.size)
        case measure => simp [intOf]; omega
    · obtain rfl : k = s.length := by omega
      obtain ⟨A', c', rfl, hs'⟩ := hO.rd
      simp only [List.length_map, List.length_range] at hs' B3 k3 ⊢
      have k3' := B3.cell 0 rfl
      go_wp2_with ((with_reducible refine at_store (p := 4) rfl ?_); (refine ev_put #[.int .i64 r, .slice A' s.length c'] rfl 24 (.tmp 4) (.tmp 32) rfl g2 24 _ rfl rfl B2 sizeS rfl rfl ?_); intro w7 hk7 hb7 hz7; clear k3 k3' k1; have z0 := hk7.cell 0 rfl; have z1 := hk7.cell 1 rfl)
      refine bodyPost_ret (v := .agg #[.int .i64 r, .slice A' s.length c']) (by simp [results, Tryd.results71, go_sem, z0, z1]) rfl ⟨A', c', rfl, ?_, ?_, ?_⟩
      · have hne : ∀ b, ((w.heap.size ≤ b ∧ b ≠ g1 ∧ b ≠ g2 ∧ b ≠ g3) ∨ (Value.slice A' s.length c').ownBlock = some b) → w.heap.size ≤ b ∧ b ≠ g2 := fun b hb => by
          rcases hb with hb | hb
          · exact ⟨hb.1, hb.2.2.1⟩
          · have := hO.base_le b (by simpa using hb)
            have := hg4.size
            exact ⟨by omega, by omega⟩
        exact ((hs'.weak (fun b _ hb => hne b hb)).keep ((Keep.of_grown hb7).weak (fun b hb he => hb.2 (Option.some.inj he)))).weak (fun b _ hb => hb.1)
      · exact grown_row hg hb7 (fun b e => by have := Option.some.inj e; have := hg2.out; have := hb1.size; omega)
      · exact hIk _ _ _ hI1 ⟨hb7.size, fun b hb ho => hb7.block b hb (fun e => by have := Option.some.inj e; have := hg2.out; have := hb1.size; omega)⟩
end Go.Proofs.YtijcecakofmhcaaDoor
