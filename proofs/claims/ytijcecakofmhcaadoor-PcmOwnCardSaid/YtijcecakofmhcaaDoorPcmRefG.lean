/- The document's answer, layer 2: Cut. -/
import Derived.Test.YtijcecakofmhcaaDoorPcmRefE
import Derived.Test.YtijcecakofmhcaaDoorPcmT
import Derived.Test.YtijcecakofmhcaaDoorPcmN
import Derived.Test.YtijcecakofmhcaaDoorCut
namespace Go.Proofs.YtijcecakofmhcaaDoor
open Go.RowKit

theorem map_range_nth (s : List (List Int)) (f : List Int → List Int) : (List.range s.length).map (fun j => f (nth [] s j)) = s.map f := by
  apply List.ext_getElem
  · simp
  · intro i h1 h2
    simp at h1
    simp [nth_eq [] s i h1]

set_option maxHeartbeats 1000000 in
set_option maxRecDepth 100000 in
theorem refCut_any (r : Int) (A : Option Addr) (c : Nat) (s : List (List Int)) (a b : Int) (w : World) (hS : R2 w A c s) :
    Calls Tryd.prog 31 #[.agg #[.int .i64 r, .slice A s.length c], .int .i64 a, .int .i64 b] w fun e w' => RetA (cutS r s a b) e w' ∧ Below w.heap.size w w' := by
  have hn := hS.len
  cases hv : validB r s
  · have HP := Lib.hid (show cutS r s a b = (0, [], 1) by simp [cutS, hv])
    have HV := Lib.hid hv
    clear hv
    go_enter Tryd.func31, Tryd.ntmps31
    go_wp2_with (first | ((with_reducible refine at_dst (N := 3) rfl ?_); refine ev_new #[.int .i64 r, .slice A s.length c] 24 rfl ?hr ?_; (case hr => first | (go_simp; done) | (go_simp; rfl)); intro g1 w1 eg1 zg1 b1 Bg1; skip) | ((with_reducible refine at_dst (N := 6) rfl ?_); refine ev_new #[.int .i64 0, .slice none 0 0] 24 rfl ?hr ?_; (case hr => first | (go_simp; done) | (go_simp; rfl)); intro g2 w2 eg2 zg2 b2 Bg2; replace Bg1 := Bg1.below b2; replace b1 := below2 b1 b2; have k0 := Bg1.cell 0 rfl; have k1 := Bg1.cell 1 rfl) | (go_at_call 25; refine (refValid_any r A c s _ (hS.below b1)).mono ?_; rintro e w3 ⟨rfl, b3⟩; rw [HV.out]; replace Bg2 := Bg2.below b3; replace b1 := below2 b1 b3) | ((with_reducible refine at_store (p := 6) rfl ?_); (refine ev_put #[.int .i64 0, .slice none 0 0] rfl 24 (.tmp 6) (.tmp 14) rfl g2 24 _ rfl rfl Bg2 sizeS rfl rfl ?_); intro wf Bq hqf hzf; have z0 := Bq.cell 0 rfl; have z1 := Bq.cell 1 rfl))
    have e1 := eg1.out
    have e2 := eg2.out
    have e3 := zg1.out
    refine bodyPost_ret (v := .tuple #[.agg #[.int .i64 0, .slice none 0 0], .int .i64 1]) (by simp [results, Tryd.results31, go_sem, z0, z1]) rfl ⟨by rw [HP.out]; exact RetA.none _ _, below_grown b1 b1.size hqf (fun k e => by have := Option.some.inj e; omega)⟩
  · have V := valid_facts hv
    have h1 := V.one
    have h2 := V.two
    have h3 := V.len
    have H4 := Lib.hid V.same
    have HV := Lib.hid hv
    obtain ⟨n, hnn⟩ : ∃ n, len0 s = n := ⟨_, rfl⟩
    have hcase : a < 0 ∨ (0 ≤ a ∧ b < a) ∨ (0 ≤ a ∧ a ≤ b ∧ (n : Int) < b) ∨ (0 ≤ a ∧ a ≤ b ∧ b ≤ (n : Int)) := by omega
    have HNN := Lib.hid hnn
    by_cases hok : 0 ≤ a ∧ a ≤ b ∧ b ≤ (n : Int)
    · clear hcase
      obtain ⟨p, rfl⟩ : ∃ p : Nat, a = p := ⟨a.toNat, by omega⟩
      obtain ⟨q, rfl⟩ : ∃ q : Nat, b = q := ⟨b.toNat, by omega⟩
      have HP := Lib.hid (show cutS r s p q = (r, s.map (fun c => (c.take q).drop p), 0) by simp [cutS, hv, cutOk, hnn, hok])
      have hpq : p ≤ q := by omega
      have hqn : q ≤ n := by omega
      have hi1 : ¬ (q : Int) < (p : Int) := by omega
      have hi2 : ¬ (n : Int) < (q : Int) := by omega
      have hlen : ∀ j, j < s.length → (nth [] s j).length = n := fun j hj => by rw [← hnn]; exact V.same _ (nth_mem [] s j hj)
      have HLEN := Lib.hid hlen
      rw [hnn] at h3
      clear hv hnn hok V hlen
      go_enter Tryd.func31, Tryd.ntmps31
      go_wp2_with (first | ((with_reducible refine at_dst (N := 3) rfl ?_); refine ev_new #[.int .i64 r, .slice A s.length c] 24 rfl ?hr ?_; (case hr => first | (go_simp; done) | (go_simp; rfl)); intro g1 w1 eg1 zg1 b1 Bg1; skip) | ((with_reducible refine at_dst (N := 6) rfl ?_); refine ev_new #[.int .i64 0, .slice none 0 0] 24 rfl ?hr ?_; (case hr => first | (go_simp; done) | (go_simp; rfl)); intro g2 w2 eg2 zg2 b2 Bg2; replace Bg1 := Bg1.below b2; replace b1 := below2 b1 b2; have k0 := Bg1.cell 0 rfl; have k1 := Bg1.cell 1 rfl) | (go_at_call 25; refine (refValid_any r A c s _ (hS.below b1)).mono ?_; rintro e w3 ⟨rfl, b3⟩; rw [HV.out]; replace Bg2 := Bg2.below b3; replace Bg1 := Bg1.below b3; replace b1 := below2 b1 b3; clear k0 k1; have k0 : w3.cell? ⟨g1, 0, none⟩ = some (.int .i64 r) := Bg1.cell 0 rfl; have k1 : w3.cell? ⟨g1, 1, none⟩ = some (.slice A s.length c) := Bg1.cell 1 rfl) | (go_at_call 34; refine (refLen_any r A c s _ (hS.below b1) h1).mono ?_; rintro e w5 ⟨rfl, b5⟩; rw [HNN.out]; replace Bg2 := Bg2.below b5; replace Bg1 := Bg1.below b5; replace b1 := below2 b1 b5; clear k0 k1; have k0 : w5.cell? ⟨g1, 0, none⟩ = some (.int .i64 r) := Bg1.cell 0 rfl; have k1 : w5.cell? ⟨g1, 1, none⟩ = some (.slice A s.length c) := Bg1.cell 1 rfl) | ((with_reducible refine at_dst (N := 8) rfl ?_); refine ev_new #[.int .i64 0, .slice none 0 0] 24 rfl ?hr ?_; (case hr => first | (go_simp; done) | (go_simp; rfl)); intro g3 w6 eg3 zg3 b6 Bg3; replace Bg2 := Bg2.below b6; replace Bg1 := Bg1.below b6; clear k0 k1) | ((with_reducible refine at_store (p := 8) rfl ?_); (refine ev_put #[.int .i64 r, .slice none 0 0] rfl 24 (.tmp 8) (.tmp 31) rfl g3 24 _ rfl rfl Bg3 sizeS rfl rfl ?_); intro w4 B3 hb4 hz4; have e13 : g1 ≠ g3 := (by have := Bg1.lt; have := eg3.out; have l1 := eg1.out; have l2 := eg2.out; have l3 := zg1.out; have l4 := zg2.out; have l5 := b5.size; have l6 := b3.size; omega); have e23 : g2 ≠ g3 := (by have := eg3.out; have l2 := eg2.out; have l4 := zg2.out; have l5 := b5.size; have l6 := b3.size; omega); have B1 := Bg1.keep (Keep.of_grown hb4) (fun e => e13 (Option.some.inj e)); have B2 := Bg2.keep (Keep.of_grown hb4) (fun e => e23 (Option.some.inj e)); have k1 := B1.cell 1 rfl))
      have G3 : w.heap.size ≤ g3 := by have := eg3.out; have := b1.size; omega
      have BX : Below w.heap.size w w4 := below_grown (below2 b1 b6) (below2 b1 b6).size hb4 (fun k e => by have := Option.some.inj e; omega)
      have hA := (hS.apart (below2 b1 b6) G3).keep (Keep.of_grown1 hb4)
      have L1 := B1.lt
      have L2 := B2.lt
      have L3 := B3.lt
      have HL3 := Lib.hid h3
      obtain ⟨F, hF⟩ : ∃ F : Nat → List Int, F = fun j => ((nth [] s j).take q).drop p := ⟨_, rfl⟩
      have HF := Lib.hid hF
      clear hF k1
      obtain ⟨i0, hi0, hz0, hz1, hz2⟩ := info_parts infoI
      go_loopw [35] (fun i wr => ∃ (k : Nat) (v : Value), k ≤ s.length ∧ i = .int .i64 k ∧ Blk wr g1 #[.int .i64 r, .slice A s.length c] 24 ∧ Blk wr g2 #[.int .i64 0, .slice none 0 0] 24 ∧ Blk wr g3 #[.int .i64 r, v] 24
          ∧ OwnK (kSl (kInt .i64)) 36 w4.heap.size (fun b => w4.heap.size ≤ b) wr v ((List.range k).map F) ∧ w4.grownBy wr (some g3)) (fun i _ => s.length - (intOf i).toNat)
      case atStart => exact ⟨0, _, Nat.zero_le _, rfl, B1, B2, B3, OwnK.nil _ _ _ _ _, World.grownBy.refl _ _⟩
      case round =>
        clear B1 B2 B3
        obtain ⟨k, v, hk, rfl, B1, B2, B3, hO, hg⟩ := hrel
        have k3 := B3.cell 1 rfl
        have hgs := hg.size
        by_cases hlt : k < s.length
        · obtain ⟨ad, A', c', rfl, hc, hs'⟩ := rd_sl (hA.keep (Keep.of_grown1 hg)) k hlt
          have hnk := HLEN.out k hlt
          rw [hnk] at hc
          have hle : n ≤ c' := by have := hs'.le; omega
          have hcap := hs'.cap
          obtain ⟨A6, hcut, hsl6⟩ := cut_mid (P := Tryd.prog) 36 3 Tryd.underlying36 hi0 A' n c' p q hpq hqn hle
          have h6 := hsl6 (kInt .i64) _ wr (nth [] s k) hz1.symm hnk hs'
          have hl6 : (((nth [] s k).take q).drop p).length = q - p := by rw [List.length_drop, List.length_take, hnk]; omega
          have HOwn := Lib.hid (own_any A6 (c' - p) (((nth [] s k).take q).drop p) wr.drew ((h6.below (Below.refl _ _).drew).any) (by have := HL3.out; omega))
          rw [hl6] at HOwn
          have hFk : F k = ((nth [] s k).take q).drop p := by rw [HF.out]
          rw [← hFk] at HOwn
          clear h6 hsl6 hl6 hFk hnk hs'
          go_wp2_with fail
          go_region_law (first | (go_simp; go_at_call 70; refine HOwn.out.mono ?_; rintro e w5 ⟨v5, rfl, hO5, hb5⟩; have k5 : w5.cell? ⟨g3, 1, none⟩ = some v := (B3.below (below2 (Below.refl wr.heap.size wr).drew hb5)).cell 1 rfl; obtain ⟨A5, c5, rfl, hs5⟩ := hO5.rd; have k5a := cell_below (below_alloc (Below.refl w5.heap.size w5) (.cells #[.slice A5 (F k).length c5] 36)) k5) | ((refine step_append_k (W := w5) (k := kSl (kInt .i64)) w4.heap.size ?a1 (.tmp 40) (.tmp 46) 22 36 (.slice none 0 0) 24 (fun b => w4.heap.size ≤ b) ?a2 Tryd.underlying22 infoS ?a3 ?a4 ?a5 v ((List.range k).map F) (F k) [.slice A5 (F k).length c5] ?a6 ?a7 ?a8 ?hO ?hx ?hb ?hl ?_); (case a1 => rfl); (case a2 => rfl); (case a3 => rfl); (case a4 => decide); (case a5 => decide); (case a6 => rfl); (case a7 => rfl); (case a8 => rfl); (case hO => exact hO.below (below2 (Below.refl wr.heap.size wr).drew hb5)); (case hx => exact ⟨A5, c5, rfl, hs5.weak (fun b _ hb => ⟨by have : wr.heap.size ≤ b := hb.1; omega, fun he => by have := (hO.lt b he).2; have : wr.heap.size ≤ b := hb.1; omega⟩)⟩); (case hb => exact Nat.le_trans hgs hb5.size); (case hl => simp; omega); intro g6 cap6 w6 hO6 hg6 hb6 ha6; have C3 : Blk w6 g3 #[.int .i64 r, v] 24 := (B3.below (below2 (Below.refl wr.heap.size wr).drew hb5)).keep (Keep.of_grown hg6) (fun e => by have := hO.base_le g3 e.symm; omega); have k6 := C3.cell 1 rfl; have f6 := C3.free 1; clear k5 k5a))
          all_goals
            go_wp2
            go_roundw
            case rel =>
              have hst := grown_setCell w6 g3 1 (.slice (some ⟨g6, 0, none⟩) (k + 1) cap6)
              have hbd := below2 (Below.refl wr.heap.size wr).drew hb5
              refine ⟨k + 1, _, by omega, by go_num, ((B1.below hbd).keep (Keep.of_grown hg6) (fun e => by have := hO.base_le g1 e.symm; omega)).keep (Keep.of_grown1 hst) e13, ((B2.below hbd).keep (Keep.of_grown hg6) (fun e => by have := hO.base_le g2 e.symm; omega)).keep (Keep.of_grown1 hst) e23, C3.set 1 _, ?_, ?_⟩
              · rw [List.range_succ, List.map_append]
                simp only [List.length_map, List.length_range] at hO6
                exact hO6.keep (Keep.of_grown1 hst) (fun b hb e => by have := hO6.base_le b hb; omega) (fun b hb e => by omega) ⟨rfl, rfl, rfl⟩
              · exact grown_trans (grown_row (grown_row hg (grown_of_below hbd none) (fun _ e => by cases e)) hg6 (fun b e => hO.base_le b e)) hst
            case measure => simp [intOf]; omega
        · obtain rfl : k = s.length := by omega
          obtain ⟨Ao, co, rfl, Ro⟩ := hO.rd
          simp only [List.length_map, List.length_range] at Ro B3 k3 ⊢
          have k3' := B3.cell 0 rfl
          go_wp2_with ((with_reducible refine at_store (p := 6) rfl ?_); (refine ev_put #[.int .i64 r, .slice Ao s.length co] rfl 24 (.tmp 6) (.tmp 50) rfl g2 24 _ rfl rfl B2 sizeS rfl rfl ?_); intro wf Bq hqf hzf; have z0 := Bq.cell 0 rfl; have z1 := Bq.cell 1 rfl)
          have e2 := eg2.out
          have e3 := zg1.out
          have e1 := eg1.out
          refine bodyPost_ret (v := .tuple #[.agg #[.int .i64 r, .slice Ao s.length co], .int .i64 0]) (by simp [results, Tryd.results31, go_sem, z0, z1]) rfl ⟨?_, ?_⟩
          · rw [HP.out, ← map_range_nth, ← HF.out]
            refine ⟨Ao, co, by simp, ?_⟩
            refine ((Ro.weak (ok' := fun b => w4.heap.size ≤ b) (fun b _ hb => ?_)).keep ((Keep.of_grown1 hqf).weak (fun i hi => by omega))).any
            rcases hb with hb | hb
            · exact hb
            · exact hO.base_le b (by simpa using hb)
          · exact below_grown (below_grown BX BX.size hg (fun k e => by have := Option.some.inj e; omega)) (Nat.le_trans BX.size hg.size) hqf (fun k e => by have := Option.some.inj e; omega)
    · have HP := Lib.hid (show cutS r s a b = (0, [], 6) by simp [cutS, hv, cutOk, hnn]; omega)
      clear hv hnn V
      have fin : True := trivial
      rcases (show a < 0 ∨ (0 ≤ a ∧ b < a) ∨ (0 ≤ a ∧ a ≤ b ∧ (n : Int) < b) by omega) with h | ⟨h, h'⟩ | ⟨h, h', h''⟩
      · clear hok hcase
        go_enter Tryd.func31, Tryd.ntmps31
        go_wp2_with (first | ((with_reducible refine at_dst (N := 3) rfl ?_); refine ev_new #[.int .i64 r, .slice A s.length c] 24 rfl ?hr ?_; (case hr => first | (go_simp; done) | (go_simp; rfl)); intro g1 w1 eg1 zg1 b1 Bg1; skip) | ((with_reducible refine at_dst (N := 6) rfl ?_); refine ev_new #[.int .i64 0, .slice none 0 0] 24 rfl ?hr ?_; (case hr => first | (go_simp; done) | (go_simp; rfl)); intro g2 w2 eg2 zg2 b2 Bg2; replace Bg1 := Bg1.below b2; replace b1 := below2 b1 b2; have k0 := Bg1.cell 0 rfl; have k1 := Bg1.cell 1 rfl) | (go_at_call 25; refine (refValid_any r A c s _ (hS.below b1)).mono ?_; rintro e w3 ⟨rfl, b3⟩; rw [HV.out]; replace Bg2 := Bg2.below b3; replace Bg1 := Bg1.below b3; replace b1 := below2 b1 b3; clear k0 k1; have k0 : w3.cell? ⟨g1, 0, none⟩ = some (.int .i64 r) := Bg1.cell 0 rfl; have k1 : w3.cell? ⟨g1, 1, none⟩ = some (.slice A s.length c) := Bg1.cell 1 rfl) | (go_at_call 34; refine (refLen_any r A c s _ (hS.below b1) h1).mono ?_; rintro e w5 ⟨rfl, b5⟩; rw [HNN.out]; replace Bg2 := Bg2.below b5; replace b1 := below2 b1 b5) | ((with_reducible refine at_store (p := 6) rfl ?_); (refine ev_put #[.int .i64 0, .slice none 0 0] rfl 24 (.tmp 6) (.tmp 28) rfl g2 24 _ rfl rfl Bg2 sizeS rfl rfl ?_); intro wf Bq hqf hzf; have z0 := Bq.cell 0 rfl; have z1 := Bq.cell 1 rfl))
        have e1 := eg1.out
        have e2 := eg2.out
        have e3 := zg1.out
        refine bodyPost_ret (v := .tuple #[.agg #[.int .i64 0, .slice none 0 0], .int .i64 6]) (by simp [results, Tryd.results31, go_sem, z0, z1]) rfl ⟨by rw [HP.out]; exact RetA.none _ _, below_grown b1 b1.size hqf (fun k e => by have := Option.some.inj e; omega)⟩
      · clear hok hcase
        have h0 : ¬ a < 0 := by omega
        go_enter Tryd.func31, Tryd.ntmps31
        go_wp2_with (first | ((with_reducible refine at_dst (N := 3) rfl ?_); refine ev_new #[.int .i64 r, .slice A s.length c] 24 rfl ?hr ?_; (case hr => first | (go_simp; done) | (go_simp; rfl)); intro g1 w1 eg1 zg1 b1 Bg1; skip) | ((with_reducible refine at_dst (N := 6) rfl ?_); refine ev_new #[.int .i64 0, .slice none 0 0] 24 rfl ?hr ?_; (case hr => first | (go_simp; done) | (go_simp; rfl)); intro g2 w2 eg2 zg2 b2 Bg2; replace Bg1 := Bg1.below b2; replace b1 := below2 b1 b2; have k0 := Bg1.cell 0 rfl; have k1 := Bg1.cell 1 rfl) | (go_at_call 25; refine (refValid_any r A c s _ (hS.below b1)).mono ?_; rintro e w3 ⟨rfl, b3⟩; rw [HV.out]; replace Bg2 := Bg2.below b3; replace Bg1 := Bg1.below b3; replace b1 := below2 b1 b3; clear k0 k1; have k0 : w3.cell? ⟨g1, 0, none⟩ = some (.int .i64 r) := Bg1.cell 0 rfl; have k1 : w3.cell? ⟨g1, 1, none⟩ = some (.slice A s.length c) := Bg1.cell 1 rfl) | (go_at_call 34; refine (refLen_any r A c s _ (hS.below b1) h1).mono ?_; rintro e w5 ⟨rfl, b5⟩; rw [HNN.out]; replace Bg2 := Bg2.below b5; replace b1 := below2 b1 b5) | ((with_reducible refine at_store (p := 6) rfl ?_); (refine ev_put #[.int .i64 0, .slice none 0 0] rfl 24 (.tmp 6) (.tmp 28) rfl g2 24 _ rfl rfl Bg2 sizeS rfl rfl ?_); intro wf Bq hqf hzf; have z0 := Bq.cell 0 rfl; have z1 := Bq.cell 1 rfl))
        have e1 := eg1.out
        have e2 := eg2.out
        have e3 := zg1.out
        refine bodyPost_ret (v := .tuple #[.agg #[.int .i64 0, .slice none 0 0], .int .i64 6]) (by simp [results, Tryd.results31, go_sem, z0, z1]) rfl ⟨by rw [HP.out]; exact RetA.none _ _, below_grown b1 b1.size hqf (fun k e => by have := Option.some.inj e; omega)⟩
      · clear hok hcase
        have h0 : ¬ a < 0 := by omega
        have h1' : ¬ b < a := by omega
        go_enter Tryd.func31, Tryd.ntmps31
        go_wp2_with (first | ((with_reducible refine at_dst (N := 3) rfl ?_); refine ev_new #[.int .i64 r, .slice A s.length c] 24 rfl ?hr ?_; (case hr => first | (go_simp; done) | (go_simp; rfl)); intro g1 w1 eg1 zg1 b1 Bg1; skip) | ((with_reducible refine at_dst (N := 6) rfl ?_); refine ev_new #[.int .i64 0, .slice none 0 0] 24 rfl ?hr ?_; (case hr => first | (go_simp; done) | (go_simp; rfl)); intro g2 w2 eg2 zg2 b2 Bg2; replace Bg1 := Bg1.below b2; replace b1 := below2 b1 b2; have k0 := Bg1.cell 0 rfl; have k1 := Bg1.cell 1 rfl) | (go_at_call 25; refine (refValid_any r A c s _ (hS.below b1)).mono ?_; rintro e w3 ⟨rfl, b3⟩; rw [HV.out]; replace Bg2 := Bg2.below b3; replace Bg1 := Bg1.below b3; replace b1 := below2 b1 b3; clear k0 k1; have k0 : w3.cell? ⟨g1, 0, none⟩ = some (.int .i64 r) := Bg1.cell 0 rfl; have k1 : w3.cell? ⟨g1, 1, none⟩ = some (.slice A s.length c) := Bg1.cell 1 rfl) | (go_at_call 34; refine (refLen_any r A c s _ (hS.below b1) h1).mono ?_; rintro e w5 ⟨rfl, b5⟩; rw [HNN.out]; replace Bg2 := Bg2.below b5; replace b1 := below2 b1 b5) | ((with_reducible refine at_store (p := 6) rfl ?_); (refine ev_put #[.int .i64 0, .slice none 0 0] rfl 24 (.tmp 6) (.tmp 28) rfl g2 24 _ rfl rfl Bg2 sizeS rfl rfl ?_); intro wf Bq hqf hzf; have z0 := Bq.cell 0 rfl; have z1 := Bq.cell 1 rfl))
        have e1 := eg1.out
        have e2 := eg2.out
        have e3 := zg1.out
        refine bodyPost_ret (v := .tuple #[.agg #[.int .i64 0, .slice none 0 0], .int .i64 6]) (by simp [results, Tryd.results31, go_sem, z0, z1]) rfl ⟨by rw [HP.out]; exact RetA.none _ _, below_grown b1 b1.size hqf (fun k e => by have := Option.some.inj e; omega)⟩
end Go.Proofs.YtijcecakofmhcaaDoor
