/- The law PcmOwn: the walk. -/
import Derived.Test.YtijcecakofmhcaaDoorPcmWalkLib
import Derived.Test.YtijcecakofmhcaaDoorPcmPlainA
import Derived.Test.YtijcecakofmhcaaDoorPcmOwnL
import Derived.Test.YtijcecakofmhcaaDoorPcmSpoil
import Derived.Test.YtijcecakofmhcaaDoorPcmRefK
import Derived.Test.YtijcecakofmhcaaDoorHeld
import Derived.Test.YtijcecakofmhcaaDoorPcmI
import Derived.Test.YtijcecakofmhcaaDoorPcmJ
import Derived.Test.YtijcecakofmhcaaDoorPcmM
import Derived.Test.YtijcecakofmhcaaDoorPcmN
import Derived.Test.YtijcecakofmhcaaDoorPcmO
import Derived.Test.YtijcecakofmhcaaDoorPcmQ
namespace Go.Proofs.YtijcecakofmhcaaDoor
open Go.RowKit

/-- Two sounds in memory of their own, in two variables. -/
structure TwoOwn (WL : World) (x0 : Int) (s0 : List (List Int)) (g5 g6 : Nat) (A5 : Option Addr) (c5 : Nat) (A6 : Option Addr) (c6 : Nat) (l5 h5 l6 h6 : Nat) (wx : World) : Prop where
  b5 : Blk wx g5 #[.int .i64 x0, .slice A5 s0.length c5] 24
  b6 : Blk wx g6 #[.int .i64 x0, .slice A6 s0.length c6] 24
  o5 : OwnK kT 36 l5 (fun b => l5 ≤ b ∧ b < h5) wx (.slice A5 s0.length c5) s0
  o6 : OwnK kT 36 l6 (fun b => l6 ≤ b ∧ b < h6) wx (.slice A6 s0.length c6) s0
  low : Below WL.heap.size WL wx
  e5 : ∀ b, (Value.slice A5 s0.length c5).ownBlock = some b → b < h5
  e6 : ∀ b, (Value.slice A6 s0.length c6).ownBlock = some b → b < h6
  num : WL.heap.size ≤ g5 ∧ WL.heap.size ≤ g6 ∧ g5 ≠ g6 ∧ WL.heap.size ≤ l5 ∧ l5 ≤ h5 ∧ h5 ≤ l6 ∧ l6 ≤ h6 ∧ h6 ≤ wx.heap.size ∧ (g5 < l5 ∨ h5 ≤ g5) ∧ (g5 < l6 ∨ h6 ≤ g5) ∧ (g6 < l5 ∨ h5 ≤ g6) ∧ (g6 < l6 ∨ h6 ≤ g6)

theorem own_leaf {WL V : World} {x0 : Int} {s0 : List (List Int)} {g5 g6 : Nat} {A5 : Option Addr} {c5 : Nat} {A6 : Option Addr} {c6 l5 h5 l6 h6 : Nat} {y1 y2 : World} {o5 o6 : Array Value} (D : Below WL.heap.size WL V) (z5 : Blk V g5 o5 24) (z6 : Blk V g6 o6 24)
    (P5 : OwnK kT 36 l5 (fun b => l5 ≤ b ∧ b < h5) V (.slice A5 s0.length c5) s0) (P6 : OwnK kT 36 l6 (fun b => l6 ≤ b ∧ b < h6) V (.slice A6 s0.length c6) s0)
    (q1 : Blk y1 g5 #[.int .i64 x0, .slice A5 s0.length c5] 24) (t1 : V.grownBy y1 (some g5)) (r1 : y1.heap.size = V.heap.size)
    (q2 : Blk y2 g6 #[.int .i64 x0, .slice A6 s0.length c6] 24) (t2 : y1.grownBy y2 (some g6)) (r2 : y2.heap.size = y1.heap.size)
    (u5 : ∀ b, (Value.slice A5 s0.length c5).ownBlock = some b → l5 ≤ b ∧ b < h5) (u6 : ∀ b, (Value.slice A6 s0.length c6).ownBlock = some b → l6 ≤ b ∧ b < h6) (n56 : g5 ≠ g6)
    (num : WL.heap.size ≤ g5 ∧ WL.heap.size ≤ g6 ∧ g5 ≠ g6 ∧ WL.heap.size ≤ l5 ∧ l5 ≤ h5 ∧ h5 ≤ l6 ∧ l6 ≤ h6 ∧ h6 ≤ V.heap.size ∧ (g5 < l5 ∨ h5 ≤ g5) ∧ (g5 < l6 ∨ h6 ≤ g5) ∧ (g6 < l5 ∨ h5 ≤ g6) ∧ (g6 < l6 ∨ h6 ≤ g6)) :
    TwoOwn WL x0 s0 g5 g6 A5 c5 A6 c6 l5 h5 l6 h6 y2 := by
  obtain ⟨m1, m2, m3, m4, m5, m6, m7, m8, m9, m10, m11, m12⟩ := num
  have k1 := Keep.of_grown1 t1
  have k2 := Keep.of_grown1 t2
  refine ⟨q1.keep k2 n56, q2, ?_, ?_, below_grown (below_grown D D.size t1 (fun k e => by have := Option.some.inj e; omega)) (by have := D.size; omega) t2 (fun k e => by have := Option.some.inj e; omega), fun b hb => (u5 b hb).2, fun b hb => (u6 b hb).2,
    ⟨m1, m2, m3, m4, m5, m6, m7, by omega, m9, m10, m11, m12⟩⟩
  · exact (P5.keep k1 (fun b hb => by have := u5 b hb; omega) (fun b hb => by have := hb.1; have := hb.2; omega) ⟨t1.os, t1.tape, t1.output⟩).keep k2 (fun b hb => by have := u5 b hb; omega) (fun b hb => by have := hb.1; have := hb.2; omega) ⟨t2.os, t2.tape, t2.output⟩
  · exact (P6.keep k1 (fun b hb => by have := u6 b hb; omega) (fun b hb => by have := hb.1; have := hb.2; omega) ⟨t1.os, t1.tape, t1.output⟩).keep k2 (fun b hb => by have := u6 b hb; omega) (fun b hb => by have := hb.1; have := hb.2; omega) ⟨t2.os, t2.tape, t2.output⟩
def nilTo (s : List (List Int)) (k : Nat) : List (List Int) := List.replicate k [] ++ s.drop k
theorem nilTo_zero (s : List (List Int)) : nilTo s 0 = s := by simp [nilTo]
theorem nilTo_all (s : List (List Int)) : nilTo s s.length = List.replicate s.length [] := by simp [nilTo]
theorem nilTo_len (s : List (List Int)) (k : Nat) (h : k ≤ s.length) : (nilTo s k).length = s.length := by simp [nilTo]; omega
theorem nilTo_set (s : List (List Int)) (k : Nat) (h : k < s.length) : (nilTo s k).set k [] = nilTo s (k + 1) := by
  unfold nilTo
  rw [drop_nth [] s k h, List.set_append, List.length_replicate, if_neg (by omega), Nat.sub_self, List.set_cons_zero, List.replicate_succ']
  simp
theorem infoSnd : (Tryd.prog.info? 24).map (fun i => (i.zero, i.size, i.bytes)) = some (some (.agg #[.int .i64 0, .slice none 0 0]), 2, 32) := by kernel_rfl
theorem small_len {s : List (List Int)} (h : smallB s 3000 = true) : s.length ≤ 3000 ∧ ∀ c ∈ s, c.length ≤ 3000 := by
  have h : totL s s.length ≤ 3000 := by
    have := of_decide_eq_true (show decide ((totL s s.length : Int) ≤ 3000) = true from h)
    omega
  refine ⟨by unfold totL at h; omega, fun c hc => ?_⟩
  obtain ⟨j, hj, rfl⟩ := List.mem_iff_getElem.1 hc
  have h1 := totL_succ s j hj
  have h2 := totL_mono s (j + 1) hj
  rw [nth_eq [] s j hj] at h1
  omega

set_option maxHeartbeats 8000000 in
set_option maxRecDepth 100000 in
theorem pcmOwn_walk (x0 : Int) (A0 : Option Addr) (c0 : Nat) (s0 : List (List Int)) (i1 j1 : Int) (w : World) (hG : GR w) (hR0 : R2 w A0 c0 s0) (hF0 : Fits s0) :
    Calls Tryd.prog 10 #[.agg #[.int .i64 x0, .slice A0 s0.length c0], .agg #[.int .i64 i1, .int .i64 j1]] w fun e w' => e = .returned (.bool true) ∧ Below w.heap.size w w' := by
  have hn := hR0.len
  have HRW := Lib.hid hR0
  cases hb : smallB s0 3000
  · have HB := Lib.hid hb
    clear hb
    go_enter Tryd.func10, Tryd.ntmps10
    go_wp2_with (first | ((with_reducible refine at_dst (N := 2) rfl ?_); refine ev_new #[.int .i64 x0, .slice A0 s0.length c0] 24 rfl ?hr ?_; (case hr => first | (go_simp; done) | (go_simp; rfl)); intro p0 wp0 ep0 zp0 BX Bp0; skip) | ((with_reducible refine at_dst (N := 3) rfl ?_); refine ev_new #[.int .i64 i1, .int .i64 j1] 37 rfl ?hr ?_; (case hr => first | (go_simp; done) | (go_simp; rfl)); intro p1 wp1 ep1 zp1 bb1 Bp1; replace BX := below2 BX bb1; replace Bp0 := Bp0.below bb1; have kp0_0 := Bp0.cell 0 rfl; have kp0_1 := Bp0.cell 1 rfl; have kp1_0 := Bp1.cell 0 rfl; have kp1_1 := Bp1.cell 1 rfl))
    replace hR0 := hR0.below BX
    refine (small_any x0 A0 c0 s0 3000 _ hR0 (by decide) (by decide) hF0.1 hF0.2).mono ?_
    rintro e W1 ⟨rfl, b1⟩
    rw [HB.out]
    replace BX := below2 BX b1
    replace hR0 := hR0.below b1
    replace Bp0 := Bp0.below b1
    replace Bp1 := Bp1.below b1
    clear b1
    clear kp0_0 kp0_1 kp1_0 kp1_1
    have kBp0_0 := Bp0.cell 0 rfl
    have kBp0_1 := Bp0.cell 1 rfl
    have kBp1_0 := Bp1.cell 0 rfl
    have kBp1_1 := Bp1.cell 1 rfl
    go_wp2_with fail
    refine (awake_any _ (hG.below BX)).mono ?_
    rintro e W2 ⟨rfl, b2⟩
    replace BX := below2 BX b2
    go_wp2_with fail
    go_ret
    exact ⟨rfl, BX⟩
  · have HB := Lib.hid hb
    have hl0 : s0.length ≤ 3000 ∧ ∀ c ∈ s0, c.length ≤ 3000 := small_len hb
    have Hl0 := Lib.hid hl0
    clear hb hl0
    go_enter Tryd.func10, Tryd.ntmps10
    go_wp2_with (first | ((with_reducible refine at_dst (N := 2) rfl ?_); refine ev_new #[.int .i64 x0, .slice A0 s0.length c0] 24 rfl ?hr ?_; (case hr => first | (go_simp; done) | (go_simp; rfl)); intro p0 wp0 ep0 zp0 BX Bp0; skip) | ((with_reducible refine at_dst (N := 3) rfl ?_); refine ev_new #[.int .i64 i1, .int .i64 j1] 37 rfl ?hr ?_; (case hr => first | (go_simp; done) | (go_simp; rfl)); intro p1 wp1 ep1 zp1 bb1 Bp1; replace BX := below2 BX bb1; replace Bp0 := Bp0.below bb1; have kp0_0 := Bp0.cell 0 rfl; have kp0_1 := Bp0.cell 1 rfl; have kp1_0 := Bp1.cell 0 rfl; have kp1_1 := Bp1.cell 1 rfl))
    replace hR0 := hR0.below BX
    refine (small_any x0 A0 c0 s0 3000 _ hR0 (by decide) (by decide) hF0.1 hF0.2).mono ?_
    rintro e W1 ⟨rfl, b1⟩
    rw [HB.out]
    replace BX := below2 BX b1
    replace hR0 := hR0.below b1
    replace Bp0 := Bp0.below b1
    replace Bp1 := Bp1.below b1
    clear b1
    clear kp0_0 kp0_1 kp1_0 kp1_1
    have kBp0_0 := Bp0.cell 0 rfl
    have kBp0_1 := Bp0.cell 1 rfl
    have kBp1_0 := Bp1.cell 0 rfl
    have kBp1_1 := Bp1.cell 1 rfl
    go_upto_region 3 with fail
    clear kBp0_0 kBp0_1 kBp1_0 kBp1_1
    have HK := Lib.hid (And.intro Bp0 Bp1)
    have BW0 := Lib.hid BX.size
    go_cut [5, 6] (fun s5 s6 wx => ∃ (g5 g6 : Nat) (A5 : Option Addr) (c5 : Nat) (A6 : Option Addr) (c6 l5 h5 l6 h6 : Nat), s5 = .pointer (some ⟨g5, 0, none⟩) ∧ s6 = .pointer (some ⟨g6, 0, none⟩) ∧ TwoOwn W1 x0 s0 g5 g6 A5 c5 A6 c6 l5 h5 l6 h6 wx)
    case first =>
      have D := (Below.refl W1.heap.size W1).drew
      have lp0 := Bp0.lt
      have hdz : W1.drew.heap.size = W1.heap.size := rfl
      refine wp_region_G 7 (fun W => W.cell? ⟨p0, 0, none⟩ = some (.int .i64 x0) ∧ W.cell? ⟨p0, 1, none⟩ = some (.slice A0 s0.length c0)) (by kernel_rfl) ⟨(Bp0.below D).cell 0 rfl, (Bp0.below D).cell 1 rfl⟩ (fun hHeld => ?_)
      refine wpAnyG_takeL (i := 0) (.agg #[.int .i64 x0, .slice A0 s0.length c0]) [7] rfl (by kernel_rfl) (fun _ _ _ h => h) hHeld (by rfl) ?_ ?_
      · (intro W hSw; (try dsimp only at hSw); go_simp)
      try simp only [Act.put, List.setIfInBounds_toArray, List.set_cons_zero, List.set_cons_succ]
      refine wpAnyG_takeL (i := 2) (.agg #[.int .i64 x0, .slice A0 s0.length c0]) [7] rfl (by kernel_rfl) (fun _ _ _ h => h) hHeld (by rfl) ?_ ?_
      · (intro W hSw; (try dsimp only at hSw); go_simp)
      try simp only [Act.put, List.setIfInBounds_toArray, List.set_cons_zero, List.set_cons_succ]
      refine wpAnyG_br (rs := [1, 4, 5]) (by kernel_rfl) (by simp) ?_
      refine AllG.cons (i := 1) rfl (fun K hK => ?_) ?_
      · (go_simp; go_at_call 40; refine (refOwn_K x0 A0 c0 s0 _ (hR0.below D) (by have := Hl0.out.1; omega) (fun c hc => by have := Hl0.out.2 c hc; omega)).mono ?_; rintro e V0 ⟨v5, rfl, O5, d0⟩)
        obtain ⟨A5, c5, rfl, _⟩ := O5.rd
        have u5 := O5.lt
        have P5 := O5.weak (ok' := fun b => W1.drew.heap.size ≤ b ∧ b < V0.heap.size) (fun b hb ho => ⟨ho, hb⟩)
        clear O5
        have sz0 := d0.size
        have D0 := below2 D d0
        have hHeld := (show V0.cell? ⟨p0, 0, none⟩ = some (.int .i64 x0) ∧ V0.cell? ⟨p0, 1, none⟩ = some (.slice A0 s0.length c0) from ⟨(Bp0.below D0).cell 0 rfl, (Bp0.below D0).cell 1 rfl⟩)
        refine hK.out _ _ (fun _ => hHeld) ?_
        clear hK K
        try simp only [Act.put, List.setIfInBounds_toArray, List.set_cons_zero, List.set_cons_succ]
        refine wpAnyG_br (rs := [3, 4, 5]) (by kernel_rfl) (by simp) ?_
        refine AllG.cons (i := 3) rfl (fun K hK => ?_) ?_
        · (go_simp; go_at_call 40; refine (refOwn_K x0 A0 c0 s0 _ (hR0.below D0) (by have := Hl0.out.1; omega) (fun c hc => by have := Hl0.out.2 c hc; omega)).mono ?_; rintro e V1 ⟨v6, rfl, O6, d1⟩)
          obtain ⟨A6, c6, rfl, _⟩ := O6.rd
          have u6 := O6.lt
          have P6 := O6.weak (ok' := fun b => V0.heap.size ≤ b ∧ b < V1.heap.size) (fun b hb ho => ⟨ho, hb⟩)
          clear O6
          replace P5 := P5.below d1
          have sz1 := d1.size
          have D1 := below2 D0 d1
          have hHeld := (show V1.cell? ⟨p0, 0, none⟩ = some (.int .i64 x0) ∧ V1.cell? ⟨p0, 1, none⟩ = some (.slice A0 s0.length c0) from ⟨(Bp0.below D1).cell 0 rfl, (Bp0.below D1).cell 1 rfl⟩)
          refine hK.out _ _ (fun _ => hHeld) ?_
          clear hK K
          try simp only [Act.put, List.setIfInBounds_toArray, List.set_cons_zero, List.set_cons_succ]
          refine wpAnyG_br (rs := [4, 5]) (by kernel_rfl) (by simp) ?_
          refine AllG.cons (i := 4) rfl (fun K hK => ?_) ?_
          · refine step_new #[.int .i64 0, .slice none 0 0] 24 rfl ?hr ?_
            case hr => first | (go_simp; done) | (go_simp; rfl)
            intro g5 V2 eg5 zg5 d2 z5
            replace P5 := P5.below d2
            replace P6 := P6.below d2
            have sz2 := d2.size
            have D2 := below2 D1 d2
            have hHeld := (show V2.cell? ⟨p0, 0, none⟩ = some (.int .i64 x0) ∧ V2.cell? ⟨p0, 1, none⟩ = some (.slice A0 s0.length c0) from ⟨(Bp0.below D2).cell 0 rfl, (Bp0.below D2).cell 1 rfl⟩)
            refine hK.out _ _ (fun _ => hHeld) ?_
            clear hK K
            try simp only [Act.put, List.setIfInBounds_toArray, List.set_cons_zero, List.set_cons_succ]
            refine wpAnyG_br (rs := [5]) (by kernel_rfl) (by simp) ?_
            refine AllG.cons (i := 5) rfl (fun K hK => ?_) ?_
            · refine step_new #[.int .i64 0, .slice none 0 0] 24 rfl ?hr ?_
              case hr => first | (go_simp; done) | (go_simp; rfl)
              intro g6 V3 eg6 zg6 d3 z6
              replace P5 := P5.below d3
              replace P6 := P6.below d3
              replace z5 := z5.below d3
              have sz3 := d3.size
              have D3 := below2 D2 d3
              have hHeld := (show V3.cell? ⟨p0, 0, none⟩ = some (.int .i64 x0) ∧ V3.cell? ⟨p0, 1, none⟩ = some (.slice A0 s0.length c0) from ⟨(Bp0.below D3).cell 0 rfl, (Bp0.below D3).cell 1 rfl⟩)
              refine hK.out _ _ (fun _ => hHeld) ?_
              clear hK K
              try simp only [Act.put, List.setIfInBounds_toArray, List.set_cons_zero, List.set_cons_succ]
              refine wpAnyG_oneL (i := 6) (by kernel_rfl) rfl (fun K hK => ?_)
              refine step_put2 (.int .i64 x0) (.slice A5 s0.length c5) rfl 24 (.tmp 5) (.tmp 23) rfl g5 24 _ rfl rfl z5 sizeS rfl rfl rfl ?_
              intro y1 q1 t1 r1
              have n56 : g5 ≠ g6 := by have := eg5.out; have := eg6.out; have := zg5.out; have := zg6.out; omega
              have ip0 : p0 ≠ g5 := by have := eg5.out; omega
              refine hK.out _ _ (fun _ => ⟨((Bp0.below D3).keep (Keep.of_grown1 t1) ip0).cell 0 rfl, ((Bp0.below D3).keep (Keep.of_grown1 t1) ip0).cell 1 rfl⟩) ?_
              clear hK K
              try simp only [Act.put, List.setIfInBounds_toArray, List.set_cons_zero, List.set_cons_succ]
              refine wpAnyG_oneL (i := 7) (by kernel_rfl) rfl (fun K hK => ?_)
              refine step_put2 (.int .i64 x0) (.slice A6 s0.length c6) rfl 24 (.tmp 6) (.tmp 25) rfl g6 24 _ rfl rfl (z6.keep (Keep.of_grown1 t1) (Ne.symm n56)) sizeS rfl rfl rfl ?_
              intro y2 q2 t2 r2
              refine hK.out _ _ (fun h => Bool.noConfusion (show true = false from h)) ?_
              clear hK K
              try simp only [Act.put, List.setIfInBounds_toArray, List.set_cons_zero, List.set_cons_succ]
              refine wpAnyG_done (by kernel_rfl) ?_ _
              go_wp2_with fail
              go_meet
              exact ⟨g5, g6, A5, c5, A6, c6, _, _, _, _, rfl, rfl, own_leaf D3 z5 z6 P5 P6 q1 t1 r1.out q2 t2 r2.out u5 u6 n56 (by have := eg5.out; have := eg6.out; have := zg5.out; have := zg6.out; exact ⟨by omega, by omega, by omega, by omega, by omega, by omega, by omega, by omega, by omega, by omega, by omega, by omega⟩)⟩
            exact AllG.nil
          refine AllG.cons (i := 5) rfl (fun K hK => ?_) ?_
          · refine step_new #[.int .i64 0, .slice none 0 0] 24 rfl ?hr ?_
            case hr => first | (go_simp; done) | (go_simp; rfl)
            intro g6 V2 eg6 zg6 d2 z6
            replace P5 := P5.below d2
            replace P6 := P6.below d2
            have sz2 := d2.size
            have D2 := below2 D1 d2
            have hHeld := (show V2.cell? ⟨p0, 0, none⟩ = some (.int .i64 x0) ∧ V2.cell? ⟨p0, 1, none⟩ = some (.slice A0 s0.length c0) from ⟨(Bp0.below D2).cell 0 rfl, (Bp0.below D2).cell 1 rfl⟩)
            refine hK.out _ _ (fun _ => hHeld) ?_
            clear hK K
            try simp only [Act.put, List.setIfInBounds_toArray, List.set_cons_zero, List.set_cons_succ]
            refine wpAnyG_br (rs := [4]) (by kernel_rfl) (by simp) ?_
            refine AllG.cons (i := 4) rfl (fun K hK => ?_) ?_
            · refine step_new #[.int .i64 0, .slice none 0 0] 24 rfl ?hr ?_
              case hr => first | (go_simp; done) | (go_simp; rfl)
              intro g5 V3 eg5 zg5 d3 z5
              replace P5 := P5.below d3
              replace P6 := P6.below d3
              replace z6 := z6.below d3
              have sz3 := d3.size
              have D3 := below2 D2 d3
              have hHeld := (show V3.cell? ⟨p0, 0, none⟩ = some (.int .i64 x0) ∧ V3.cell? ⟨p0, 1, none⟩ = some (.slice A0 s0.length c0) from ⟨(Bp0.below D3).cell 0 rfl, (Bp0.below D3).cell 1 rfl⟩)
              refine hK.out _ _ (fun _ => hHeld) ?_
              clear hK K
              try simp only [Act.put, List.setIfInBounds_toArray, List.set_cons_zero, List.set_cons_succ]
              refine wpAnyG_oneL (i := 6) (by kernel_rfl) rfl (fun K hK => ?_)
              refine step_put2 (.int .i64 x0) (.slice A5 s0.length c5) rfl 24 (.tmp 5) (.tmp 23) rfl g5 24 _ rfl rfl z5 sizeS rfl rfl rfl ?_
              intro y1 q1 t1 r1
              have n56 : g5 ≠ g6 := by have := eg5.out; have := eg6.out; have := zg5.out; have := zg6.out; omega
              have ip0 : p0 ≠ g5 := by have := eg5.out; omega
              refine hK.out _ _ (fun _ => ⟨((Bp0.below D3).keep (Keep.of_grown1 t1) ip0).cell 0 rfl, ((Bp0.below D3).keep (Keep.of_grown1 t1) ip0).cell 1 rfl⟩) ?_
              clear hK K
              try simp only [Act.put, List.setIfInBounds_toArray, List.set_cons_zero, List.set_cons_succ]
              refine wpAnyG_oneL (i := 7) (by kernel_rfl) rfl (fun K hK => ?_)
              refine step_put2 (.int .i64 x0) (.slice A6 s0.length c6) rfl 24 (.tmp 6) (.tmp 25) rfl g6 24 _ rfl rfl (z6.keep (Keep.of_grown1 t1) (Ne.symm n56)) sizeS rfl rfl rfl ?_
              intro y2 q2 t2 r2
              refine hK.out _ _ (fun h => Bool.noConfusion (show true = false from h)) ?_
              clear hK K
              try simp only [Act.put, List.setIfInBounds_toArray, List.set_cons_zero, List.set_cons_succ]
              refine wpAnyG_done (by kernel_rfl) ?_ _
              go_wp2_with fail
              go_meet
              exact ⟨g5, g6, A5, c5, A6, c6, _, _, _, _, rfl, rfl, own_leaf D3 z5 z6 P5 P6 q1 t1 r1.out q2 t2 r2.out u5 u6 n56 (by have := eg5.out; have := eg6.out; have := zg5.out; have := zg6.out; exact ⟨by omega, by omega, by omega, by omega, by omega, by omega, by omega, by omega, by omega, by omega, by omega, by omega⟩)⟩
            exact AllG.nil
          exact AllG.nil
        refine AllG.cons (i := 4) rfl (fun K hK => ?_) ?_
        · refine step_new #[.int .i64 0, .slice none 0 0] 24 rfl ?hr ?_
          case hr => first | (go_simp; done) | (go_simp; rfl)
          intro g5 V1 eg5 zg5 d1 z5
          replace P5 := P5.below d1
          have sz1 := d1.size
          have D1 := below2 D0 d1
          have hHeld := (show V1.cell? ⟨p0, 0, none⟩ = some (.int .i64 x0) ∧ V1.cell? ⟨p0, 1, none⟩ = some (.slice A0 s0.length c0) from ⟨(Bp0.below D1).cell 0 rfl, (Bp0.below D1).cell 1 rfl⟩)
          refine hK.out _ _ (fun _ => hHeld) ?_
          clear hK K
          try simp only [Act.put, List.setIfInBounds_toArray, List.set_cons_zero, List.set_cons_succ]
          refine wpAnyG_br (rs := [3, 5]) (by kernel_rfl) (by simp) ?_
          refine AllG.cons (i := 3) rfl (fun K hK => ?_) ?_
          · (go_simp; go_at_call 40; refine (refOwn_K x0 A0 c0 s0 _ (hR0.below D1) (by have := Hl0.out.1; omega) (fun c hc => by have := Hl0.out.2 c hc; omega)).mono ?_; rintro e V2 ⟨v6, rfl, O6, d2⟩)
            obtain ⟨A6, c6, rfl, _⟩ := O6.rd
            have u6 := O6.lt
            have P6 := O6.weak (ok' := fun b => V1.heap.size ≤ b ∧ b < V2.heap.size) (fun b hb ho => ⟨ho, hb⟩)
            clear O6
            replace P5 := P5.below d2
            replace z5 := z5.below d2
            have sz2 := d2.size
            have D2 := below2 D1 d2
            have hHeld := (show V2.cell? ⟨p0, 0, none⟩ = some (.int .i64 x0) ∧ V2.cell? ⟨p0, 1, none⟩ = some (.slice A0 s0.length c0) from ⟨(Bp0.below D2).cell 0 rfl, (Bp0.below D2).cell 1 rfl⟩)
            refine hK.out _ _ (fun _ => hHeld) ?_
            clear hK K
            try simp only [Act.put, List.setIfInBounds_toArray, List.set_cons_zero, List.set_cons_succ]
            refine wpAnyG_br (rs := [5]) (by kernel_rfl) (by simp) ?_
            refine AllG.cons (i := 5) rfl (fun K hK => ?_) ?_
            · refine step_new #[.int .i64 0, .slice none 0 0] 24 rfl ?hr ?_
              case hr => first | (go_simp; done) | (go_simp; rfl)
              intro g6 V3 eg6 zg6 d3 z6
              replace P5 := P5.below d3
              replace z5 := z5.below d3
              replace P6 := P6.below d3
              have sz3 := d3.size
              have D3 := below2 D2 d3
              have hHeld := (show V3.cell? ⟨p0, 0, none⟩ = some (.int .i64 x0) ∧ V3.cell? ⟨p0, 1, none⟩ = some (.slice A0 s0.length c0) from ⟨(Bp0.below D3).cell 0 rfl, (Bp0.below D3).cell 1 rfl⟩)
              refine hK.out _ _ (fun _ => hHeld) ?_
              clear hK K
              try simp only [Act.put, List.setIfInBounds_toArray, List.set_cons_zero, List.set_cons_succ]
              refine wpAnyG_oneL (i := 6) (by kernel_rfl) rfl (fun K hK => ?_)
              refine step_put2 (.int .i64 x0) (.slice A5 s0.length c5) rfl 24 (.tmp 5) (.tmp 23) rfl g5 24 _ rfl rfl z5 sizeS rfl rfl rfl ?_
              intro y1 q1 t1 r1
              have n56 : g5 ≠ g6 := by have := eg5.out; have := eg6.out; have := zg5.out; have := zg6.out; omega
              have ip0 : p0 ≠ g5 := by have := eg5.out; omega
              refine hK.out _ _ (fun _ => ⟨((Bp0.below D3).keep (Keep.of_grown1 t1) ip0).cell 0 rfl, ((Bp0.below D3).keep (Keep.of_grown1 t1) ip0).cell 1 rfl⟩) ?_
              clear hK K
              try simp only [Act.put, List.setIfInBounds_toArray, List.set_cons_zero, List.set_cons_succ]
              refine wpAnyG_oneL (i := 7) (by kernel_rfl) rfl (fun K hK => ?_)
              refine step_put2 (.int .i64 x0) (.slice A6 s0.length c6) rfl 24 (.tmp 6) (.tmp 25) rfl g6 24 _ rfl rfl (z6.keep (Keep.of_grown1 t1) (Ne.symm n56)) sizeS rfl rfl rfl ?_
              intro y2 q2 t2 r2
              refine hK.out _ _ (fun h => Bool.noConfusion (show true = false from h)) ?_
              clear hK K
              try simp only [Act.put, List.setIfInBounds_toArray, List.set_cons_zero, List.set_cons_succ]
              refine wpAnyG_done (by kernel_rfl) ?_ _
              go_wp2_with fail
              go_meet
              exact ⟨g5, g6, A5, c5, A6, c6, _, _, _, _, rfl, rfl, own_leaf D3 z5 z6 P5 P6 q1 t1 r1.out q2 t2 r2.out u5 u6 n56 (by have := eg5.out; have := eg6.out; have := zg5.out; have := zg6.out; exact ⟨by omega, by omega, by omega, by omega, by omega, by omega, by omega, by omega, by omega, by omega, by omega, by omega⟩)⟩
            exact AllG.nil
          refine AllG.cons (i := 5) rfl (fun K hK => ?_) ?_
          · refine step_new #[.int .i64 0, .slice none 0 0] 24 rfl ?hr ?_
            case hr => first | (go_simp; done) | (go_simp; rfl)
            intro g6 V2 eg6 zg6 d2 z6
            replace P5 := P5.below d2
            replace z5 := z5.below d2
            have sz2 := d2.size
            have D2 := below2 D1 d2
            have hHeld := (show V2.cell? ⟨p0, 0, none⟩ = some (.int .i64 x0) ∧ V2.cell? ⟨p0, 1, none⟩ = some (.slice A0 s0.length c0) from ⟨(Bp0.below D2).cell 0 rfl, (Bp0.below D2).cell 1 rfl⟩)
            refine hK.out _ _ (fun _ => hHeld) ?_
            clear hK K
            try simp only [Act.put, List.setIfInBounds_toArray, List.set_cons_zero, List.set_cons_succ]
            refine wpAnyG_br (rs := [3]) (by kernel_rfl) (by simp) ?_
            refine AllG.cons (i := 3) rfl (fun K hK => ?_) ?_
            · (go_simp; go_at_call 40; refine (refOwn_K x0 A0 c0 s0 _ (hR0.below D2) (by have := Hl0.out.1; omega) (fun c hc => by have := Hl0.out.2 c hc; omega)).mono ?_; rintro e V3 ⟨v6, rfl, O6, d3⟩)
              obtain ⟨A6, c6, rfl, _⟩ := O6.rd
              have u6 := O6.lt
              have P6 := O6.weak (ok' := fun b => V2.heap.size ≤ b ∧ b < V3.heap.size) (fun b hb ho => ⟨ho, hb⟩)
              clear O6
              replace P5 := P5.below d3
              replace z5 := z5.below d3
              replace z6 := z6.below d3
              have sz3 := d3.size
              have D3 := below2 D2 d3
              have hHeld := (show V3.cell? ⟨p0, 0, none⟩ = some (.int .i64 x0) ∧ V3.cell? ⟨p0, 1, none⟩ = some (.slice A0 s0.length c0) from ⟨(Bp0.below D3).cell 0 rfl, (Bp0.below D3).cell 1 rfl⟩)
              refine hK.out _ _ (fun _ => hHeld) ?_
              clear hK K
              try simp only [Act.put, List.setIfInBounds_toArray, List.set_cons_zero, List.set_cons_succ]
              refine wpAnyG_oneL (i := 6) (by kernel_rfl) rfl (fun K hK => ?_)
              refine step_put2 (.int .i64 x0) (.slice A5 s0.length c5) rfl 24 (.tmp 5) (.tmp 23) rfl g5 24 _ rfl rfl z5 sizeS rfl rfl rfl ?_
              intro y1 q1 t1 r1
              have n56 : g5 ≠ g6 := by have := eg5.out; have := eg6.out; have := zg5.out; have := zg6.out; omega
              have ip0 : p0 ≠ g5 := by have := eg5.out; omega
              refine hK.out _ _ (fun _ => ⟨((Bp0.below D3).keep (Keep.of_grown1 t1) ip0).cell 0 rfl, ((Bp0.below D3).keep (Keep.of_grown1 t1) ip0).cell 1 rfl⟩) ?_
              clear hK K
              try simp only [Act.put, List.setIfInBounds_toArray, List.set_cons_zero, List.set_cons_succ]
              refine wpAnyG_oneL (i := 7) (by kernel_rfl) rfl (fun K hK => ?_)
              refine step_put2 (.int .i64 x0) (.slice A6 s0.length c6) rfl 24 (.tmp 6) (.tmp 25) rfl g6 24 _ rfl rfl (z6.keep (Keep.of_grown1 t1) (Ne.symm n56)) sizeS rfl rfl rfl ?_
              intro y2 q2 t2 r2
              refine hK.out _ _ (fun h => Bool.noConfusion (show true = false from h)) ?_
              clear hK K
              try simp only [Act.put, List.setIfInBounds_toArray, List.set_cons_zero, List.set_cons_succ]
              refine wpAnyG_done (by kernel_rfl) ?_ _
              go_wp2_with fail
              go_meet
              exact ⟨g5, g6, A5, c5, A6, c6, _, _, _, _, rfl, rfl, own_leaf D3 z5 z6 P5 P6 q1 t1 r1.out q2 t2 r2.out u5 u6 n56 (by have := eg5.out; have := eg6.out; have := zg5.out; have := zg6.out; exact ⟨by omega, by omega, by omega, by omega, by omega, by omega, by omega, by omega, by omega, by omega, by omega, by omega⟩)⟩
            exact AllG.nil
          exact AllG.nil
        refine AllG.cons (i := 5) rfl (fun K hK => ?_) ?_
        · refine step_new #[.int .i64 0, .slice none 0 0] 24 rfl ?hr ?_
          case hr => first | (go_simp; done) | (go_simp; rfl)
          intro g6 V1 eg6 zg6 d1 z6
          replace P5 := P5.below d1
          have sz1 := d1.size
          have D1 := below2 D0 d1
          have hHeld := (show V1.cell? ⟨p0, 0, none⟩ = some (.int .i64 x0) ∧ V1.cell? ⟨p0, 1, none⟩ = some (.slice A0 s0.length c0) from ⟨(Bp0.below D1).cell 0 rfl, (Bp0.below D1).cell 1 rfl⟩)
          refine hK.out _ _ (fun _ => hHeld) ?_
          clear hK K
          try simp only [Act.put, List.setIfInBounds_toArray, List.set_cons_zero, List.set_cons_succ]
          refine wpAnyG_br (rs := [3, 4]) (by kernel_rfl) (by simp) ?_
          refine AllG.cons (i := 3) rfl (fun K hK => ?_) ?_
          · (go_simp; go_at_call 40; refine (refOwn_K x0 A0 c0 s0 _ (hR0.below D1) (by have := Hl0.out.1; omega) (fun c hc => by have := Hl0.out.2 c hc; omega)).mono ?_; rintro e V2 ⟨v6, rfl, O6, d2⟩)
            obtain ⟨A6, c6, rfl, _⟩ := O6.rd
            have u6 := O6.lt
            have P6 := O6.weak (ok' := fun b => V1.heap.size ≤ b ∧ b < V2.heap.size) (fun b hb ho => ⟨ho, hb⟩)
            clear O6
            replace P5 := P5.below d2
            replace z6 := z6.below d2
            have sz2 := d2.size
            have D2 := below2 D1 d2
            have hHeld := (show V2.cell? ⟨p0, 0, none⟩ = some (.int .i64 x0) ∧ V2.cell? ⟨p0, 1, none⟩ = some (.slice A0 s0.length c0) from ⟨(Bp0.below D2).cell 0 rfl, (Bp0.below D2).cell 1 rfl⟩)
            refine hK.out _ _ (fun _ => hHeld) ?_
            clear hK K
            try simp only [Act.put, List.setIfInBounds_toArray, List.set_cons_zero, List.set_cons_succ]
            refine wpAnyG_br (rs := [4]) (by kernel_rfl) (by simp) ?_
            refine AllG.cons (i := 4) rfl (fun K hK => ?_) ?_
            · refine step_new #[.int .i64 0, .slice none 0 0] 24 rfl ?hr ?_
              case hr => first | (go_simp; done) | (go_simp; rfl)
              intro g5 V3 eg5 zg5 d3 z5
              replace P5 := P5.below d3
              replace z6 := z6.below d3
              replace P6 := P6.below d3
              have sz3 := d3.size
              have D3 := below2 D2 d3
              have hHeld := (show V3.cell? ⟨p0, 0, none⟩ = some (.int .i64 x0) ∧ V3.cell? ⟨p0, 1, none⟩ = some (.slice A0 s0.length c0) from ⟨(Bp0.below D3).cell 0 rfl, (Bp0.below D3).cell 1 rfl⟩)
              refine hK.out _ _ (fun _ => hHeld) ?_
              clear hK K
              try simp only [Act.put, List.setIfInBounds_toArray, List.set_cons_zero, List.set_cons_succ]
              refine wpAnyG_oneL (i := 6) (by kernel_rfl) rfl (fun K hK => ?_)
              refine step_put2 (.int .i64 x0) (.slice A5 s0.length c5) rfl 24 (.tmp 5) (.tmp 23) rfl g5 24 _ rfl rfl z5 sizeS rfl rfl rfl ?_
              intro y1 q1 t1 r1
              have n56 : g5 ≠ g6 := by have := eg5.out; have := eg6.out; have := zg5.out; have := zg6.out; omega
              have ip0 : p0 ≠ g5 := by have := eg5.out; omega
              refine hK.out _ _ (fun _ => ⟨((Bp0.below D3).keep (Keep.of_grown1 t1) ip0).cell 0 rfl, ((Bp0.below D3).keep (Keep.of_grown1 t1) ip0).cell 1 rfl⟩) ?_
              clear hK K
              try simp only [Act.put, List.setIfInBounds_toArray, List.set_cons_zero, List.set_cons_succ]
              refine wpAnyG_oneL (i := 7) (by kernel_rfl) rfl (fun K hK => ?_)
              refine step_put2 (.int .i64 x0) (.slice A6 s0.length c6) rfl 24 (.tmp 6) (.tmp 25) rfl g6 24 _ rfl rfl (z6.keep (Keep.of_grown1 t1) (Ne.symm n56)) sizeS rfl rfl rfl ?_
              intro y2 q2 t2 r2
              refine hK.out _ _ (fun h => Bool.noConfusion (show true = false from h)) ?_
              clear hK K
              try simp only [Act.put, List.setIfInBounds_toArray, List.set_cons_zero, List.set_cons_succ]
              refine wpAnyG_done (by kernel_rfl) ?_ _
              go_wp2_with fail
              go_meet
              exact ⟨g5, g6, A5, c5, A6, c6, _, _, _, _, rfl, rfl, own_leaf D3 z5 z6 P5 P6 q1 t1 r1.out q2 t2 r2.out u5 u6 n56 (by have := eg5.out; have := eg6.out; have := zg5.out; have := zg6.out; exact ⟨by omega, by omega, by omega, by omega, by omega, by omega, by omega, by omega, by omega, by omega, by omega, by omega⟩)⟩
            exact AllG.nil
          refine AllG.cons (i := 4) rfl (fun K hK => ?_) ?_
          · refine step_new #[.int .i64 0, .slice none 0 0] 24 rfl ?hr ?_
            case hr => first | (go_simp; done) | (go_simp; rfl)
            intro g5 V2 eg5 zg5 d2 z5
            replace P5 := P5.below d2
            replace z6 := z6.below d2
            have sz2 := d2.size
            have D2 := below2 D1 d2
            have hHeld := (show V2.cell? ⟨p0, 0, none⟩ = some (.int .i64 x0) ∧ V2.cell? ⟨p0, 1, none⟩ = some (.slice A0 s0.length c0) from ⟨(Bp0.below D2).cell 0 rfl, (Bp0.below D2).cell 1 rfl⟩)
            refine hK.out _ _ (fun _ => hHeld) ?_
            clear hK K
            try simp only [Act.put, List.setIfInBounds_toArray, List.set_cons_zero, List.set_cons_succ]
            refine wpAnyG_br (rs := [3]) (by kernel_rfl) (by simp) ?_
            refine AllG.cons (i := 3) rfl (fun K hK => ?_) ?_
            · (go_simp; go_at_call 40; refine (refOwn_K x0 A0 c0 s0 _ (hR0.below D2) (by have := Hl0.out.1; omega) (fun c hc => by have := Hl0.out.2 c hc; omega)).mono ?_; rintro e V3 ⟨v6, rfl, O6, d3⟩)
              obtain ⟨A6, c6, rfl, _⟩ := O6.rd
              have u6 := O6.lt
              have P6 := O6.weak (ok' := fun b => V2.heap.size ≤ b ∧ b < V3.heap.size) (fun b hb ho => ⟨ho, hb⟩)
              clear O6
              replace P5 := P5.below d3
              replace z6 := z6.below d3
              replace z5 := z5.below d3
              have sz3 := d3.size
              have D3 := below2 D2 d3
              have hHeld := (show V3.cell? ⟨p0, 0, none⟩ = some (.int .i64 x0) ∧ V3.cell? ⟨p0, 1, none⟩ = some (.slice A0 s0.length c0) from ⟨(Bp0.below D3).cell 0 rfl, (Bp0.below D3).cell 1 rfl⟩)
              refine hK.out _ _ (fun _ => hHeld) ?_
              clear hK K
              try simp only [Act.put, List.setIfInBounds_toArray, List.set_cons_zero, List.set_cons_succ]
              refine wpAnyG_oneL (i := 6) (by kernel_rfl) rfl (fun K hK => ?_)
              refine step_put2 (.int .i64 x0) (.slice A5 s0.length c5) rfl 24 (.tmp 5) (.tmp 23) rfl g5 24 _ rfl rfl z5 sizeS rfl rfl rfl ?_
              intro y1 q1 t1 r1
              have n56 : g5 ≠ g6 := by have := eg5.out; have := eg6.out; have := zg5.out; have := zg6.out; omega
              have ip0 : p0 ≠ g5 := by have := eg5.out; omega
              refine hK.out _ _ (fun _ => ⟨((Bp0.below D3).keep (Keep.of_grown1 t1) ip0).cell 0 rfl, ((Bp0.below D3).keep (Keep.of_grown1 t1) ip0).cell 1 rfl⟩) ?_
              clear hK K
              try simp only [Act.put, List.setIfInBounds_toArray, List.set_cons_zero, List.set_cons_succ]
              refine wpAnyG_oneL (i := 7) (by kernel_rfl) rfl (fun K hK => ?_)
              refine step_put2 (.int .i64 x0) (.slice A6 s0.length c6) rfl 24 (.tmp 6) (.tmp 25) rfl g6 24 _ rfl rfl (z6.keep (Keep.of_grown1 t1) (Ne.symm n56)) sizeS rfl rfl rfl ?_
              intro y2 q2 t2 r2
              refine hK.out _ _ (fun h => Bool.noConfusion (show true = false from h)) ?_
              clear hK K
              try simp only [Act.put, List.setIfInBounds_toArray, List.set_cons_zero, List.set_cons_succ]
              refine wpAnyG_done (by kernel_rfl) ?_ _
              go_wp2_with fail
              go_meet
              exact ⟨g5, g6, A5, c5, A6, c6, _, _, _, _, rfl, rfl, own_leaf D3 z5 z6 P5 P6 q1 t1 r1.out q2 t2 r2.out u5 u6 n56 (by have := eg5.out; have := eg6.out; have := zg5.out; have := zg6.out; exact ⟨by omega, by omega, by omega, by omega, by omega, by omega, by omega, by omega, by omega, by omega, by omega, by omega⟩)⟩
            exact AllG.nil
          exact AllG.nil
        exact AllG.nil
      refine AllG.cons (i := 4) rfl (fun K hK => ?_) ?_
      · refine step_new #[.int .i64 0, .slice none 0 0] 24 rfl ?hr ?_
        case hr => first | (go_simp; done) | (go_simp; rfl)
        intro g5 V0 eg5 zg5 d0 z5
        have sz0 := d0.size
        have D0 := below2 D d0
        have hHeld := (show V0.cell? ⟨p0, 0, none⟩ = some (.int .i64 x0) ∧ V0.cell? ⟨p0, 1, none⟩ = some (.slice A0 s0.length c0) from ⟨(Bp0.below D0).cell 0 rfl, (Bp0.below D0).cell 1 rfl⟩)
        refine hK.out _ _ (fun _ => hHeld) ?_
        clear hK K
        try simp only [Act.put, List.setIfInBounds_toArray, List.set_cons_zero, List.set_cons_succ]
        refine wpAnyG_br (rs := [1, 5]) (by kernel_rfl) (by simp) ?_
        refine AllG.cons (i := 1) rfl (fun K hK => ?_) ?_
        · (go_simp; go_at_call 40; refine (refOwn_K x0 A0 c0 s0 _ (hR0.below D0) (by have := Hl0.out.1; omega) (fun c hc => by have := Hl0.out.2 c hc; omega)).mono ?_; rintro e V1 ⟨v5, rfl, O5, d1⟩)
          obtain ⟨A5, c5, rfl, _⟩ := O5.rd
          have u5 := O5.lt
          have P5 := O5.weak (ok' := fun b => V0.heap.size ≤ b ∧ b < V1.heap.size) (fun b hb ho => ⟨ho, hb⟩)
          clear O5
          replace z5 := z5.below d1
          have sz1 := d1.size
          have D1 := below2 D0 d1
          have hHeld := (show V1.cell? ⟨p0, 0, none⟩ = some (.int .i64 x0) ∧ V1.cell? ⟨p0, 1, none⟩ = some (.slice A0 s0.length c0) from ⟨(Bp0.below D1).cell 0 rfl, (Bp0.below D1).cell 1 rfl⟩)
          refine hK.out _ _ (fun _ => hHeld) ?_
          clear hK K
          try simp only [Act.put, List.setIfInBounds_toArray, List.set_cons_zero, List.set_cons_succ]
          refine wpAnyG_br (rs := [3, 5]) (by kernel_rfl) (by simp) ?_
          refine AllG.cons (i := 3) rfl (fun K hK => ?_) ?_
          · (go_simp; go_at_call 40; refine (refOwn_K x0 A0 c0 s0 _ (hR0.below D1) (by have := Hl0.out.1; omega) (fun c hc => by have := Hl0.out.2 c hc; omega)).mono ?_; rintro e V2 ⟨v6, rfl, O6, d2⟩)
            obtain ⟨A6, c6, rfl, _⟩ := O6.rd
            have u6 := O6.lt
            have P6 := O6.weak (ok' := fun b => V1.heap.size ≤ b ∧ b < V2.heap.size) (fun b hb ho => ⟨ho, hb⟩)
            clear O6
            replace z5 := z5.below d2
            replace P5 := P5.below d2
            have sz2 := d2.size
            have D2 := below2 D1 d2
            have hHeld := (show V2.cell? ⟨p0, 0, none⟩ = some (.int .i64 x0) ∧ V2.cell? ⟨p0, 1, none⟩ = some (.slice A0 s0.length c0) from ⟨(Bp0.below D2).cell 0 rfl, (Bp0.below D2).cell 1 rfl⟩)
            refine hK.out _ _ (fun _ => hHeld) ?_
            clear hK K
            try simp only [Act.put, List.setIfInBounds_toArray, List.set_cons_zero, List.set_cons_succ]
            refine wpAnyG_br (rs := [5]) (by kernel_rfl) (by simp) ?_
            refine AllG.cons (i := 5) rfl (fun K hK => ?_) ?_
            · refine step_new #[.int .i64 0, .slice none 0 0] 24 rfl ?hr ?_
              case hr => first | (go_simp; done) | (go_simp; rfl)
              intro g6 V3 eg6 zg6 d3 z6
              replace z5 := z5.below d3
              replace P5 := P5.below d3
              replace P6 := P6.below d3
              have sz3 := d3.size
              have D3 := below2 D2 d3
              have hHeld := (show V3.cell? ⟨p0, 0, none⟩ = some (.int .i64 x0) ∧ V3.cell? ⟨p0, 1, none⟩ = some (.slice A0 s0.length c0) from ⟨(Bp0.below D3).cell 0 rfl, (Bp0.below D3).cell 1 rfl⟩)
              refine hK.out _ _ (fun _ => hHeld) ?_
              clear hK K
              try simp only [Act.put, List.setIfInBounds_toArray, List.set_cons_zero, List.set_cons_succ]
              refine wpAnyG_oneL (i := 6) (by kernel_rfl) rfl (fun K hK => ?_)
              refine step_put2 (.int .i64 x0) (.slice A5 s0.length c5) rfl 24 (.tmp 5) (.tmp 23) rfl g5 24 _ rfl rfl z5 sizeS rfl rfl rfl ?_
              intro y1 q1 t1 r1
              have n56 : g5 ≠ g6 := by have := eg5.out; have := eg6.out; have := zg5.out; have := zg6.out; omega
              have ip0 : p0 ≠ g5 := by have := eg5.out; omega
              refine hK.out _ _ (fun _ => ⟨((Bp0.below D3).keep (Keep.of_grown1 t1) ip0).cell 0 rfl, ((Bp0.below D3).keep (Keep.of_grown1 t1) ip0).cell 1 rfl⟩) ?_
              clear hK K
              try simp only [Act.put, List.setIfInBounds_toArray, List.set_cons_zero, List.set_cons_succ]
              refine wpAnyG_oneL (i := 7) (by kernel_rfl) rfl (fun K hK => ?_)
              refine step_put2 (.int .i64 x0) (.slice A6 s0.length c6) rfl 24 (.tmp 6) (.tmp 25) rfl g6 24 _ rfl rfl (z6.keep (Keep.of_grown1 t1) (Ne.symm n56)) sizeS rfl rfl rfl ?_
              intro y2 q2 t2 r2
              refine hK.out _ _ (fun h => Bool.noConfusion (show true = false from h)) ?_
              clear hK K
              try simp only [Act.put, List.setIfInBounds_toArray, List.set_cons_zero, List.set_cons_succ]
              refine wpAnyG_done (by kernel_rfl) ?_ _
              go_wp2_with fail
              go_meet
              exact ⟨g5, g6, A5, c5, A6, c6, _, _, _, _, rfl, rfl, own_leaf D3 z5 z6 P5 P6 q1 t1 r1.out q2 t2 r2.out u5 u6 n56 (by have := eg5.out; have := eg6.out; have := zg5.out; have := zg6.out; exact ⟨by omega, by omega, by omega, by omega, by omega, by omega, by omega, by omega, by omega, by omega, by omega, by omega⟩)⟩
            exact AllG.nil
          refine AllG.cons (i := 5) rfl (fun K hK => ?_) ?_
          · refine step_new #[.int .i64 0, .slice none 0 0] 24 rfl ?hr ?_
            case hr => first | (go_simp; done) | (go_simp; rfl)
            intro g6 V2 eg6 zg6 d2 z6
            replace z5 := z5.below d2
            replace P5 := P5.below d2
            have sz2 := d2.size
            have D2 := below2 D1 d2
            have hHeld := (show V2.cell? ⟨p0, 0, none⟩ = some (.int .i64 x0) ∧ V2.cell? ⟨p0, 1, none⟩ = some (.slice A0 s0.length c0) from ⟨(Bp0.below D2).cell 0 rfl, (Bp0.below D2).cell 1 rfl⟩)
            refine hK.out _ _ (fun _ => hHeld) ?_
            clear hK K
            try simp only [Act.put, List.setIfInBounds_toArray, List.set_cons_zero, List.set_cons_succ]
            refine wpAnyG_br (rs := [3]) (by kernel_rfl) (by simp) ?_
            refine AllG.cons (i := 3) rfl (fun K hK => ?_) ?_
            · (go_simp; go_at_call 40; refine (refOwn_K x0 A0 c0 s0 _ (hR0.below D2) (by have := Hl0.out.1; omega) (fun c hc => by have := Hl0.out.2 c hc; omega)).mono ?_; rintro e V3 ⟨v6, rfl, O6, d3⟩)
              obtain ⟨A6, c6, rfl, _⟩ := O6.rd
              have u6 := O6.lt
              have P6 := O6.weak (ok' := fun b => V2.heap.size ≤ b ∧ b < V3.heap.size) (fun b hb ho => ⟨ho, hb⟩)
              clear O6
              replace z5 := z5.below d3
              replace P5 := P5.below d3
              replace z6 := z6.below d3
              have sz3 := d3.size
              have D3 := below2 D2 d3
              have hHeld := (show V3.cell? ⟨p0, 0, none⟩ = some (.int .i64 x0) ∧ V3.cell? ⟨p0, 1, none⟩ = some (.slice A0 s0.length c0) from ⟨(Bp0.below D3).cell 0 rfl, (Bp0.below D3).cell 1 rfl⟩)
              refine hK.out _ _ (fun _ => hHeld) ?_
              clear hK K
              try simp only [Act.put, List.setIfInBounds_toArray, List.set_cons_zero, List.set_cons_succ]
              refine wpAnyG_oneL (i := 6) (by kernel_rfl) rfl (fun K hK => ?_)
              refine step_put2 (.int .i64 x0) (.slice A5 s0.length c5) rfl 24 (.tmp 5) (.tmp 23) rfl g5 24 _ rfl rfl z5 sizeS rfl rfl rfl ?_
              intro y1 q1 t1 r1
              have n56 : g5 ≠ g6 := by have := eg5.out; have := eg6.out; have := zg5.out; have := zg6.out; omega
              have ip0 : p0 ≠ g5 := by have := eg5.out; omega
              refine hK.out _ _ (fun _ => ⟨((Bp0.below D3).keep (Keep.of_grown1 t1) ip0).cell 0 rfl, ((Bp0.below D3).keep (Keep.of_grown1 t1) ip0).cell 1 rfl⟩) ?_
              clear hK K
              try simp only [Act.put, List.setIfInBounds_toArray, List.set_cons_zero, List.set_cons_succ]
              refine wpAnyG_oneL (i := 7) (by kernel_rfl) rfl (fun K hK => ?_)
              refine step_put2 (.int .i64 x0) (.slice A6 s0.length c6) rfl 24 (.tmp 6) (.tmp 25) rfl g6 24 _ rfl rfl (z6.keep (Keep.of_grown1 t1) (Ne.symm n56)) sizeS rfl rfl rfl ?_
              intro y2 q2 t2 r2
              refine hK.out _ _ (fun h => Bool.noConfusion (show true = false from h)) ?_
              clear hK K
              try simp only [Act.put, List.setIfInBounds_toArray, List.set_cons_zero, List.set_cons_succ]
              refine wpAnyG_done (by kernel_rfl) ?_ _
              go_wp2_with fail
              go_meet
              exact ⟨g5, g6, A5, c5, A6, c6, _, _, _, _, rfl, rfl, own_leaf D3 z5 z6 P5 P6 q1 t1 r1.out q2 t2 r2.out u5 u6 n56 (by have := eg5.out; have := eg6.out; have := zg5.out; have := zg6.out; exact ⟨by omega, by omega, by omega, by omega, by omega, by omega, by omega, by omega, by omega, by omega, by omega, by omega⟩)⟩
            exact AllG.nil
          exact AllG.nil
        refine AllG.cons (i := 5) rfl (fun K hK => ?_) ?_
        · refine step_new #[.int .i64 0, .slice none 0 0] 24 rfl ?hr ?_
          case hr => first | (go_simp; done) | (go_simp; rfl)
          intro g6 V1 eg6 zg6 d1 z6
          replace z5 := z5.below d1
          have sz1 := d1.size
          have D1 := below2 D0 d1
          have hHeld := (show V1.cell? ⟨p0, 0, none⟩ = some (.int .i64 x0) ∧ V1.cell? ⟨p0, 1, none⟩ = some (.slice A0 s0.length c0) from ⟨(Bp0.below D1).cell 0 rfl, (Bp0.below D1).cell 1 rfl⟩)
          refine hK.out _ _ (fun _ => hHeld) ?_
          clear hK K
          try simp only [Act.put, List.setIfInBounds_toArray, List.set_cons_zero, List.set_cons_succ]
          refine wpAnyG_br (rs := [1]) (by kernel_rfl) (by simp) ?_
          refine AllG.cons (i := 1) rfl (fun K hK => ?_) ?_
          · (go_simp; go_at_call 40; refine (refOwn_K x0 A0 c0 s0 _ (hR0.below D1) (by have := Hl0.out.1; omega) (fun c hc => by have := Hl0.out.2 c hc; omega)).mono ?_; rintro e V2 ⟨v5, rfl, O5, d2⟩)
            obtain ⟨A5, c5, rfl, _⟩ := O5.rd
            have u5 := O5.lt
            have P5 := O5.weak (ok' := fun b => V1.heap.size ≤ b ∧ b < V2.heap.size) (fun b hb ho => ⟨ho, hb⟩)
            clear O5
            replace z5 := z5.below d2
            replace z6 := z6.below d2
            have sz2 := d2.size
            have D2 := below2 D1 d2
            have hHeld := (show V2.cell? ⟨p0, 0, none⟩ = some (.int .i64 x0) ∧ V2.cell? ⟨p0, 1, none⟩ = some (.slice A0 s0.length c0) from ⟨(Bp0.below D2).cell 0 rfl, (Bp0.below D2).cell 1 rfl⟩)
            refine hK.out _ _ (fun _ => hHeld) ?_
            clear hK K
            try simp only [Act.put, List.setIfInBounds_toArray, List.set_cons_zero, List.set_cons_succ]
            refine wpAnyG_br (rs := [3]) (by kernel_rfl) (by simp) ?_
            refine AllG.cons (i := 3) rfl (fun K hK => ?_) ?_
            · (go_simp; go_at_call 40; refine (refOwn_K x0 A0 c0 s0 _ (hR0.below D2) (by have := Hl0.out.1; omega) (fun c hc => by have := Hl0.out.2 c hc; omega)).mono ?_; rintro e V3 ⟨v6, rfl, O6, d3⟩)
              obtain ⟨A6, c6, rfl, _⟩ := O6.rd
              have u6 := O6.lt
              have P6 := O6.weak (ok' := fun b => V2.heap.size ≤ b ∧ b < V3.heap.size) (fun b hb ho => ⟨ho, hb⟩)
              clear O6
              replace z5 := z5.below d3
              replace z6 := z6.below d3
              replace P5 := P5.below d3
              have sz3 := d3.size
              have D3 := below2 D2 d3
              have hHeld := (show V3.cell? ⟨p0, 0, none⟩ = some (.int .i64 x0) ∧ V3.cell? ⟨p0, 1, none⟩ = some (.slice A0 s0.length c0) from ⟨(Bp0.below D3).cell 0 rfl, (Bp0.below D3).cell 1 rfl⟩)
              refine hK.out _ _ (fun _ => hHeld) ?_
              clear hK K
              try simp only [Act.put, List.setIfInBounds_toArray, List.set_cons_zero, List.set_cons_succ]
              refine wpAnyG_oneL (i := 6) (by kernel_rfl) rfl (fun K hK => ?_)
              refine step_put2 (.int .i64 x0) (.slice A5 s0.length c5) rfl 24 (.tmp 5) (.tmp 23) rfl g5 24 _ rfl rfl z5 sizeS rfl rfl rfl ?_
              intro y1 q1 t1 r1
              have n56 : g5 ≠ g6 := by have := eg5.out; have := eg6.out; have := zg5.out; have := zg6.out; omega
              have ip0 : p0 ≠ g5 := by have := eg5.out; omega
              refine hK.out _ _ (fun _ => ⟨((Bp0.below D3).keep (Keep.of_grown1 t1) ip0).cell 0 rfl, ((Bp0.below D3).keep (Keep.of_grown1 t1) ip0).cell 1 rfl⟩) ?_
              clear hK K
              try simp only [Act.put, List.setIfInBounds_toArray, List.set_cons_zero, List.set_cons_succ]
              refine wpAnyG_oneL (i := 7) (by kernel_rfl) rfl (fun K hK => ?_)
              refine step_put2 (.int .i64 x0) (.slice A6 s0.length c6) rfl 24 (.tmp 6) (.tmp 25) rfl g6 24 _ rfl rfl (z6.keep (Keep.of_grown1 t1) (Ne.symm n56)) sizeS rfl rfl rfl ?_
              intro y2 q2 t2 r2
              refine hK.out _ _ (fun h => Bool.noConfusion (show true = false from h)) ?_
              clear hK K
              try simp only [Act.put, List.setIfInBounds_toArray, List.set_cons_zero, List.set_cons_succ]
              refine wpAnyG_done (by kernel_rfl) ?_ _
              go_wp2_with fail
              go_meet
              exact ⟨g5, g6, A5, c5, A6, c6, _, _, _, _, rfl, rfl, own_leaf D3 z5 z6 P5 P6 q1 t1 r1.out q2 t2 r2.out u5 u6 n56 (by have := eg5.out; have := eg6.out; have := zg5.out; have := zg6.out; exact ⟨by omega, by omega, by omega, by omega, by omega, by omega, by omega, by omega, by omega, by omega, by omega, by omega⟩)⟩
            exact AllG.nil
          exact AllG.nil
        exact AllG.nil
      refine AllG.cons (i := 5) rfl (fun K hK => ?_) ?_
      · refine step_new #[.int .i64 0, .slice none 0 0] 24 rfl ?hr ?_
        case hr => first | (go_simp; done) | (go_simp; rfl)
        intro g6 V0 eg6 zg6 d0 z6
        have sz0 := d0.size
        have D0 := below2 D d0
        have hHeld := (show V0.cell? ⟨p0, 0, none⟩ = some (.int .i64 x0) ∧ V0.cell? ⟨p0, 1, none⟩ = some (.slice A0 s0.length c0) from ⟨(Bp0.below D0).cell 0 rfl, (Bp0.below D0).cell 1 rfl⟩)
        refine hK.out _ _ (fun _ => hHeld) ?_
        clear hK K
        try simp only [Act.put, List.setIfInBounds_toArray, List.set_cons_zero, List.set_cons_succ]
        refine wpAnyG_br (rs := [1, 4]) (by kernel_rfl) (by simp) ?_
        refine AllG.cons (i := 1) rfl (fun K hK => ?_) ?_
        · (go_simp; go_at_call 40; refine (refOwn_K x0 A0 c0 s0 _ (hR0.below D0) (by have := Hl0.out.1; omega) (fun c hc => by have := Hl0.out.2 c hc; omega)).mono ?_; rintro e V1 ⟨v5, rfl, O5, d1⟩)
          obtain ⟨A5, c5, rfl, _⟩ := O5.rd
          have u5 := O5.lt
          have P5 := O5.weak (ok' := fun b => V0.heap.size ≤ b ∧ b < V1.heap.size) (fun b hb ho => ⟨ho, hb⟩)
          clear O5
          replace z6 := z6.below d1
          have sz1 := d1.size
          have D1 := below2 D0 d1
          have hHeld := (show V1.cell? ⟨p0, 0, none⟩ = some (.int .i64 x0) ∧ V1.cell? ⟨p0, 1, none⟩ = some (.slice A0 s0.length c0) from ⟨(Bp0.below D1).cell 0 rfl, (Bp0.below D1).cell 1 rfl⟩)
          refine hK.out _ _ (fun _ => hHeld) ?_
          clear hK K
          try simp only [Act.put, List.setIfInBounds_toArray, List.set_cons_zero, List.set_cons_succ]
          refine wpAnyG_br (rs := [3, 4]) (by kernel_rfl) (by simp) ?_
          refine AllG.cons (i := 3) rfl (fun K hK => ?_) ?_
          · (go_simp; go_at_call 40; refine (refOwn_K x0 A0 c0 s0 _ (hR0.below D1) (by have := Hl0.out.1; omega) (fun c hc => by have := Hl0.out.2 c hc; omega)).mono ?_; rintro e V2 ⟨v6, rfl, O6, d2⟩)
            obtain ⟨A6, c6, rfl, _⟩ := O6.rd
            have u6 := O6.lt
            have P6 := O6.weak (ok' := fun b => V1.heap.size ≤ b ∧ b < V2.heap.size) (fun b hb ho => ⟨ho, hb⟩)
            clear O6
            replace z6 := z6.below d2
            replace P5 := P5.below d2
            have sz2 := d2.size
            have D2 := below2 D1 d2
            have hHeld := (show V2.cell? ⟨p0, 0, none⟩ = some (.int .i64 x0) ∧ V2.cell? ⟨p0, 1, none⟩ = some (.slice A0 s0.length c0) from ⟨(Bp0.below D2).cell 0 rfl, (Bp0.below D2).cell 1 rfl⟩)
            refine hK.out _ _ (fun _ => hHeld) ?_
            clear hK K
            try simp only [Act.put, List.setIfInBounds_toArray, List.set_cons_zero, List.set_cons_succ]
            refine wpAnyG_br (rs := [4]) (by kernel_rfl) (by simp) ?_
            refine AllG.cons (i := 4) rfl (fun K hK => ?_) ?_
            · refine step_new #[.int .i64 0, .slice none 0 0] 24 rfl ?hr ?_
              case hr => first | (go_simp; done) | (go_simp; rfl)
              intro g5 V3 eg5 zg5 d3 z5
              replace z6 := z6.below d3
              replace P5 := P5.below d3
              replace P6 := P6.below d3
              have sz3 := d3.size
              have D3 := below2 D2 d3
              have hHeld := (show V3.cell? ⟨p0, 0, none⟩ = some (.int .i64 x0) ∧ V3.cell? ⟨p0, 1, none⟩ = some (.slice A0 s0.length c0) from ⟨(Bp0.below D3).cell 0 rfl, (Bp0.below D3).cell 1 rfl⟩)
              refine hK.out _ _ (fun _ => hHeld) ?_
              clear hK K
              try simp only [Act.put, List.setIfInBounds_toArray, List.set_cons_zero, List.set_cons_succ]
              refine wpAnyG_oneL (i := 6) (by kernel_rfl) rfl (fun K hK => ?_)
              refine step_put2 (.int .i64 x0) (.slice A5 s0.length c5) rfl 24 (.tmp 5) (.tmp 23) rfl g5 24 _ rfl rfl z5 sizeS rfl rfl rfl ?_
              intro y1 q1 t1 r1
              have n56 : g5 ≠ g6 := by have := eg5.out; have := eg6.out; have := zg5.out; have := zg6.out; omega
              have ip0 : p0 ≠ g5 := by have := eg5.out; omega
              refine hK.out _ _ (fun _ => ⟨((Bp0.below D3).keep (Keep.of_grown1 t1) ip0).cell 0 rfl, ((Bp0.below D3).keep (Keep.of_grown1 t1) ip0).cell 1 rfl⟩) ?_
              clear hK K
              try simp only [Act.put, List.setIfInBounds_toArray, List.set_cons_zero, List.set_cons_succ]
              refine wpAnyG_oneL (i := 7) (by kernel_rfl) rfl (fun K hK => ?_)
              refine step_put2 (.int .i64 x0) (.slice A6 s0.length c6) rfl 24 (.tmp 6) (.tmp 25) rfl g6 24 _ rfl rfl (z6.keep (Keep.of_grown1 t1) (Ne.symm n56)) sizeS rfl rfl rfl ?_
              intro y2 q2 t2 r2
              refine hK.out _ _ (fun h => Bool.noConfusion (show true = false from h)) ?_
              clear hK K
              try simp only [Act.put, List.setIfInBounds_toArray, List.set_cons_zero, List.set_cons_succ]
              refine wpAnyG_done (by kernel_rfl) ?_ _
              go_wp2_with fail
              go_meet
              exact ⟨g5, g6, A5, c5, A6, c6, _, _, _, _, rfl, rfl, own_leaf D3 z5 z6 P5 P6 q1 t1 r1.out q2 t2 r2.out u5 u6 n56 (by have := eg5.out; have := eg6.out; have := zg5.out; have := zg6.out; exact ⟨by omega, by omega, by omega, by omega, by omega, by omega, by omega, by omega, by omega, by omega, by omega, by omega⟩)⟩
            exact AllG.nil
          refine AllG.cons (i := 4) rfl (fun K hK => ?_) ?_
          · refine step_new #[.int .i64 0, .slice none 0 0] 24 rfl ?hr ?_
            case hr => first | (go_simp; done) | (go_simp; rfl)
            intro g5 V2 eg5 zg5 d2 z5
            replace z6 := z6.below d2
            replace P5 := P5.below d2
            have sz2 := d2.size
            have D2 := below2 D1 d2
            have hHeld := (show V2.cell? ⟨p0, 0, none⟩ = some (.int .i64 x0) ∧ V2.cell? ⟨p0, 1, none⟩ = some (.slice A0 s0.length c0) from ⟨(Bp0.below D2).cell 0 rfl, (Bp0.below D2).cell 1 rfl⟩)
            refine hK.out _ _ (fun _ => hHeld) ?_
            clear hK K
            try simp only [Act.put, List.setIfInBounds_toArray, List.set_cons_zero, List.set_cons_succ]
            refine wpAnyG_br (rs := [3]) (by kernel_rfl) (by simp) ?_
            refine AllG.cons (i := 3) rfl (fun K hK => ?_) ?_
            · (go_simp; go_at_call 40; refine (refOwn_K x0 A0 c0 s0 _ (hR0.below D2) (by have := Hl0.out.1; omega) (fun c hc => by have := Hl0.out.2 c hc; omega)).mono ?_; rintro e V3 ⟨v6, rfl, O6, d3⟩)
              obtain ⟨A6, c6, rfl, _⟩ := O6.rd
              have u6 := O6.lt
              have P6 := O6.weak (ok' := fun b => V2.heap.size ≤ b ∧ b < V3.heap.size) (fun b hb ho => ⟨ho, hb⟩)
              clear O6
              replace z6 := z6.below d3
              replace P5 := P5.below d3
              replace z5 := z5.below d3
              have sz3 := d3.size
              have D3 := below2 D2 d3
              have hHeld := (show V3.cell? ⟨p0, 0, none⟩ = some (.int .i64 x0) ∧ V3.cell? ⟨p0, 1, none⟩ = some (.slice A0 s0.length c0) from ⟨(Bp0.below D3).cell 0 rfl, (Bp0.below D3).cell 1 rfl⟩)
              refine hK.out _ _ (fun _ => hHeld) ?_
              clear hK K
              try simp only [Act.put, List.setIfInBounds_toArray, List.set_cons_zero, List.set_cons_succ]
              refine wpAnyG_oneL (i := 6) (by kernel_rfl) rfl (fun K hK => ?_)
              refine step_put2 (.int .i64 x0) (.slice A5 s0.length c5) rfl 24 (.tmp 5) (.tmp 23) rfl g5 24 _ rfl rfl z5 sizeS rfl rfl rfl ?_
              intro y1 q1 t1 r1
              have n56 : g5 ≠ g6 := by have := eg5.out; have := eg6.out; have := zg5.out; have := zg6.out; omega
              have ip0 : p0 ≠ g5 := by have := eg5.out; omega
              refine hK.out _ _ (fun _ => ⟨((Bp0.below D3).keep (Keep.of_grown1 t1) ip0).cell 0 rfl, ((Bp0.below D3).keep (Keep.of_grown1 t1) ip0).cell 1 rfl⟩) ?_
              clear hK K
              try simp only [Act.put, List.setIfInBounds_toArray, List.set_cons_zero, List.set_cons_succ]
              refine wpAnyG_oneL (i := 7) (by kernel_rfl) rfl (fun K hK => ?_)
              refine step_put2 (.int .i64 x0) (.slice A6 s0.length c6) rfl 24 (.tmp 6) (.tmp 25) rfl g6 24 _ rfl rfl (z6.keep (Keep.of_grown1 t1) (Ne.symm n56)) sizeS rfl rfl rfl ?_
              intro y2 q2 t2 r2
              refine hK.out _ _ (fun h => Bool.noConfusion (show true = false from h)) ?_
              clear hK K
              try simp only [Act.put, List.setIfInBounds_toArray, List.set_cons_zero, List.set_cons_succ]
              refine wpAnyG_done (by kernel_rfl) ?_ _
              go_wp2_with fail
              go_meet
              exact ⟨g5, g6, A5, c5, A6, c6, _, _, _, _, rfl, rfl, own_leaf D3 z5 z6 P5 P6 q1 t1 r1.out q2 t2 r2.out u5 u6 n56 (by have := eg5.out; have := eg6.out; have := zg5.out; have := zg6.out; exact ⟨by omega, by omega, by omega, by omega, by omega, by omega, by omega, by omega, by omega, by omega, by omega, by omega⟩)⟩
            exact AllG.nil
          exact AllG.nil
        refine AllG.cons (i := 4) rfl (fun K hK => ?_) ?_
        · refine step_new #[.int .i64 0, .slice none 0 0] 24 rfl ?hr ?_
          case hr => first | (go_simp; done) | (go_simp; rfl)
          intro g5 V1 eg5 zg5 d1 z5
          replace z6 := z6.below d1
          have sz1 := d1.size
          have D1 := below2 D0 d1
          have hHeld := (show V1.cell? ⟨p0, 0, none⟩ = some (.int .i64 x0) ∧ V1.cell? ⟨p0, 1, none⟩ = some (.slice A0 s0.length c0) from ⟨(Bp0.below D1).cell 0 rfl, (Bp0.below D1).cell 1 rfl⟩)
          refine hK.out _ _ (fun _ => hHeld) ?_
          clear hK K
          try simp only [Act.put, List.setIfInBounds_toArray, List.set_cons_zero, List.set_cons_succ]
          refine wpAnyG_br (rs := [1]) (by kernel_rfl) (by simp) ?_
          refine AllG.cons (i := 1) rfl (fun K hK => ?_) ?_
          · (go_simp; go_at_call 40; refine (refOwn_K x0 A0 c0 s0 _ (hR0.below D1) (by have := Hl0.out.1; omega) (fun c hc => by have := Hl0.out.2 c hc; omega)).mono ?_; rintro e V2 ⟨v5, rfl, O5, d2⟩)
            obtain ⟨A5, c5, rfl, _⟩ := O5.rd
            have u5 := O5.lt
            have P5 := O5.weak (ok' := fun b => V1.heap.size ≤ b ∧ b < V2.heap.size) (fun b hb ho => ⟨ho, hb⟩)
            clear O5
            replace z6 := z6.below d2
            replace z5 := z5.below d2
            have sz2 := d2.size
            have D2 := below2 D1 d2
            have hHeld := (show V2.cell? ⟨p0, 0, none⟩ = some (.int .i64 x0) ∧ V2.cell? ⟨p0, 1, none⟩ = some (.slice A0 s0.length c0) from ⟨(Bp0.below D2).cell 0 rfl, (Bp0.below D2).cell 1 rfl⟩)
            refine hK.out _ _ (fun _ => hHeld) ?_
            clear hK K
            try simp only [Act.put, List.setIfInBounds_toArray, List.set_cons_zero, List.set_cons_succ]
            refine wpAnyG_br (rs := [3]) (by kernel_rfl) (by simp) ?_
            refine AllG.cons (i := 3) rfl (fun K hK => ?_) ?_
            · (go_simp; go_at_call 40; refine (refOwn_K x0 A0 c0 s0 _ (hR0.below D2) (by have := Hl0.out.1; omega) (fun c hc => by have := Hl0.out.2 c hc; omega)).mono ?_; rintro e V3 ⟨v6, rfl, O6, d3⟩)
              obtain ⟨A6, c6, rfl, _⟩ := O6.rd
              have u6 := O6.lt
              have P6 := O6.weak (ok' := fun b => V2.heap.size ≤ b ∧ b < V3.heap.size) (fun b hb ho => ⟨ho, hb⟩)
              clear O6
              replace z6 := z6.below d3
              replace z5 := z5.below d3
              replace P5 := P5.below d3
              have sz3 := d3.size
              have D3 := below2 D2 d3
              have hHeld := (show V3.cell? ⟨p0, 0, none⟩ = some (.int .i64 x0) ∧ V3.cell? ⟨p0, 1, none⟩ = some (.slice A0 s0.length c0) from ⟨(Bp0.below D3).cell 0 rfl, (Bp0.below D3).cell 1 rfl⟩)
              refine hK.out _ _ (fun _ => hHeld) ?_
              clear hK K
              try simp only [Act.put, List.setIfInBounds_toArray, List.set_cons_zero, List.set_cons_succ]
              refine wpAnyG_oneL (i := 6) (by kernel_rfl) rfl (fun K hK => ?_)
              refine step_put2 (.int .i64 x0) (.slice A5 s0.length c5) rfl 24 (.tmp 5) (.tmp 23) rfl g5 24 _ rfl rfl z5 sizeS rfl rfl rfl ?_
              intro y1 q1 t1 r1
              have n56 : g5 ≠ g6 := by have := eg5.out; have := eg6.out; have := zg5.out; have := zg6.out; omega
              have ip0 : p0 ≠ g5 := by have := eg5.out; omega
              refine hK.out _ _ (fun _ => ⟨((Bp0.below D3).keep (Keep.of_grown1 t1) ip0).cell 0 rfl, ((Bp0.below D3).keep (Keep.of_grown1 t1) ip0).cell 1 rfl⟩) ?_
              clear hK K
              try simp only [Act.put, List.setIfInBounds_toArray, List.set_cons_zero, List.set_cons_succ]
              refine wpAnyG_oneL (i := 7) (by kernel_rfl) rfl (fun K hK => ?_)
              refine step_put2 (.int .i64 x0) (.slice A6 s0.length c6) rfl 24 (.tmp 6) (.tmp 25) rfl g6 24 _ rfl rfl (z6.keep (Keep.of_grown1 t1) (Ne.symm n56)) sizeS rfl rfl rfl ?_
              intro y2 q2 t2 r2
              refine hK.out _ _ (fun h => Bool.noConfusion (show true = false from h)) ?_
              clear hK K
              try simp only [Act.put, List.setIfInBounds_toArray, List.set_cons_zero, List.set_cons_succ]
              refine wpAnyG_done (by kernel_rfl) ?_ _
              go_wp2_with fail
              go_meet
              exact ⟨g5, g6, A5, c5, A6, c6, _, _, _, _, rfl, rfl, own_leaf D3 z5 z6 P5 P6 q1 t1 r1.out q2 t2 r2.out u5 u6 n56 (by have := eg5.out; have := eg6.out; have := zg5.out; have := zg6.out; exact ⟨by omega, by omega, by omega, by omega, by omega, by omega, by omega, by omega, by omega, by omega, by omega, by omega⟩)⟩
            exact AllG.nil
          exact AllG.nil
        exact AllG.nil
      exact AllG.nil
    case rest =>
      obtain ⟨g5, g6, A5, c5, A6, c6, l5, h5, l6, h6, rfl, rfl, HT⟩ := hcut
      obtain ⟨m1, m2, m3, m4, m5, m6, m7, m8, m9, m10, m11, m12⟩ := HT.num
      replace BX := below2 BX HT.low
      replace hR0 := hR0.below HT.low
      replace Bp0 := HK.out.1.below HT.low
      replace Bp1 := HK.out.2.below HT.low
      have lp0 := HK.out.1.lt
      have lp1 := HK.out.2.lt
      skip
      have b5 := HT.b5
      have b6 := HT.b6
      have o5 := HT.o5
      have o6 := HT.o6
      have e6 := HT.e6
      have k6 := b6.cell 1 rfl
      have NM := Lib.hid (And.intro m1 (And.intro m2 (And.intro m3 (And.intro m4 (And.intro m5 (And.intro m6 (And.intro m7 (And.intro m8 (And.intro m9 (And.intro m10 (And.intro m11 m12)))))))))))
      have E5 := Lib.hid HT.e5
      have E6 := Lib.hid e6
      have lowT := Lib.hid HT.low
      clear HT e6
      have own6 : ∀ b, (Value.slice A6 s0.length c6).ownBlock = some b → l6 ≤ b ∧ b < h6 := fun b hb => ⟨o6.base_le b hb, E6.out b hb⟩
      have OW6 := Lib.hid own6
      clear own6
      go_wp2_with fail
      go_loopw [29] (fun i wr => ∃ k : Nat, k ≤ s0.length ∧ i = .int .i64 k ∧ OwnK kT 36 l6 (fun b => l6 ≤ b ∧ b < h6) wr (.slice A6 s0.length c6) (nilTo s0 k) ∧ wc.grownBy wr (Value.slice A6 s0.length c6).ownBlock) (fun i _ => s0.length - (intOf i).toNat)
      case atStart => exact ⟨0, Nat.zero_le _, rfl, by rw [nilTo_zero]; exact o6, World.grownBy.refl _ _⟩
      case round =>
        clear o6 k6
        obtain ⟨k, hk, rfl, hO, hg⟩ := hrel
        by_cases hlt : k < s0.length
        · obtain ⟨gr, cap, hv, _, _⟩ := hO.formT (by rw [nilTo_len s0 k hk]; omega)
          rw [nilTo_len s0 k hk] at hv
          injection hv with hv1 hv2 hv3
          subst hv1
          subst hv3
          obtain ⟨Ax, cx, q0, f0⟩ := hO.atT k (by rw [nilTo_len s0 k hk]; exact hlt)
          have hN := hO.nilT k (by rw [nilTo_len s0 k hk]; exact hlt)
          rw [nilTo_set s0 k hlt] at hN
          have hb := OW6.out gr rfl
          have h66 : g6 ≠ gr := by have := NM.out; omega
          have k6 := (b6.keep (Keep.of_grown hg) (fun e => h66 (Option.some.inj e))).cell 1 rfl
          have HN := Lib.hid hN
          have HG := Lib.hid hg
          clear hN hg hO hb
          go_wp2_with fail
          go_roundw
          case rel => exact ⟨k + 1, by omega, by go_num, HN.out.1, grown_trans HG.out HN.out.2⟩
          case measure => simp [intOf]; omega
        · obtain rfl : k = s0.length := by omega
          rw [nilTo_all] at hO
          obtain ⟨wL, hwL⟩ : ∃ wL : World, wL = wr := ⟨_, rfl⟩
          rw [← hwL] at hO hg
          have ko := Keep.of_grown hg
          have hne : ∀ b, (b < l6 ∨ h6 ≤ b) → some b ≠ (Value.slice A6 s0.length c6).ownBlock := fun b hb e => by have := OW6.out b e.symm; omega
          have NMo := NM.out
          have hsz := hg.size
          have B5 : Blk wL g5 _ _ := b5.keep ko (hne g5 (by omega))
          have B6 : Blk wL g6 _ _ := b6.keep ko (hne g6 (by omega))
          have lp0' := HK.out.1.lt
          have lp1' := HK.out.2.lt
          have P0 : Blk wL p0 _ _ := Bp0.keep ko (hne p0 (by omega))
          have P1 : Blk wL p1 _ _ := Bp1.keep ko (hne p1 (by omega))
          have X5 : Sl kT (fun b => l5 ≤ b ∧ b < h5) wL A5 c5 s0 := by
            obtain ⟨A', c', he, h⟩ := o5.rd
            injection he with he1 he2 he3
            subst he1; subst he3
            refine (h.keep (ko.weak fun b hb => ?_)).weak fun b _ hb => ?_
            · rcases hb with hb | hb
              · exact hne b (by have := hb.2; omega)
              · exact hne b (by have := E5.out b hb; omega)
            · rcases hb with hb | hb
              · exact hb
              · exact ⟨o5.base_le b hb, E5.out b hb⟩
          obtain ⟨E, hE⟩ : ∃ E : List (List Int), List.replicate s0.length ([] : List Int) = E := ⟨_, rfl⟩
          have hEl : E.length = s0.length := by rw [← hE, List.length_replicate]
          rw [hE] at hO
          have X6 : R2 wL A6 c6 E := by
            obtain ⟨A', c', he, h⟩ := hO.rd
            rw [hEl] at he
            injection he with he1 he2 he3
            subst he1; subst he3
            exact h.ofT.any
          have BL : Below w.heap.size w wL := below_grown BX BX.size hg (fun b e => by have := OW6.out b e; have := BW0.out; omega)
          have hR0L : R2 wL A0 c0 s0 := HRW.out.below BL
          have hGL := hG.below BL
          have HLz : Hid (h6 ≤ wL.heap.size) := Lib.hid (by have := NM.out; omega)
          have k5 := B5.cell 1 rfl
          clear hE ko hg hO b5 b6 o5 Bp0 Bp1 hR0 BX
          have HB5 := Lib.hid B5
          have HB6 := Lib.hid B6
          have HP0 := Lib.hid P0
          have HP1 := Lib.hid P1
          have HX5 := Lib.hid X5
          have HX6 := Lib.hid X6
          have HBL := Lib.hid BL
          have HGL := Lib.hid hGL
          have HR0L := Lib.hid hR0L
          have HEL := Lib.hid hEl
          clear B5 B6 P0 P1 X5 X6 BL hGL hR0L hEl k5 hne NMo lp0' lp1'
          rw [← hwL]
          clear hwL
          go_wp2_with fail
          have HJ1 : Hid (∀ (W : World) (_ : GR W) (_ : R2 W A5 c5 s0) (_ : R2 W A6 c6 E), Calls Tryd.prog 35 #[.agg #[.int .i64 x0, .slice A5 s0.length c5], .agg #[.int .i64 x0, .slice A6 s0.length c6]] W fun e w' => RetT W.heap.size (joinS x0 s0 x0 E) e w' ∧ Below W.heap.size W w') := Lib.hid fun W hg hs he => by
            have := join_T x0 A5 c5 s0 x0 A6 c6 E W hg hs he
            rw [HEL.out] at this
            exact this
          have HJ2 : Hid (∀ (W : World) (_ : GR W) (_ : R2 W A6 c6 E) (_ : R2 W A5 c5 s0), Calls Tryd.prog 35 #[.agg #[.int .i64 x0, .slice A6 s0.length c6], .agg #[.int .i64 x0, .slice A5 s0.length c5]] W fun e w' => RetT W.heap.size (joinS x0 E x0 s0) e w' ∧ Below W.heap.size W w') := Lib.hid fun W hg he hs => by
            have := join_T x0 A6 c6 E x0 A5 c5 s0 W hg he hs
            rw [HEL.out] at this
            exact this
          go_loopw [8, 9, 37] (fun s8 s9 i wr => ∃ (k : Nat) (Rs : List Rec) (vo vw : Value), k ≤ 7 ∧ Rs.length = k ∧ vo = s8 ∧ vw = s9 ∧ i = .int .i64 k ∧ OutInv wL Rs vo vw wr) (fun _ _ i _ => 7 - (intOf i).toNat)
          case atStart => exact ⟨0, [], _, _, by omega, rfl, rfl, rfl, rfl, OutInv.start wL⟩
          case round =>
            obtain ⟨k, Rs, vo, vw, hk, hlen, rfl, rfl, rfl, I⟩ := hrel
            have Q5 := HB5.out.below I.low
            have Q6 := HB6.out.below I.low
            have Q1 := HP1.out.below I.low
            have HI := Lib.hid I
            have hRlen : Rs.length ≤ 7 := by omega
            clear I
            by_cases h7 : k < 7
            · rcases (show k = 0 ∨ k = 1 ∨ k = 2 ∨ k = 3 ∨ k = 4 ∨ k = 5 ∨ k = 6 by omega) with rfl | rfl | rfl | rfl | rfl | rfl | rfl
              · have K5a := Q5.cell 0 rfl
                have K5b := Q5.cell 1 rfl
                have K6a := Q6.cell 0 rfl
                have K6b := Q6.cell 1 rfl
                have K1a := Q1.cell 0 rfl
                have K1b := Q1.cell 1 rfl
                go_wp2_with (((with_reducible refine at_dst (N := 11) rfl ?_); refine ev_new #[.int .i64 0, .slice none 0 0] 24 rfl ?hr ?_; (case hr => first | (go_simp; done) | (go_simp; rfl)); intro g11 w1 eg11 zg11 d1 Bg11; clear K5a K5b K6a K6b K1a K1b; have K5a := (Q5.below d1).cell 0 rfl; have K5b := (Q5.below d1).cell 1 rfl; have K6a := (Q6.below d1).cell 0 rfl; have K6b := (Q6.below d1).cell 1 rfl; have K1a := (Q1.below d1).cell 0 rfl; have K1b := (Q1.below d1).cell 1 rfl))
                have DD := below2 HI.out.low d1
                refine (pad_T x0 A5 c5 s0 w1 (HGL.out.below DD) (HX5.out.ofT.any.below DD)).mono ?_
                obtain ⟨R, T, Er, hR⟩ : ∃ R T Er, padS x0 s0 = (R, T, Er) := ⟨_, _, _, rfl⟩
                have HBn := Lib.hid (pad_bnd x0 s0)
                rw [hR] at HBn ⊢
                rintro e w2 ⟨⟨A, c, rfl, S2⟩, d2⟩
                dsimp only at S2 HBn ⊢
                clear hR K5a K5b K6a K6b K1a K1b DD
                have t1 := trivial
                have hsL := HI.out.low.size
                have hs1 := d1.size
                have hs2 := d2.size
                go_wp2_with (first | ((with_reducible refine at_store (p := 11) rfl ?_); (refine ev_put #[.int .i64 R, .slice A T.length c] rfl 24 (.tmp 11) (.tmp 56) rfl g11 24 _ rfl rfl (Bg11.below d2) sizeS rfl rfl ?_); intro w3 B3 t3 r3; have hs3 := t3.size; have z0 := B3.cell 0 rfl; have z1 := B3.cell 1 rfl) | (at_builtin; have _t := t1; refine append_k (W := w3) (k := kItem) wL.heap.size rfl (.tmp 99) (.tmp 101) 57 24 (.agg #[.int .i64 0, .slice none 0 0]) 32 (fun _ => True) rfl Tryd.underlying57 infoSnd rfl (by decide) (by decide) _ (Rs.map Rec.item1) (R, A, T.length, c) [.int .i64 R, .slice A T.length c] rfl rfl rfl (HI.out.out3 d1 eg11.out d2 t3) rfl (by omega) (by rw [List.length_map]; omega) ?_; clear t1; intro g4 cap4 w4 O4 t4 b4 a4; have B4 : Blk w4 g11 _ _ := B3.keep (Keep.of_grown t4) (fun e => by have := HI.out.out.lt g11 e.symm; have := eg11.out; omega); have hs4 := t4.size; clear z0 z1; have z0 := B4.cell 0 rfl; have z1 := B4.cell 1 rfl))
                have hT4 : R2 w4 A c T := by
                  have S3 := (S2.weak (ok' := fun b => b ≠ g11) (fun b _ hb => by have : w1.heap.size ≤ b := hb; have := zg11.out; omega)).keep (Keep.of_grown1 t3)
                  exact (((S2.weak (ok' := fun b => b ≠ g11 ∧ wr.heap.size ≤ b) (fun b _ hb => by have : w1.heap.size ≤ b := hb; have := zg11.out; omega)).keep ((Keep.of_grown1 t3).weak fun b hb => hb.1)).keep ((Keep.of_grown t4).weak fun b hb e => by have := HI.out.out.lt b e.symm; have := hb.2; omega)).ofT.any
                refine (refOwn_any R A c T w4 hT4 HBn.out.1 HBn.out.2).mono ?_
                rintro e w5 ⟨A', c', rfl, S5, d5⟩
                have hs5 := d5.size
                have t1 := trivial
                clear z0 z1
                go_wp2_with (at_builtin; have _t := t1; refine append_k (W := w5) (k := kItem) wL.heap.size rfl (.tmp 103) (.tmp 106) 57 24 (.agg #[.int .i64 0, .slice none 0 0]) 32 (fun _ => True) rfl Tryd.underlying57 infoSnd rfl (by decide) (by decide) _ (Rs.map Rec.item2) (R, A', T.length, c') [.int .i64 R, .slice A' T.length c'] rfl rfl rfl (HI.out.want5 d1 eg11.out d2 t3 t4 d5) rfl (by omega) (by rw [List.length_map]; omega) ?_; clear t1; intro g6' cap6 w6 O6 t6 b6' a6)
                go_roundw
                case rel => exact ⟨1, Rs ++ [⟨R, T, A, c, A', c', w1.heap.size, w2.heap.size, w4.heap.size, w5.heap.size⟩], _, _, by omega, by rw [List.length_append, hlen]; rfl, rfl, rfl, by go_num, by have h := HI.out.step d1 eg11.out zg11.out d2 S2 t3 r3.out O4 t4 (own_at a4) d5 S5 O6 t6 (own_at a6); simp only [List.length_map, hlen] at h; exact h⟩
                case measure => simp [intOf]
              · have K5a := Q5.cell 0 rfl
                have K5b := Q5.cell 1 rfl
                have K6a := Q6.cell 0 rfl
                have K6b := Q6.cell 1 rfl
                have K1a := Q1.cell 0 rfl
                have K1b := Q1.cell 1 rfl
                go_wp2_with (((with_reducible refine at_dst (N := 11) rfl ?_); refine ev_new #[.int .i64 0, .slice none 0 0] 24 rfl ?hr ?_; (case hr => first | (go_simp; done) | (go_simp; rfl)); intro g11 w1 eg11 zg11 d1 Bg11; clear K5a K5b K6a K6b K1a K1b; have K5a := (Q5.below d1).cell 0 rfl; have K5b := (Q5.below d1).cell 1 rfl; have K6a := (Q6.below d1).cell 0 rfl; have K6b := (Q6.below d1).cell 1 rfl; have K1a := (Q1.below d1).cell 0 rfl; have K1b := (Q1.below d1).cell 1 rfl))
                have DD := below2 HI.out.low d1
                refine (mono_T x0 A5 c5 s0 w1 (HGL.out.below DD) (HX5.out.ofT.any.below DD)).mono ?_
                obtain ⟨R, T, Er, hR⟩ : ∃ R T Er, monoS x0 s0 = (R, T, Er) := ⟨_, _, _, rfl⟩
                have HBn := Lib.hid (mono_bnd x0 s0)
                rw [hR] at HBn ⊢
                rintro e w2 ⟨⟨A, c, rfl, S2⟩, d2⟩
                dsimp only at S2 HBn ⊢
                clear hR K5a K5b K6a K6b K1a K1b DD
                have t1 := trivial
                have hsL := HI.out.low.size
                have hs1 := d1.size
                have hs2 := d2.size
                go_wp2_with (first | ((with_reducible refine at_store (p := 11) rfl ?_); (refine ev_put #[.int .i64 R, .slice A T.length c] rfl 24 (.tmp 11) (.tmp 63) rfl g11 24 _ rfl rfl (Bg11.below d2) sizeS rfl rfl ?_); intro w3 B3 t3 r3; have hs3 := t3.size; have z0 := B3.cell 0 rfl; have z1 := B3.cell 1 rfl) | (at_builtin; have _t := t1; refine append_k (W := w3) (k := kItem) wL.heap.size rfl (.tmp 99) (.tmp 101) 57 24 (.agg #[.int .i64 0, .slice none 0 0]) 32 (fun _ => True) rfl Tryd.underlying57 infoSnd rfl (by decide) (by decide) _ (Rs.map Rec.item1) (R, A, T.length, c) [.int .i64 R, .slice A T.length c] rfl rfl rfl (HI.out.out3 d1 eg11.out d2 t3) rfl (by omega) (by rw [List.length_map]; omega) ?_; clear t1; intro g4 cap4 w4 O4 t4 b4 a4; have B4 : Blk w4 g11 _ _ := B3.keep (Keep.of_grown t4) (fun e => by have := HI.out.out.lt g11 e.symm; have := eg11.out; omega); have hs4 := t4.size; clear z0 z1; have z0 := B4.cell 0 rfl; have z1 := B4.cell 1 rfl))
                have hT4 : R2 w4 A c T := by
                  have S3 := (S2.weak (ok' := fun b => b ≠ g11) (fun b _ hb => by have : w1.heap.size ≤ b := hb; have := zg11.out; omega)).keep (Keep.of_grown1 t3)
                  exact (((S2.weak (ok' := fun b => b ≠ g11 ∧ wr.heap.size ≤ b) (fun b _ hb => by have : w1.heap.size ≤ b := hb; have := zg11.out; omega)).keep ((Keep.of_grown1 t3).weak fun b hb => hb.1)).keep ((Keep.of_grown t4).weak fun b hb e => by have := HI.out.out.lt b e.symm; have := hb.2; omega)).ofT.any
                refine (refOwn_any R A c T w4 hT4 HBn.out.1 HBn.out.2).mono ?_
                rintro e w5 ⟨A', c', rfl, S5, d5⟩
                have hs5 := d5.size
                have t1 := trivial
                clear z0 z1
                go_wp2_with (at_builtin; have _t := t1; refine append_k (W := w5) (k := kItem) wL.heap.size rfl (.tmp 103) (.tmp 106) 57 24 (.agg #[.int .i64 0, .slice none 0 0]) 32 (fun _ => True) rfl Tryd.underlying57 infoSnd rfl (by decide) (by decide) _ (Rs.map Rec.item2) (R, A', T.length, c') [.int .i64 R, .slice A' T.length c'] rfl rfl rfl (HI.out.want5 d1 eg11.out d2 t3 t4 d5) rfl (by omega) (by rw [List.length_map]; omega) ?_; clear t1; intro g6' cap6 w6 O6 t6 b6' a6)
                go_roundw
                case rel => exact ⟨2, Rs ++ [⟨R, T, A, c, A', c', w1.heap.size, w2.heap.size, w4.heap.size, w5.heap.size⟩], _, _, by omega, by rw [List.length_append, hlen]; rfl, rfl, rfl, by go_num, by have h := HI.out.step d1 eg11.out zg11.out d2 S2 t3 r3.out O4 t4 (own_at a4) d5 S5 O6 t6 (own_at a6); simp only [List.length_map, hlen] at h; exact h⟩
                case measure => simp [intOf]
              · have K5a := Q5.cell 0 rfl
                have K5b := Q5.cell 1 rfl
                have K6a := Q6.cell 0 rfl
                have K6b := Q6.cell 1 rfl
                have K1a := Q1.cell 0 rfl
                have K1b := Q1.cell 1 rfl
                go_wp2_with (((with_reducible refine at_dst (N := 11) rfl ?_); refine ev_new #[.int .i64 0, .slice none 0 0] 24 rfl ?hr ?_; (case hr => first | (go_simp; done) | (go_simp; rfl)); intro g11 w1 eg11 zg11 d1 Bg11; clear K5a K5b K6a K6b K1a K1b; have K5a := (Q5.below d1).cell 0 rfl; have K5b := (Q5.below d1).cell 1 rfl; have K6a := (Q6.below d1).cell 0 rfl; have K6b := (Q6.below d1).cell 1 rfl; have K1a := (Q1.below d1).cell 0 rfl; have K1b := (Q1.below d1).cell 1 rfl))
                have DD := below2 HI.out.low d1
                refine (wide_T x0 A5 c5 s0 w1 (HGL.out.below DD) (HX5.out.ofT.any.below DD)).mono ?_
                obtain ⟨R, T, Er, hR⟩ : ∃ R T Er, wideS x0 s0 = (R, T, Er) := ⟨_, _, _, rfl⟩
                have HBn := Lib.hid (wide_bnd x0 s0)
                rw [hR] at HBn ⊢
                rintro e w2 ⟨⟨A, c, rfl, S2⟩, d2⟩
                dsimp only at S2 HBn ⊢
                clear hR K5a K5b K6a K6b K1a K1b DD
                have t1 := trivial
                have hsL := HI.out.low.size
                have hs1 := d1.size
                have hs2 := d2.size
                go_wp2_with (first | ((with_reducible refine at_store (p := 11) rfl ?_); (refine ev_put #[.int .i64 R, .slice A T.length c] rfl 24 (.tmp 11) (.tmp 70) rfl g11 24 _ rfl rfl (Bg11.below d2) sizeS rfl rfl ?_); intro w3 B3 t3 r3; have hs3 := t3.size; have z0 := B3.cell 0 rfl; have z1 := B3.cell 1 rfl) | (at_builtin; have _t := t1; refine append_k (W := w3) (k := kItem) wL.heap.size rfl (.tmp 99) (.tmp 101) 57 24 (.agg #[.int .i64 0, .slice none 0 0]) 32 (fun _ => True) rfl Tryd.underlying57 infoSnd rfl (by decide) (by decide) _ (Rs.map Rec.item1) (R, A, T.length, c) [.int .i64 R, .slice A T.length c] rfl rfl rfl (HI.out.out3 d1 eg11.out d2 t3) rfl (by omega) (by rw [List.length_map]; omega) ?_; clear t1; intro g4 cap4 w4 O4 t4 b4 a4; have B4 : Blk w4 g11 _ _ := B3.keep (Keep.of_grown t4) (fun e => by have := HI.out.out.lt g11 e.symm; have := eg11.out; omega); have hs4 := t4.size; clear z0 z1; have z0 := B4.cell 0 rfl; have z1 := B4.cell 1 rfl))
                have hT4 : R2 w4 A c T := by
                  have S3 := (S2.weak (ok' := fun b => b ≠ g11) (fun b _ hb => by have : w1.heap.size ≤ b := hb; have := zg11.out; omega)).keep (Keep.of_grown1 t3)
                  exact (((S2.weak (ok' := fun b => b ≠ g11 ∧ wr.heap.size ≤ b) (fun b _ hb => by have : w1.heap.size ≤ b := hb; have := zg11.out; omega)).keep ((Keep.of_grown1 t3).weak fun b hb => hb.1)).keep ((Keep.of_grown t4).weak fun b hb e => by have := HI.out.out.lt b e.symm; have := hb.2; omega)).ofT.any
                refine (refOwn_any R A c T w4 hT4 HBn.out.1 HBn.out.2).mono ?_
                rintro e w5 ⟨A', c', rfl, S5, d5⟩
                have hs5 := d5.size
                have t1 := trivial
                clear z0 z1
                go_wp2_with (at_builtin; have _t := t1; refine append_k (W := w5) (k := kItem) wL.heap.size rfl (.tmp 103) (.tmp 106) 57 24 (.agg #[.int .i64 0, .slice none 0 0]) 32 (fun _ => True) rfl Tryd.underlying57 infoSnd rfl (by decide) (by decide) _ (Rs.map Rec.item2) (R, A', T.length, c') [.int .i64 R, .slice A' T.length c'] rfl rfl rfl (HI.out.want5 d1 eg11.out d2 t3 t4 d5) rfl (by omega) (by rw [List.length_map]; omega) ?_; clear t1; intro g6' cap6 w6 O6 t6 b6' a6)
                go_roundw
                case rel => exact ⟨3, Rs ++ [⟨R, T, A, c, A', c', w1.heap.size, w2.heap.size, w4.heap.size, w5.heap.size⟩], _, _, by omega, by rw [List.length_append, hlen]; rfl, rfl, rfl, by go_num, by have h := HI.out.step d1 eg11.out zg11.out d2 S2 t3 r3.out O4 t4 (own_at a4) d5 S5 O6 t6 (own_at a6); simp only [List.length_map, hlen] at h; exact h⟩
                case measure => simp [intOf]
              · have K5a := Q5.cell 0 rfl
                have K5b := Q5.cell 1 rfl
                have K6a := Q6.cell 0 rfl
                have K6b := Q6.cell 1 rfl
                have K1a := Q1.cell 0 rfl
                have K1b := Q1.cell 1 rfl
                go_wp2_with (((with_reducible refine at_dst (N := 11) rfl ?_); refine ev_new #[.int .i64 0, .slice none 0 0] 24 rfl ?hr ?_; (case hr => first | (go_simp; done) | (go_simp; rfl)); intro g11 w1 eg11 zg11 d1 Bg11; clear K5a K5b K6a K6b K1a K1b; have K5a := (Q5.below d1).cell 0 rfl; have K5b := (Q5.below d1).cell 1 rfl; have K6a := (Q6.below d1).cell 0 rfl; have K6b := (Q6.below d1).cell 1 rfl; have K1a := (Q1.below d1).cell 0 rfl; have K1b := (Q1.below d1).cell 1 rfl))
                have DD := below2 HI.out.low d1
                refine (cut_T x0 A5 c5 s0 i1 j1 w1 (HGL.out.below DD) (HX5.out.ofT.any.below DD)).mono ?_
                obtain ⟨R, T, Er, hR⟩ : ∃ R T Er, cutS x0 s0 i1 j1 = (R, T, Er) := ⟨_, _, _, rfl⟩
                have HBn := Lib.hid (cut_bnd x0 s0 i1 j1)
                rw [hR] at HBn ⊢
                rintro e w2 ⟨⟨A, c, rfl, S2⟩, d2⟩
                dsimp only at S2 HBn ⊢
                clear hR K5a K5b K6a K6b K1a K1b DD
                have t1 := trivial
                have hsL := HI.out.low.size
                have hs1 := d1.size
                have hs2 := d2.size
                go_wp2_with (first | ((with_reducible refine at_store (p := 11) rfl ?_); (refine ev_put #[.int .i64 R, .slice A T.length c] rfl 24 (.tmp 11) (.tmp 81) rfl g11 24 _ rfl rfl (Bg11.below d2) sizeS rfl rfl ?_); intro w3 B3 t3 r3; have hs3 := t3.size; have z0 := B3.cell 0 rfl; have z1 := B3.cell 1 rfl) | (at_builtin; have _t := t1; refine append_k (W := w3) (k := kItem) wL.heap.size rfl (.tmp 99) (.tmp 101) 57 24 (.agg #[.int .i64 0, .slice none 0 0]) 32 (fun _ => True) rfl Tryd.underlying57 infoSnd rfl (by decide) (by decide) _ (Rs.map Rec.item1) (R, A, T.length, c) [.int .i64 R, .slice A T.length c] rfl rfl rfl (HI.out.out3 d1 eg11.out d2 t3) rfl (by omega) (by rw [List.length_map]; omega) ?_; clear t1; intro g4 cap4 w4 O4 t4 b4 a4; have B4 : Blk w4 g11 _ _ := B3.keep (Keep.of_grown t4) (fun e => by have := HI.out.out.lt g11 e.symm; have := eg11.out; omega); have hs4 := t4.size; clear z0 z1; have z0 := B4.cell 0 rfl; have z1 := B4.cell 1 rfl))
                have hT4 : R2 w4 A c T := by
                  have S3 := (S2.weak (ok' := fun b => b ≠ g11) (fun b _ hb => by have : w1.heap.size ≤ b := hb; have := zg11.out; omega)).keep (Keep.of_grown1 t3)
                  exact (((S2.weak (ok' := fun b => b ≠ g11 ∧ wr.heap.size ≤ b) (fun b _ hb => by have : w1.heap.size ≤ b := hb; have := zg11.out; omega)).keep ((Keep.of_grown1 t3).weak fun b hb => hb.1)).keep ((Keep.of_grown t4).weak fun b hb e => by have := HI.out.out.lt b e.symm; have := hb.2; omega)).ofT.any
                refine (refOwn_any R A c T w4 hT4 HBn.out.1 HBn.out.2).mono ?_
                rintro e w5 ⟨A', c', rfl, S5, d5⟩
                have hs5 := d5.size
                have t1 := trivial
                clear z0 z1
                go_wp2_with (at_builtin; have _t := t1; refine append_k (W := w5) (k := kItem) wL.heap.size rfl (.tmp 103) (.tmp 106) 57 24 (.agg #[.int .i64 0, .slice none 0 0]) 32 (fun _ => True) rfl Tryd.underlying57 infoSnd rfl (by decide) (by decide) _ (Rs.map Rec.item2) (R, A', T.length, c') [.int .i64 R, .slice A' T.length c'] rfl rfl rfl (HI.out.want5 d1 eg11.out d2 t3 t4 d5) rfl (by omega) (by rw [List.length_map]; omega) ?_; clear t1; intro g6' cap6 w6 O6 t6 b6' a6)
                go_roundw
                case rel => exact ⟨4, Rs ++ [⟨R, T, A, c, A', c', w1.heap.size, w2.heap.size, w4.heap.size, w5.heap.size⟩], _, _, by omega, by rw [List.length_append, hlen]; rfl, rfl, rfl, by go_num, by have h := HI.out.step d1 eg11.out zg11.out d2 S2 t3 r3.out O4 t4 (own_at a4) d5 S5 O6 t6 (own_at a6); simp only [List.length_map, hlen] at h; exact h⟩
                case measure => simp [intOf]
              · have K5a := Q5.cell 0 rfl
                have K5b := Q5.cell 1 rfl
                have K6a := Q6.cell 0 rfl
                have K6b := Q6.cell 1 rfl
                have K1a := Q1.cell 0 rfl
                have K1b := Q1.cell 1 rfl
                go_wp2_with (((with_reducible refine at_dst (N := 11) rfl ?_); refine ev_new #[.int .i64 0, .slice none 0 0] 24 rfl ?hr ?_; (case hr => first | (go_simp; done) | (go_simp; rfl)); intro g11 w1 eg11 zg11 d1 Bg11; clear K5a K5b K6a K6b K1a K1b; have K5a := (Q5.below d1).cell 0 rfl; have K5b := (Q5.below d1).cell 1 rfl; have K6a := (Q6.below d1).cell 0 rfl; have K6b := (Q6.below d1).cell 1 rfl; have K1a := (Q1.below d1).cell 0 rfl; have K1b := (Q1.below d1).cell 1 rfl))
                have DD := below2 HI.out.low d1
                refine (HJ1.out w1 (HGL.out.below DD) (HX5.out.ofT.any.below DD) (HX6.out.below DD)).mono ?_
                obtain ⟨R, T, Er, hR⟩ : ∃ R T Er, joinS x0 s0 x0 E = (R, T, Er) := ⟨_, _, _, rfl⟩
                have HBn := Lib.hid (join_bnd x0 s0 x0 E)
                rw [hR] at HBn ⊢
                rintro e w2 ⟨⟨A, c, rfl, S2⟩, d2⟩
                dsimp only at S2 HBn ⊢
                clear hR K5a K5b K6a K6b K1a K1b DD
                have t1 := trivial
                have hsL := HI.out.low.size
                have hs1 := d1.size
                have hs2 := d2.size
                go_wp2_with (first | ((with_reducible refine at_store (p := 11) rfl ?_); (refine ev_put #[.int .i64 R, .slice A T.length c] rfl 24 (.tmp 11) (.tmp 89) rfl g11 24 _ rfl rfl (Bg11.below d2) sizeS rfl rfl ?_); intro w3 B3 t3 r3; have hs3 := t3.size; have z0 := B3.cell 0 rfl; have z1 := B3.cell 1 rfl) | (at_builtin; have _t := t1; refine append_k (W := w3) (k := kItem) wL.heap.size rfl (.tmp 99) (.tmp 101) 57 24 (.agg #[.int .i64 0, .slice none 0 0]) 32 (fun _ => True) rfl Tryd.underlying57 infoSnd rfl (by decide) (by decide) _ (Rs.map Rec.item1) (R, A, T.length, c) [.int .i64 R, .slice A T.length c] rfl rfl rfl (HI.out.out3 d1 eg11.out d2 t3) rfl (by omega) (by rw [List.length_map]; omega) ?_; clear t1; intro g4 cap4 w4 O4 t4 b4 a4; have B4 : Blk w4 g11 _ _ := B3.keep (Keep.of_grown t4) (fun e => by have := HI.out.out.lt g11 e.symm; have := eg11.out; omega); have hs4 := t4.size; clear z0 z1; have z0 := B4.cell 0 rfl; have z1 := B4.cell 1 rfl))
                have hT4 : R2 w4 A c T := by
                  have S3 := (S2.weak (ok' := fun b => b ≠ g11) (fun b _ hb => by have : w1.heap.size ≤ b := hb; have := zg11.out; omega)).keep (Keep.of_grown1 t3)
                  exact (((S2.weak (ok' := fun b => b ≠ g11 ∧ wr.heap.size ≤ b) (fun b _ hb => by have : w1.heap.size ≤ b := hb; have := zg11.out; omega)).keep ((Keep.of_grown1 t3).weak fun b hb => hb.1)).keep ((Keep.of_grown t4).weak fun b hb e => by have := HI.out.out.lt b e.symm; have := hb.2; omega)).ofT.any
                refine (refOwn_any R A c T w4 hT4 HBn.out.1 HBn.out.2).mono ?_
                rintro e w5 ⟨A', c', rfl, S5, d5⟩
                have hs5 := d5.size
                have t1 := trivial
                clear z0 z1
                go_wp2_with (at_builtin; have _t := t1; refine append_k (W := w5) (k := kItem) wL.heap.size rfl (.tmp 103) (.tmp 106) 57 24 (.agg #[.int .i64 0, .slice none 0 0]) 32 (fun _ => True) rfl Tryd.underlying57 infoSnd rfl (by decide) (by decide) _ (Rs.map Rec.item2) (R, A', T.length, c') [.int .i64 R, .slice A' T.length c'] rfl rfl rfl (HI.out.want5 d1 eg11.out d2 t3 t4 d5) rfl (by omega) (by rw [List.length_map]; omega) ?_; clear t1; intro g6' cap6 w6 O6 t6 b6' a6)
                go_roundw
                case rel => exact ⟨5, Rs ++ [⟨R, T, A, c, A', c', w1.heap.size, w2.heap.size, w4.heap.size, w5.heap.size⟩], _, _, by omega, by rw [List.length_append, hlen]; rfl, rfl, rfl, by go_num, by have h := HI.out.step d1 eg11.out zg11.out d2 S2 t3 r3.out O4 t4 (own_at a4) d5 S5 O6 t6 (own_at a6); simp only [List.length_map, hlen] at h; exact h⟩
                case measure => simp [intOf]
              · have K5a := Q5.cell 0 rfl
                have K5b := Q5.cell 1 rfl
                have K6a := Q6.cell 0 rfl
                have K6b := Q6.cell 1 rfl
                have K1a := Q1.cell 0 rfl
                have K1b := Q1.cell 1 rfl
                go_wp2_with (((with_reducible refine at_dst (N := 11) rfl ?_); refine ev_new #[.int .i64 0, .slice none 0 0] 24 rfl ?hr ?_; (case hr => first | (go_simp; done) | (go_simp; rfl)); intro g11 w1 eg11 zg11 d1 Bg11; clear K5a K5b K6a K6b K1a K1b; have K5a := (Q5.below d1).cell 0 rfl; have K5b := (Q5.below d1).cell 1 rfl; have K6a := (Q6.below d1).cell 0 rfl; have K6b := (Q6.below d1).cell 1 rfl; have K1a := (Q1.below d1).cell 0 rfl; have K1b := (Q1.below d1).cell 1 rfl))
                have DD := below2 HI.out.low d1
                refine (HJ2.out w1 (HGL.out.below DD) (HX6.out.below DD) (HX5.out.ofT.any.below DD)).mono ?_
                obtain ⟨R, T, Er, hR⟩ : ∃ R T Er, joinS x0 E x0 s0 = (R, T, Er) := ⟨_, _, _, rfl⟩
                have HBn := Lib.hid (join_bnd x0 E x0 s0)
                rw [hR] at HBn ⊢
                rintro e w2 ⟨⟨A, c, rfl, S2⟩, d2⟩
                dsimp only at S2 HBn ⊢
                clear hR K5a K5b K6a K6b K1a K1b DD
                have t1 := trivial
                have hsL := HI.out.low.size
                have hs1 := d1.size
                have hs2 := d2.size
                go_wp2_with (first | ((with_reducible refine at_store (p := 11) rfl ?_); (refine ev_put #[.int .i64 R, .slice A T.length c] rfl 24 (.tmp 11) (.tmp 97) rfl g11 24 _ rfl rfl (Bg11.below d2) sizeS rfl rfl ?_); intro w3 B3 t3 r3; have hs3 := t3.size; have z0 := B3.cell 0 rfl; have z1 := B3.cell 1 rfl) | (at_builtin; have _t := t1; refine append_k (W := w3) (k := kItem) wL.heap.size rfl (.tmp 99) (.tmp 101) 57 24 (.agg #[.int .i64 0, .slice none 0 0]) 32 (fun _ => True) rfl Tryd.underlying57 infoSnd rfl (by decide) (by decide) _ (Rs.map Rec.item1) (R, A, T.length, c) [.int .i64 R, .slice A T.length c] rfl rfl rfl (HI.out.out3 d1 eg11.out d2 t3) rfl (by omega) (by rw [List.length_map]; omega) ?_; clear t1; intro g4 cap4 w4 O4 t4 b4 a4; have B4 : Blk w4 g11 _ _ := B3.keep (Keep.of_grown t4) (fun e => by have := HI.out.out.lt g11 e.symm; have := eg11.out; omega); have hs4 := t4.size; clear z0 z1; have z0 := B4.cell 0 rfl; have z1 := B4.cell 1 rfl))
                have hT4 : R2 w4 A c T := by
                  have S3 := (S2.weak (ok' := fun b => b ≠ g11) (fun b _ hb => by have : w1.heap.size ≤ b := hb; have := zg11.out; omega)).keep (Keep.of_grown1 t3)
                  exact (((S2.weak (ok' := fun b => b ≠ g11 ∧ wr.heap.size ≤ b) (fun b _ hb => by have : w1.heap.size ≤ b := hb; have := zg11.out; omega)).keep ((Keep.of_grown1 t3).weak fun b hb => hb.1)).keep ((Keep.of_grown t4).weak fun b hb e => by have := HI.out.out.lt b e.symm; have := hb.2; omega)).ofT.any
                refine (refOwn_any R A c T w4 hT4 HBn.out.1 HBn.out.2).mono ?_
                rintro e w5 ⟨A', c', rfl, S5, d5⟩
                have hs5 := d5.size
                have t1 := trivial
                clear z0 z1
                go_wp2_with (at_builtin; have _t := t1; refine append_k (W := w5) (k := kItem) wL.heap.size rfl (.tmp 103) (.tmp 106) 57 24 (.agg #[.int .i64 0, .slice none 0 0]) 32 (fun _ => True) rfl Tryd.underlying57 infoSnd rfl (by decide) (by decide) _ (Rs.map Rec.item2) (R, A', T.length, c') [.int .i64 R, .slice A' T.length c'] rfl rfl rfl (HI.out.want5 d1 eg11.out d2 t3 t4 d5) rfl (by omega) (by rw [List.length_map]; omega) ?_; clear t1; intro g6' cap6 w6 O6 t6 b6' a6)
                go_roundw
                case rel => exact ⟨6, Rs ++ [⟨R, T, A, c, A', c', w1.heap.size, w2.heap.size, w4.heap.size, w5.heap.size⟩], _, _, by omega, by rw [List.length_append, hlen]; rfl, rfl, rfl, by go_num, by have h := HI.out.step d1 eg11.out zg11.out d2 S2 t3 r3.out O4 t4 (own_at a4) d5 S5 O6 t6 (own_at a6); simp only [List.length_map, hlen] at h; exact h⟩
                case measure => simp [intOf]
              · have K5a := Q5.cell 0 rfl
                have K5b := Q5.cell 1 rfl
                have K6a := Q6.cell 0 rfl
                have K6b := Q6.cell 1 rfl
                have K1a := Q1.cell 0 rfl
                have K1b := Q1.cell 1 rfl
                go_wp2_with (((with_reducible refine at_dst (N := 11) rfl ?_); refine ev_new #[.int .i64 0, .slice none 0 0] 24 rfl ?hr ?_; (case hr => first | (go_simp; done) | (go_simp; rfl)); intro g11 w1 eg11 zg11 d1 Bg11; clear K5a K5b K6a K6b K1a K1b; have K5a := (Q5.below d1).cell 0 rfl; have K5b := (Q5.below d1).cell 1 rfl; have K6a := (Q6.below d1).cell 0 rfl; have K6b := (Q6.below d1).cell 1 rfl; have K1a := (Q1.below d1).cell 0 rfl; have K1b := (Q1.below d1).cell 1 rfl))
                have DD := below2 HI.out.low d1
                refine (mix_T x0 A5 c5 s0 x0 A5 c5 s0 i1 j1 w1 (HGL.out.below DD) (HX5.out.ofT.any.below DD) (HX5.out.ofT.any.below DD)).mono ?_
                obtain ⟨R, T, Er, hR⟩ : ∃ R T Er, mixS x0 s0 x0 s0 i1 j1 = (R, T, Er) := ⟨_, _, _, rfl⟩
                have HBn := Lib.hid (mix_bnd x0 s0 x0 s0 i1 j1)
                rw [hR] at HBn ⊢
                rintro e w2 ⟨⟨A, c, rfl, S2⟩, d2⟩
                dsimp only at S2 HBn ⊢
                clear hR K5a K5b K6a K6b K1a K1b DD
                have t1 := trivial
                have hsL := HI.out.low.size
                have hs1 := d1.size
                have hs2 := d2.size
                go_wp2_with (first | ((with_reducible refine at_store (p := 11) rfl ?_); (refine ev_put #[.int .i64 R, .slice A T.length c] rfl 24 (.tmp 11) (.tmp 49) rfl g11 24 _ rfl rfl (Bg11.below d2) sizeS rfl rfl ?_); intro w3 B3 t3 r3; have hs3 := t3.size; have z0 := B3.cell 0 rfl; have z1 := B3.cell 1 rfl) | (at_builtin; have _t := t1; refine append_k (W := w3) (k := kItem) wL.heap.size rfl (.tmp 99) (.tmp 101) 57 24 (.agg #[.int .i64 0, .slice none 0 0]) 32 (fun _ => True) rfl Tryd.underlying57 infoSnd rfl (by decide) (by decide) _ (Rs.map Rec.item1) (R, A, T.length, c) [.int .i64 R, .slice A T.length c] rfl rfl rfl (HI.out.out3 d1 eg11.out d2 t3) rfl (by omega) (by rw [List.length_map]; omega) ?_; clear t1; intro g4 cap4 w4 O4 t4 b4 a4; have B4 : Blk w4 g11 _ _ := B3.keep (Keep.of_grown t4) (fun e => by have := HI.out.out.lt g11 e.symm; have := eg11.out; omega); have hs4 := t4.size; clear z0 z1; have z0 := B4.cell 0 rfl; have z1 := B4.cell 1 rfl))
                have hT4 : R2 w4 A c T := by
                  have S3 := (S2.weak (ok' := fun b => b ≠ g11) (fun b _ hb => by have : w1.heap.size ≤ b := hb; have := zg11.out; omega)).keep (Keep.of_grown1 t3)
                  exact (((S2.weak (ok' := fun b => b ≠ g11 ∧ wr.heap.size ≤ b) (fun b _ hb => by have : w1.heap.size ≤ b := hb; have := zg11.out; omega)).keep ((Keep.of_grown1 t3).weak fun b hb => hb.1)).keep ((Keep.of_grown t4).weak fun b hb e => by have := HI.out.out.lt b e.symm; have := hb.2; omega)).ofT.any
                refine (refOwn_any R A c T w4 hT4 HBn.out.1 HBn.out.2).mono ?_
                rintro e w5 ⟨A', c', rfl, S5, d5⟩
                have hs5 := d5.size
                have t1 := trivial
                clear z0 z1
                go_wp2_with (at_builtin; have _t := t1; refine append_k (W := w5) (k := kItem) wL.heap.size rfl (.tmp 103) (.tmp 106) 57 24 (.agg #[.int .i64 0, .slice none 0 0]) 32 (fun _ => True) rfl Tryd.underlying57 infoSnd rfl (by decide) (by decide) _ (Rs.map Rec.item2) (R, A', T.length, c') [.int .i64 R, .slice A' T.length c'] rfl rfl rfl (HI.out.want5 d1 eg11.out d2 t3 t4 d5) rfl (by omega) (by rw [List.length_map]; omega) ?_; clear t1; intro g6' cap6 w6 O6 t6 b6' a6)
                go_roundw
                case rel => exact ⟨7, Rs ++ [⟨R, T, A, c, A', c', w1.heap.size, w2.heap.size, w4.heap.size, w5.heap.size⟩], _, _, by omega, by rw [List.length_append, hlen]; rfl, rfl, rfl, by go_num, by have h := HI.out.step d1 eg11.out zg11.out d2 S2 t3 r3.out O4 t4 (own_at a4) d5 S5 O6 t6 (own_at a6); simp only [List.length_map, hlen] at h; exact h⟩
                case measure => simp [intOf]
            · obtain rfl : k = 7 := by omega
              have BX := below2 HBL.out HI.out.low
              have Q0 := HP0.out.below HI.out.low
              have K5a := Q5.cell 0 rfl
              have K5b := Q5.cell 1 rfl
              have K0a := Q0.cell 0 rfl
              have K0b := Q0.cell 1 rfl
              have X5r := sl_below HX5.out HI.out.low
              clear Q6 Q1
              go_wp2_with fail
              refine (same_self x0 s0 A5 c5 A0 c0 wr X5r.ofT.any (HR0L.out.below HI.out.low)).mono ?_
              rintro e w1 ⟨rfl, d1⟩
              replace K5a := cell_below d1 K5a
              replace K5b := cell_below d1 K5b
              clear K0a K0b
              go_wp2_with fail
              refine (spoil_any x0 A5 c5 s0 w1 _ (sl_below X5r d1)).mono ?_
              rintro e w2 ⟨rfl, _, hsp⟩
              have hF : Fin w wL.heap.size w1.heap.size Rs vo vw 0 w2 := Fin.start (below2 BX d1) HBL.out.size (HI.out.below d1) hsp (fun b hb => ⟨by have := NM.out; have := BW0.out; have := hb.1; omega, by have := hb.2; have := HLz.out; omega⟩)
              obtain ⟨so, co, hvo⟩ : ∃ g cap, vo = .slice (some ⟨g, 0, none⟩) 7 cap := by
                obtain ⟨g, cap, h, _⟩ := kItem_at HI.out.out 0 (by rw [List.length_map]; omega)
                exact ⟨g, cap, by rw [h, List.length_map, hlen]⟩
              obtain ⟨sw, cw, hvw⟩ : ∃ g cap, vw = .slice (some ⟨g, 0, none⟩) 7 cap := by
                obtain ⟨g, cap, h, _⟩ := kItem_at HI.out.want 0 (by rw [List.length_map]; omega)
                exact ⟨g, cap, by rw [h, List.length_map, hlen]⟩
              subst hvo
              subst hvw
              have HF := Lib.hid hF
              clear hF hsp K5a K5b Q0 Q5 X5r BX
              go_wp2_with fail
              go_loopw [117] (fun i wr => ∃ k : Nat, k ≤ 7 ∧ i = .int .i64 k ∧ Fin w wL.heap.size w1.heap.size Rs (.slice (some ⟨so, 0, none⟩) 7 co) (.slice (some ⟨sw, 0, none⟩) 7 cw) k wr) (fun i _ => 7 - (intOf i).toNat)
              case atStart => exact ⟨0, by omega, rfl, HF.out⟩
              case round =>
                obtain ⟨k, hk, rfl, F⟩ := hrel
                by_cases hlt : k < 7
                · have hkr : k < Rs.length := by omega
                  obtain ⟨g, cap, he, _, _, p0', p1'⟩ := kItem_at F.out k (by rw [List.length_map]; exact hkr)
                  injection he with he1 he5 he3
                  injection he1 with he1
                  injection he1 with he1
                  subst he1
                  obtain ⟨g, cap', he, _, _, q0', q1'⟩ := kItem_at F.want k (by rw [List.length_map]; exact hkr)
                  injection he with he1 he2 he4
                  injection he1 with he1
                  injection he1 with he1
                  subst he1
                  rw [nth_map_list rec0 kItem.dflt Rec.item1 Rs k hkr] at p0' p1'
                  rw [nth_map_list rec0 kItem.dflt Rec.item2 Rs k hkr] at q0' q1'
                  have Fa := F.a k hkr
                  rw [if_neg (Nat.lt_irrefl k)] at Fa
                  have Fb := F.b k hkr (Nat.le_refl k)
                  obtain ⟨R, hRk⟩ : ∃ R, nth rec0 Rs k = R := ⟨_, rfl⟩
                  rw [hRk] at p0' p1' q0' q1' Fa Fb
                  obtain ⟨r, TT, A, c, A', c', lo, mid, lo2, hi⟩ := R
                  simp only [Rec.item1, Rec.item2] at p0' p1' q0' q1' Fa Fb
                  have HFk := Lib.hid F
                  have HRk := Lib.hid hRk
                  have hki : (k : Int) < 7 := by omega
                  clear F hRk he2 he3 he4 he5
                  go_wp2_with fail
                  have D := (Below.refl wr.heap.size wr).drew
                  refine wp_region_G 9 (fun W => W.cell? ⟨so, k * 2, none⟩ = some (.int .i64 r) ∧ W.cell? ⟨so, k * 2 + 1, none⟩ = some (.slice A TT.length c) ∧ W.cell? ⟨sw, k * 2, none⟩ = some (.int .i64 r) ∧ W.cell? ⟨sw, k * 2 + 1, none⟩ = some (.slice A' TT.length c')) (by kernel_rfl) ⟨cell_below D p0', cell_below D p1', cell_below D q0', cell_below D q1'⟩ (fun hHeld => ?_)
                  refine wpAnyG_takeL (i := 0) (.slice (some ⟨so, 0, none⟩) 7 co) [2, 3, 8, 9] rfl (by kernel_rfl) (fun _ _ _ h => h) hHeld (by rfl) ?_ ?_
                  · (intro W hSw; (try dsimp only at hSw); go_simp)
                  try simp only [Act.put, List.setIfInBounds_toArray, List.set_cons_zero, List.set_cons_succ]
                  refine wpAnyG_takeL (i := 1) (.int .i64 k) [2, 3, 8, 9] rfl (by kernel_rfl) (fun _ _ _ h => h) hHeld (by rfl) ?_ ?_
                  · (intro W hSw; (try dsimp only at hSw); go_simp)
                  try simp only [Act.put, List.setIfInBounds_toArray, List.set_cons_zero, List.set_cons_succ]
                  refine wpAnyG_takeL (i := 2) (.pointer (some ⟨so, k * 2, none⟩)) [3, 8, 9] rfl (by kernel_rfl) (fun _ _ _ h => h) hHeld (by rfl) ?_ ?_
                  · (intro W hSw; (try dsimp only at hSw); go_simp)
                  try simp only [Act.put, List.setIfInBounds_toArray, List.set_cons_zero, List.set_cons_succ]
                  refine wpAnyG_takeL (i := 3) (.agg #[.int .i64 r, .slice A TT.length c]) [8, 9] rfl (by kernel_rfl) (fun _ _ _ h => h) hHeld (by rfl) ?_ ?_
                  · (intro W hSw; (try dsimp only at hSw); go_simp)
                  try simp only [Act.put, List.setIfInBounds_toArray, List.set_cons_zero, List.set_cons_succ]
                  refine wpAnyG_takeL (i := 4) (.slice (some ⟨sw, 0, none⟩) 7 cw) [6, 7, 8, 9] rfl (by kernel_rfl) (fun _ _ _ h => h) hHeld (by rfl) ?_ ?_
                  · (intro W hSw; (try dsimp only at hSw); go_simp)
                  try simp only [Act.put, List.setIfInBounds_toArray, List.set_cons_zero, List.set_cons_succ]
                  refine wpAnyG_takeL (i := 5) (.int .i64 k) [6, 7, 8, 9] rfl (by kernel_rfl) (fun _ _ _ h => h) hHeld (by rfl) ?_ ?_
                  · (intro W hSw; (try dsimp only at hSw); go_simp)
                  try simp only [Act.put, List.setIfInBounds_toArray, List.set_cons_zero, List.set_cons_succ]
                  refine wpAnyG_takeL (i := 6) (.pointer (some ⟨sw, k * 2, none⟩)) [7, 8, 9] rfl (by kernel_rfl) (fun _ _ _ h => h) hHeld (by rfl) ?_ ?_
                  · (intro W hSw; (try dsimp only at hSw); go_simp)
                  try simp only [Act.put, List.setIfInBounds_toArray, List.set_cons_zero, List.set_cons_succ]
                  refine wpAnyG_takeL (i := 7) (.agg #[.int .i64 r, .slice A' TT.length c']) [8, 9] rfl (by kernel_rfl) (fun _ _ _ h => h) hHeld (by rfl) ?_ ?_
                  · (intro W hSw; (try dsimp only at hSw); go_simp)
                  try simp only [Act.put, List.setIfInBounds_toArray, List.set_cons_zero, List.set_cons_succ]
                  refine wpAnyG_oneL (i := 8) (by kernel_rfl) rfl (fun K hK => ?_)
                  (go_simp; go_at_call 19; refine (same_self r TT A c A' c' _ (sl_below Fa.ofT D).any (sl_below Fb D).any).mono ?_; rintro e w3 ⟨rfl, d3⟩; have D3 := below2 D d3)
                  clear hHeld
                  have hHeld := (show w3.cell? ⟨so, k * 2, none⟩ = some (.int .i64 r) ∧ w3.cell? ⟨so, k * 2 + 1, none⟩ = some (.slice A TT.length c) ∧ w3.cell? ⟨sw, k * 2, none⟩ = some (.int .i64 r) ∧ w3.cell? ⟨sw, k * 2 + 1, none⟩ = some (.slice A' TT.length c') from ⟨cell_below D3 p0', cell_below D3 p1', cell_below D3 q0', cell_below D3 q1'⟩)
                  refine hK.out _ _ (fun _ => hHeld) ?_
                  clear hK K
                  try simp only [Act.put, List.setIfInBounds_toArray, List.set_cons_zero, List.set_cons_succ]
                  refine wpAnyG_oneL (i := 9) (by kernel_rfl) rfl (fun K hK => ?_)
                  go_simp
                  refine hK.out _ _ (fun h => Bool.noConfusion (show true = false from h)) ?_
                  clear hK K
                  try simp only [Act.put, List.setIfInBounds_toArray, List.set_cons_zero, List.set_cons_succ]
                  refine wpAnyG_done (by kernel_rfl) ?_ _
                  replace p0' := cell_below D3 p0'
                  replace p1' := cell_below D3 p1'
                  clear q0' q1'
                  go_wp2_with fail
                  refine (spoil_any r A c TT w3 _ (sl_below Fa D3)).mono ?_
                  rintro e w4 ⟨rfl, S7, hsp⟩
                  have hFk := HFk.out.below D3
                  have hstep := hFk.step hkr (W1 := w4) (by rw [HRk.out]; exact hsp) (by rw [HRk.out]; exact S7)
                  have HST := Lib.hid hstep
                  clear hstep hFk hsp S7 p0' p1'
                  go_wp2_with fail
                  go_roundw
                  case rel => exact ⟨k + 1, by omega, by go_num, HST.out⟩
                  case measure => simp [intOf]; omega
                · obtain rfl : k = 7 := by omega
                  obtain ⟨wZ, hwZ⟩ : ∃ wZ : World, wZ = wr := ⟨_, rfl⟩
                  rw [← hwZ] at F ⊢
                  clear hwZ
                  have HZ := Lib.hid F
                  clear F HF
                  go_wp2_with fail
                  go_loopw [138] (fun i wr => ∃ k : Nat, k ≤ 7 ∧ i = .int .i64 k ∧ Below wZ.heap.size wZ wr) (fun i _ => 7 - (intOf i).toNat)
                  case atStart => exact ⟨0, by omega, rfl, Below.refl _ _⟩
                  case round =>
                    obtain ⟨k, hk, rfl, hB⟩ := hrel
                    by_cases hlt : k < 7
                    · have hkr : k < Rs.length := by omega
                      obtain ⟨g, cap, he, _, _, p0', p1'⟩ := kItem_at (HZ.out.below hB).out k (by rw [List.length_map]; exact hkr)
                      injection he with he1 he5 he3
                      injection he1 with he1
                      injection he1 with he1
                      subst he1
                      rw [nth_map_list rec0 kItem.dflt Rec.item1 Rs k hkr] at p1'
                      have Fa := (HZ.out.below hB).a k hkr
                      rw [if_pos hlt] at Fa
                      obtain ⟨R, hRk⟩ : ∃ R, nth rec0 Rs k = R := ⟨_, rfl⟩
                      rw [hRk] at p1' Fa
                      obtain ⟨r, TT, A, c, A', c', lo, mid, lo2, hi⟩ := R
                      simp only [Rec.item1] at p1' Fa
                      have hki : (k : Int) < 7 := by omega
                      have hTl : (sevens TT).length = TT.length := by simp [sevens]
                      have HTL := Lib.hid hTl
                      have hTn : TT.length ≤ 9223372036854775807 := by have := Fa.len; rw [hTl] at this; exact this
                      have HBk := Lib.hid hB
                      clear hRk he3 he5 p0' hTl hB
                      go_wp2_with fail
                      go_loopw [147] (fun i wq => ∃ j : Nat, j ≤ TT.length ∧ i = .int .i64 j ∧ Below wr.heap.size wr wq) (fun i _ => TT.length - (intOf i).toNat)
                      case atStart => exact ⟨0, Nat.zero_le _, rfl, Below.refl _ _⟩
                      case round =>
                        obtain ⟨j, hj, rfl, hB2⟩ := hrel
                        by_cases hjl : j < TT.length
                        · obtain ⟨ad, B, d, e, _, q0, hT⟩ := rd_T (sl_below Fa hB2) j (by rw [HTL.out]; exact hjl)
                          have hnj : nth [] (sevens TT) j = List.replicate (nth [] TT j).length 7 := by unfold sevens; rw [nth_map_list [] [] _ TT j hjl]
                          rw [hnj] at q0 hT
                          rw [List.length_replicate] at q0
                          obtain rfl := e
                          obtain ⟨n, hn7⟩ : ∃ n, (nth [] TT j).length = n := ⟨_, rfl⟩
                          rw [hn7] at q0 hT
                          have hnn : n ≤ 9223372036854775807 := by have := hT.sl.len; rw [List.length_replicate] at this; exact this
                          have HT7 := Lib.hid hT
                          have HB2 := Lib.hid hB2
                          clear hnj hn7 hT hB2
                          go_wp2_with fail
                          go_loopw [153] (fun i wu => ∃ q : Nat, q ≤ n ∧ i = .int .i64 q ∧ Below wr.heap.size wr wu) (fun i _ => n - (intOf i).toNat)
                          case atStart => exact ⟨0, Nat.zero_le _, rfl, Below.refl _ _⟩
                          case round =>
                            obtain ⟨q, hq, rfl, hB3⟩ := hrel
                            by_cases hql : q < n
                            · obtain ⟨ae, e, c7⟩ := rd_int (sl_below HT7.out.sl hB3) q (by rw [List.length_replicate]; exact hql)
                              rw [nth_replicate 0 n q 7 hql] at c7
                              subst e
                              have HB3 := Lib.hid hB3
                              clear hB3
                              go_wp2_with fail
                              go_roundw
                              case rel => exact ⟨q + 1, by omega, by go_num, HB3.out⟩
                              case measure => simp [intOf]; omega
                            · obtain rfl : q = n := by omega
                              have HB3 := Lib.hid hB3
                              clear hB3
                              go_wp2_with fail
                              go_roundw
                              case rel => exact ⟨j + 1, by omega, by go_num, below2 HB2.out HB3.out⟩
                              case measure => simp [intOf]; omega
                        · obtain rfl : j = TT.length := by omega
                          have HB2 := Lib.hid hB2
                          clear hB2
                          go_wp2_with fail
                          go_roundw
                          case rel =>
                            repeat apply Exists.intro
                            refine ⟨?ra, rfl⟩
                            exact ⟨k + 1, by omega, by go_num, below2 HBk.out HB2.out⟩
                          case measure => simp [intOf]; omega
                    · obtain rfl : k = 7 := by omega
                      have BY := (HZ.out.below hB).low
                      clear hB
                      go_wp2_with fail
                      refine (awake_any _ (hG.below BY)).mono ?_
                      rintro e wY ⟨rfl, bY⟩
                      replace BY := below2 BY bY
                      go_wp2_with fail
                      go_ret
                      exact ⟨rfl, BY⟩
end Go.Proofs.YtijcecakofmhcaaDoor
