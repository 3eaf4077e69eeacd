/- book: cost: what it returns. · book: Cost: what it returns. · book: best, Best: what each call returns. · book: Best: what it returns. -/
import Derived.Test.YtmcdgmiheklbeaaGreatDoorKe
import Derived.Test.YtmcdgmiheklbeaaGreatDoorKd
import Derived.Test.YtmcdgmiheklbeaaGreatDoorKf
import Derived.Sort.CutIn
namespace Go.Proofs.YtmcdgmiheklbeaaGreatDoor
open Go.RowKit
attribute [local go_sem] Oper.semAt_some

/-- Where cost is: the form, the table, the count. -/
structure CkS (w : World) (b g5 g6 g7 n : Nat) (W : World) : Prop where
  frm : Blk W g5 (formC b) 113
  txt : Blk W g6 #[.string (txtK b)] 9
  cnt : Blk W g7 #[.int .i64 (n : Int)] 3
  low : Below w.heap.size w W
theorem CkS.below {w W W' : World} {b g5 g6 g7 n : Nat} (h : CkS w b g5 g6 g7 n W) (hb : Below W.heap.size W W') : CkS w b g5 g6 g7 n W' :=
  ⟨h.frm.below hb, h.txt.below hb, h.cnt.below hb, below2 h.low hb⟩
theorem CkS.step {w W V : World} {b g5 g6 g7 n : Nat} (h : CkS w b g5 g6 g7 n W) (hb : Below W.heap.size W V) (h57 : g5 < g7) (h67 : g6 < g7) (hw : w.heap.size ≤ g7) (m : Nat) (z : Int) (hz : z = ((n + m : Nat) : Int)) :
    CkS w b g5 g6 g7 (n + m) (V.setCell ⟨g7, 0, none⟩ (.int .i64 z)) ∧ Upd (fun x => x = g7) W (V.setCell ⟨g7, 0, none⟩ (.int .i64 z)) := by
  subst hz
  have hu : Upd (fun x => x = g7) V (V.setCell ⟨g7, 0, none⟩ (.int .i64 ((n + m : Nat) : Int))) := Upd.setCell (fun x => x = g7) _ g7 0 _ rfl
  have h2 := h.below hb
  refine ⟨⟨h2.frm.keep (hu.keep (ok := fun x => x ≠ g7) fun x h => h) (by omega), h2.txt.keep (hu.keep (ok := fun x => x ≠ g7) fun x h => h) (by omega), h2.cnt.set 0 (.int .i64 ((n + m : Nat) : Int)), h2.low.grown (grown_setCell V g7 0 _) h2.low.size (fun r e => by cases e; exact hw)⟩, (Upd.of_below hb _).trans hu (fun _ _ h => h)⟩
theorem txtK_empty (b : Nat) (h8 : b < 8) : (txtK b).toList.isEmpty = decide (b = 0) := by
  have : b = 0 ∨ b = 1 ∨ b = 2 ∨ b = 3 ∨ b = 4 ∨ b = 5 ∨ b = 6 ∨ b = 7 := by omega
  rcases this with rfl | rfl | rfl | rfl | rfl | rfl | rfl | rfl <;> decide +kernel
theorem quantB_mem {l : List Int} (h : quantB l = true) : ∀ v ∈ l, -1023 ≤ v ∧ v ≤ 1023 := fun v hv => by
  have := List.all_eq_true.1 h v hv
  simpa using this
theorem wrdB_len (b : Nat) (g : List Int) (h8 : b < 8) : (wrdB b g).length ≤ 16 := by
  unfold wrdB
  split
  · simp
  · rw [numB_length]; exact tabK_len16 b (by omega) h8 _
theorem bes_len (b : Nat) : ∀ (g : List Int), (∀ v ∈ g, -1023 ≤ v ∧ v ≤ 1023) → (g.flatMap (besB b)).length ≤ 22 * g.length
  | [], _ => by simp
  | v :: g, h => by
    have h1 := besB_len b v (by have := h v List.mem_cons_self; omega)
    have h2 := bes_len b g (fun x hx => h x (List.mem_cons_of_mem _ hx))
    rw [List.flatMap_cons, List.length_append, List.length_cons]; omega
theorem grpB_len (b : Nat) (g : List Int) (h8 : b < 8) (hq : ∀ v ∈ g, -1023 ≤ v ∧ v ≤ 1023) (h4 : g.length ≤ 4) : (grpB b g).length ≤ 104 := by
  have h1 := wrdB_len b g h8
  have h2 := bes_len b g hq
  unfold grpB
  rw [List.length_append]; omega
theorem grpK_quant {l : List Int} (h : quantB l = true) (d j : Nat) : ∀ v ∈ grpK d l j, -1023 ≤ v ∧ v ≤ 1023 := fun v hv => by
  unfold grpK at hv; exact quantB_mem h v (List.mem_of_mem_drop (List.mem_of_mem_take hv))
theorem lstB_len (b : Nat) (l : List Int) (h8 : b < 8) (hq : quantB l = true) : ∀ k, (lstB b l k).length ≤ 104 * k
  | 0 => by simp [lstB]
  | k + 1 => by
    have h1 := lstB_len b l h8 hq k
    have h2 := grpB_len b (grpK (dimB b) l k) h8 (grpK_quant hq _ _) (by unfold grpK; rw [List.length_take]; have := dimB_pos b; omega)
    rw [lstB_succ, List.length_append]; omega
theorem rowK_len (b : Nat) (l : List Int) (h8 : b < 8) (hq : quantB l = true) : (rowK b l).length ≤ 104 * l.length := by
  have h1 := lstB_len b l h8 hq (l.length / dimB b)
  have h2 := Nat.div_le_self l.length (dimB b)
  unfold rowK; omega
theorem sizeF : (Tryz.prog.info? 113).map (·.size) = some 3 := by kernel_rfl
theorem grpK_cut (d j : Nat) (l : List Int) : (l.take (j * d + d)).drop (j * d) = grpK d l j := by
  unfold grpK
  rw [List.drop_take, Nat.add_sub_cancel_left]
theorem grp_ri {w : World} {ad : Addr} {c : Nat} {l : List Int} (h : RI w (some ad) c l) (d j : Nat) (h2 : j * d + d ≤ l.length) : RI w (some (ad.add (j * d))) d (grpK d l j) := by
  have := grp_sl h (j * d) d h2
  rw [grpK_cut] at this
  rw [show j * d * (kInt .i64).size = j * d from Nat.mul_one _] at this
  exact this

set_option maxHeartbeats 4000000 in
set_option maxRecDepth 100000 in
theorem bcost_any (A : Option Addr) (c b : Nat) (l : List Int) (w : World) (hS : RI w A c l) (hG : GF w) (hT : GT w) (hb8 : b < 8) (hq : quantB l = true) (hf : l.length % dimB b = 0) (hlm : l.length ≤ 1000000) :
    Calls Tryz.prog 84 #[.int .i64 (b : Int), .slice A l.length c] w fun e w' => e = .returned (.int .i64 ((rowK b l).length : Int)) ∧ Below w.heap.size w w' := by
  have c0 := hG.dim b hb8
  have c1 := hG.most b hb8
  have c2 := hG.esc b hb8
  have ct := hT.txt b hb8
  have hbi : (b : Int) < 8 := by omega
  refine (callsIn_wide (n := 9)).1 ?_
  refine callsIn_of_wp_marks Tryz.func84 rfl trivial ?_ rfl
  simp only [Tryz.ntmps84, List.size_toArray, List.length_cons, List.length_nil, Nat.reduceAdd, Nat.reduceSub, Array.replicate_succ, Array.replicate_zero, List.push_toArray, List.append_toArray, List.nil_append, List.cons_append]
  gi_upto_region 1 with fail
  gi_cut [5, 6] from 11 (fun s5 s6 wx => ∃ g5 g6 : Nat, s5 = .pointer (some ⟨g5, 0, none⟩) ∧ s6 = .pointer (some ⟨g6, 0, none⟩) ∧ Hid (w.heap.size ≤ g5) ∧ Hid (w.heap.size ≤ g6) ∧ Blk wx g5 (formC b) 113 ∧ Blk wx g6 #[.string (txtK b)] 9 ∧ Below w.heap.size w wx)
  case first =>
    have HF := Lib.hid (show ∀ W : World, Below w.heap.size w W → (W.cell? ⟨0, b * 3, none⟩ = some (.int .i64 (dimB b)) ∧ W.cell? ⟨0, b * 3 + 1, none⟩ = some (.int .i64 (mostB b)) ∧ W.cell? ⟨0, b * 3 + 2, none⟩ = some (.bool (escB b)) ∧ W.cell? ⟨1, b, none⟩ = some (.string (txtK b))) from fun W hb => ⟨(hG.below hb).dim b hb8, (hG.below hb).most b hb8, (hG.below hb).esc b hb8, (hT.below hb).txt b hb8⟩)
    have d0 := (Below.refl w.heap.size w).drew
    clear c0 c1 c2 ct
    refine wpIn_region_W 9 (fun W' => W'.cell? ⟨0, b * 3, none⟩ = some (.int .i64 (dimB b)) ∧ W'.cell? ⟨0, b * 3 + 1, none⟩ = some (.int .i64 (mostB b)) ∧ W'.cell? ⟨0, b * 3 + 2, none⟩ = some (.bool (escB b)) ∧ W'.cell? ⟨1, b, none⟩ = some (.string (txtK b))) (by kernel_rfl) (HF.out _ d0) (fun hHeld => ?_)
    refine wpAnyG_takeL (i := 0) (.int .i64 (b : Int)) [9] rfl (by kernel_rfl) (fun _ _ _ h => h) hHeld (by rfl) ?_ ?_
    · (intro W' hSw; (try dsimp only at hSw); go_simp)
    try simp only [Act.put, List.setIfInBounds_toArray, List.set_cons_zero, List.set_cons_succ]
    refine wpAnyG_takeL (i := 1) (.pointer (some ⟨0, b * 3, none⟩)) [9] rfl (by kernel_rfl) (fun _ _ _ h => h) hHeld (by rfl) ?_ ?_
    · (intro W' hSw; (try dsimp only at hSw); go_simp)
    try simp only [Act.put, List.setIfInBounds_toArray, List.set_cons_zero, List.set_cons_succ]
    refine wpAnyG_takeL (i := 2) (.agg (formC b)) [9] rfl (by kernel_rfl) (fun _ _ _ h => h) hHeld (by rfl) ?_ ?_
    · (intro W' hSw; (try dsimp only at hSw); go_simp)
    try simp only [Act.put, List.setIfInBounds_toArray, List.set_cons_zero, List.set_cons_succ]
    refine wpAnyG_takeL (i := 3) (.int .i64 (b : Int)) [9] rfl (by kernel_rfl) (fun _ _ _ h => h) hHeld (by rfl) ?_ ?_
    · (intro W' hSw; (try dsimp only at hSw); go_simp)
    try simp only [Act.put, List.setIfInBounds_toArray, List.set_cons_zero, List.set_cons_succ]
    refine wpAnyG_takeL (i := 4) (.pointer (some ⟨1, b, none⟩)) [9] rfl (by kernel_rfl) (fun _ _ _ h => h) hHeld (by rfl) ?_ ?_
    · (intro W' hSw; (try dsimp only at hSw); go_simp)
    try simp only [Act.put, List.setIfInBounds_toArray, List.set_cons_zero, List.set_cons_succ]
    refine wpAnyG_takeL (i := 5) (.string (txtK b)) [9] rfl (by kernel_rfl) (fun _ _ _ h => h) hHeld (by rfl) ?_ ?_
    · (intro W' hSw; (try dsimp only at hSw); go_simp)
    try simp only [Act.put, List.setIfInBounds_toArray, List.set_cons_zero, List.set_cons_succ]
    refine wpAnyG_br (rs := [6, 7]) (by kernel_rfl) (by simp) ?_
    refine AllG.cons (i := 6) rfl (fun K hK => ?_) ?_
    · refine step_new #[.int .i64 0, .int .i64 0, .bool false] 113 rfl ?hr ?_
      case hr => first | (go_simp; done) | (go_simp; rfl)
      intro g5 V1 e5 z5 d1 y5
      have D1 := below2 d0 d1
      refine hK.out _ _ (fun _ => HF.out _ D1) ?_
      clear hK K
      try simp only [Act.put, List.setIfInBounds_toArray, List.set_cons_zero, List.set_cons_succ]
      refine wpAnyG_oneL (i := 7) (by kernel_rfl) rfl (fun K hK => ?_)
      refine step_new #[.string ⟨#[]⟩] 9 rfl ?hr ?_
      case hr => first | (go_simp; done) | (go_simp; rfl)
      intro g6 V2 e6 z6 d2 y6
      have D2 := below2 D1 d2
      refine hK.out _ _ (fun _ => HF.out _ D2) ?_
      clear hK K
      try simp only [Act.put, List.setIfInBounds_toArray, List.set_cons_zero, List.set_cons_succ]
      have N := Lib.hid (show g5 ≠ g6 ∧ w.heap.size ≤ g5 ∧ w.heap.size ≤ g6 by have := e5.out; have := e6.out; have := d0.size; have := D1.size; have := z5.out; omega)
      replace y5 := y5.below d2
      clear d1 d2 D1 e5 e6 z5 z6
      refine wpAnyG_oneL (i := 8) (by kernel_rfl) rfl (fun K hK => ?_)
      refine step_putN (formC b) rfl 113 (.tmp 5) (.tmp 13) rfl g5 113 _ rfl rfl y5 sizeF rfl (by simp [formC, Value.oneCell']) ?_
      intro V3 y5' t1 z1
      have D3 := D2.grown t1 D2.size (fun r e => by cases e; exact N.out.2.1)
      replace y6 := y6.keep (Keep.of_grown1 t1) (Ne.symm N.out.1)
      refine hK.out _ _ (fun _ => HF.out _ D3) ?_
      clear hK K
      try simp only [Act.put]
      refine wpAnyG_oneL (i := 9) (by kernel_rfl) rfl (fun K hK => ?_)
      have k6 := y6.cell 0 rfl
      have f6 := y6.free 0
      go_simp
      refine hK.out _ _ (fun h => Bool.noConfusion (show true = false from h)) ?_
      clear hK K
      refine wpAnyG_done (by kernel_rfl) ?_ _
      gi_wp2_with fail
      gi_meet
      exact ⟨g5, g6, rfl, rfl, Lib.hid N.out.2.1, Lib.hid N.out.2.2, y5'.keep (Keep.of_grown1 (grown_setCell V3 g6 0 _)) N.out.1, y6.set 0 _, D3.grown (grown_setCell V3 g6 0 _) D3.size (fun r e => by cases e; exact N.out.2.2)⟩
    refine AllG.cons (i := 7) rfl (fun K hK => ?_) ?_
    · refine step_new #[.string ⟨#[]⟩] 9 rfl ?hr ?_
      case hr => first | (go_simp; done) | (go_simp; rfl)
      intro g6 V1 e6 z6 d1 y6
      have D1 := below2 d0 d1
      refine hK.out _ _ (fun _ => HF.out _ D1) ?_
      clear hK K
      try simp only [Act.put, List.setIfInBounds_toArray, List.set_cons_zero, List.set_cons_succ]
      refine wpAnyG_oneL (i := 6) (by kernel_rfl) rfl (fun K hK => ?_)
      refine step_new #[.int .i64 0, .int .i64 0, .bool false] 113 rfl ?hr ?_
      case hr => first | (go_simp; done) | (go_simp; rfl)
      intro g5 V2 e5 z5 d2 y5
      have D2 := below2 D1 d2
      refine hK.out _ _ (fun _ => HF.out _ D2) ?_
      clear hK K
      try simp only [Act.put, List.setIfInBounds_toArray, List.set_cons_zero, List.set_cons_succ]
      have N := Lib.hid (show g5 ≠ g6 ∧ w.heap.size ≤ g5 ∧ w.heap.size ≤ g6 by have := e5.out; have := e6.out; have := d0.size; have := D1.size; have := z6.out; omega)
      replace y6 := y6.below d2
      clear d1 d2 D1 e5 e6 z5 z6
      refine wpAnyG_oneL (i := 8) (by kernel_rfl) rfl (fun K hK => ?_)
      refine step_putN (formC b) rfl 113 (.tmp 5) (.tmp 13) rfl g5 113 _ rfl rfl y5 sizeF rfl (by simp [formC, Value.oneCell']) ?_
      intro V3 y5' t1 z1
      have D3 := D2.grown t1 D2.size (fun r e => by cases e; exact N.out.2.1)
      replace y6 := y6.keep (Keep.of_grown1 t1) (Ne.symm N.out.1)
      refine hK.out _ _ (fun _ => HF.out _ D3) ?_
      clear hK K
      try simp only [Act.put]
      refine wpAnyG_oneL (i := 9) (by kernel_rfl) rfl (fun K hK => ?_)
      have k6 := y6.cell 0 rfl
      have f6 := y6.free 0
      go_simp
      refine hK.out _ _ (fun h => Bool.noConfusion (show true = false from h)) ?_
      clear hK K
      refine wpAnyG_done (by kernel_rfl) ?_ _
      gi_wp2_with fail
      gi_meet
      exact ⟨g5, g6, rfl, rfl, Lib.hid N.out.2.1, Lib.hid N.out.2.2, y5'.keep (Keep.of_grown1 (grown_setCell V3 g6 0 _)) N.out.1, y6.set 0 _, D3.grown (grown_setCell V3 g6 0 _) D3.size (fun r e => by cases e; exact N.out.2.2)⟩
    exact AllG.nil
  case rest =>
    obtain ⟨g5, g6, rfl, rfl, l5, l6, y5, y6, hbc⟩ := hcut
    obtain ⟨g7, hg7⟩ : ∃ g7, wc.heap.size = g7 := ⟨_, rfl⟩
    have hba := below_alloc (Below.refl wc.heap.size wc) (.cells #[.int .i64 0] 3)
    have z5 := y5.below hba
    have z6 := y6.below hba
    have z7 : Blk (wc.alloc (.cells #[.int .i64 0] 3)) g7 #[.int .i64 0] 3 := by rw [← hg7]; exact heap_alloc_new wc _
    have k0 := z5.cell 0 rfl
    have k1 := z5.cell 1 rfl
    have k2 := z5.cell 2 rfl
    have HL := Lib.hid (show g5 < g7 ∧ g6 < g7 ∧ w.heap.size ≤ g7 from ⟨by have := y5.lt; omega, by have := y6.lt; omega, by have := hbc.size; omega⟩)
    have hbw := below2 hbc hba
    gi_wp2_with (refine ⟨trivial, ?_⟩; gi_at_call 62; refine (callsIn_wide.2 (groups_any A c l.length b _)).mono ?_; rintro e W3 ⟨h1, h2, rfl, e1, e2, e3, bF, bS, b3⟩)
    have he1 := e1.out
    have he2 := e2.out
    have he3 := e3.out
    simp only [World.size_alloc, hg7] at he1
    have hI0 : CkS w b g5 g6 g7 (lstB b l ([] : List Nat).length).length W3 := ⟨z5.below b3, z6.below b3, z7.below b3, below2 hbw b3⟩
    have hS3 := hS.below hI0.low
    have HN := Lib.hid (show g7 + 1 = h1 ∧ h1 + 1 = h2 ∧ W3.heap.size = h2 + 1 from ⟨by omega, by omega, by omega⟩)
    have HS := Lib.hid hS
    have HD := Lib.hid (show l.length % dimB b = 0 from hf)
    have HQQ := Lib.hid hq
    have q1 : h1 < W3.heap.size := by omega
    have q2 : h2 < W3.heap.size := by omega
    have q3 : g7 < W3.heap.size := by omega
    clear e1 e2 e3 he1 he2 he3 z5 z6 z7 k0 k1 k2 hba hbc y5 y6 l5 l6 hbw hg7 b3 hf hq hS
    refine range_next rfl (by decide) (gf := 91) (lb := #[.pointer (some ⟨h1, 0, none⟩), .pointer (some ⟨h2, 0, none⟩)]) rfl trivial (enters_of Tryz.func91 (by kernel_rfl) rfl)
      (groups1_yields h1 h2 b A c l W3 (fun x => x = h1 ∨ x = h2) hS3 bF bS (.inl rfl) (.inr rfl) 8 (by decide) (by omega)) (fun r h => h.elim) (fun r h => by omega) (Below.refl _ _) (fun _ => rfl)
      (fun pre W => CkS w b g5 g6 g7 (lstB b l pre.length).length W) (fun _ _ _ => False) ?hI (fun _ _ _ _ _ h _ _ => h) hI0
      (fun x a' W => a' = { tmps := (.int .i64 (b : Int) :: .slice A l.length c :: undef :: undef :: .int .i64 0 :: .pointer (some ⟨g5, 0, none⟩) :: .pointer (some ⟨g6, 0, none⟩) :: .pointer (some ⟨g7, 0, none⟩) :: grpV A (dimB b) x :: undef :: undef :: u11 :: u12 :: u13 :: u14 :: u15 :: u16 :: .agg (formC b) :: .slice A l.length c :: .func (.func 91) #[] #[.pointer (some ⟨h1, 0, none⟩), .pointer (some ⟨h2, 0, none⟩)] :: grpV A (dimB b) x :: u21 :: u22 :: u23 :: u24 :: u25 :: u26 :: u27 :: u28 :: u29 :: u30 :: u31 :: u32 :: u33 :: u34 :: u35 :: u36 :: u37 :: u38 :: u39 :: u40 :: u41 :: u42 :: u43 :: u44 :: u45 :: []).toArray, defers := [] })
      (fun _ _ _ _ _ _ h _ _ => h) ?assign ?body ?done (fun _ _ _ _ _ _ h _ => h.elim)
    case hI =>
      rintro s X Y row hs hg hr
      have hO : Other X row := fun r e => by
        rcases hr r e with h | ⟨_, x, hx, hc⟩
        · exact h.elim
        · exact ⟨x, hx, hc⟩
      refine ⟨hs.frm.firm hg hO, hs.txt.firm hg hO, hs.cnt.firm hg hO, below_grown hs.low hs.low.size hg (fun k e => ?_)⟩
      rcases hr k e with h | ⟨h, _⟩
      · exact h.elim
      · have := HN.out; have := HL.out; omega
    case assign =>
      intro r pre x W K hi _ hK
      gi_wp2
      exact hK _ _ (KeepsOthers.refl _ |>.from _) (Keep.refl _ _) hi rfl
    case body =>
      rintro r pre j a' W hs rfl ⟨hj, hpre⟩
      have hpl : pre.length = j := by rw [hpre, List.length_range]
      rw [hpl] at hs
      have hle := grp_in hj
      obtain ⟨ad, rfl, _⟩ := rd_int (HS.out.below hs.low) (j * dimB b) (by have := dimB_pos b; omega)
      have HR := Lib.hid (grp_ri HS.out (dimB b) j hle)
      have HJ := Lib.hid (show (lstB b l (pre ++ [j]).length).length = (lstB b l j).length + (wrdB b (grpK (dimB b) l j)).length + ((grpK (dimB b) l j).flatMap (besB b)).length by rw [List.length_append, hpl]; show (lstB b l (j + 1)).length = _; rw [lstB_succ]; unfold grpB; simp only [List.length_append]; omega)
      have HQG := Lib.hid (show ∀ v ∈ grpK (dimB b) l j, -1023 ≤ v ∧ v ≤ 1023 from grpK_quant HQQ.out _ _)
      have HGL := Lib.hid (grpK_length (dimB b) l j hle)
      have k5a := hs.frm.cell 0 rfl
      have k5b := hs.frm.cell 1 rfl
      have k5c := hs.frm.cell 2 rfl
      have k6 := hs.txt.cell 0 rfl
      have HW := Lib.hid hs
      have hgv : grpV (some ad) (dimB b) j = .slice (some (ad.add (j * dimB b))) (dimB b) (dimB b) := rfl
      simp only [hgv]
      clear hs hpre hle hpl hgv
      obtain ⟨n0, hn0⟩ : ∃ n0, (lstB b l j).length = n0 := ⟨_, rfl⟩
      obtain ⟨G, hG0⟩ : ∃ G, grpK (dimB b) l j = G := ⟨_, rfl⟩
      have HN0 := Lib.hid (show n0 ≤ 1000000000 by rw [← hn0]; have h1 := lstB_len b l hb8 HQQ.out j; have h2 : j ≤ l.length := (by have := Nat.div_le_self l.length (dimB b); omega); omega)
      rw [hn0] at HW HJ
      rw [hG0] at HR HJ HGL HQG
      clear hn0 hG0 hj
      gi_upto_if 22 with fail
      gi_cut [] from 22 (fun wx => CkS w b g5 g6 g7 (n0 + (wrdB b G).length) wx ∧ Upd (fun x => x = g7) W wx)
      case first =>
        have hem := txtK_empty b hb8
        by_cases hb0 : b = 0
        · subst hb0
          rw [decide_eq_true rfl] at hem
          gi_wp2_with fail
          all_goals first | (gi_meet; exact ⟨HW.out, Upd.refl _ _⟩) | (rename_i hx; simp [hem] at hx)
        · rw [decide_eq_false hb0] at hem
          have hG4 : G.length ≤ 4 := by have := HGL.out; have := dimB_pos b; omega
          have hsy := sym_in b G HGL.out
          have htl := tabK_length b (by omega) hb8
          have htb := tab_bound b (by omega) hb8 hsy
          have HX := Lib.hid (show (wrdB b G).length = nth 0 (tabK b) (symG b G) by unfold wrdB; rw [if_neg hb0, numB_length, tabK_lenOf b (by omega) hb8 hsy])
          have HTX := Lib.hid (txtK_at b (symG b G) hb8 (by rw [htl]; exact hsy))
          have HCS := Lib.hid (fun W' (hb' : Below w.heap.size w W') (hr : RI W' (some (ad.add (j * dimB b))) (dimB b) G) => symbolOf_any (some (ad.add (j * dimB b))) (dimB b) b G W' hr (fun v hv => HQG.out v hv) hG4)
          rw [HGL.out] at HCS
          have k7 := HW.out.cnt.cell 0 rfl
          obtain ⟨s, hs⟩ : ∃ s, symG b G = s := ⟨_, rfl⟩
          rw [hs] at HX HTX HCS htb hsy
          obtain ⟨y, hy⟩ : ∃ y, nth 0 (tabK b) s = y := ⟨_, rfl⟩
          rw [hy] at HX HTX htb
          have hsz : s < (txtK b).size := by rw [txtK_size, htl]; exact hsy
          clear hs hy htl hsy
          gi_upto_region 6 with fail
          rotate_left
          · exfalso; rename_i hx; rw [hem] at hx; cases hx
          have hd := (Below.refl W.heap.size W).drew
          have hz := HW.out.low.size
          have HF := Lib.hid (show ∀ W' : World, Below W.heap.size W W' → (W'.cell? ⟨g7, 0, none⟩ = some (.int .i64 (n0 : Int)) ∧ W'.cell? ⟨g6, 0, none⟩ = some (.string (txtK b)) ∧ W'.cell? ⟨g5, 0, none⟩ = some (.int .i64 (dimB b)) ∧ W'.cell? ⟨g5, 1, none⟩ = some (.int .i64 (mostB b)) ∧ W'.cell? ⟨g5, 2, none⟩ = some (.bool (escB b))) from fun W' hb => ⟨(HW.out.cnt.below hb).cell 0 rfl, (HW.out.txt.below hb).cell 0 rfl, (HW.out.frm.below hb).cell 0 rfl, (HW.out.frm.below hb).cell 1 rfl, (HW.out.frm.below hb).cell 2 rfl⟩)
          have hbt : ((txtK b)[s].toNat : Int) = (y : Int) + 96 := by
            have h := HTX.out
            rw [List.getD_eq_getElem?_getD, List.getElem?_eq_getElem (by rw [Array.length_toList]; exact hsz)] at h
            have h2 : (txtK b)[s] = (txtK b).data.toList[s]'(by rw [Array.length_toList]; exact hsz) := by simp [ByteArray.getElem_eq_getElem_data]
            rw [h2]
            simp only [Option.getD_some] at h
            rw [h]; rfl
          have hw1 : IntKind.u8.wrap ((y : Int) + 96 - 97) = ((y - 1 : Nat) : Int) := by
            have e : (y : Int) + 96 - 97 = ((y - 1 : Nat) : Int) := by omega
            rw [e]
            show ((y - 1 : Nat) : Int) % 256 = _
            omega
          have hw2 : IntKind.i64.wrap ((y - 1 : Nat) : Int) = ((y - 1 : Nat) : Int) := IntWalk.i64_in _ (by omega)
          have hw3 : IntKind.i64.wrap (((y - 1 : Nat) : Int) + 1) = (y : Int) := by rw [IntWalk.i64_in _ (by omega)]; omega
          have hw4 : IntKind.i64.wrap ((n0 : Int) + (y : Int)) = (n0 : Int) + (y : Int) := IntWalk.i64_in _ (by have := HN0.out; omega)
          clear k5a k5b k5c k6 k7
          refine wpIn_region_G 10 (fun W' => W'.cell? ⟨g7, 0, none⟩ = some (.int .i64 (n0 : Int)) ∧ W'.cell? ⟨g6, 0, none⟩ = some (.string (txtK b)) ∧ W'.cell? ⟨g5, 0, none⟩ = some (.int .i64 (dimB b)) ∧ W'.cell? ⟨g5, 1, none⟩ = some (.int .i64 (mostB b)) ∧ W'.cell? ⟨g5, 2, none⟩ = some (.bool (escB b))) (by kernel_rfl) (by kernel_rfl) (fun ⟨_, _, h⟩ => h) (HF.out _ hd) (fun hHeld => ?_)
          refine wpAnyG_takeL (i := 0) (.int .i64 (n0 : Int)) [10] rfl (by kernel_rfl) (fun _ _ _ h => h) hHeld (by rfl) ?_ ?_
          · (intro W' hSw; (try dsimp only at hSw); go_simp)
          try simp only [Act.put, List.setIfInBounds_toArray, List.set_cons_zero, List.set_cons_succ]
          refine wpAnyG_takeL (i := 1) (.string (txtK b)) [10] rfl (by kernel_rfl) (fun _ _ _ h => h) hHeld (by rfl) ?_ ?_
          · (intro W' hSw; (try dsimp only at hSw); go_simp)
          try simp only [Act.put, List.setIfInBounds_toArray, List.set_cons_zero, List.set_cons_succ]
          refine wpAnyG_takeL (i := 2) (.agg (formC b)) [10] rfl (by kernel_rfl) (fun _ _ _ h => h) hHeld (by rfl) ?_ ?_
          · (intro W' hSw; (try dsimp only at hSw); go_simp)
          try simp only [Act.put, List.setIfInBounds_toArray, List.set_cons_zero, List.set_cons_succ]
          refine wpAnyG_takeL (i := 3) (.slice (some (ad.add (j * dimB b))) (dimB b) (dimB b)) [10] rfl (by kernel_rfl) (fun _ _ _ h => h) hHeld (by rfl) ?_ ?_
          · (intro W' hSw; rfl)
          try simp only [Act.put, List.setIfInBounds_toArray, List.set_cons_zero, List.set_cons_succ]
          refine wpAnyG_oneL (i := 4) (by kernel_rfl) rfl (fun K hK => ?_)
          (go_simp; go_at_call 63; refine (HCS.out _ (HW.out.low.trans (hd.mono hz)) (HR.out.below (HW.out.low.trans (hd.mono hz)))).mono ?_; rintro e W9 ⟨rfl, b9⟩)
          refine hK.out _ _ (fun _ => (HF.out _ (below2 hd b9))) ?_
          clear hK K
          try simp only [Act.put, List.setIfInBounds_toArray, List.set_cons_zero, List.set_cons_succ]
          clear hHeld
          have hHeld := HF.out _ (below2 hd b9)
          refine wpAnyG_takeL (i := 5) (.int .u8 ((y + 96 : Nat) : Int)) [10] rfl (by kernel_rfl) (fun _ _ _ h => h) hHeld (by rfl) ?_ ?_
          · (intro W' hSw; (try dsimp only at hSw); go_simp)
          try simp only [Act.put, List.setIfInBounds_toArray, List.set_cons_zero, List.set_cons_succ]
          refine wpAnyG_takeL (i := 6) (.int .u8 ((y - 1 : Nat) : Int)) [10] rfl (by kernel_rfl) (fun _ _ _ h => h) hHeld (by rfl) ?_ ?_
          · (intro W' hSw; (try dsimp only at hSw); go_simp)
          try simp only [Act.put, List.setIfInBounds_toArray, List.set_cons_zero, List.set_cons_succ]
          refine wpAnyG_takeL (i := 7) (.int .i64 ((y - 1 : Nat) : Int)) [10] rfl (by kernel_rfl) (fun _ _ _ h => h) hHeld (by rfl) ?_ ?_
          · (intro W' hSw; (try dsimp only at hSw); go_simp)
          try simp only [Act.put, List.setIfInBounds_toArray, List.set_cons_zero, List.set_cons_succ]
          refine wpAnyG_takeL (i := 8) (.int .i64 (y : Int)) [10] rfl (by kernel_rfl) (fun _ _ _ h => h) hHeld (by rfl) ?_ ?_
          · (intro W' hSw; (try dsimp only at hSw); go_simp)
          try simp only [Act.put, List.setIfInBounds_toArray, List.set_cons_zero, List.set_cons_succ]
          refine wpAnyG_takeL (i := 9) (.int .i64 ((n0 + y : Nat) : Int)) [10] rfl (by kernel_rfl) (fun _ _ _ h => h) hHeld (by rfl) ?_ ?_
          · (intro W' hSw; (try dsimp only at hSw); go_simp)
          try simp only [Act.put, List.setIfInBounds_toArray, List.set_cons_zero, List.set_cons_succ]
          have k7 := hHeld.1
          have f7 := (HW.out.cnt.below (below2 hd b9)).free 0
          refine wpAnyG_oneL (i := 10) (by kernel_rfl) rfl (fun K hK => ?_)
          go_simp
          refine hK.out _ _ (fun h => Bool.noConfusion (show true = false from h)) ?_
          clear hK K
          refine wpAnyG_done (by kernel_rfl) ?_ _
          gi_wp2_with fail
          gi_meet
          rw [HX.out]
          exact (HW.out.step (below2 hd b9) HL.out.1 HL.out.2.1 HL.out.2.2 y _ (by omega))
      case rest =>
        have HCC := Lib.hid hcut.1
        have HUU := Lib.hid hcut.2
        clear hcut k5a k5b k5c k6 HW
        obtain ⟨n1, hn1⟩ : ∃ n1, n0 + (wrdB b G).length = n1 := ⟨_, rfl⟩
        rw [hn1] at HCC HJ
        have HN1 := Lib.hid (show n1 ≤ 1000000100 by have := HN0.out; have := wrdB_len b G hb8; omega)
        have HSUC := Lib.hid (show ∀ k, k < G.length → ((G.take (k + 1)).flatMap (besB b)).length = ((G.take k).flatMap (besB b)).length + (besB b (nth 0 G k)).length from fun k h => by rw [take_succ_nth 0 G k h, List.flatMap_append]; simp)
        have HTK := Lib.hid (show ∀ k, ((G.take k).flatMap (besB b)).length ≤ 88 from fun k => by
          have h1 := bes_len b (G.take k) (fun v hv => HQG.out v (List.mem_of_mem_take hv))
          have h2 : (G.take k).length ≤ G.length := by rw [List.length_take]; omega
          have h3 := HGL.out
          have h4 := (dimB_pos b).2
          omega)
        have HTL := Lib.hid (show ∀ k, k < G.length → -1023 ≤ nth 0 G k ∧ nth 0 G k ≤ 1023 from fun k h => HQG.out _ (nth_mem 0 G k h))
        have HFULL := Lib.hid (show G.take (dimB b) = G from List.take_of_length_le (by have := HGL.out; omega))
        clear hn1
        gi_wp2
        gi_loopw [10, 35] (fun xv iv wr => ∃ k : Nat, k ≤ dimB b ∧ iv = .int .i64 (k : Int) ∧ Hid (CkS w b g5 g6 g7 (n1 + ((G.take k).flatMap (besB b)).length) wr) ∧ Hid (Upd (fun x => x = g7) W wr)) (fun _ iv _ => dimB b - (intOf iv).toNat)
        case atStart => exact ⟨0, Nat.zero_le _, rfl, HCC, HUU⟩
        case round =>
          clear HCC HUU
          obtain ⟨k, hk, rfl, hC, hU⟩ := hrel
          by_cases hlt : k < dimB b
          · obtain ⟨ad2, e2, hc⟩ := rd_int (HR.out.below hC.out.low) k (by have := HGL.out; omega)
            cases e2
            have hki : (k : Int) < (dimB b : Int) := by omega
            have hwk : IntKind.i64.wrap ((k : Int) + 1) = (k : Int) + 1 := IntWalk.i64_in _ (by have := dimB_pos b; omega)
            have HS1 := Lib.hid (HSUC.out k (by have := HGL.out; omega))
            have hx := HTL.out k (by have := HGL.out; omega)
            generalize nth 0 G k = x at hc HS1 hx
            obtain ⟨m, hm⟩ : ∃ m, ((G.take k).flatMap (besB b)).length = m := ⟨_, rfl⟩
            have hmb := HTK.out k
            rw [hm] at hC HS1 hmb
            have hm2 := HTK.out (k + 1)
            rw [HS1.out] at hm2
            have HB := Lib.hid (fun W' => beside_any b x W' hx)
            obtain ⟨y, hy⟩ : ∃ y, (besB b x).length = y := ⟨_, rfl⟩
            rw [hy] at HB HS1 hm2
            have hw4 : IntKind.i64.wrap (((n1 + m : Nat) : Int) + (y : Int)) = ((n1 + m + y : Nat) : Int) := by rw [IntWalk.i64_in _ (by have := HN1.out; omega)]; omega
            obtain ⟨n2, hn2⟩ : ∃ n2, n1 + m = n2 := ⟨_, rfl⟩
            rw [hn2] at hC hw4
            have HN2 := Lib.hid hn2
            clear hm hmb hm2 hy hn2 hx
            gi_wp2
            have hd := (Below.refl wr.heap.size wr).drew
            have HF := Lib.hid (show ∀ W' : World, Below wr.heap.size wr W' → (W'.cell? ⟨g7, 0, none⟩ = some (.int .i64 (n2 : Int)) ∧ W'.cell? ⟨g5, 0, none⟩ = some (.int .i64 (dimB b)) ∧ W'.cell? ⟨g5, 1, none⟩ = some (.int .i64 (mostB b)) ∧ W'.cell? ⟨g5, 2, none⟩ = some (.bool (escB b))) from fun W' hb => ⟨(hC.out.cnt.below hb).cell 0 rfl, (hC.out.frm.below hb).cell 0 rfl, (hC.out.frm.below hb).cell 1 rfl, (hC.out.frm.below hb).cell 2 rfl⟩)
            refine wpIn_region_G 5 (fun W' => W'.cell? ⟨g7, 0, none⟩ = some (.int .i64 (n2 : Int)) ∧ W'.cell? ⟨g5, 0, none⟩ = some (.int .i64 (dimB b)) ∧ W'.cell? ⟨g5, 1, none⟩ = some (.int .i64 (mostB b)) ∧ W'.cell? ⟨g5, 2, none⟩ = some (.bool (escB b))) (by kernel_rfl) (by kernel_rfl) (fun ⟨_, _, h⟩ => h) (HF.out _ hd) (fun hHeld => ?_)
            refine wpAnyG_takeL (i := 0) (.int .i64 (n2 : Int)) [5] rfl (by kernel_rfl) (fun _ _ _ h => h) hHeld (by rfl) ?_ ?_
            · (intro W' hSw; (try dsimp only at hSw); go_simp)
            try simp only [Act.put, List.setIfInBounds_toArray, List.set_cons_zero, List.set_cons_succ]
            refine wpAnyG_takeL (i := 1) (.agg (formC b)) [5] rfl (by kernel_rfl) (fun _ _ _ h => h) hHeld (by rfl) ?_ ?_
            · (intro W' hSw; (try dsimp only at hSw); go_simp)
            try simp only [Act.put, List.setIfInBounds_toArray, List.set_cons_zero, List.set_cons_succ]
            refine wpAnyG_takeL (i := 2) (.int .i64 x) [5] rfl (by kernel_rfl) (fun _ _ _ h => h) hHeld (by rfl) ?_ ?_
            · (intro W' hSw; (try dsimp only at hSw); go_simp)
            try simp only [Act.put, List.setIfInBounds_toArray, List.set_cons_zero, List.set_cons_succ]
            refine wpAnyG_oneL (i := 3) (by kernel_rfl) rfl (fun K hK => ?_)
            (go_simp; go_at_call 115; refine (HB.out _).mono ?_; rintro e W9 ⟨rfl, b9⟩)
            refine hK.out _ _ (fun _ => (HF.out _ (below2 hd b9))) ?_
            clear hK K
            try simp only [Act.put, List.setIfInBounds_toArray, List.set_cons_zero, List.set_cons_succ]
            clear hHeld
            have hHeld := HF.out _ (below2 hd b9)
            refine wpAnyG_takeL (i := 4) (.int .i64 ((n2 + y : Nat) : Int)) [5] rfl (by kernel_rfl) (fun _ _ _ h => h) hHeld (by rfl) ?_ ?_
            · (intro W' hSw; (try dsimp only at hSw); go_simp)
            try simp only [Act.put, List.setIfInBounds_toArray, List.set_cons_zero, List.set_cons_succ]
            have k7 := hHeld.1
            have f7 := (hC.out.cnt.below (below2 hd b9)).free 0
            refine wpAnyG_oneL (i := 5) (by kernel_rfl) rfl (fun K hK => ?_)
            go_simp
            refine hK.out _ _ (fun h => Bool.noConfusion (show true = false from h)) ?_
            clear hK K
            refine wpAnyG_done (by kernel_rfl) ?_ _
            gi_wp2
            go_roundw
            case rel =>
              obtain ⟨h1, h2⟩ := hC.out.step (below2 hd b9) HL.out.1 HL.out.2.1 HL.out.2.2 y _ rfl
              refine ⟨k + 1, by omega, by go_num, Lib.hid ?_, Lib.hid ?_⟩
              · rw [HS1.out, ← Nat.add_assoc, HN2.out]; exact h1
              · exact hU.out.trans h2 fun _ _ h => h
            case measure => simp [intOf]; omega
          · obtain rfl : k = dimB b := by omega
            rw [HFULL.out] at hC
            gi_wp2
            refine ⟨keepsU hU.out (fun x _ e => by omega), hU.out.keep (fun i hi e => by have := HN.out; omega), ?_⟩
            show CkS w b g5 g6 g7 (lstB b l (pre ++ [j]).length).length wr
            rw [HJ.out]
            exact hC.out
    case done =>
      rintro D xs W hD rfl hs hK
      have k7 := hs.cnt.cell 0 rfl
      gi_wp2
      refine ⟨by simp, .inl ⟨_, _, rfl, run_takeDeferred hK, ?_⟩⟩
      refine ⟨_, results_tmp rfl _ _ _, by rw [List.length_range] at *; rfl, ?_⟩
      exact below_grown hs.low hs.low.size (grownBy_putObj' W D _) (fun k e => by cases e; have := HN.out; have := HL.out; omega)
end Go.Proofs.YtmcdgmiheklbeaaGreatDoor

namespace Go.Proofs.YtmcdgmiheklbeaaGreatDoor
open Go.RowKit

/-- What a list costs in a book, or the error. -/
def bkC (n : Int) (l : List Int) : Int × Int := if checkedK n l ≠ 0 then (0, checkedK n l) else if fitB n.toNat l = false then (0, 4) else (((rowK n.toNat l).length : Nat), 0)
theorem fitB_mod {b : Nat} {l : List Int} (h : fitB b l = true) : l.length % dimB b = 0 := by
  unfold fitB at h
  rw [Bool.and_eq_true] at h
  exact of_decide_eq_true h.2

set_option maxHeartbeats 1000000 in
theorem bCost_any (A : Option Addr) (c : Nat) (n : Int) (l : List Int) (w : World) (hS : RI w A c l) (hG : GF w) (hT : GT w) (hlm : l.length ≤ 1000000) :
    Calls Tryz.prog 54 #[.int .i64 n, .slice A l.length c] w fun e w' => e = .returned (.tuple #[.int .i64 (bkC n l).1, .int .i64 (bkC n l).2]) ∧ Below w.heap.size w w' := by
  have HC := Lib.hid (checked17_any A c n l w hS)
  by_cases h : checkedK n l = 0
  · obtain ⟨b, rfl, h8, hq⟩ := checkedK_ok h
    have HV := Lib.hid (show bkC (b : Int) l = if fitB b l = false then ((0 : Int), (4 : Int)) else (((rowK b l).length : Int), 0) by unfold bkC; rw [if_neg (by simp [h])]; rfl)
    rw [h] at HC
    have c0 := hG.dim b h8
    have c1 := hG.most b h8
    have c2 := hG.esc b h8
    have hb8 : (b : Int) < 8 := by omega
    have HF := Lib.hid (fun W (hW : RI W A c l) => fits_any A c b l W hW hq)
    have HK := Lib.hid (fun W (hb : Below w.heap.size w W) (hf : fitB b l = true) => bcost_any A c b l W (hS.below hb) (hG.below hb) (hT.below hb) h8 hq (fitB_mod hf) hlm)
    have HS := Lib.hid hS
    clear h hq hS hG hT
    cases hf : fitB b l
    · rw [hf] at HV HF
      go_enter Tryz.func54, Tryz.ntmps54
      go_wp2_with (first | (go_at_call 82; refine HC.out.mono ?_; rintro e w2 ⟨rfl, rfl⟩) | (go_at_call 83; refine (HF.out _ HS.out).mono ?_; rintro e w3 ⟨rfl, b3⟩))
      go_ret2
      exact ⟨by rw [HV.out]; rfl, b3⟩
    · rw [hf] at HV HF
      have HK2 := Lib.hid (fun W hb => HK.out W hb hf)
      generalize rowK b l = R at *
      clear hf
      go_enter Tryz.func54, Tryz.ntmps54
      go_wp2_with (first | (go_at_call 82; refine HC.out.mono ?_; rintro e w2 ⟨rfl, rfl⟩) | (go_at_call 83; refine (HF.out _ HS.out).mono ?_; rintro e w3 ⟨rfl, b3⟩) | (go_at_call 84; refine (HK2.out _ b3).mono ?_; rintro e w4 ⟨rfl, b4⟩))
      go_ret2
      exact ⟨by rw [HV.out]; rfl, below2 b3 b4⟩
  · have HV := Lib.hid (show bkC n l = (0, checkedK n l) by unfold bkC; rw [if_pos h])
    have hne : (checkedK n l == 0) = false := by simp [h]
    generalize checkedK n l = E at *
    clear h
    go_enter Tryz.func54, Tryz.ntmps54
    go_wp2_with (first | (go_at_call 82; refine HC.out.mono ?_; rintro e w2 ⟨rfl, rfl⟩))
    go_ret2
    exact ⟨by rw [HV.out]; rfl, Below.refl _ _⟩

end Go.Proofs.YtmcdgmiheklbeaaGreatDoor

namespace Go.Proofs.YtmcdgmiheklbeaaGreatDoor
open Go.RowKit

end Go.Proofs.YtmcdgmiheklbeaaGreatDoor

namespace Go.Proofs.YtmcdgmiheklbeaaGreatDoor
open Go.RowKit

end Go.Proofs.YtmcdgmiheklbeaaGreatDoor
