/- book: Write: what it returns, and what is in the writer. · The words of a complete code: whatever bits there are begin with one. Plain; no program is named. -/
import Derived.Test.YtmcdgmiheklbeaaGreatDoorKg
import Derived.Test.YtmcdgmiheklbeaaGreatDoorKf
import Derived.Test.YtmcdgmiheklbeaaGreatDoorKc
namespace Go.Proofs.YtmcdgmiheklbeaaGreatDoor
open Go.RowKit
attribute [local go_sem] Oper.semAt_some

/-- What a list is in a book, if there is no error. -/
def bkW (n : Int) (l : List Int) : List Bool := if (bkC n l).2 ≠ 0 then [] else rowK n.toNat l
def writeK (n : Int) (l : List Int) (m : Nat) : Int := if (bkC n l).2 ≠ 0 then (bkC n l).2 else fullE m (rowK n.toNat l).length
theorem bkC_ok {n : Int} {l : List Int} (h : (bkC n l).2 = 0) : ∃ b : Nat, n = (b : Int) ∧ b < 8 ∧ quantB l = true ∧ fitB b l = true ∧ bkC n l = (((rowK b l).length : Int), 0) := by
  by_cases h1 : checkedK n l = 0
  · obtain ⟨b, rfl, h8, hq⟩ := checkedK_ok h1
    have e : bkC (b : Int) l = if fitB b l = false then ((0 : Int), (4 : Int)) else (((rowK b l).length : Int), 0) := by unfold bkC; rw [if_neg (by simp [h1])]; rfl
    rw [e] at h ⊢
    by_cases h2 : fitB b l = false
    · rw [if_pos h2] at h; cases h
    · exact ⟨b, rfl, h8, hq, by simpa using h2, if_neg h2⟩
  · unfold bkC at h; rw [if_pos h1] at h; exact absurd h h1

theorem lstB_mono (b : Nat) (l : List Int) {k m : Nat} (h : k ≤ m) : (lstB b l k).length ≤ (lstB b l m).length := by
  induction h with
  | refl => exact Nat.le_refl _
  | step _ ih => rw [lstB_succ, List.length_append]; omega
theorem grp_slK {ok : Nat → Prop} {w : World} {ad : Addr} {c : Nat} {l : List Int} (h : Sl (kInt .i64) ok w (some ad) c l) (d j : Nat) (h2 : j * d + d ≤ l.length) : Sl (kInt .i64) ok w (some (ad.add (j * d))) d (grpK d l j) := by
  have := grp_sl h (j * d) d h2
  rw [grpK_cut] at this
  rw [show j * d * (kInt .i64).size = j * d from Nat.mul_one _] at this
  exact this

structure BwI (o : Nat → Prop) (W0 : World) (g : Nat) (bits : List Bool) (W : World) : Prop where
  wr : Wr (fun b => o b ∨ W0.heap.size ≤ b) W g bits
  upd : Upd o W0 W
theorem BwI.below {o : Nat → Prop} {W0 W W' : World} {g : Nat} {bits : List Bool} (h : BwI o W0 g bits W) (hb : Below W.heap.size W W') : BwI o W0 g bits W' :=
  ⟨h.wr.below hb, h.upd.trans (Upd.of_below hb (fun _ => False)) fun _ _ h => h.elim⟩
/-- A call that writes. -/
theorem BwI.run {o : Nat → Prop} {W0 W W' : World} {g f : Nat} {args : Array Value} {bits : List Bool} (hs : BwI o W0 g bits W) (hb : Below W.heap.size W W') (more : List Bool) (hl : bits.length + more.length ≤ 1048576)
    (hc : ∀ o' : Nat → Prop, Wr o' W' g bits → Calls Tryz.prog f args W' fun e w' => (∃ E, e = .returned (.int .i64 E)) ∧ Wr (fun b => o' b ∨ W'.heap.size ≤ b) w' g (fullB bits more) ∧ Upd o' W' w') :
    Calls Tryz.prog f args W' fun e w' => (∃ E, e = .returned (.int .i64 E)) ∧ KeepsFrom W0.heap.size W w' ∧ Keep (fun b => ¬ o b ∧ b < W0.heap.size) W w' ∧ BwI o W0 g (bits ++ more) w' := by
  obtain ⟨vv, hw⟩ := hs.wr
  refine (hc (foot g vv) ((show Wr (foot g vv) W g bits from ⟨vv, hw.exact⟩).below hb)).mono ?_
  rintro e w3 ⟨he, hw3, hu3⟩
  have hu := (Upd.of_below hb (foot g vv)).trans hu3 (fun b _ e => e)
  have hfoot := hw.foot_in
  refine ⟨he, (hw.others hu).from _, hu.keep (fun b hb hf => ?_), ⟨?_, hs.upd.trans hu (fun b hb hf => ?_)⟩⟩
  · rcases (hfoot b hf).1 with h | h
    · exact hb.1 h
    · exact absurd hb.2 (by omega)
  · have hfb : fullB bits more = bits ++ more := by unfold fullB; rw [if_neg (by omega)]
    rw [← hfb]
    exact hw3.weak (fun b _ h => by
      rcases h with h | h
      · exact (hfoot b h).1
      · exact .inr (by have := hs.upd.size; have := hb.size; omega))
  · rcases (hfoot b hf).1 with h | h
    · exact h
    · omega
theorem BwI.put {o : Nat → Prop} {W0 W W' : World} {g : Nat} {bits : List Bool} (hs : BwI o W0 g bits W) (hb : Below W.heap.size W W') (v n : Nat) (hn : n ≤ 32) (hv : v < 2 ^ n) (hl : bits.length + n ≤ 1048576) :
    Calls Tryz.prog 31 #[.pointer (some ⟨g, 0, none⟩), .int .i64 (v : Int), .int .i64 (n : Int)] W'
      fun e w' => (∃ E, e = .returned (.int .i64 E)) ∧ KeepsFrom W0.heap.size W w' ∧ Keep (fun b => ¬ o b ∧ b < W0.heap.size) W w' ∧ BwI o W0 g (bits ++ numB v n) w' :=
  hs.run hb (numB v n) (by rw [numB_length]; omega) fun o' h => (wput_any o' g v n bits W' h (by omega) hn hv).mono fun _ _ ⟨h1, h2, h3⟩ => ⟨⟨_, h1⟩, h2, h3⟩
theorem BwI.gamma {o : Nat → Prop} {W0 W W' : World} {g : Nat} {bits : List Bool} (hs : BwI o W0 g bits W) (hb : Below W.heap.size W W') (v : Nat) (h1 : 1 ≤ v) (hv : v < 2097152) (hl : bits.length + (gamB v).length ≤ 1048576) :
    Calls Tryz.prog 32 #[.pointer (some ⟨g, 0, none⟩), .int .i64 (v : Int)] W'
      fun e w' => (∃ E, e = .returned (.int .i64 E)) ∧ KeepsFrom W0.heap.size W w' ∧ Keep (fun b => ¬ o b ∧ b < W0.heap.size) W w' ∧ BwI o W0 g (bits ++ gamB v) w' :=
  hs.run hb (gamB v) hl fun o' h => (wgamma_any o' g v bits W' h (by omega) h1 hv).mono fun _ _ ⟨h1, h2, h3⟩ => ⟨⟨_, h1⟩, h2, h3⟩

set_option maxHeartbeats 4000000 in
set_option maxRecDepth 100000 in
theorem bwrite0 (o : Nat → Prop) (g : Nat) (A : Option Addr) (c : Nat) (n : Int) (bs : List Bool) (l : List Int) (w : World) (ho : ∀ b, o b → b < w.heap.size) (h : Wr o w g bs) (hl : bs.length ≤ 1048576)
    (hS : Sl (kInt .i64) (fun b => ¬ o b) w A c l) (hG : GF w) (hT : GT w) (hlm : l.length ≤ 1000000) :
    Calls Tryz.prog 34 #[.pointer (some ⟨g, 0, none⟩), .int .i64 n, .slice A l.length c] w
      fun e w' => e = .returned (.int .i64 (writeK n l bs.length)) ∧ Wr (fun b => o b ∨ w.heap.size ≤ b) w' g (fullB bs (bkW n l)) ∧ Upd o w w' := by
  have hba := below_alloc (below_alloc (Below.refl w.heap.size w) (.cells #[.pointer (some ⟨g, 0, none⟩)] 34)) (.cells #[.int .i64 n] 3)
  have HBA := Lib.hid hba
  have HB3 := Lib.hid (show Blk ((w.alloc (.cells #[.pointer (some ⟨g, 0, none⟩)] 34)).alloc (.cells #[.int .i64 n] 3)) w.heap.size #[.pointer (some ⟨g, 0, none⟩)] 34 by
    have h9 : Blk _ _ #[.pointer (some ⟨g, 0, none⟩)] 34 := heap_alloc_new w (.cells #[.pointer (some ⟨g, 0, none⟩)] 34)
    exact h9.below (below_alloc (Below.refl _ _) _))
  have HB4 := Lib.hid (show Blk ((w.alloc (.cells #[.pointer (some ⟨g, 0, none⟩)] 34)).alloc (.cells #[.int .i64 n] 3)) (w.heap.size + 1) #[.int .i64 n] 3 by
    have h9 : Blk _ _ #[.int .i64 n] 3 := heap_alloc_new (w.alloc (.cells #[.pointer (some ⟨g, 0, none⟩)] 34)) (.cells #[.int .i64 n] 3)
    rwa [World.size_alloc] at h9)
  have HC := Lib.hid (bCost_any A c n l _ (hS.any.below hba) (hG.below hba) (hT.below hba) hlm)
  have HS := Lib.hid hS
  have H := Lib.hid h
  by_cases hE : (bkC n l).2 = 0
  · obtain ⟨b, rfl, h8, hq, hf, hck⟩ := bkC_ok hE
    have HX := Lib.hid (show writeK (b : Int) l bs.length = fullE bs.length (rowK b l).length by unfold writeK; rw [if_neg (by simp [hE])]; rfl)
    have HXW := Lib.hid (show bkW (b : Int) l = rowK b l by unfold bkW; rw [if_neg (by simp [hE])]; rfl)
    rw [hck] at HC
    have hml := rowK_len b l h8 hq
    obtain ⟨M, hM⟩ : ∃ M, (rowK b l).length = M := ⟨_, rfl⟩
    have HM := Lib.hid hM
    rw [hM] at HC hml
    have hwa : IntKind.i64.wrap ((bs.length : Int) + (M : Int)) = (bs.length : Int) + (M : Int) := IntWalk.i64_in _ (by omega)
    by_cases hfu : 1048576 < bs.length + M
    · have hd : decide (1048576 < (bs.length : Int) + (M : Int)) = true := decide_eq_true (by omega)
      have HF := Lib.hid (show fullE bs.length (rowK b l).length = 2 ∧ fullB bs (rowK b l) = bs from ⟨by unfold fullE; rw [hM, if_pos hfu], by unfold fullB; rw [hM, if_pos hfu]⟩)
      clear hE hfu hS hG hT h hba hM hck hq hf h8
      go_enter Tryz.func34, Tryz.ntmps34
      go_wp2_with (first
        | (go_at_call 54; refine HC.out.mono ?_; rintro e W2 ⟨rfl, b2⟩; have HB2 := Lib.hid (below2 HBA.out b2); have HW2 := Lib.hid (H.out.below HB2.out); have k3 := (HB3.out.below b2).cell 0 rfl)
        | (go_at_call 23; refine (wlen_any o g bs _ HW2.out).mono ?_; rintro e w2 ⟨rfl, rfl⟩))
      go_ret
      exact ⟨by rw [HX.out, HF.out.1]; rfl, by rw [HXW.out, HF.out.2]; exact HW2.out.weak fun b _ h => .inl h, Upd.of_below HB2.out o⟩
    · have hd : decide (1048576 < (bs.length : Int) + (M : Int)) = false := decide_eq_false (by omega)
      have HF := Lib.hid (show fullE bs.length (rowK b l).length = 0 ∧ fullB bs (rowK b l) = bs ++ rowK b l from ⟨by unfold fullE; rw [hM, if_neg hfu], by unfold fullB; rw [hM, if_neg hfu]⟩)
      have HRM := Lib.hid (show bs.length + (rowK b l).length ≤ 1048576 by rw [hM]; omega)
      have hb8 : (b : Int) < 8 := by omega
      have HQ := Lib.hid (And.intro h8 (And.intro hq (fitB_mod hf)))
      have HGG := Lib.hid (And.intro hG hT)
      clear hE hfu hS hG hT h hba hM hck hq hf h8
      refine (callsIn_wide (n := 9)).1 ?_
      refine callsIn_of_wp_marks Tryz.func34 rfl trivial ?_ rfl
      simp only [Tryz.ntmps34, List.size_toArray, List.length_cons, List.length_nil, Nat.reduceAdd, Nat.reduceSub, Array.replicate_succ, Array.replicate_zero, List.push_toArray, List.append_toArray, List.nil_append, List.cons_append]
      gi_upto_region 8 with (first
        | (refine ⟨trivial, ?_⟩; gi_at_call 54; refine (callsIn_wide.2 HC.out).mono ?_; rintro e W2 ⟨rfl, b2⟩; have HB2 := Lib.hid (below2 HBA.out b2); have HW2 := Lib.hid (H.out.below HB2.out); have k3 := (HB3.out.below b2).cell 0 rfl)
        | (refine ⟨trivial, ?_⟩; gi_at_call 23; refine (callsIn_wide.2 (wlen_any o g bs _ HW2.out)).mono ?_; rintro e w2 ⟨rfl, rfl⟩))
      obtain ⟨g3, hg3⟩ : ∃ g3, w.heap.size = g3 := ⟨_, rfl⟩
      have hB3 := HB3.out.below b2
      have hB4 := HB4.out.below b2
      rw [hg3] at hB3 hB4
      simp only [hg3]
      have HN3 := Lib.hid hg3
      have hlt3 := hB4.lt
      have HF2 := Lib.hid (show ∀ W : World, Below W2.heap.size W2 W → (W.cell? ⟨g3 + 1, 0, none⟩ = some (.int .i64 (b : Int)) ∧ W.cell? ⟨0, b * 3, none⟩ = some (.int .i64 (dimB b)) ∧ W.cell? ⟨0, b * 3 + 1, none⟩ = some (.int .i64 (mostB b)) ∧ W.cell? ⟨0, b * 3 + 2, none⟩ = some (.bool (escB b))) from fun W hb => ⟨(hB4.below hb).cell 0 rfl, ((HGG.out.1.below HB2.out).below hb).dim b HQ.out.1, ((HGG.out.1.below HB2.out).below hb).most b HQ.out.1, ((HGG.out.1.below HB2.out).below hb).esc b HQ.out.1⟩)
      have HLN := Lib.hid (fun W (hb : Below W2.heap.size W2 W) => lengths17_any b W ((HGG.out.2.below HB2.out).below hb) HQ.out.1)
      clear hg3 HB3 HB4 k3
      gi_cut [9, 10] from 34 (fun s9 s10 wx => ∃ (g9 g10 : Nat) (A10 : Option Addr) (c10 : Nat), s9 = .pointer (some ⟨g9, 0, none⟩) ∧ s10 = .pointer (some ⟨g10, 0, none⟩) ∧ Hid (W2.heap.size ≤ g9) ∧ Hid (W2.heap.size ≤ g10) ∧ Blk wx g9 (formC b) 113 ∧ Blk wx g10 #[.slice A10 (tabKI b).length c10] 22 ∧ Sl (kInt .i64) (fun x => W2.heap.size ≤ x) wx A10 c10 (tabKI b) ∧ Below W2.heap.size W2 wx)
      case first =>
        have d0 := (Below.refl W2.heap.size W2).drew
        refine wpIn_region_W 8 (fun W' => W'.cell? ⟨g3 + 1, 0, none⟩ = some (.int .i64 (b : Int)) ∧ W'.cell? ⟨0, b * 3, none⟩ = some (.int .i64 (dimB b)) ∧ W'.cell? ⟨0, b * 3 + 1, none⟩ = some (.int .i64 (mostB b)) ∧ W'.cell? ⟨0, b * 3 + 2, none⟩ = some (.bool (escB b))) (by kernel_rfl) (HF2.out _ d0) (fun hHeld => ?_)
        refine wpAnyG_takeL (i := 0) (.int .i64 (b : Int)) [8] rfl (by kernel_rfl) (fun _ _ _ h => h) hHeld (by rfl) ?_ ?_
        · (intro W' hSw; (try dsimp only at hSw); go_simp)
        try simp only [Act.put, List.setIfInBounds_toArray, List.set_cons_zero, List.set_cons_succ]
        refine wpAnyG_takeL (i := 1) (.pointer (some ⟨0, b * 3, none⟩)) [8] rfl (by kernel_rfl) (fun _ _ _ h => h) hHeld (by rfl) ?_ ?_
        · (intro W' hSw; (try dsimp only at hSw); go_simp)
        try simp only [Act.put, List.setIfInBounds_toArray, List.set_cons_zero, List.set_cons_succ]
        refine wpAnyG_takeL (i := 2) (.agg (formC b)) [8] rfl (by kernel_rfl) (fun _ _ _ h => h) hHeld (by rfl) ?_ ?_
        · (intro W' hSw; (try dsimp only at hSw); go_simp)
        try simp only [Act.put, List.setIfInBounds_toArray, List.set_cons_zero, List.set_cons_succ]
        refine wpAnyG_takeL (i := 3) (.int .i64 (b : Int)) [8] rfl (by kernel_rfl) (fun _ _ _ h => h) hHeld (by rfl) ?_ ?_
        · (intro W' hSw; (try dsimp only at hSw); go_simp)
        try simp only [Act.put, List.setIfInBounds_toArray, List.set_cons_zero, List.set_cons_succ]
        refine wpAnyG_br (rs := [4, 5, 6]) (by kernel_rfl) (by simp) ?_
        refine AllG.cons (i := 4) rfl (fun K hK => ?_) ?_
        · skip
          (go_simp; go_at_call 60; refine (HLN.out _ d0).mono ?_; rintro e V1 ⟨v, rfl, hO, b1⟩)
          obtain ⟨A10, c10, rfl, y4⟩ := hO.rd
          obtain ⟨lo, hlo⟩ : ∃ lo, W2.drew.heap.size = lo := ⟨_, rfl⟩
          obtain ⟨hi, hhi⟩ : ∃ hi, V1.heap.size = hi := ⟨_, rfl⟩
          replace y4 := y4.weak (ok' := fun x => lo ≤ x ∧ x < hi) (fun x hx h => by have := h.1; omega)
          have E4 := Lib.hid (And.intro hlo hhi)
          clear hO hlo hhi
          have hs1 := Lib.hid b1.size
          have D1 := below2 d0 b1
          refine hK.out _ _ (fun _ => (HF2.out _ D1)) ?_
          clear hK K
          try simp only [Act.put, List.setIfInBounds_toArray, List.set_cons_zero, List.set_cons_succ]
          refine wpAnyG_br (rs := [5, 6]) (by kernel_rfl) (by simp) ?_
          refine AllG.cons (i := 5) rfl (fun K hK => ?_) ?_
          · skip
            refine step_new #[.int .i64 0, .int .i64 0, .bool false] 113 rfl ?hr ?_
            case hr => first | (go_simp; done) | (go_simp; rfl)
            intro g9 V2 e9 z9 b2 y9
            have hs2 := Lib.hid b2.size
            have D2 := below2 D1 b2
            replace y4 := y4.below b2
            refine hK.out _ _ (fun _ => (HF2.out _ D2)) ?_
            clear hK K
            try simp only [Act.put, List.setIfInBounds_toArray, List.set_cons_zero, List.set_cons_succ]
            refine wpAnyG_oneL (i := 6) (by kernel_rfl) rfl (fun K hK => ?_)
            refine step_new #[.slice none 0 0] 22 rfl ?hr ?_
            case hr => first | (go_simp; done) | (go_simp; rfl)
            intro g10 V3 e10 z10 b3 y10
            have hs3 := Lib.hid b3.size
            have D3 := below2 D2 b3
            replace y4 := y4.below b3
            replace y9 := y9.below b3
            refine hK.out _ _ (fun _ => (HF2.out _ D3)) ?_
            clear hK K
            try simp only [Act.put, List.setIfInBounds_toArray, List.set_cons_zero, List.set_cons_succ]
            have N := Lib.hid (show g9 ≠ g10 ∧ W2.heap.size ≤ g9 ∧ W2.heap.size ≤ g10 ∧ W2.heap.size ≤ lo ∧ (∀ x, lo ≤ x ∧ x < hi → x ≠ g9 ∧ x ≠ g10) by have := E4.out; have := e9.out; have := z9.out; have := e10.out; have := z10.out; have := d0.size; have hzz : W2.drew.heap.size = W2.heap.size := rfl; have := hs1.out; have := hs2.out; have := hs3.out; refine ⟨by omega, by omega, by omega, by omega, fun x hx => by omega⟩)
            clear e9 z9 e10 z10 E4
            refine wpAnyG_oneL (i := 7) (by kernel_rfl) rfl (fun K hK => ?_)
            refine step_putN (formC b) rfl 113 (.tmp 9) (.tmp 36) rfl g9 113 _ rfl rfl y9 sizeF rfl (by simp [formC, Value.oneCell']) ?_
            intro V4 y9' t1 z1
            have D4 := D3.grown t1 D3.size (fun r e => by cases e; exact N.out.2.1)
            replace y10 := y10.keep (Keep.of_grown1 t1) (Ne.symm N.out.1)
            replace y4 := y4.keep ((Keep.of_grown1 t1).weak fun x h => (N.out.2.2.2.2 x h).1)
            refine hK.out _ _ (fun _ => HF2.out _ D4) ?_
            clear hK K
            try simp only [Act.put]
            refine wpAnyG_oneL (i := 8) (by kernel_rfl) rfl (fun K hK => ?_)
            have k10 := y10.cell 0 rfl
            have f10 := y10.free 0
            go_simp
            refine hK.out _ _ (fun h => Bool.noConfusion (show true = false from h)) ?_
            clear hK K
            refine wpAnyG_done (by kernel_rfl) ?_ _
            gi_wp2_with fail
            gi_meet
            exact ⟨g9, g10, A10, c10, rfl, rfl, Lib.hid N.out.2.1, Lib.hid N.out.2.2.1, y9'.keep (Keep.of_grown1 (grown_setCell V4 g10 0 _)) N.out.1, y10.set 0 _, (y4.keep ((Keep.of_grown1 (grown_setCell V4 g10 0 _)).weak fun x h => (N.out.2.2.2.2 x h).2)).weak (fun x _ h => by have := N.out; have := h.1; omega), D4.grown (grown_setCell V4 g10 0 _) D4.size (fun r e => by cases e; exact N.out.2.2.1)⟩
          refine AllG.cons (i := 6) rfl (fun K hK => ?_) ?_
          · skip
            refine step_new #[.slice none 0 0] 22 rfl ?hr ?_
            case hr => first | (go_simp; done) | (go_simp; rfl)
            intro g10 V2 e10 z10 b2 y10
            have hs2 := Lib.hid b2.size
            have D2 := below2 D1 b2
            replace y4 := y4.below b2
            refine hK.out _ _ (fun _ => (HF2.out _ D2)) ?_
            clear hK K
            try simp only [Act.put, List.setIfInBounds_toArray, List.set_cons_zero, List.set_cons_succ]
            refine wpAnyG_oneL (i := 5) (by kernel_rfl) rfl (fun K hK => ?_)
            refine step_new #[.int .i64 0, .int .i64 0, .bool false] 113 rfl ?hr ?_
            case hr => first | (go_simp; done) | (go_simp; rfl)
            intro g9 V3 e9 z9 b3 y9
            have hs3 := Lib.hid b3.size
            have D3 := below2 D2 b3
            replace y4 := y4.below b3
            replace y10 := y10.below b3
            refine hK.out _ _ (fun _ => (HF2.out _ D3)) ?_
            clear hK K
            try simp only [Act.put, List.setIfInBounds_toArray, List.set_cons_zero, List.set_cons_succ]
            have N := Lib.hid (show g9 ≠ g10 ∧ W2.heap.size ≤ g9 ∧ W2.heap.size ≤ g10 ∧ W2.heap.size ≤ lo ∧ (∀ x, lo ≤ x ∧ x < hi → x ≠ g9 ∧ x ≠ g10) by have := E4.out; have := e9.out; have := z9.out; have := e10.out; have := z10.out; have := d0.size; have hzz : W2.drew.heap.size = W2.heap.size := rfl; have := hs1.out; have := hs2.out; have := hs3.out; refine ⟨by omega, by omega, by omega, by omega, fun x hx => by omega⟩)
            clear e9 z9 e10 z10 E4
            refine wpAnyG_oneL (i := 7) (by kernel_rfl) rfl (fun K hK => ?_)
            refine step_putN (formC b) rfl 113 (.tmp 9) (.tmp 36) rfl g9 113 _ rfl rfl y9 sizeF rfl (by simp [formC, Value.oneCell']) ?_
            intro V4 y9' t1 z1
            have D4 := D3.grown t1 D3.size (fun r e => by cases e; exact N.out.2.1)
            replace y10 := y10.keep (Keep.of_grown1 t1) (Ne.symm N.out.1)
            replace y4 := y4.keep ((Keep.of_grown1 t1).weak fun x h => (N.out.2.2.2.2 x h).1)
            refine hK.out _ _ (fun _ => HF2.out _ D4) ?_
            clear hK K
            try simp only [Act.put]
            refine wpAnyG_oneL (i := 8) (by kernel_rfl) rfl (fun K hK => ?_)
            have k10 := y10.cell 0 rfl
            have f10 := y10.free 0
            go_simp
            refine hK.out _ _ (fun h => Bool.noConfusion (show true = false from h)) ?_
            clear hK K
            refine wpAnyG_done (by kernel_rfl) ?_ _
            gi_wp2_with fail
            gi_meet
            exact ⟨g9, g10, A10, c10, rfl, rfl, Lib.hid N.out.2.1, Lib.hid N.out.2.2.1, y9'.keep (Keep.of_grown1 (grown_setCell V4 g10 0 _)) N.out.1, y10.set 0 _, (y4.keep ((Keep.of_grown1 (grown_setCell V4 g10 0 _)).weak fun x h => (N.out.2.2.2.2 x h).2)).weak (fun x _ h => by have := N.out; have := h.1; omega), D4.grown (grown_setCell V4 g10 0 _) D4.size (fun r e => by cases e; exact N.out.2.2.1)⟩
          exact AllG.nil
        refine AllG.cons (i := 5) rfl (fun K hK => ?_) ?_
        · skip
          refine step_new #[.int .i64 0, .int .i64 0, .bool false] 113 rfl ?hr ?_
          case hr => first | (go_simp; done) | (go_simp; rfl)
          intro g9 V1 e9 z9 b1 y9
          have hs1 := Lib.hid b1.size
          have D1 := below2 d0 b1
          refine hK.out _ _ (fun _ => (HF2.out _ D1)) ?_
          clear hK K
          try simp only [Act.put, List.setIfInBounds_toArray, List.set_cons_zero, List.set_cons_succ]
          refine wpAnyG_br (rs := [4, 6]) (by kernel_rfl) (by simp) ?_
          refine AllG.cons (i := 4) rfl (fun K hK => ?_) ?_
          · skip
            (go_simp; go_at_call 60; refine (HLN.out _ D1).mono ?_; rintro e V2 ⟨v, rfl, hO, b2⟩)
            obtain ⟨A10, c10, rfl, y4⟩ := hO.rd
            obtain ⟨lo, hlo⟩ : ∃ lo, V1.heap.size = lo := ⟨_, rfl⟩
            obtain ⟨hi, hhi⟩ : ∃ hi, V2.heap.size = hi := ⟨_, rfl⟩
            replace y4 := y4.weak (ok' := fun x => lo ≤ x ∧ x < hi) (fun x hx h => by have := h.1; omega)
            have E4 := Lib.hid (And.intro hlo hhi)
            clear hO hlo hhi
            have hs2 := Lib.hid b2.size
            have D2 := below2 D1 b2
            replace y9 := y9.below b2
            refine hK.out _ _ (fun _ => (HF2.out _ D2)) ?_
            clear hK K
            try simp only [Act.put, List.setIfInBounds_toArray, List.set_cons_zero, List.set_cons_succ]
            refine wpAnyG_oneL (i := 6) (by kernel_rfl) rfl (fun K hK => ?_)
            refine step_new #[.slice none 0 0] 22 rfl ?hr ?_
            case hr => first | (go_simp; done) | (go_simp; rfl)
            intro g10 V3 e10 z10 b3 y10
            have hs3 := Lib.hid b3.size
            have D3 := below2 D2 b3
            replace y9 := y9.below b3
            replace y4 := y4.below b3
            refine hK.out _ _ (fun _ => (HF2.out _ D3)) ?_
            clear hK K
            try simp only [Act.put, List.setIfInBounds_toArray, List.set_cons_zero, List.set_cons_succ]
            have N := Lib.hid (show g9 ≠ g10 ∧ W2.heap.size ≤ g9 ∧ W2.heap.size ≤ g10 ∧ W2.heap.size ≤ lo ∧ (∀ x, lo ≤ x ∧ x < hi → x ≠ g9 ∧ x ≠ g10) by have := E4.out; have := e9.out; have := z9.out; have := e10.out; have := z10.out; have := d0.size; have hzz : W2.drew.heap.size = W2.heap.size := rfl; have := hs1.out; have := hs2.out; have := hs3.out; refine ⟨by omega, by omega, by omega, by omega, fun x hx => by omega⟩)
            clear e9 z9 e10 z10 E4
            refine wpAnyG_oneL (i := 7) (by kernel_rfl) rfl (fun K hK => ?_)
            refine step_putN (formC b) rfl 113 (.tmp 9) (.tmp 36) rfl g9 113 _ rfl rfl y9 sizeF rfl (by simp [formC, Value.oneCell']) ?_
            intro V4 y9' t1 z1
            have D4 := D3.grown t1 D3.size (fun r e => by cases e; exact N.out.2.1)
            replace y10 := y10.keep (Keep.of_grown1 t1) (Ne.symm N.out.1)
            replace y4 := y4.keep ((Keep.of_grown1 t1).weak fun x h => (N.out.2.2.2.2 x h).1)
            refine hK.out _ _ (fun _ => HF2.out _ D4) ?_
            clear hK K
            try simp only [Act.put]
            refine wpAnyG_oneL (i := 8) (by kernel_rfl) rfl (fun K hK => ?_)
            have k10 := y10.cell 0 rfl
            have f10 := y10.free 0
            go_simp
            refine hK.out _ _ (fun h => Bool.noConfusion (show true = false from h)) ?_
            clear hK K
            refine wpAnyG_done (by kernel_rfl) ?_ _
            gi_wp2_with fail
            gi_meet
            exact ⟨g9, g10, A10, c10, rfl, rfl, Lib.hid N.out.2.1, Lib.hid N.out.2.2.1, y9'.keep (Keep.of_grown1 (grown_setCell V4 g10 0 _)) N.out.1, y10.set 0 _, (y4.keep ((Keep.of_grown1 (grown_setCell V4 g10 0 _)).weak fun x h => (N.out.2.2.2.2 x h).2)).weak (fun x _ h => by have := N.out; have := h.1; omega), D4.grown (grown_setCell V4 g10 0 _) D4.size (fun r e => by cases e; exact N.out.2.2.1)⟩
          refine AllG.cons (i := 6) rfl (fun K hK => ?_) ?_
          · skip
            refine step_new #[.slice none 0 0] 22 rfl ?hr ?_
            case hr => first | (go_simp; done) | (go_simp; rfl)
            intro g10 V2 e10 z10 b2 y10
            have hs2 := Lib.hid b2.size
            have D2 := below2 D1 b2
            replace y9 := y9.below b2
            refine hK.out _ _ (fun _ => (HF2.out _ D2)) ?_
            clear hK K
            try simp only [Act.put, List.setIfInBounds_toArray, List.set_cons_zero, List.set_cons_succ]
            refine wpAnyG_oneL (i := 4) (by kernel_rfl) rfl (fun K hK => ?_)
            (go_simp; go_at_call 60; refine (HLN.out _ D2).mono ?_; rintro e V3 ⟨v, rfl, hO, b3⟩)
            obtain ⟨A10, c10, rfl, y4⟩ := hO.rd
            obtain ⟨lo, hlo⟩ : ∃ lo, V2.heap.size = lo := ⟨_, rfl⟩
            obtain ⟨hi, hhi⟩ : ∃ hi, V3.heap.size = hi := ⟨_, rfl⟩
            replace y4 := y4.weak (ok' := fun x => lo ≤ x ∧ x < hi) (fun x hx h => by have := h.1; omega)
            have E4 := Lib.hid (And.intro hlo hhi)
            clear hO hlo hhi
            have hs3 := Lib.hid b3.size
            have D3 := below2 D2 b3
            replace y9 := y9.below b3
            replace y10 := y10.below b3
            refine hK.out _ _ (fun _ => (HF2.out _ D3)) ?_
            clear hK K
            try simp only [Act.put, List.setIfInBounds_toArray, List.set_cons_zero, List.set_cons_succ]
            have N := Lib.hid (show g9 ≠ g10 ∧ W2.heap.size ≤ g9 ∧ W2.heap.size ≤ g10 ∧ W2.heap.size ≤ lo ∧ (∀ x, lo ≤ x ∧ x < hi → x ≠ g9 ∧ x ≠ g10) by have := E4.out; have := e9.out; have := z9.out; have := e10.out; have := z10.out; have := d0.size; have hzz : W2.drew.heap.size = W2.heap.size := rfl; have := hs1.out; have := hs2.out; have := hs3.out; refine ⟨by omega, by omega, by omega, by omega, fun x hx => by omega⟩)
            clear e9 z9 e10 z10 E4
            refine wpAnyG_oneL (i := 7) (by kernel_rfl) rfl (fun K hK => ?_)
            refine step_putN (formC b) rfl 113 (.tmp 9) (.tmp 36) rfl g9 113 _ rfl rfl y9 sizeF rfl (by simp [formC, Value.oneCell']) ?_
            intro V4 y9' t1 z1
            have D4 := D3.grown t1 D3.size (fun r e => by cases e; exact N.out.2.1)
            replace y10 := y10.keep (Keep.of_grown1 t1) (Ne.symm N.out.1)
            replace y4 := y4.keep ((Keep.of_grown1 t1).weak fun x h => (N.out.2.2.2.2 x h).1)
            refine hK.out _ _ (fun _ => HF2.out _ D4) ?_
            clear hK K
            try simp only [Act.put]
            refine wpAnyG_oneL (i := 8) (by kernel_rfl) rfl (fun K hK => ?_)
            have k10 := y10.cell 0 rfl
            have f10 := y10.free 0
            go_simp
            refine hK.out _ _ (fun h => Bool.noConfusion (show true = false from h)) ?_
            clear hK K
            refine wpAnyG_done (by kernel_rfl) ?_ _
            gi_wp2_with fail
            gi_meet
            exact ⟨g9, g10, A10, c10, rfl, rfl, Lib.hid N.out.2.1, Lib.hid N.out.2.2.1, y9'.keep (Keep.of_grown1 (grown_setCell V4 g10 0 _)) N.out.1, y10.set 0 _, (y4.keep ((Keep.of_grown1 (grown_setCell V4 g10 0 _)).weak fun x h => (N.out.2.2.2.2 x h).2)).weak (fun x _ h => by have := N.out; have := h.1; omega), D4.grown (grown_setCell V4 g10 0 _) D4.size (fun r e => by cases e; exact N.out.2.2.1)⟩
          exact AllG.nil
        refine AllG.cons (i := 6) rfl (fun K hK => ?_) ?_
        · skip
          refine step_new #[.slice none 0 0] 22 rfl ?hr ?_
          case hr => first | (go_simp; done) | (go_simp; rfl)
          intro g10 V1 e10 z10 b1 y10
          have hs1 := Lib.hid b1.size
          have D1 := below2 d0 b1
          refine hK.out _ _ (fun _ => (HF2.out _ D1)) ?_
          clear hK K
          try simp only [Act.put, List.setIfInBounds_toArray, List.set_cons_zero, List.set_cons_succ]
          refine wpAnyG_br (rs := [4, 5]) (by kernel_rfl) (by simp) ?_
          refine AllG.cons (i := 4) rfl (fun K hK => ?_) ?_
          · skip
            (go_simp; go_at_call 60; refine (HLN.out _ D1).mono ?_; rintro e V2 ⟨v, rfl, hO, b2⟩)
            obtain ⟨A10, c10, rfl, y4⟩ := hO.rd
            obtain ⟨lo, hlo⟩ : ∃ lo, V1.heap.size = lo := ⟨_, rfl⟩
            obtain ⟨hi, hhi⟩ : ∃ hi, V2.heap.size = hi := ⟨_, rfl⟩
            replace y4 := y4.weak (ok' := fun x => lo ≤ x ∧ x < hi) (fun x hx h => by have := h.1; omega)
            have E4 := Lib.hid (And.intro hlo hhi)
            clear hO hlo hhi
            have hs2 := Lib.hid b2.size
            have D2 := below2 D1 b2
            replace y10 := y10.below b2
            refine hK.out _ _ (fun _ => (HF2.out _ D2)) ?_
            clear hK K
            try simp only [Act.put, List.setIfInBounds_toArray, List.set_cons_zero, List.set_cons_succ]
            refine wpAnyG_oneL (i := 5) (by kernel_rfl) rfl (fun K hK => ?_)
            refine step_new #[.int .i64 0, .int .i64 0, .bool false] 113 rfl ?hr ?_
            case hr => first | (go_simp; done) | (go_simp; rfl)
            intro g9 V3 e9 z9 b3 y9
            have hs3 := Lib.hid b3.size
            have D3 := below2 D2 b3
            replace y10 := y10.below b3
            replace y4 := y4.below b3
            refine hK.out _ _ (fun _ => (HF2.out _ D3)) ?_
            clear hK K
            try simp only [Act.put, List.setIfInBounds_toArray, List.set_cons_zero, List.set_cons_succ]
            have N := Lib.hid (show g9 ≠ g10 ∧ W2.heap.size ≤ g9 ∧ W2.heap.size ≤ g10 ∧ W2.heap.size ≤ lo ∧ (∀ x, lo ≤ x ∧ x < hi → x ≠ g9 ∧ x ≠ g10) by have := E4.out; have := e9.out; have := z9.out; have := e10.out; have := z10.out; have := d0.size; have hzz : W2.drew.heap.size = W2.heap.size := rfl; have := hs1.out; have := hs2.out; have := hs3.out; refine ⟨by omega, by omega, by omega, by omega, fun x hx => by omega⟩)
            clear e9 z9 e10 z10 E4
            refine wpAnyG_oneL (i := 7) (by kernel_rfl) rfl (fun K hK => ?_)
            refine step_putN (formC b) rfl 113 (.tmp 9) (.tmp 36) rfl g9 113 _ rfl rfl y9 sizeF rfl (by simp [formC, Value.oneCell']) ?_
            intro V4 y9' t1 z1
            have D4 := D3.grown t1 D3.size (fun r e => by cases e; exact N.out.2.1)
            replace y10 := y10.keep (Keep.of_grown1 t1) (Ne.symm N.out.1)
            replace y4 := y4.keep ((Keep.of_grown1 t1).weak fun x h => (N.out.2.2.2.2 x h).1)
            refine hK.out _ _ (fun _ => HF2.out _ D4) ?_
            clear hK K
            try simp only [Act.put]
            refine wpAnyG_oneL (i := 8) (by kernel_rfl) rfl (fun K hK => ?_)
            have k10 := y10.cell 0 rfl
            have f10 := y10.free 0
            go_simp
            refine hK.out _ _ (fun h => Bool.noConfusion (show true = false from h)) ?_
            clear hK K
            refine wpAnyG_done (by kernel_rfl) ?_ _
            gi_wp2_with fail
            gi_meet
            exact ⟨g9, g10, A10, c10, rfl, rfl, Lib.hid N.out.2.1, Lib.hid N.out.2.2.1, y9'.keep (Keep.of_grown1 (grown_setCell V4 g10 0 _)) N.out.1, y10.set 0 _, (y4.keep ((Keep.of_grown1 (grown_setCell V4 g10 0 _)).weak fun x h => (N.out.2.2.2.2 x h).2)).weak (fun x _ h => by have := N.out; have := h.1; omega), D4.grown (grown_setCell V4 g10 0 _) D4.size (fun r e => by cases e; exact N.out.2.2.1)⟩
          refine AllG.cons (i := 5) rfl (fun K hK => ?_) ?_
          · skip
            refine step_new #[.int .i64 0, .int .i64 0, .bool false] 113 rfl ?hr ?_
            case hr => first | (go_simp; done) | (go_simp; rfl)
            intro g9 V2 e9 z9 b2 y9
            have hs2 := Lib.hid b2.size
            have D2 := below2 D1 b2
            replace y10 := y10.below b2
            refine hK.out _ _ (fun _ => (HF2.out _ D2)) ?_
            clear hK K
            try simp only [Act.put, List.setIfInBounds_toArray, List.set_cons_zero, List.set_cons_succ]
            refine wpAnyG_oneL (i := 4) (by kernel_rfl) rfl (fun K hK => ?_)
            (go_simp; go_at_call 60; refine (HLN.out _ D2).mono ?_; rintro e V3 ⟨v, rfl, hO, b3⟩)
            obtain ⟨A10, c10, rfl, y4⟩ := hO.rd
            obtain ⟨lo, hlo⟩ : ∃ lo, V2.heap.size = lo := ⟨_, rfl⟩
            obtain ⟨hi, hhi⟩ : ∃ hi, V3.heap.size = hi := ⟨_, rfl⟩
            replace y4 := y4.weak (ok' := fun x => lo ≤ x ∧ x < hi) (fun x hx h => by have := h.1; omega)
            have E4 := Lib.hid (And.intro hlo hhi)
            clear hO hlo hhi
            have hs3 := Lib.hid b3.size
            have D3 := below2 D2 b3
            replace y10 := y10.below b3
            replace y9 := y9.below b3
            refine hK.out _ _ (fun _ => (HF2.out _ D3)) ?_
            clear hK K
            try simp only [Act.put, List.setIfInBounds_toArray, List.set_cons_zero, List.set_cons_succ]
            have N := Lib.hid (show g9 ≠ g10 ∧ W2.heap.size ≤ g9 ∧ W2.heap.size ≤ g10 ∧ W2.heap.size ≤ lo ∧ (∀ x, lo ≤ x ∧ x < hi → x ≠ g9 ∧ x ≠ g10) by have := E4.out; have := e9.out; have := z9.out; have := e10.out; have := z10.out; have := d0.size; have hzz : W2.drew.heap.size = W2.heap.size := rfl; have := hs1.out; have := hs2.out; have := hs3.out; refine ⟨by omega, by omega, by omega, by omega, fun x hx => by omega⟩)
            clear e9 z9 e10 z10 E4
            refine wpAnyG_oneL (i := 7) (by kernel_rfl) rfl (fun K hK => ?_)
            refine step_putN (formC b) rfl 113 (.tmp 9) (.tmp 36) rfl g9 113 _ rfl rfl y9 sizeF rfl (by simp [formC, Value.oneCell']) ?_
            intro V4 y9' t1 z1
            have D4 := D3.grown t1 D3.size (fun r e => by cases e; exact N.out.2.1)
            replace y10 := y10.keep (Keep.of_grown1 t1) (Ne.symm N.out.1)
            replace y4 := y4.keep ((Keep.of_grown1 t1).weak fun x h => (N.out.2.2.2.2 x h).1)
            refine hK.out _ _ (fun _ => HF2.out _ D4) ?_
            clear hK K
            try simp only [Act.put]
            refine wpAnyG_oneL (i := 8) (by kernel_rfl) rfl (fun K hK => ?_)
            have k10 := y10.cell 0 rfl
            have f10 := y10.free 0
            go_simp
            refine hK.out _ _ (fun h => Bool.noConfusion (show true = false from h)) ?_
            clear hK K
            refine wpAnyG_done (by kernel_rfl) ?_ _
            gi_wp2_with fail
            gi_meet
            exact ⟨g9, g10, A10, c10, rfl, rfl, Lib.hid N.out.2.1, Lib.hid N.out.2.2.1, y9'.keep (Keep.of_grown1 (grown_setCell V4 g10 0 _)) N.out.1, y10.set 0 _, (y4.keep ((Keep.of_grown1 (grown_setCell V4 g10 0 _)).weak fun x h => (N.out.2.2.2.2 x h).2)).weak (fun x _ h => by have := N.out; have := h.1; omega), D4.grown (grown_setCell V4 g10 0 _) D4.size (fun r e => by cases e; exact N.out.2.2.1)⟩
          exact AllG.nil
        exact AllG.nil
      case rest =>
        obtain ⟨g9, g10, A10, c10, rfl, rfl, l9, l10, y9, y10, y4, hbc⟩ := hcut
        have k10 := y10.cell 0 rfl
        have HCD := Lib.hid (codes_any A10 c10 (tabKI b) wc y4.any)
        gi_wp2_with (first
          | (refine ⟨trivial, ?_⟩; gi_at_call 61; refine (callsIn_wide.2 HCD.out).mono ?_; rintro e w3 ⟨v3, rfl, hO3, b3⟩; obtain ⟨A11, c11, rfl, hL3⟩ := hO3.rd; have HL3 := Lib.hid hL3; have HBA3 := Lib.hid (below2 b3 (below_alloc (Below.refl _ w3) (.cells #[.slice A11 (codesR (tabKI b)).length c11] 22))); have q90 := (y9.below HBA3.out).cell 0 rfl; have q91 := (y9.below HBA3.out).cell 1 rfl; have q92 := (y9.below HBA3.out).cell 2 rfl; clear hO3 hL3)
          | (refine ⟨trivial, ?_⟩; gi_at_call 62; refine (callsIn_wide.2 (groups_any A c l.length b _)).mono ?_; rintro e W0 ⟨gf, gs, rfl, e1, e2, e3, bF, bS, b6⟩))
        obtain ⟨g11, hg11⟩ : ∃ g11, w3.heap.size = g11 := ⟨_, rfl⟩
        have B11 : Blk W0 g11 #[.slice A11 (codesR (tabKI b)).length c11] 22 := by
          have h9 : Blk _ _ #[.slice A11 (codesR (tabKI b)).length c11] 22 := heap_alloc_new w3 (.cells #[.slice A11 (codesR (tabKI b)).length c11] 22)
          rw [← hg11]
          exact h9.below b6
        have hbw := below2 HBA3.out b6
        have hb0 := below2 (below2 HB2.out hbc) hbw
        have hb20 := below2 hbc hbw
        have B3 := hB3.below hb20
        have B4 := hB4.below hb20
        have B9 := y9.below hbw
        have B10 := y10.below hbw
        have nob : ∀ x, W2.heap.size ≤ x → ¬ o x := fun x hx h => by have := ho x h; have := HB2.out.size; omega
        have Y4 := (y4.weak (ok' := fun x => ¬ o x) fun x _ h => nob x h).below hbw
        have Y11 := (HL3.out.weak (ok' := fun x => ¬ o x) (fun x _ h => nob x (by have := h.1; have := hbc.size; omega))).below (below2 (below_alloc (Below.refl _ w3) (.cells #[.slice A11 (codesR (tabKI b)).length c11] 22)) b6)
        have hI0 : BwI o W0 g (bs ++ lstB b l ([] : List Nat).length) W0 := ⟨by simpa [lstB] using ((HW2.out.below hbc).below hbw).weak (fun x _ h => .inl h), Upd.refl _ _⟩
        have he1 := e1.out
        have he2 := e2.out
        have he3 := e3.out
        rw [World.size_alloc, hg11] at he1
        have hz := hb0.size
        have hz20 := hbc.size
        have hz3 := b3.size
        have HS0 := Lib.hid (HS.out.below hb0)
        have HB0 := Lib.hid hb0
        have HN := Lib.hid (show w.heap.size = g3 ∧ g3 + 1 < W2.heap.size ∧ W2.heap.size ≤ g9 ∧ W2.heap.size ≤ g10 ∧ W2.heap.size ≤ g11 ∧ g9 < g11 ∧ g10 < g11 ∧ g11 < gf ∧ gf + 1 = gs ∧ W0.heap.size = gs + 1 from ⟨HN3.out, hlt3, l9.out, l10.out, by omega, by have := y9.lt; omega, by have := y10.lt; omega, by omega, by omega, he3⟩)
        have HBK := Lib.hid (And.intro B3 (And.intro B4 (And.intro B9 (And.intro B10 B11))))
        have HY := Lib.hid (And.intro Y4 Y11)
        have HNO := Lib.hid nob
        have HNO3 := Lib.hid (show ∀ x, g3 ≤ x → ¬ o x from fun x hx h => by have := ho x h; have := HN3.out; omega)
        have HRI := Lib.hid (HS.out.any.below hb0)
        clear e1 e2 e3 he1 he2 he3 b3 b6 hbw hb0 hb20 hz hz20 hz3 B3 B4 B9 B10 B11 Y4 Y11 y4 y9 y10 l9 l10 q90 q91 q92 k10 HCD hbc HBA3 HL3 nob HLN HF2 hB3 hB4 hlt3
        simp only [hg11]
        clear hg11
        refine range_next rfl (by decide) (gf := 91) (lb := #[.pointer (some ⟨gf, 0, none⟩), .pointer (some ⟨gs, 0, none⟩)]) rfl trivial (enters_of Tryz.func91 (by kernel_rfl) rfl)
          (groups1_yields gf gs b A c l W0 (fun x => ¬ o x ∧ x < W0.heap.size) HRI.out bF bS ⟨HNO.out _ (by have := HN.out; omega), by have := HN.out; omega⟩ ⟨HNO.out _ (by have := HN.out; omega), by have := HN.out; omega⟩ 8 (by decide) (by omega)) (fun r h => h.elim) (fun r h => h.2) (Below.refl _ _) (fun _ => rfl)
          (fun pre W => BwI o W0 g (bs ++ lstB b l pre.length) W) (fun _ _ _ => False) ?hI (fun _ _ _ _ _ h _ _ => h) hI0
          (fun x a' W => a' = { tmps := (.pointer (some ⟨g, 0, none⟩) :: .int .i64 (b : Int) :: .slice A l.length c :: .pointer (some ⟨g3, 0, none⟩) :: .pointer (some ⟨g3 + 1, 0, none⟩) :: undef :: .int .i64 0 :: .int .i64 (M : Int) :: .int .i64 0 :: .pointer (some ⟨g9, 0, none⟩) :: .pointer (some ⟨g10, 0, none⟩) :: .pointer (some ⟨g11, 0, none⟩) :: .int .i64 (checkN (tabKI b)) :: grpV A (dimB b) x :: undef :: undef :: undef :: undef :: .pointer (some ⟨g, 0, none⟩) :: .bool false :: .tuple #[.int .i64 (M : Int), .int .i64 0] :: .int .i64 (b : Int) :: .slice A l.length c :: .tuple #[.int .i64 (M : Int), .int .i64 0] :: .int .i64 (M : Int) :: .int .i64 0 :: .int .i64 0 :: .bool false :: undef :: .pointer (some ⟨g, 0, none⟩) :: .int .i64 (bs.length : Int) :: .int .i64 (M : Int) :: .int .i64 ((bs.length : Int) + (M : Int)) :: .bool false :: u34 :: u35 :: u36 :: u37 :: u38 :: .tuple #[.slice A11 (codesR (tabKI b)).length c11, .int .i64 (checkN (tabKI b))] :: .slice A10 (tabKI b).length c10 :: .tuple #[.slice A11 (codesR (tabKI b)).length c11, .int .i64 (checkN (tabKI b))] :: .slice A11 (codesR (tabKI b)).length c11 :: .int .i64 (checkN (tabKI b)) :: .agg (formC b) :: .slice A l.length c :: .func (.func 91) #[] #[.pointer (some ⟨gf, 0, none⟩), .pointer (some ⟨gs, 0, none⟩)] :: grpV A (dimB b) x :: u48 :: u49 :: u50 :: u51 :: u52 :: u53 :: u54 :: u55 :: u56 :: u57 :: u58 :: u59 :: u60 :: u61 :: u62 :: u63 :: u64 :: u65 :: u66 :: u67 :: u68 :: u69 :: u70 :: u71 :: u72 :: u73 :: u74 :: u75 :: u76 :: u77 :: u78 :: u79 :: u80 :: u81 :: u82 :: u83 :: u84 :: u85 :: u86 :: u87 :: u88 :: u89 :: u90 :: u91 :: u92 :: u93 :: []).toArray, defers := [] })
          (fun _ _ _ _ _ _ h _ _ => h) ?assign ?body ?done (fun _ _ _ _ _ _ h _ => h.elim)
        case hI =>
          rintro s X Y row hs hg hr
          have hO : Other X row := fun r e => by
            rcases hr r e with h | ⟨_, x, hx, hc⟩
            · exact h.elim
            · exact ⟨x, hx, hc⟩
          refine ⟨hs.wr.firm hg hO, hs.upd.trans (Upd.of_grown (o := fun b => W0.heap.size ≤ b) hg (fun r e => ?_)) (fun b hb e => by omega)⟩
          rcases hr r e with h | ⟨h, _⟩
          · exact h.elim
          · exact h
        case assign =>
          intro r pre x W K hi _ hK
          gi_wp2
          exact hK _ _ (KeepsOthers.refl _ |>.from _) (Keep.refl _ _) hi rfl
        case body =>
          rintro r pre j a' W hs rfl ⟨hj, hpre⟩
          have hpl : pre.length = j := by rw [hpre, List.length_range]
          rw [hpl] at hs
          have hle := grp_in hj
          obtain ⟨ad, rfl, _⟩ := rd_int HRI.out (j * dimB b) (by have := dimB_pos b; omega)
          have HG := Lib.hid (grp_slK HS0.out (dimB b) j hle)
          have HJ := Lib.hid (show bs ++ lstB b l (pre ++ [j]).length = (bs ++ lstB b l j ++ wrdB b (grpK (dimB b) l j)) ++ (grpK (dimB b) l j).flatMap (besB b) by rw [List.length_append, hpl]; show bs ++ lstB b l (j + 1) = _; rw [lstB_succ]; unfold grpB; simp only [List.append_assoc])
          have HGL := Lib.hid (grpK_length (dimB b) l j hle)
          have HQG := Lib.hid (grpK_quant HQ.out.2.1 (dimB b) j)
          have HTOT := Lib.hid (show (bs ++ lstB b l j ++ wrdB b (grpK (dimB b) l j)).length + ((grpK (dimB b) l j).flatMap (besB b)).length ≤ 1048576 by
            have h1 := lstB_mono b l (show j + 1 ≤ l.length / dimB b from hj)
            rw [lstB_succ] at h1
            have h2 := HRM.out
            unfold rowK at h2
            unfold grpB at h1
            simp only [List.length_append] at h1 ⊢
            omega)
          have hgv : grpV (some ad) (dimB b) j = .slice (some (ad.add (j * dimB b))) (dimB b) (dimB b) := rfl
          simp only [hgv]
          generalize grpK (dimB b) l j = G at HG HJ HGL HQG HTOT
          have HP := Lib.hid (show ∃ P0, bs ++ lstB b l j = P0 from ⟨_, rfl⟩)
          obtain ⟨P0, hP0⟩ := HP.out
          rw [hP0] at hs HJ HTOT
          have hkp := hs.upd.keep (ok := fun b => ¬ o b) (fun _ h => h)
          have B3 := HBK.out.1.keep hkp (HNO3.out _ (Nat.le_refl _))
          have B4 := HBK.out.2.1.keep hkp (HNO3.out _ (Nat.le_succ _))
          have k4 := B4.cell 0 rfl
          have HW := Lib.hid hs
          clear hs hpre hle hpl hgv hP0 HP hj
          gi_upto_if 49 with fail
          gi_cut [14] from 48 (fun s14 wx => Hid (KeepsFrom W0.heap.size W wx) ∧ Hid (Keep (fun x => ¬ o x ∧ x < W0.heap.size) W wx) ∧ BwI o W0 g (P0 ++ wrdB b G) wx)
          case first =>
            by_cases hb0 : b = 0
            · have hd0 : decide ((0 : Int) < (b : Int)) = false := decide_eq_false (by omega)
              have hnb : ¬ 0 < b := by omega
              have HWR := Lib.hid (show P0 ++ wrdB b G = P0 by unfold wrdB; rw [if_pos hb0]; simp)
              clear hb0
              gi_wp2_with fail
              gi_meet
              rw [HWR.out]
              exact ⟨Lib.hid (KeepsFrom.refl _ _), Lib.hid (Keep.refl _ _), HW.out⟩
            · have hd0 : decide ((0 : Int) < (b : Int)) = true := decide_eq_true (by omega)
              have hpb : 0 < b := by omega
              have hG4 : G.length ≤ 4 := by have := HGL.out; have := dimB_pos b; omega
              have h8 := HQ.out.1
              have hsy := sym_in b G HGL.out
              have htb := tab_bound b (by omega) h8 hsy
              have hcl := tabK_code_lt b (by omega) h8 hsy
              have hlo := tabK_lenOf b (by omega) h8 hsy
              have HWR := Lib.hid (show wrdB b G = numB (codeN (tabKI b) (symG b G)) (lenOf (tabKI b) (symG b G)) by unfold wrdB; rw [if_neg hb0])
              have B9 := HBK.out.2.2.1.keep hkp (HNO.out _ (by have := HN.out; omega))
              have B10 := HBK.out.2.2.2.1.keep hkp (HNO.out _ (by have := HN.out; omega))
              have B11 := HBK.out.2.2.2.2.keep hkp (HNO.out _ (by have := HN.out; omega))
              have k90 := B9.cell 0 rfl
              have k91 := B9.cell 1 rfl
              have k92 := B9.cell 2 rfl
              have HBB := Lib.hid (And.intro B3 (And.intro B10 B11))
              have HCS := Lib.hid (fun W' (hr : RI W' (some (ad.add (j * dimB b))) (dimB b) G) => symbolOf_any (some (ad.add (j * dimB b))) (dimB b) b G W' hr (fun v hv => HQG.out v hv) hG4)
              rw [HGL.out] at HCS
              have HGR := Lib.hid ((HG.out.keep hkp).any)
              obtain ⟨ad10, e10, hc10⟩ := rd_int (HY.out.1.keep hkp) (symG b G) (by rw [tabKI_length b (by omega) h8]; exact hsy)
              obtain ⟨ad11, e11, hc11⟩ := rd_int (HY.out.2.keep hkp) (symG b G) (by rw [tabK_codes b (by omega) h8, codesL_length, tabKI_length b (by omega) h8]; exact hsy)
              rw [tabK_codes b (by omega) h8, codesL_nth _ _ (by rw [tabKI_length b (by omega) h8]; exact hsy)] at hc11
              rw [tabKI_nth b _ (by rw [tabK_length b (by omega) h8]; exact hsy), ← hlo] at hc10
              have hn16 := tabK_len16 b (by omega) h8 (symG b G)
              have hsl : symG b G < (tabKI b).length := by rw [tabKI_length b (by omega) h8]; exact hsy
              have hsl2 : symG b G < (codesR (tabKI b)).length := by rw [tabK_codes b (by omega) h8, codesL_length]; exact hsl
              generalize symG b G = s at *
              obtain ⟨C, hC⟩ : ∃ C, codeN (tabKI b) s = C := ⟨_, rfl⟩
              obtain ⟨N, hN⟩ : ∃ N, lenOf (tabKI b) s = N := ⟨_, rfl⟩
              rw [hC, hN] at hcl HWR
              rw [hC] at hc11
              rw [hN] at hc10 hn16
              have HPT := Lib.hid (fun W' (hb : Below W.heap.size W W') => HW.out.put hb C N (by omega) hcl (by have := HTOT.out; rw [HWR.out] at this; simp only [List.length_append, numB_length] at this; omega))
              have hsi : (s : Int) < ((tabKI b).length : Int) := by omega
              have hsi2 : (s : Int) < ((codesR (tabKI b)).length : Int) := by omega
              clear hb0 hsy htb hlo hC hN hcl hn16 hsl hsl2 B3 B4 B9 B10 B11 hkp h8
              cases e10
              cases e11
              gi_upto_region 14 with (refine ⟨trivial, ?_⟩; gi_at_call 63; refine (CallsIn.inRound r (callsIn_wide.2 (HCS.out _ HGR.out))).mono ?_; rintro e w9 ⟨rfl, b9⟩)
              have q3 := (HBB.out.1.below b9).cell 0 rfl
              have q10 := (HBB.out.2.1.below b9).cell 0 rfl
              have q11 := (HBB.out.2.2.below b9).cell 0 rfl
              have qc10 := cell_below b9 hc10
              have qc11 := cell_below b9 hc11
              clear k4 k90 k91 k92 hc10 hc11
              refine wpIn_still_tail 9 (by kernel_rfl) (by kernel_rfl) (by kernel_rfl) ?_
              simp only [List.take_succ_cons, List.take_zero, List.drop_succ_cons, List.drop_zero]
              repeat still_step
              try refine wpStill_nil ?_
              gi_wp2_with (refine ⟨trivial, ?_⟩; gi_at_call 31; refine (CallsIn.inRound r (callsIn_wide.2 (HPT.out _ (b9.trans ((Below.refl _ _).drew))))).mono ?_; rintro e W3 ⟨⟨E, rfl⟩, hk1, hk2, hw3⟩)
              gi_meet
              rw [HWR.out]
              exact ⟨Lib.hid hk1, Lib.hid hk2, hw3⟩
          case rest =>
            obtain ⟨hk1, hk2, hw1⟩ := hcut
            have HW1 := Lib.hid hw1
            obtain ⟨P1, hP1⟩ : ∃ P1, P0 ++ wrdB b G = P1 := ⟨_, rfl⟩
            rw [hP1] at HW1 HJ HTOT
            have HSUC := Lib.hid (show ∀ k, k < G.length → P1 ++ (G.take (k + 1)).flatMap (besB b) = P1 ++ (G.take k).flatMap (besB b) ++ besB b (nth 0 G k) from fun k h => by rw [take_succ_nth 0 G k h, List.flatMap_append, List.append_assoc]; simp)
            have HLE := Lib.hid (show ∀ k, k < G.length → (P1 ++ (G.take k).flatMap (besB b)).length + (besB b (nth 0 G k)).length ≤ 1048576 from fun k h => by
              have h1 : G = G.take (k + 1) ++ G.drop (k + 1) := (List.take_append_drop _ _).symm
              have h2 := HTOT.out
              rw [h1, List.flatMap_append, take_succ_nth 0 G k h, List.flatMap_append] at h2
              simp only [List.length_append, List.flatMap_cons, List.flatMap_nil, List.append_nil] at h2 ⊢
              omega)
            have HFULL := Lib.hid (show G.take (dimB b) = G from List.take_of_length_le (by have := HGL.out; omega))
            have HOK3 := Lib.hid (show ¬ o g3 ∧ g3 < W0.heap.size from ⟨HNO3.out _ (Nat.le_refl _), by have := HN.out; omega⟩)
            have HOK9 := Lib.hid (show ¬ o g9 ∧ g9 < W0.heap.size from ⟨HNO.out _ (by have := HN.out; omega), by have := HN.out; omega⟩)
            have hD4 := (dimB_pos b).2
            clear hw1 hP1 k4 B3 B4 hkp HW
            gi_wp2
            gi_loopw [16, 17, 65] (fun xv sv iv wr => ∃ k : Nat, k ≤ dimB b ∧ iv = .int .i64 (k : Int) ∧ Hid (KeepsFrom W0.heap.size W wr) ∧ Hid (Keep (fun x => ¬ o x ∧ x < W0.heap.size) W wr) ∧ Hid (BwI o W0 g (P1 ++ (G.take k).flatMap (besB b)) wr)) (fun _ _ iv _ => dimB b - (intOf iv).toNat)
            case atStart => exact ⟨0, Nat.zero_le _, rfl, hk1, hk2, Lib.hid (by simpa using HW1.out)⟩
            case round =>
              clear HW1 hk1 hk2
              obtain ⟨k, hk, rfl, hK1, hK2, hC⟩ := hrel
              by_cases hlt : k < dimB b
              · have hkp := hC.out.upd.keep (ok := fun b => ¬ o b) (fun _ h => h)
                obtain ⟨ad2, e2, hc⟩ := rd_int (HG.out.keep hkp) k (by have := HGL.out; omega)
                cases e2
                have B3 := HBK.out.1.keep hkp HOK3.out.1
                have B9 := HBK.out.2.2.1.keep hkp HOK9.out.1
                have k3 := B3.cell 0 rfl
                have k90 := B9.cell 0 rfl
                have k91 := B9.cell 1 rfl
                have k92 := B9.cell 2 rfl
                have hki : (k : Int) < (dimB b : Int) := by omega
                have hwk : IntKind.i64.wrap ((k : Int) + 1) = (k : Int) + 1 := IntWalk.i64_in _ (by omega)
                have HSU := Lib.hid (HSUC.out k (by have := HGL.out; omega))
                have HB1 := Lib.hid (HLE.out k (by have := HGL.out; omega))
                have HQX := Lib.hid (HQG.out _ (nth_mem 0 G k (by have := HGL.out; omega)))
                generalize nth 0 G k = x at hc HSU HB1 HQX
                have HBS0 := Lib.hid (show besB b x = if x = 0 then [] else decide (x < 0) :: if escpB b x then gamB (x.natAbs - mostB b + 1) else [] from rfl)
                have HEP := Lib.hid (show escpB b x = (escB b && decide (mostB b ≤ x.natAbs)) from rfl)
                clear hkp
                by_cases hx0 : x = 0
                · have HBX := Lib.hid (show besB b x = [] by rw [HBS0.out, if_pos hx0])
                  have hd0 : (x == 0) = true := by simp [hx0]
                  clear hx0 B3 B9
                  gi_wp2
                  go_roundw
                  case rel => exact ⟨k + 1, by omega, by go_num, hK1, hK2, Lib.hid (by rw [HSU.out, HBX.out, List.append_nil]; exact hC.out)⟩
                  case measure => simp [intOf]; omega
                · have HBS := Lib.hid (HBS0.out.trans (if_neg hx0))
                  have hd0 : (x == 0) = false := by simp [hx0]
                  have HB1' := Lib.hid (show (P1 ++ (G.take k).flatMap (besB b)).length + 1 ≤ 1048576 by have := HB1.out; rw [HBS.out, List.length_cons] at this; omega)
                  clear hx0 HBS0
                  by_cases hneg : x < 0
                  · have HD0 := Lib.hid (show decide (x < 0) = true from decide_eq_true hneg)
                    have hdx : decide (x < 0) = true := decide_eq_true hneg
                    clear hneg
                    have HNB := Lib.hid (show numB 1 1 = [decide (x < 0)] by rw [HD0.out]; rfl)
                    have HPT := Lib.hid (fun W' (hb : Below wr.heap.size wr W') => hC.out.put hb 1 1 (by decide) (by decide) (by have := HB1'.out; omega))
                    rw [show ((1 : Nat) : Int) = 1 from rfl] at HPT
                    gi_upto_region 23 with (refine ⟨trivial, ?_⟩; gi_at_call 31; refine (CallsIn.inRound r (callsIn_wide.2 (HPT.out _ (Below.refl _ _)))).mono ?_; rintro e W3 ⟨⟨E, rfl⟩, hk1, hk2, hw3⟩)
                    have C3 := B3.keep hk2 (HOK3.out)
                    have C9 := B9.keep hk2 (HOK9.out)
                    have HC3 := Lib.hid C3
                    have HC9 := Lib.hid C9
                    have HK1 := Lib.hid (hK1.out.trans hk1)
                    have HK2 := Lib.hid (hK2.out.trans hk2)
                    have HW3 := Lib.hid hw3
                    have HZX := Lib.hid (fun W => size_same x W (by have := HQX.out; omega))
                    have HM := Lib.hid (mostB_le b)
                    have hd := (Below.refl W3.heap.size W3).drew
                    have HF3 := Lib.hid (show ∀ W', Below W3.heap.size W3 W' → (W'.cell? ⟨g9, 1, none⟩ = some (.int .i64 (mostB b)) ∧ W'.cell? ⟨g9, 2, none⟩ = some (.bool (escB b)) ∧ W'.cell? ⟨g3, 0, none⟩ = some (.pointer (some ⟨g, 0, none⟩))) from fun W' hb => ⟨(HC9.out.below hb).cell 1 rfl, (HC9.out.below hb).cell 2 rfl, (HC3.out.below hb).cell 0 rfl⟩)
                    clear hk1 hk2 hw3 C3 C9 k3 k90 k91 k92 hc HPT
                    generalize hE : escB b = ee at HF3 HEP
                    cases ee
                    · have HBX := Lib.hid (show besB b x = [decide (x < 0)] by rw [HBS.out, HEP.out]; rfl)
                      refine wpIn_region_G 8 (fun W' => W'.cell? ⟨g9, 1, none⟩ = some (.int .i64 (mostB b)) ∧ W'.cell? ⟨g9, 2, none⟩ = some (.bool false) ∧ W'.cell? ⟨g3, 0, none⟩ = some (.pointer (some ⟨g, 0, none⟩))) (by kernel_rfl) (by kernel_rfl) (fun ⟨_, _, h⟩ => h) (HF3.out _ hd) (fun hHeld => ?_)
                      refine wpAnyG_takeL (i := 0) (.pointer (some ⟨g9, 2, none⟩)) [1, 2, 8] rfl (by kernel_rfl) (fun _ _ _ h => h) hHeld (by rfl) ?_ ?_
                      · (intro W' hSw; (try dsimp only at hSw); go_simp)
                      try simp only [Act.put, List.setIfInBounds_toArray, List.set_cons_zero, List.set_cons_succ]
                      refine wpAnyG_takeL (i := 1) (.bool false) [2, 8] rfl (by kernel_rfl) (fun _ _ _ h => h) hHeld (by rfl) ?_ ?_
                      · (intro W' hSw; (try dsimp only at hSw); go_simp)
                      try simp only [Act.put, List.setIfInBounds_toArray, List.set_cons_zero, List.set_cons_succ]
                      refine wpAnyG_takeL (i := 2) (.bool false) [8] rfl (by kernel_rfl) (fun _ _ _ h => h) hHeld (by rfl) ?_ ?_
                      · (intro W' hSw; (try dsimp only at hSw); go_simp)
                      try simp only [Act.put, List.setIfInBounds_toArray, List.set_cons_zero, List.set_cons_succ]
                      refine wpAnyG_dropL (i := 3) [4, 7, 8] rfl (by kernel_rfl) (fun _ _ _ h => h) hHeld (by rfl) ?_
                      try simp only [Act.put, List.setIfInBounds_toArray, List.set_cons_zero, List.set_cons_succ]
                      refine wpAnyG_dropL (i := 5) [6, 7, 8] rfl (by kernel_rfl) (fun _ _ _ h => h) hHeld (by rfl) ?_
                      try simp only [Act.put, List.setIfInBounds_toArray, List.set_cons_zero, List.set_cons_succ]
                      refine wpAnyG_dropL (i := 6) [7, 8] rfl (by kernel_rfl) (fun _ _ _ h => h) hHeld (by rfl) ?_
                      try simp only [Act.put, List.setIfInBounds_toArray, List.set_cons_zero, List.set_cons_succ]
                      clear hHeld
                      refine wpAnyG_oneL (i := 4) (by kernel_rfl) rfl (fun K hK => ?_)
                      refine hK.out _ _ (fun _ => (HF3.out _ hd)) ?_
                      clear hK K
                      try simp only [Act.put, List.setIfInBounds_toArray, List.set_cons_zero, List.set_cons_succ]
                      refine wpAnyG_oneL (i := 7) (by kernel_rfl) rfl (fun K hK => ?_)
                      refine hK.out _ _ (fun _ => (HF3.out _ hd)) ?_
                      clear hK K
                      try simp only [Act.put, List.setIfInBounds_toArray, List.set_cons_zero, List.set_cons_succ]
                      refine wpAnyG_oneL (i := 8) (by kernel_rfl) rfl (fun K hK => ?_)
                      go_simp
                      refine hK.out _ _ (fun h => Bool.noConfusion (show true = false from h)) ?_
                      clear hK K
                      refine wpAnyG_done (by kernel_rfl) ?_ _
                      gi_wp2
                      go_roundw
                      case rel => exact ⟨k + 1, by omega, by go_num, Lib.hid (HK1.out.trans (keepsU (Upd.drew (fun _ => False) _) fun _ _ h => h.elim)), Lib.hid (HK2.out.trans ((Upd.drew (fun _ => False) _).keep fun _ _ h => h)), Lib.hid (by rw [HSU.out, HBX.out, ← HNB.out]; exact HW3.out.below (Below.refl _ _).drew)⟩
                      case measure => simp [intOf]; omega
                    · generalize hMM : mostB b = MM at HF3 HEP HBS HM
                      have hzb : x.natAbs ≤ 1023 := by have := HQX.out; omega
                      generalize hz : x.natAbs = z at HZX HEP HBS hzb
                      by_cases hge : MM ≤ z
                      · have hdz : decide ((MM : Int) ≤ (z : Int)) = true := decide_eq_true (by omega)
                        have hdn : decide (MM ≤ z) = true := decide_eq_true hge
                        have HBX := Lib.hid (show besB b x = [decide (x < 0)] ++ gamB (z - MM + 1) by rw [HBS.out, HEP.out, hdn]; rfl)
                        have HGL2 := Lib.hid (show (P1 ++ (G.take k).flatMap (besB b)).length + 1 + (gamB (z - MM + 1)).length ≤ 1048576 by have := HB1.out; rw [HBX.out] at this; simp only [List.length_append, List.length_cons, List.length_nil] at this ⊢; omega)
                        have HPG := Lib.hid (fun W' (hb : Below W3.heap.size W3 W') => HW3.out.gamma hb (z - MM + 1) (by omega) (by omega) (by rw [HNB.out, List.length_append]; exact HGL2.out))
                        have hwa : IntKind.i64.wrap ((z : Int) - (MM : Int)) = ((z - MM : Nat) : Int) := by rw [Int.ofNat_sub hge]; exact IntWalk.i64_in _ (by omega)
                        obtain ⟨q, hq⟩ : ∃ q, z - MM = q := ⟨_, rfl⟩
                        have HQQ := Lib.hid hq
                        rw [hq] at HPG hwa
                        have hwb : IntKind.i64.wrap ((q : Int) + 1) = ((q + 1 : Nat) : Int) := by rw [Int.natCast_succ]; exact IntWalk.i64_in _ (by omega)
                        clear hge hq
                        refine wpIn_region_G 8 (fun W' => W'.cell? ⟨g9, 1, none⟩ = some (.int .i64 (MM : Nat)) ∧ W'.cell? ⟨g9, 2, none⟩ = some (.bool true) ∧ W'.cell? ⟨g3, 0, none⟩ = some (.pointer (some ⟨g, 0, none⟩))) (by kernel_rfl) (by kernel_rfl) (fun ⟨_, _, h⟩ => h) (HF3.out _ hd) (fun hHeld => ?_)
                        refine wpAnyG_takeL (i := 0) (.pointer (some ⟨g9, 2, none⟩)) [1, 2, 8] rfl (by kernel_rfl) (fun _ _ _ h => h) hHeld (by rfl) ?_ ?_
                        · (intro W' hSw; (try dsimp only at hSw); go_simp)
                        try simp only [Act.put, List.setIfInBounds_toArray, List.set_cons_zero, List.set_cons_succ]
                        refine wpAnyG_takeL (i := 1) (.bool true) [2, 8] rfl (by kernel_rfl) (fun _ _ _ h => h) hHeld (by rfl) ?_ ?_
                        · (intro W' hSw; (try dsimp only at hSw); go_simp)
                        try simp only [Act.put, List.setIfInBounds_toArray, List.set_cons_zero, List.set_cons_succ]
                        refine wpAnyG_takeL (i := 2) (.bool true) [8] rfl (by kernel_rfl) (fun _ _ _ h => h) hHeld (by rfl) ?_ ?_
                        · (intro W' hSw; (try dsimp only at hSw); go_simp)
                        try simp only [Act.put, List.setIfInBounds_toArray, List.set_cons_zero, List.set_cons_succ]
                        refine wpAnyG_takeL (i := 3) (.int .i64 x) [4, 7, 8] rfl (by kernel_rfl) (fun _ _ _ h => h) hHeld (by rfl) ?_ ?_
                        · (intro W' hSw; (try dsimp only at hSw); go_simp)
                        try simp only [Act.put, List.setIfInBounds_toArray, List.set_cons_zero, List.set_cons_succ]
                        refine wpAnyG_takeL (i := 5) (.pointer (some ⟨g9, 1, none⟩)) [6, 7, 8] rfl (by kernel_rfl) (fun _ _ _ h => h) hHeld (by rfl) ?_ ?_
                        · (intro W' hSw; (try dsimp only at hSw); go_simp)
                        try simp only [Act.put, List.setIfInBounds_toArray, List.set_cons_zero, List.set_cons_succ]
                        refine wpAnyG_takeL (i := 6) (.int .i64 (MM : Nat)) [7, 8] rfl (by kernel_rfl) (fun _ _ _ h => h) hHeld (by rfl) ?_ ?_
                        · (intro W' hSw; (try dsimp only at hSw); go_simp)
                        try simp only [Act.put, List.setIfInBounds_toArray, List.set_cons_zero, List.set_cons_succ]
                        clear hHeld
                        refine wpAnyG_oneL (i := 4) (by kernel_rfl) rfl (fun K hK => ?_)
                        (go_simp; go_at_call 64; refine (HZX.out _).mono ?_; rintro e w9 ⟨rfl, rfl⟩)
                        refine hK.out _ _ (fun _ => (HF3.out _ hd)) ?_
                        clear hK K
                        try simp only [Act.put, List.setIfInBounds_toArray, List.set_cons_zero, List.set_cons_succ]
                        refine wpAnyG_oneL (i := 7) (by kernel_rfl) rfl (fun K hK => ?_)
                        go_simp
                        refine hK.out _ _ (fun _ => (HF3.out _ hd)) ?_
                        clear hK K
                        try simp only [Act.put, List.setIfInBounds_toArray, List.set_cons_zero, List.set_cons_succ]
                        refine wpAnyG_oneL (i := 8) (by kernel_rfl) rfl (fun K hK => ?_)
                        go_simp
                        refine hK.out _ _ (fun h => Bool.noConfusion (show true = false from h)) ?_
                        clear hK K
                        refine wpAnyG_done (by kernel_rfl) ?_ _
                        gi_wp2
                        have hd2 := hd.trans (((Below.refl W3.drew.heap.size W3.drew).drew).mono (show W3.heap.size ≤ W3.drew.heap.size from Nat.le_refl _))
                        refine wpIn_region_G 7 (fun W' => W'.cell? ⟨g9, 1, none⟩ = some (.int .i64 (MM : Nat)) ∧ W'.cell? ⟨g9, 2, none⟩ = some (.bool true) ∧ W'.cell? ⟨g3, 0, none⟩ = some (.pointer (some ⟨g, 0, none⟩))) (by kernel_rfl) (by kernel_rfl) (fun ⟨_, _, h⟩ => h) (HF3.out _ hd2) (fun hHeld => ?_)
                        refine wpAnyG_takeL (i := 0) (.pointer (some ⟨g, 0, none⟩)) [7] rfl (by kernel_rfl) (fun _ _ _ h => h) hHeld (by rfl) ?_ ?_
                        · (intro W' hSw; (try dsimp only at hSw); go_simp)
                        try simp only [Act.put, List.setIfInBounds_toArray, List.set_cons_zero, List.set_cons_succ]
                        refine wpAnyG_takeL (i := 1) (.int .i64 x) [2, 7] rfl (by kernel_rfl) (fun _ _ _ h => h) hHeld (by rfl) ?_ ?_
                        · (intro W' hSw; (try dsimp only at hSw); go_simp)
                        try simp only [Act.put, List.setIfInBounds_toArray, List.set_cons_zero, List.set_cons_succ]
                        refine wpAnyG_takeL (i := 3) (.pointer (some ⟨g9, 1, none⟩)) [4, 5, 6, 7] rfl (by kernel_rfl) (fun _ _ _ h => h) hHeld (by rfl) ?_ ?_
                        · (intro W' hSw; (try dsimp only at hSw); go_simp)
                        try simp only [Act.put, List.setIfInBounds_toArray, List.set_cons_zero, List.set_cons_succ]
                        refine wpAnyG_takeL (i := 4) (.int .i64 (MM : Nat)) [5, 6, 7] rfl (by kernel_rfl) (fun _ _ _ h => h) hHeld (by rfl) ?_ ?_
                        · (intro W' hSw; (try dsimp only at hSw); go_simp)
                        try simp only [Act.put, List.setIfInBounds_toArray, List.set_cons_zero, List.set_cons_succ]
                        clear hHeld
                        refine wpAnyG_oneL (i := 2) (by kernel_rfl) rfl (fun K hK => ?_)
                        (go_simp; go_at_call 64; refine (HZX.out _).mono ?_; rintro e w9 ⟨rfl, rfl⟩)
                        refine hK.out _ _ (fun _ => (HF3.out _ hd2)) ?_
                        clear hK K
                        try simp only [Act.put, List.setIfInBounds_toArray, List.set_cons_zero, List.set_cons_succ]
                        refine wpAnyG_oneL (i := 5) (by kernel_rfl) rfl (fun K hK => ?_)
                        go_simp
                        refine hK.out _ _ (fun _ => (HF3.out _ hd2)) ?_
                        clear hK K
                        try simp only [Act.put, List.setIfInBounds_toArray, List.set_cons_zero, List.set_cons_succ]
                        refine wpAnyG_oneL (i := 6) (by kernel_rfl) rfl (fun K hK => ?_)
                        go_simp
                        refine hK.out _ _ (fun _ => (HF3.out _ hd2)) ?_
                        clear hK K
                        try simp only [Act.put, List.setIfInBounds_toArray, List.set_cons_zero, List.set_cons_succ]
                        refine wpAnyG_oneL (i := 7) (by kernel_rfl) rfl (fun K hK => ?_)
                        (go_simp; go_at_call 32; refine (HPG.out _ hd2).mono ?_; rintro e w9 ⟨⟨E2, rfl⟩, hk3, hk4, hw4⟩)
                        refine hK.out _ _ (fun h => Bool.noConfusion (show true = false from h)) ?_
                        clear hK K
                        refine wpAnyG_done (by kernel_rfl) ?_ _
                        gi_wp2
                        go_roundw
                        case rel => exact ⟨k + 1, by omega, by go_num, Lib.hid (HK1.out.trans hk3), Lib.hid (HK2.out.trans hk4), Lib.hid (by rw [HSU.out, HBX.out, HQQ.out, ← HNB.out, ← List.append_assoc]; exact hw4)⟩
                        case measure => simp [intOf]; omega
                      · have hdz : decide ((MM : Int) ≤ (z : Int)) = false := decide_eq_false (by omega)
                        have hdn : decide (MM ≤ z) = false := decide_eq_false hge
                        have HBX := Lib.hid (show besB b x = [decide (x < 0)] by rw [HBS.out, HEP.out, hdn]; rfl)
                        clear hge
                        refine wpIn_region_G 8 (fun W' => W'.cell? ⟨g9, 1, none⟩ = some (.int .i64 (MM : Nat)) ∧ W'.cell? ⟨g9, 2, none⟩ = some (.bool true) ∧ W'.cell? ⟨g3, 0, none⟩ = some (.pointer (some ⟨g, 0, none⟩))) (by kernel_rfl) (by kernel_rfl) (fun ⟨_, _, h⟩ => h) (HF3.out _ hd) (fun hHeld => ?_)
                        refine wpAnyG_takeL (i := 0) (.pointer (some ⟨g9, 2, none⟩)) [1, 2, 8] rfl (by kernel_rfl) (fun _ _ _ h => h) hHeld (by rfl) ?_ ?_
                        · (intro W' hSw; (try dsimp only at hSw); go_simp)
                        try simp only [Act.put, List.setIfInBounds_toArray, List.set_cons_zero, List.set_cons_succ]
                        refine wpAnyG_takeL (i := 1) (.bool true) [2, 8] rfl (by kernel_rfl) (fun _ _ _ h => h) hHeld (by rfl) ?_ ?_
                        · (intro W' hSw; (try dsimp only at hSw); go_simp)
                        try simp only [Act.put, List.setIfInBounds_toArray, List.set_cons_zero, List.set_cons_succ]
                        refine wpAnyG_takeL (i := 2) (.bool true) [8] rfl (by kernel_rfl) (fun _ _ _ h => h) hHeld (by rfl) ?_ ?_
                        · (intro W' hSw; (try dsimp only at hSw); go_simp)
                        try simp only [Act.put, List.setIfInBounds_toArray, List.set_cons_zero, List.set_cons_succ]
                        refine wpAnyG_takeL (i := 3) (.int .i64 x) [4, 7, 8] rfl (by kernel_rfl) (fun _ _ _ h => h) hHeld (by rfl) ?_ ?_
                        · (intro W' hSw; (try dsimp only at hSw); go_simp)
                        try simp only [Act.put, List.setIfInBounds_toArray, List.set_cons_zero, List.set_cons_succ]
                        refine wpAnyG_takeL (i := 5) (.pointer (some ⟨g9, 1, none⟩)) [6, 7, 8] rfl (by kernel_rfl) (fun _ _ _ h => h) hHeld (by rfl) ?_ ?_
                        · (intro W' hSw; (try dsimp only at hSw); go_simp)
                        try simp only [Act.put, List.setIfInBounds_toArray, List.set_cons_zero, List.set_cons_succ]
                        refine wpAnyG_takeL (i := 6) (.int .i64 (MM : Nat)) [7, 8] rfl (by kernel_rfl) (fun _ _ _ h => h) hHeld (by rfl) ?_ ?_
                        · (intro W' hSw; (try dsimp only at hSw); go_simp)
                        try simp only [Act.put, List.setIfInBounds_toArray, List.set_cons_zero, List.set_cons_succ]
                        clear hHeld
                        refine wpAnyG_oneL (i := 4) (by kernel_rfl) rfl (fun K hK => ?_)
                        (go_simp; go_at_call 64; refine (HZX.out _).mono ?_; rintro e w9 ⟨rfl, rfl⟩)
                        refine hK.out _ _ (fun _ => (HF3.out _ hd)) ?_
                        clear hK K
                        try simp only [Act.put, List.setIfInBounds_toArray, List.set_cons_zero, List.set_cons_succ]
                        refine wpAnyG_oneL (i := 7) (by kernel_rfl) rfl (fun K hK => ?_)
                        go_simp
                        refine hK.out _ _ (fun _ => (HF3.out _ hd)) ?_
                        clear hK K
                        try simp only [Act.put, List.setIfInBounds_toArray, List.set_cons_zero, List.set_cons_succ]
                        refine wpAnyG_oneL (i := 8) (by kernel_rfl) rfl (fun K hK => ?_)
                        go_simp
                        refine hK.out _ _ (fun h => Bool.noConfusion (show true = false from h)) ?_
                        clear hK K
                        refine wpAnyG_done (by kernel_rfl) ?_ _
                        gi_wp2
                        go_roundw
                        case rel => exact ⟨k + 1, by omega, by go_num, Lib.hid (HK1.out.trans (keepsU (Upd.drew (fun _ => False) _) fun _ _ h => h.elim)), Lib.hid (HK2.out.trans ((Upd.drew (fun _ => False) _).keep fun _ _ h => h)), Lib.hid (by rw [HSU.out, HBX.out, ← HNB.out]; exact HW3.out.below (Below.refl _ _).drew)⟩
                        case measure => simp [intOf]; omega
                  · have HD0 := Lib.hid (show decide (x < 0) = false from decide_eq_false hneg)
                    have hdx : decide (x < 0) = false := decide_eq_false hneg
                    clear hneg
                    have HNB := Lib.hid (show numB 0 1 = [decide (x < 0)] by rw [HD0.out]; rfl)
                    have HPT := Lib.hid (fun W' (hb : Below wr.heap.size wr W') => hC.out.put hb 0 1 (by decide) (by decide) (by have := HB1'.out; omega))
                    rw [show ((0 : Nat) : Int) = 0 from rfl, show ((1 : Nat) : Int) = 1 from rfl] at HPT
                    gi_upto_region 23 with (refine ⟨trivial, ?_⟩; gi_at_call 31; refine (CallsIn.inRound r (callsIn_wide.2 (HPT.out _ (Below.refl _ _)))).mono ?_; rintro e W3 ⟨⟨E, rfl⟩, hk1, hk2, hw3⟩)
                    have C3 := B3.keep hk2 (HOK3.out)
                    have C9 := B9.keep hk2 (HOK9.out)
                    have HC3 := Lib.hid C3
                    have HC9 := Lib.hid C9
                    have HK1 := Lib.hid (hK1.out.trans hk1)
                    have HK2 := Lib.hid (hK2.out.trans hk2)
                    have HW3 := Lib.hid hw3
                    have HZX := Lib.hid (fun W => size_same x W (by have := HQX.out; omega))
                    have HM := Lib.hid (mostB_le b)
                    have hd := (Below.refl W3.heap.size W3).drew
                    have HF3 := Lib.hid (show ∀ W', Below W3.heap.size W3 W' → (W'.cell? ⟨g9, 1, none⟩ = some (.int .i64 (mostB b)) ∧ W'.cell? ⟨g9, 2, none⟩ = some (.bool (escB b)) ∧ W'.cell? ⟨g3, 0, none⟩ = some (.pointer (some ⟨g, 0, none⟩))) from fun W' hb => ⟨(HC9.out.below hb).cell 1 rfl, (HC9.out.below hb).cell 2 rfl, (HC3.out.below hb).cell 0 rfl⟩)
                    clear hk1 hk2 hw3 C3 C9 k3 k90 k91 k92 hc HPT
                    generalize hE : escB b = ee at HF3 HEP
                    cases ee
                    · have HBX := Lib.hid (show besB b x = [decide (x < 0)] by rw [HBS.out, HEP.out]; rfl)
                      refine wpIn_region_G 8 (fun W' => W'.cell? ⟨g9, 1, none⟩ = some (.int .i64 (mostB b)) ∧ W'.cell? ⟨g9, 2, none⟩ = some (.bool false) ∧ W'.cell? ⟨g3, 0, none⟩ = some (.pointer (some ⟨g, 0, none⟩))) (by kernel_rfl) (by kernel_rfl) (fun ⟨_, _, h⟩ => h) (HF3.out _ hd) (fun hHeld => ?_)
                      refine wpAnyG_takeL (i := 0) (.pointer (some ⟨g9, 2, none⟩)) [1, 2, 8] rfl (by kernel_rfl) (fun _ _ _ h => h) hHeld (by rfl) ?_ ?_
                      · (intro W' hSw; (try dsimp only at hSw); go_simp)
                      try simp only [Act.put, List.setIfInBounds_toArray, List.set_cons_zero, List.set_cons_succ]
                      refine wpAnyG_takeL (i := 1) (.bool false) [2, 8] rfl (by kernel_rfl) (fun _ _ _ h => h) hHeld (by rfl) ?_ ?_
                      · (intro W' hSw; (try dsimp only at hSw); go_simp)
                      try simp only [Act.put, List.setIfInBounds_toArray, List.set_cons_zero, List.set_cons_succ]
                      refine wpAnyG_takeL (i := 2) (.bool false) [8] rfl (by kernel_rfl) (fun _ _ _ h => h) hHeld (by rfl) ?_ ?_
                      · (intro W' hSw; (try dsimp only at hSw); go_simp)
                      try simp only [Act.put, List.setIfInBounds_toArray, List.set_cons_zero, List.set_cons_succ]
                      refine wpAnyG_dropL (i := 3) [4, 7, 8] rfl (by kernel_rfl) (fun _ _ _ h => h) hHeld (by rfl) ?_
                      try simp only [Act.put, List.setIfInBounds_toArray, List.set_cons_zero, List.set_cons_succ]
                      refine wpAnyG_dropL (i := 5) [6, 7, 8] rfl (by kernel_rfl) (fun _ _ _ h => h) hHeld (by rfl) ?_
                      try simp only [Act.put, List.setIfInBounds_toArray, List.set_cons_zero, List.set_cons_succ]
                      refine wpAnyG_dropL (i := 6) [7, 8] rfl (by kernel_rfl) (fun _ _ _ h => h) hHeld (by rfl) ?_
                      try simp only [Act.put, List.setIfInBounds_toArray, List.set_cons_zero, List.set_cons_succ]
                      clear hHeld
                      refine wpAnyG_oneL (i := 4) (by kernel_rfl) rfl (fun K hK => ?_)
                      refine hK.out _ _ (fun _ => (HF3.out _ hd)) ?_
                      clear hK K
                      try simp only [Act.put, List.setIfInBounds_toArray, List.set_cons_zero, List.set_cons_succ]
                      refine wpAnyG_oneL (i := 7) (by kernel_rfl) rfl (fun K hK => ?_)
                      refine hK.out _ _ (fun _ => (HF3.out _ hd)) ?_
                      clear hK K
                      try simp only [Act.put, List.setIfInBounds_toArray, List.set_cons_zero, List.set_cons_succ]
                      refine wpAnyG_oneL (i := 8) (by kernel_rfl) rfl (fun K hK => ?_)
                      go_simp
                      refine hK.out _ _ (fun h => Bool.noConfusion (show true = false from h)) ?_
                      clear hK K
                      refine wpAnyG_done (by kernel_rfl) ?_ _
                      gi_wp2
                      go_roundw
                      case rel => exact ⟨k + 1, by omega, by go_num, Lib.hid (HK1.out.trans (keepsU (Upd.drew (fun _ => False) _) fun _ _ h => h.elim)), Lib.hid (HK2.out.trans ((Upd.drew (fun _ => False) _).keep fun _ _ h => h)), Lib.hid (by rw [HSU.out, HBX.out, ← HNB.out]; exact HW3.out.below (Below.refl _ _).drew)⟩
                      case measure => simp [intOf]; omega
                    · generalize hMM : mostB b = MM at HF3 HEP HBS HM
                      have hzb : x.natAbs ≤ 1023 := by have := HQX.out; omega
                      generalize hz : x.natAbs = z at HZX HEP HBS hzb
                      by_cases hge : MM ≤ z
                      · have hdz : decide ((MM : Int) ≤ (z : Int)) = true := decide_eq_true (by omega)
                        have hdn : decide (MM ≤ z) = true := decide_eq_true hge
                        have HBX := Lib.hid (show besB b x = [decide (x < 0)] ++ gamB (z - MM + 1) by rw [HBS.out, HEP.out, hdn]; rfl)
                        have HGL2 := Lib.hid (show (P1 ++ (G.take k).flatMap (besB b)).length + 1 + (gamB (z - MM + 1)).length ≤ 1048576 by have := HB1.out; rw [HBX.out] at this; simp only [List.length_append, List.length_cons, List.length_nil] at this ⊢; omega)
                        have HPG := Lib.hid (fun W' (hb : Below W3.heap.size W3 W') => HW3.out.gamma hb (z - MM + 1) (by omega) (by omega) (by rw [HNB.out, List.length_append]; exact HGL2.out))
                        have hwa : IntKind.i64.wrap ((z : Int) - (MM : Int)) = ((z - MM : Nat) : Int) := by rw [Int.ofNat_sub hge]; exact IntWalk.i64_in _ (by omega)
                        obtain ⟨q, hq⟩ : ∃ q, z - MM = q := ⟨_, rfl⟩
                        have HQQ := Lib.hid hq
                        rw [hq] at HPG hwa
                        have hwb : IntKind.i64.wrap ((q : Int) + 1) = ((q + 1 : Nat) : Int) := by rw [Int.natCast_succ]; exact IntWalk.i64_in _ (by omega)
                        clear hge hq
                        refine wpIn_region_G 8 (fun W' => W'.cell? ⟨g9, 1, none⟩ = some (.int .i64 (MM : Nat)) ∧ W'.cell? ⟨g9, 2, none⟩ = some (.bool true) ∧ W'.cell? ⟨g3, 0, none⟩ = some (.pointer (some ⟨g, 0, none⟩))) (by kernel_rfl) (by kernel_rfl) (fun ⟨_, _, h⟩ => h) (HF3.out _ hd) (fun hHeld => ?_)
                        refine wpAnyG_takeL (i := 0) (.pointer (some ⟨g9, 2, none⟩)) [1, 2, 8] rfl (by kernel_rfl) (fun _ _ _ h => h) hHeld (by rfl) ?_ ?_
                        · (intro W' hSw; (try dsimp only at hSw); go_simp)
                        try simp only [Act.put, List.setIfInBounds_toArray, List.set_cons_zero, List.set_cons_succ]
                        refine wpAnyG_takeL (i := 1) (.bool true) [2, 8] rfl (by kernel_rfl) (fun _ _ _ h => h) hHeld (by rfl) ?_ ?_
                        · (intro W' hSw; (try dsimp only at hSw); go_simp)
                        try simp only [Act.put, List.setIfInBounds_toArray, List.set_cons_zero, List.set_cons_succ]
                        refine wpAnyG_takeL (i := 2) (.bool true) [8] rfl (by kernel_rfl) (fun _ _ _ h => h) hHeld (by rfl) ?_ ?_
                        · (intro W' hSw; (try dsimp only at hSw); go_simp)
                        try simp only [Act.put, List.setIfInBounds_toArray, List.set_cons_zero, List.set_cons_succ]
                        refine wpAnyG_takeL (i := 3) (.int .i64 x) [4, 7, 8] rfl (by kernel_rfl) (fun _ _ _ h => h) hHeld (by rfl) ?_ ?_
                        · (intro W' hSw; (try dsimp only at hSw); go_simp)
                        try simp only [Act.put, List.setIfInBounds_toArray, List.set_cons_zero, List.set_cons_succ]
                        refine wpAnyG_takeL (i := 5) (.pointer (some ⟨g9, 1, none⟩)) [6, 7, 8] rfl (by kernel_rfl) (fun _ _ _ h => h) hHeld (by rfl) ?_ ?_
                        · (intro W' hSw; (try dsimp only at hSw); go_simp)
                        try simp only [Act.put, List.setIfInBounds_toArray, List.set_cons_zero, List.set_cons_succ]
                        refine wpAnyG_takeL (i := 6) (.int .i64 (MM : Nat)) [7, 8] rfl (by kernel_rfl) (fun _ _ _ h => h) hHeld (by rfl) ?_ ?_
                        · (intro W' hSw; (try dsimp only at hSw); go_simp)
                        try simp only [Act.put, List.setIfInBounds_toArray, List.set_cons_zero, List.set_cons_succ]
                        clear hHeld
                        refine wpAnyG_oneL (i := 4) (by kernel_rfl) rfl (fun K hK => ?_)
                        (go_simp; go_at_call 64; refine (HZX.out _).mono ?_; rintro e w9 ⟨rfl, rfl⟩)
                        refine hK.out _ _ (fun _ => (HF3.out _ hd)) ?_
                        clear hK K
                        try simp only [Act.put, List.setIfInBounds_toArray, List.set_cons_zero, List.set_cons_succ]
                        refine wpAnyG_oneL (i := 7) (by kernel_rfl) rfl (fun K hK => ?_)
                        go_simp
                        refine hK.out _ _ (fun _ => (HF3.out _ hd)) ?_
                        clear hK K
                        try simp only [Act.put, List.setIfInBounds_toArray, List.set_cons_zero, List.set_cons_succ]
                        refine wpAnyG_oneL (i := 8) (by kernel_rfl) rfl (fun K hK => ?_)
                        go_simp
                        refine hK.out _ _ (fun h => Bool.noConfusion (show true = false from h)) ?_
                        clear hK K
                        refine wpAnyG_done (by kernel_rfl) ?_ _
                        gi_wp2
                        have hd2 := hd.trans (((Below.refl W3.drew.heap.size W3.drew).drew).mono (show W3.heap.size ≤ W3.drew.heap.size from Nat.le_refl _))
                        refine wpIn_region_G 7 (fun W' => W'.cell? ⟨g9, 1, none⟩ = some (.int .i64 (MM : Nat)) ∧ W'.cell? ⟨g9, 2, none⟩ = some (.bool true) ∧ W'.cell? ⟨g3, 0, none⟩ = some (.pointer (some ⟨g, 0, none⟩))) (by kernel_rfl) (by kernel_rfl) (fun ⟨_, _, h⟩ => h) (HF3.out _ hd2) (fun hHeld => ?_)
                        refine wpAnyG_takeL (i := 0) (.pointer (some ⟨g, 0, none⟩)) [7] rfl (by kernel_rfl) (fun _ _ _ h => h) hHeld (by rfl) ?_ ?_
                        · (intro W' hSw; (try dsimp only at hSw); go_simp)
                        try simp only [Act.put, List.setIfInBounds_toArray, List.set_cons_zero, List.set_cons_succ]
                        refine wpAnyG_takeL (i := 1) (.int .i64 x) [2, 7] rfl (by kernel_rfl) (fun _ _ _ h => h) hHeld (by rfl) ?_ ?_
                        · (intro W' hSw; (try dsimp only at hSw); go_simp)
                        try simp only [Act.put, List.setIfInBounds_toArray, List.set_cons_zero, List.set_cons_succ]
                        refine wpAnyG_takeL (i := 3) (.pointer (some ⟨g9, 1, none⟩)) [4, 5, 6, 7] rfl (by kernel_rfl) (fun _ _ _ h => h) hHeld (by rfl) ?_ ?_
                        · (intro W' hSw; (try dsimp only at hSw); go_simp)
                        try simp only [Act.put, List.setIfInBounds_toArray, List.set_cons_zero, List.set_cons_succ]
                        refine wpAnyG_takeL (i := 4) (.int .i64 (MM : Nat)) [5, 6, 7] rfl (by kernel_rfl) (fun _ _ _ h => h) hHeld (by rfl) ?_ ?_
                        · (intro W' hSw; (try dsimp only at hSw); go_simp)
                        try simp only [Act.put, List.setIfInBounds_toArray, List.set_cons_zero, List.set_cons_succ]
                        clear hHeld
                        refine wpAnyG_oneL (i := 2) (by kernel_rfl) rfl (fun K hK => ?_)
                        (go_simp; go_at_call 64; refine (HZX.out _).mono ?_; rintro e w9 ⟨rfl, rfl⟩)
                        refine hK.out _ _ (fun _ => (HF3.out _ hd2)) ?_
                        clear hK K
                        try simp only [Act.put, List.setIfInBounds_toArray, List.set_cons_zero, List.set_cons_succ]
                        refine wpAnyG_oneL (i := 5) (by kernel_rfl) rfl (fun K hK => ?_)
                        go_simp
                        refine hK.out _ _ (fun _ => (HF3.out _ hd2)) ?_
                        clear hK K
                        try simp only [Act.put, List.setIfInBounds_toArray, List.set_cons_zero, List.set_cons_succ]
                        refine wpAnyG_oneL (i := 6) (by kernel_rfl) rfl (fun K hK => ?_)
                        go_simp
                        refine hK.out _ _ (fun _ => (HF3.out _ hd2)) ?_
                        clear hK K
                        try simp only [Act.put, List.setIfInBounds_toArray, List.set_cons_zero, List.set_cons_succ]
                        refine wpAnyG_oneL (i := 7) (by kernel_rfl) rfl (fun K hK => ?_)
                        (go_simp; go_at_call 32; refine (HPG.out _ hd2).mono ?_; rintro e w9 ⟨⟨E2, rfl⟩, hk3, hk4, hw4⟩)
                        refine hK.out _ _ (fun h => Bool.noConfusion (show true = false from h)) ?_
                        clear hK K
                        refine wpAnyG_done (by kernel_rfl) ?_ _
                        gi_wp2
                        go_roundw
                        case rel => exact ⟨k + 1, by omega, by go_num, Lib.hid (HK1.out.trans hk3), Lib.hid (HK2.out.trans hk4), Lib.hid (by rw [HSU.out, HBX.out, HQQ.out, ← HNB.out, ← List.append_assoc]; exact hw4)⟩
                        case measure => simp [intOf]; omega
                      · have hdz : decide ((MM : Int) ≤ (z : Int)) = false := decide_eq_false (by omega)
                        have hdn : decide (MM ≤ z) = false := decide_eq_false hge
                        have HBX := Lib.hid (show besB b x = [decide (x < 0)] by rw [HBS.out, HEP.out, hdn]; rfl)
                        clear hge
                        refine wpIn_region_G 8 (fun W' => W'.cell? ⟨g9, 1, none⟩ = some (.int .i64 (MM : Nat)) ∧ W'.cell? ⟨g9, 2, none⟩ = some (.bool true) ∧ W'.cell? ⟨g3, 0, none⟩ = some (.pointer (some ⟨g, 0, none⟩))) (by kernel_rfl) (by kernel_rfl) (fun ⟨_, _, h⟩ => h) (HF3.out _ hd) (fun hHeld => ?_)
                        refine wpAnyG_takeL (i := 0) (.pointer (some ⟨g9, 2, none⟩)) [1, 2, 8] rfl (by kernel_rfl) (fun _ _ _ h => h) hHeld (by rfl) ?_ ?_
                        · (intro W' hSw; (try dsimp only at hSw); go_simp)
                        try simp only [Act.put, List.setIfInBounds_toArray, List.set_cons_zero, List.set_cons_succ]
                        refine wpAnyG_takeL (i := 1) (.bool true) [2, 8] rfl (by kernel_rfl) (fun _ _ _ h => h) hHeld (by rfl) ?_ ?_
                        · (intro W' hSw; (try dsimp only at hSw); go_simp)
                        try simp only [Act.put, List.setIfInBounds_toArray, List.set_cons_zero, List.set_cons_succ]
                        refine wpAnyG_takeL (i := 2) (.bool true) [8] rfl (by kernel_rfl) (fun _ _ _ h => h) hHeld (by rfl) ?_ ?_
                        · (intro W' hSw; (try dsimp only at hSw); go_simp)
                        try simp only [Act.put, List.setIfInBounds_toArray, List.set_cons_zero, List.set_cons_succ]
                        refine wpAnyG_takeL (i := 3) (.int .i64 x) [4, 7, 8] rfl (by kernel_rfl) (fun _ _ _ h => h) hHeld (by rfl) ?_ ?_
                        · (intro W' hSw; (try dsimp only at hSw); go_simp)
                        try simp only [Act.put, List.setIfInBounds_toArray, List.set_cons_zero, List.set_cons_succ]
                        refine wpAnyG_takeL (i := 5) (.pointer (some ⟨g9, 1, none⟩)) [6, 7, 8] rfl (by kernel_rfl) (fun _ _ _ h => h) hHeld (by rfl) ?_ ?_
                        · (intro W' hSw; (try dsimp only at hSw); go_simp)
                        try simp only [Act.put, List.setIfInBounds_toArray, List.set_cons_zero, List.set_cons_succ]
                        refine wpAnyG_takeL (i := 6) (.int .i64 (MM : Nat)) [7, 8] rfl (by kernel_rfl) (fun _ _ _ h => h) hHeld (by rfl) ?_ ?_
                        · (intro W' hSw; (try dsimp only at hSw); go_simp)
                        try simp only [Act.put, List.setIfInBounds_toArray, List.set_cons_zero, List.set_cons_succ]
                        clear hHeld
                        refine wpAnyG_oneL (i := 4) (by kernel_rfl) rfl (fun K hK => ?_)
                        (go_simp; go_at_call 64; refine (HZX.out _).mono ?_; rintro e w9 ⟨rfl, rfl⟩)
                        refine hK.out _ _ (fun _ => (HF3.out _ hd)) ?_
                        clear hK K
                        try simp only [Act.put, List.setIfInBounds_toArray, List.set_cons_zero, List.set_cons_succ]
                        refine wpAnyG_oneL (i := 7) (by kernel_rfl) rfl (fun K hK => ?_)
                        go_simp
                        refine hK.out _ _ (fun _ => (HF3.out _ hd)) ?_
                        clear hK K
                        try simp only [Act.put, List.setIfInBounds_toArray, List.set_cons_zero, List.set_cons_succ]
                        refine wpAnyG_oneL (i := 8) (by kernel_rfl) rfl (fun K hK => ?_)
                        go_simp
                        refine hK.out _ _ (fun h => Bool.noConfusion (show true = false from h)) ?_
                        clear hK K
                        refine wpAnyG_done (by kernel_rfl) ?_ _
                        gi_wp2
                        go_roundw
                        case rel => exact ⟨k + 1, by omega, by go_num, Lib.hid (HK1.out.trans (keepsU (Upd.drew (fun _ => False) _) fun _ _ h => h.elim)), Lib.hid (HK2.out.trans ((Upd.drew (fun _ => False) _).keep fun _ _ h => h)), Lib.hid (by rw [HSU.out, HBX.out, ← HNB.out]; exact HW3.out.below (Below.refl _ _).drew)⟩
                        case measure => simp [intOf]; omega
              · obtain rfl : k = dimB b := by omega
                rw [HFULL.out] at hC
                gi_wp2
                refine ⟨hK1.out, hK2.out, ?_⟩
                show BwI o W0 g (bs ++ lstB b l (pre ++ [j]).length) wr
                rw [HJ.out]
                exact hC.out
        case done =>
          rintro D xs W hD rfl hs hK
          gi_wp2
          refine ⟨by simp, .inl ⟨_, _, rfl, run_takeDeferred hK, ?_⟩⟩
          have hO : Other W (some D) := fun r e => by cases e; exact ⟨_, hK, rfl⟩
          have hu := hs.upd.trans (Upd.of_grown (o := fun b => b = D) (grownBy_putObj' W D (.deferred none)) (fun r e => by cases e; rfl)) (fun b hb e => by omega)
          refine ⟨_, results_tmp rfl _ _ _, by rw [HX.out, HF.out.1]; rfl, ?_, (Upd.of_below HB0.out o).trans hu (fun _ _ h => h)⟩
          rw [HXW.out, HF.out.2]
          have hwr := hs.wr
          rw [List.length_range] at hwr
          exact (hwr.firm (grownBy_putObj' W D _) hO).weak (fun b _ h => h.imp id (fun h => by have := HN.out; have := HB0.out.size; omega))
  · have hEb : ((bkC n l).2 != 0) = true := by simp [hE]
    have HX := Lib.hid (show writeK n l bs.length = (bkC n l).2 by unfold writeK; rw [if_pos hE])
    have HF := Lib.hid (show fullB bs (bkW n l) = bs by unfold bkW; rw [if_pos hE]; exact fullB_nil bs hl)
    generalize bkC n l = z at *
    clear hE hS hG hT h hba
    go_enter Tryz.func34, Tryz.ntmps34
    go_wp2_with (go_at_call 54; refine HC.out.mono ?_; rintro e W2 ⟨rfl, b2⟩; have HB2 := Lib.hid (below2 HBA.out b2))
    go_ret
    exact ⟨by rw [HX.out]; rfl, by rw [HF.out]; exact (H.out.below HB2.out).weak fun b _ h => .inl h, Upd.of_below HB2.out o⟩
theorem bwrite_any (o : Nat → Prop) (g : Nat) (A : Option Addr) (c : Nat) (n : Int) (bs : List Bool) (l : List Int) (w : World) (h : Wr o w g bs) (hl : bs.length ≤ 1048576)
    (hS : Sl (kInt .i64) (fun b => ¬ o b) w A c l) (hG : GF w) (hT : GT w) (hlm : l.length ≤ 1000000) :
    Calls Tryz.prog 34 #[.pointer (some ⟨g, 0, none⟩), .int .i64 n, .slice A l.length c] w
      fun e w' => e = .returned (.int .i64 (writeK n l bs.length)) ∧ Wr (fun b => o b ∨ w.heap.size ≤ b) w' g (fullB bs (bkW n l)) ∧ Upd o w w' :=
  (bwrite0 (fun b => o b ∧ b < w.heap.size) g A c n bs l w (fun _ h => h.2) h.cut hl (hS.weak fun _ _ h k => h k.1) hG hT hlm).mono
    fun _ _ ⟨h1, h2, h3⟩ => ⟨h1, h2.weak (fun _ _ h => h.imp And.left id), h3.weak (fun _ _ h => h.1)⟩
end Go.Proofs.YtmcdgmiheklbeaaGreatDoor

namespace Go.Proofs.YtmcdgmiheklbeaaGreatDoor
open Go.RowKit

theorem before_last {ls : List Int} (h16 : ∀ k, lenOf ls k ≤ 16) {A : List Nat} {p : Nat} (h : ordN ls = A ++ [p]) : before ls p + share (lenOf ls p) = filledN ls := by
  have hs := ordN_sorted ls
  have hmem : ∀ k, k ∈ ordN ls ↔ _ := mem_ordN h16
  have hp : p < ls.length ∧ 0 < lenOf ls p := (hmem p).1 (by rw [h]; simp)
  rw [h] at hs
  have hs2 := List.pairwise_append.1 hs
  refine sumTo_one (m := p) hp.1 (fun k hk hne => ?_) (by rw [if_neg (by rw [ltW_irrefl]; simp)]; omega)
  by_cases hk0 : 0 < lenOf ls k
  · have hm : k ∈ ordN ls := (hmem k).2 ⟨hk, hk0⟩
    rw [h] at hm
    rcases List.mem_append.1 hm with hm | hm
    · rw [if_pos (hs2.2.2 k hm p (by simp))]
    · exact absurd (List.mem_singleton.1 hm) hne
  · have hz : share (lenOf ls k) = 0 := by unfold share; rw [if_pos (by omega)]
    rw [hz]; split <;> rfl
theorem cover {ls : List Int} (h16 : ∀ k, lenOf ls k ≤ 16) (hf : filledN ls = 65536) {v : Nat} (hv : v < 65536) : ∃ i, i < ls.length ∧ 0 < lenOf ls i ∧ before ls i ≤ v ∧ v < before ls i + share (lenOf ls i) := by
  have go : ∀ (B A : List Nat) (p : Nat), ordN ls = A ++ p :: B → before ls p ≤ v → ∃ i, i < ls.length ∧ 0 < lenOf ls i ∧ before ls i ≤ v ∧ v < before ls i + share (lenOf ls i) := by
    intro B
    induction B with
    | nil =>
      intro A p h hb
      have hp := (mem_ordN h16 p).1 (by rw [h]; simp)
      have := before_last h16 h
      exact ⟨p, hp.1, hp.2, hb, by omega⟩
    | cons i B ih =>
      intro A p h hb
      have hp := (mem_ordN h16 p).1 (by rw [h]; simp)
      have hn := before_next h16 h
      rcases Nat.lt_or_ge v (before ls p + share (lenOf ls p)) with h1 | h1
      · exact ⟨p, hp.1, hp.2, hb, h1⟩
      · exact ih (A ++ [p]) i (by rw [h]; simp) (by omega)
  cases ho : ordN ls with
  | nil =>
    exfalso
    have : filledN ls = sumTo ls.length fun _ => 0 := by
      refine sumTo_congr fun k hk => ?_
      by_cases hk0 : 0 < lenOf ls k
      · have := (mem_ordN h16 k).2 ⟨hk, hk0⟩; rw [ho] at this; cases this
      · unfold share; rw [if_pos (by omega)]
    have hz : ∀ n, sumTo n (fun _ => 0) = 0 := fun n => by induction n with
      | zero => rfl
      | succ n ih => rw [sumTo_succ, ih]
    rw [this, hz] at hf; cases hf
  | cons p B => exact go B [] p ho (by rw [before_first h16 ho]; exact Nat.zero_le _)
/-- A number in n bits, filled up to 16: it begins with a word, or is the beginning of one. -/
theorem cover_bits {ls : List Int} (h16 : ∀ k, lenOf ls k ≤ 16) (hf : filledN ls = 65536) {n x : Nat} (hn : n ≤ 16) (hx : x < 2 ^ n) :
    ∃ i, i < ls.length ∧ 0 < lenOf ls i ∧ (lenOf ls i ≤ n ∧ codeN ls i = x / 2 ^ (n - lenOf ls i) ∨ n < lenOf ls i ∧ codeN ls i / 2 ^ (lenOf ls i - n) = x) := by
  have hp : 2 ^ n * 2 ^ (16 - n) = 65536 := by rw [← Nat.pow_add, show n + (16 - n) = 16 by omega]
  have hq : 0 < 2 ^ (16 - n) := Nat.two_pow_pos _
  have hv : x * 2 ^ (16 - n) < 65536 := by rw [← hp]; exact Nat.mul_lt_mul_of_pos_right hx hq
  obtain ⟨i, hi, hl, h1, h2⟩ := cover h16 hf hv
  have hm := code_mul h16 hl
  rw [share_pos hl] at h2
  have hL := h16 i
  refine ⟨i, hi, hl, ?_⟩
  have hr : 0 < 2 ^ (16 - lenOf ls i) := Nat.two_pow_pos _
  have hcode : x * 2 ^ (16 - n) / 2 ^ (16 - lenOf ls i) = codeN ls i := by
    rw [← hm] at h1 h2
    refine Nat.div_eq_of_lt_le h1 ?_
    rw [Nat.add_mul, Nat.one_mul]; exact h2
  rcases Nat.lt_or_ge n (lenOf ls i) with h | h
  · refine .inr ⟨h, ?_⟩
    have e : 2 ^ (16 - n) = 2 ^ (16 - lenOf ls i) * 2 ^ (lenOf ls i - n) := by rw [← Nat.pow_add]; congr 1; omega
    rw [← hcode, Nat.div_div_eq_div_mul, ← e, Nat.mul_div_cancel _ hq]
  · refine .inl ⟨h, ?_⟩
    have e : 2 ^ (16 - lenOf ls i) = 2 ^ (16 - n) * 2 ^ (n - lenOf ls i) := by rw [← Nat.pow_add]; congr 1; omega
    rw [← hcode, e, Nat.mul_comm (2 ^ (16 - n)), Nat.mul_div_mul_right _ _ hq]
theorem valB_take_div (D : List Bool) (m : Nat) : ∀ d, m + d ≤ D.length → valB (D.take (m + d)) / 2 ^ d = valB (D.take m)
  | 0, _ => by simp
  | d + 1, h => by
    have h1 := valB_take_div D m d (by omega)
    rw [show m + (d + 1) = (m + d) + 1 by omega, take_succ_nth false D (m + d) (by omega), valB_snoc, Nat.pow_succ, Nat.mul_comm (2 ^ d) 2, ← Nat.div_div_eq_div_mul]
    have : (nth false D (m + d)).toNat ≤ 1 := by cases nth false D (m + d) <;> decide
    rw [show (2 * valB (D.take (m + d)) + (nth false D (m + d)).toNat) / 2 = valB (D.take (m + d)) by omega, h1]
/-- None of the first beginnings is a word. -/
def NoWord (ls : List Int) (D : List Bool) (n : Nat) : Prop := ∀ m, 1 ≤ m → m ≤ n → symF ls ls.length (m, valB (D.take m)) = none
theorem NoWord.succ {ls : List Int} {D : List Bool} {n : Nat} (h : NoWord ls D n) (h1 : symF ls ls.length (n + 1, valB (D.take (n + 1))) = none) : NoWord ls D (n + 1) := fun m h2 h3 => by
  rcases Nat.lt_or_ge n m with h4 | h4
  · obtain rfl : m = n + 1 := by omega
    exact h1
  · exact h m h2 h4
theorem begs {ls : List Int} (hr : Right ls) (hf : filledN ls = 65536) {D : List Bool} {n : Nat} (hn : n ≤ 16) (hD : n ≤ D.length) (h : NoWord ls D n) : ∃ i, i < ls.length ∧ n < lenOf ls i ∧ codeN ls i / 2 ^ (lenOf ls i - n) = valB (D.take n) := by
  have hlt := valB_lt (D.take n)
  rw [List.length_take, Nat.min_eq_left hD] at hlt
  obtain ⟨i, hi, hl, h1 | h1⟩ := cover_bits hr.ok.len16 hf hn hlt
  · exfalso
    have h2 := valB_take_div D (lenOf ls i) (n - lenOf ls i) (by omega)
    rw [show lenOf ls i + (n - lenOf ls i) = n by omega, ← h1.2] at h2
    have h3 := h (lenOf ls i) hl h1.1
    rw [← h2, symF_some hr hl hi (Nat.le_refl _)] at h3
    cases h3
  · exact ⟨i, hi, h1⟩
theorem begs_16 {ls : List Int} (hr : Right ls) (hf : filledN ls = 65536) {D : List Bool} {n : Nat} (hn : n ≤ 16) (hD : n ≤ D.length) (h : NoWord ls D n) : n ≤ 15 := by
  obtain ⟨i, _, h1, _⟩ := begs hr hf hn hD h
  have := hr.ok.len16 i
  omega
/-- Bits read, one behind the other, till they are a word: the symbol, the error, and how many bits. -/
def wordF (ls : List Int) (D : List Bool) : Nat → Nat → Nat × Int × Nat
  | 0, n => (0, 3, n)
  | fuel + 1, n => if D.length ≤ n then (0, 3, n) else
    match symF ls ls.length (n + 1, valB (D.take (n + 1))) with
    | some s => (s, 0, n + 1)
    | none => wordF ls D fuel (n + 1)
def wordR (ls : List Int) (D : List Bool) : Nat × Int × Nat := wordF ls D 16 0
theorem symF_lt {ls : List Int} {p : Nat × Nat} {s : Nat} : ∀ {k : Nat}, symF ls k p = some s → s < k ∧ 0 < lenOf ls s ∧ p = (lenOf ls s, codeN ls s)
  | 0, h => by cases h
  | k + 1, h => by
    unfold symF at h
    split at h
    · rename_i h1
      cases h
      exact ⟨by omega, h1⟩
    · have := symF_lt h
      exact ⟨by omega, this.2⟩
theorem wordF_ok (ls : List Int) (D : List Bool) : ∀ (fuel n : Nat), (wordF ls D fuel n).1 < ls.length + 1 ∧ ((wordF ls D fuel n).2.1 = 0 ∧ (wordF ls D fuel n).1 < ls.length ∨ (wordF ls D fuel n).2.1 = 3 ∧ (wordF ls D fuel n).1 = 0)
  | 0, n => ⟨Nat.succ_pos _, .inr ⟨rfl, rfl⟩⟩
  | fuel + 1, n => by
    unfold wordF
    split
    · exact ⟨Nat.succ_pos _, .inr ⟨rfl, rfl⟩⟩
    · split
      · rename_i s hs
        have := (symF_lt hs).1
        exact ⟨by show s < _; omega, .inl ⟨rfl, this⟩⟩
      · exact wordF_ok ls D fuel (n + 1)
end Go.Proofs.YtmcdgmiheklbeaaGreatDoor
