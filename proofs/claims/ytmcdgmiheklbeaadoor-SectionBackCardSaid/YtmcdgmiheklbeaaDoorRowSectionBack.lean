/- The law SectionBack of layer 18 (section): it returns true for every input, at every world in which book's two tables read as the program's text lays them. The row, and its tied card. -/
import Derived.Test.YtmcdgmiheklbeaaDoorKn
import Derived.Test.YtmcdgmiheklbeaaDoorKo
import Derived.Test.YtmcdgmiheklbeaaDoorKm
import Derived.Test.YtmcdgmiheklbeaaDoorCards
import Derived.Test.YtmcdgmiheklbeaaDoorTie
import Derived.SevenTiedAt
import Derived.OpenShut
import Derived.Carry
import Derived.SizedLaws
namespace Go.Proofs.YtmcdgmiheklbeaaDoor
open Go.RowKit

theorem back_facts18 (ws l : List Int) (s : List (Int × Int)) (X : List Bool) (hX : X.length ≤ 400) (hl : l.length ≤ 600) :
    wrS ws l s X.length = (costQ ws l s).2 ∧ ((costQ ws l s).2 ≠ 0 → wrB ws l s X = X ∧ costQ ws l s = (0, (costQ ws l s).2)) ∧
      ((costQ ws l s).2 = 0 → wrB ws l s X = X ++ secP ws l s s.length ∧ costQ ws l s = (((secP ws l s s.length).length : Int), 0) ∧ (secP ws l s s.length).length ≤ 100000 ∧ readS ws (secP ws l s s.length) = (l, s, 0, (secP ws l s s.length).length)) := by
  by_cases h : (costQ ws l s).2 = 0
  · obtain ⟨hs, hc, hq⟩ := costQ_ok h
    obtain ⟨h1, h2, h3, h4, h5, h6⟩ := costV_ok hc
    obtain ⟨hok, h128, hsum, _⟩ := sureE_facts hs
    have hsh := bks_shape h1
    have hN : (secP ws l s s.length).length ≤ 100000 := by
      rw [secP_len h1 s.length (Nat.le_refl _), h5]
      have q1 := hdN_le hsh s.length (Nat.le_refl _)
      have q2 := bdN_le ws l (booksL s) ws.length
      have q3 := hsh.1
      omega
    have hw : wrS ws l s X.length = 0 := by
      unfold wrS
      rw [if_neg (by simp [h]), hq, if_neg (by show ¬ (1048576 : Int) < (X.length : Int) + ((secP ws l s s.length).length : Int); omega)]
    have hr := readS_back h []
    rw [List.append_nil] at hr
    exact ⟨by rw [hw, h], fun h9 => absurd h h9, fun _ => ⟨by unfold wrB; rw [if_pos hw], hq, hN, hr⟩⟩
  · have hw : wrS ws l s X.length = (costQ ws l s).2 := by unfold wrS; rw [if_pos h]
    refine ⟨hw, fun _ => ⟨by unfold wrB; rw [if_neg (by rw [hw]; exact h)], ?_⟩, fun h9 => absurd h9 h⟩
    unfold costQ at h ⊢
    split
    · rfl
    · rename_i h1
      rw [if_neg h1] at h
      split
      · rfl
      · rename_i h2
        rw [if_neg h2] at h
        exact absurd rfl h

set_option maxHeartbeats 8000000 in
set_option maxRecDepth 100000 in
theorem sectionBack_walk (A0 : Option Addr) (c0 : Nat) (s0 : List Int) (N0 : Int) (Aw : Option Addr) (cw : Nat) (ws : List Int) (Al : Option Addr) (cl : Nat) (l : List Int) (As : Option Addr) (cs : Nat) (s : List (Int × Int)) (W : World) (hG : GF W) (hT : GT W) (hR0 : RY W A0 c0 s0) (hB0 : ∀ x ∈ s0, 0 ≤ x ∧ x < 256) (hRw : RI W Aw cw ws) (hRl : RI W Al cl l) (hRs : RS W As cs s) :
    Calls Tryd.prog 5 #[.agg #[.slice A0 s0.length c0, .int .i64 N0], .agg #[.slice Aw ws.length cw, .slice Al l.length cl, .slice As s.length cs]] W fun e W' => e = .returned (.bool true) ∧ Below W.heap.size W W' := by
  have hb1 := below_alloc (Below.refl W.heap.size W) (.cells #[.slice A0 s0.length c0, .int .i64 N0] 49)
  have B2 : Blk (W.alloc (.cells #[.slice A0 s0.length c0, .int .i64 N0] 49)) W.heap.size #[.slice A0 s0.length c0, .int .i64 N0] 49 := heap_alloc_new W _
  obtain ⟨g2, hg2⟩ : ∃ g2, W.heap.size = g2 := ⟨_, rfl⟩
  obtain ⟨g3, hg3⟩ : ∃ g3, g2 + 1 = g3 := ⟨_, rfl⟩
  obtain ⟨Wa, hWa⟩ : ∃ Wa, W.alloc (.cells #[.slice A0 s0.length c0, .int .i64 N0] 49) = Wa := ⟨_, rfl⟩
  have hza : Wa.heap.size = g3 := by rw [← hWa, World.size_alloc, hg2, hg3]
  rw [hWa] at hb1 B2
  rw [hg2] at B2
  have hb2 := below_alloc (Below.refl Wa.heap.size Wa) (.cells #[.slice Aw ws.length cw, .slice Al l.length cl, .slice As s.length cs] 51)
  have B3 : Blk (Wa.alloc (.cells #[.slice Aw ws.length cw, .slice Al l.length cl, .slice As s.length cs] 51)) g3 #[.slice Aw ws.length cw, .slice Al l.length cl, .slice As s.length cs] 51 := by rw [← hza]; exact heap_alloc_new Wa _
  obtain ⟨Wb, hWb⟩ : ∃ Wb, Wa.alloc (.cells #[.slice Aw ws.length cw, .slice Al l.length cl, .slice As s.length cs] 51) = Wb := ⟨_, rfl⟩
  have hzb : Wb.heap.size = g3 + 1 := by rw [← hWb, World.size_alloc, hza]
  rw [hWb] at hb2 B3
  have HBA := Lib.hid (below2 hb1 hb2)
  have HBX := Lib.hid (B2.below hb2)
  have HBY := Lib.hid B3
  have HB0 := Lib.hid hB0
  have HS0 := Lib.hid ((GS.of hG hT).below HBA.out)
  have HR0 := Lib.hid hR0
  have HRW := Lib.hid hRw
  have HRL := Lib.hid hRl
  have HRS := Lib.hid hRs
  have HGB := Lib.hid (show W.heap.size ≤ g2 ∧ g2 < Wb.heap.size ∧ g3 < Wb.heap.size ∧ W.heap.size ≤ g3 from ⟨by omega, by omega, by omega, by omega⟩)
  have x0 := B2.below hb2 |>.cell 0 rfl
  have x1 := B2.below hb2 |>.cell 1 rfl
  have y0 := B3.cell 0 rfl
  have y1 := B3.cell 1 rfl
  have y2 := B3.cell 2 rfl
  clear hB0 hG hT hR0 hRw hRl hRs hb1 hb2 B2 B3 hzb
  by_cases h50 : s0.length ≤ 50
  · have HD := Lib.hid (show decide (s0.length ≤ 50) = true from decide_eq_true h50)
    have H50 := Lib.hid h50
    clear h50
    cases hfew : few18B ws.length l.length s.length
    · have HFW := Lib.hid hfew; clear hfew
      go_enter Tryd.func5, Tryd.ntmps5
      go_upto_region 1 with fail
      try simp only [hWa, hWb, hza, hg2, hg3]
      clear hWa hWb hza hg2 hg3
      have hS := HS0.out
      go_wp2_with fail
      refine (rfew_any A0 s0.length c0 N0 _).mono ?_
      rw [HD.out]
      rintro e w1 ⟨rfl, b⟩
      have BX := HBA.out.trans (b.mono HBA.out.size)
      have PB := HBX.out.below b
      have PC := HBY.out.below b
      replace hS := hS.below b; clear b
      have yy0 := PC.cell 0 rfl
      have yy1 := PC.cell 1 rfl
      have yy2 := PC.cell 2 rfl
      go_wp2_with fail
      refine (few18_any Aw Al As ws.length cw l.length cl s.length cs _).mono ?_
      rw [HFW.out]
      rintro e w1b ⟨rfl, b⟩
      replace BX := below2 BX b; replace PB := PB.below b; replace PC := PC.below b; replace hS := hS.below b; clear b yy0 yy1 yy2
      go_wp2_with fail
      refine (awake18_any _ hS.f hS.t).mono ?_
      rintro e w2 ⟨rfl, b⟩
      replace BX := below2 BX b; clear b
      go_wp2_with fail
      go_ret
      exact ⟨rfl, BX⟩
    · have HFW := Lib.hid hfew
      have hfd : ws.length ≤ 140 ∧ l.length ≤ 600 ∧ s.length ≤ 200 := by
        unfold few18B at hfew
        rw [Bool.and_eq_true, Bool.and_eq_true, decide_eq_true_eq, decide_eq_true_eq, decide_eq_true_eq] at hfew
        exact ⟨hfew.1.1, hfew.1.2, hfew.2⟩
      have HFD := Lib.hid hfd
      clear hfew hfd
      by_cases h40 : 0 ≤ N0 ∧ N0 ≤ 4000
      · have q2 : decide (0 ≤ N0) = true := decide_eq_true h40.1
        have q3 : decide (N0 ≤ 4000) = true := decide_eq_true h40.2
        clear h40
        go_enter Tryd.func5, Tryd.ntmps5
        go_upto_region 1 with fail
        try simp only [hWa, hWb, hza, hg2, hg3]
        clear hWa hWb hza hg2 hg3
        have hS := HS0.out
        go_wp2_with fail
        refine (rfew_any A0 s0.length c0 N0 _).mono ?_
        rw [HD.out]
        rintro e w1 ⟨rfl, b⟩
        have BX := HBA.out.trans (b.mono HBA.out.size)
        have PB := HBX.out.below b
        have PC := HBY.out.below b
        replace hS := hS.below b; clear b
        have yy0 := PC.cell 0 rfl
        have yy1 := PC.cell 1 rfl
        have yy2 := PC.cell 2 rfl
        go_wp2_with fail
        refine (few18_any Aw Al As ws.length cw l.length cl s.length cs _).mono ?_
        rw [HFW.out]
        rintro e w1b ⟨rfl, b⟩
        replace BX := below2 BX b; replace PB := PB.below b; replace PC := PC.below b; replace hS := hS.below b; clear b yy0 yy1 yy2
        have k1 := PB.cell 1 rfl
        go_wp2_with fail
        refine (awake18_any _ hS.f hS.t).mono ?_
        rintro e w2 ⟨rfl, b⟩
        replace BX := below2 BX b; clear b
        go_wp2_with fail
        go_ret
        exact ⟨rfl, BX⟩
      · have HX4 := Lib.hid (show (roomBits s0 N0).length ≤ 400 by rw [roomBits_length]; unfold roomN; rw [if_neg h40]; have := H50.out; omega)
        have hcs : decide (0 ≤ N0) = false ∨ (decide (0 ≤ N0) = true ∧ decide (N0 ≤ 4000) = false) := by
          by_cases h : 0 ≤ N0
          · exact .inr ⟨decide_eq_true h, decide_eq_false (by omega)⟩
          · exact .inl (decide_eq_false h)
        have HF := Lib.hid (back_facts18 ws l s (roomBits s0 N0) HX4.out HFD.out.2.1)
        clear h40
        obtain ⟨X, hX⟩ : ∃ X, roomBits s0 N0 = X := ⟨_, rfl⟩
        have HXE := Lib.hid hX
        rw [hX] at HF HX4
        clear hX
        by_cases h0 : (costQ ws l s).2 = 0
        · obtain ⟨f1, f2, f3, f4⟩ := HF.out.2.2 h0
          have hw0 : wrS ws l s X.length = 0 := by rw [HF.out.1, h0]
          obtain ⟨R, hR⟩ : ∃ R, secP ws l s s.length = R := ⟨_, rfl⟩
          rw [hR] at f1 f2 f3 f4
          obtain ⟨n, hn⟩ : ∃ n, X.length = n := ⟨_, rfl⟩
          obtain ⟨m, hm⟩ : ∃ m, R.length = m := ⟨_, rfl⟩
          rw [hm] at f2 f3 f4
          have hY : (X ++ R).length = n + m := by rw [List.length_append, hn, hm]
          have HYD := Lib.hid (show (X ++ R).drop n = R by rw [← hn]; exact List.drop_left)
          have HB := Lib.hid (show n ≤ 400 ∧ m ≤ 100000 from ⟨by rw [← hn]; exact HX4.out, f3⟩)
          have HWB := Lib.hid f1; have HCC := Lib.hid f2; have HRD := Lib.hid f4
          have HW0 := Lib.hid hw0
          have HN := Lib.hid hn; have HM := Lib.hid hm; have HY := Lib.hid hY
          have hadd : IntKind.i64.wrap ((n : Int) + (m : Int)) = ((n + m : Nat) : Int) := by rw [IntWalk.i64_in _ (by have := HB.out; omega)]; omega
          have haddn : ((n + m : Nat) : Int) = (n : Int) + (m : Int) := by omega
          clear f1 f2 f3 f4 hw0 hn hm hY HF h0 hR haddn
          rcases hcs with q2 | ⟨q2, q3⟩
          all_goals
            go_enter Tryd.func5, Tryd.ntmps5
            go_upto_region 1 with fail
            try simp only [hWa, hWb, hza, hg2, hg3]
            clear hWa hWb hza hg2 hg3
            have hS := HS0.out
            go_wp2_with fail
            refine (rfew_any A0 s0.length c0 N0 _).mono ?_
            rw [HD.out]
            rintro e w1 ⟨rfl, b⟩
            have BX := HBA.out.trans (b.mono HBA.out.size)
            have PB := HBX.out.below b
            have PC := HBY.out.below b
            replace hS := hS.below b; clear b
            have yy0 := PC.cell 0 rfl
            have yy1 := PC.cell 1 rfl
            have yy2 := PC.cell 2 rfl
            go_wp2_with fail
            refine (few18_any Aw Al As ws.length cw l.length cl s.length cs _).mono ?_
            rw [HFW.out]
            rintro e w1b ⟨rfl, b⟩
            replace BX := below2 BX b; replace PB := PB.below b; replace PC := PC.below b; replace hS := hS.below b; clear b yy0 yy1 yy2
            have k0 := PB.cell 0 rfl
            have k1 := PB.cell 1 rfl
            go_wp2_with fail
            refine (rbegun_any A0 c0 s0 N0 _ (HR0.out.below BX) HB0.out H50.out).mono ?_
            rw [HXE.out]
            rintro e w3 ⟨g, R1, d, k, rfl, hw, _, hk, b⟩
            have hsz := BX.size
            have hgo : w1b.heap.size ≤ g := by obtain ⟨_, h9⟩ := hw; exact h9.og.1
            have HRw := ((HRW.out.weak (ok' := fun x => x < W.heap.size) (fun x hx _ => hx)).below BX).below b
            have HRl := ((HRL.out.weak (ok' := fun x => x < W.heap.size) (fun x hx _ => hx)).below BX).below b
            have HRs := ((HRS.out.weak (ok' := fun x => x < W.heap.size) (fun x hx _ => hx)).below BX).below b
            have HGL := Lib.hid (show g3 < w1b.heap.size from PC.lt)
            replace PC := PC.below b
            replace hS := hS.below b
            replace BX := below2 BX b; clear b k0 k1 PB
            go_wp2_with fail
            refine (wlen_any _ g X _ hw).mono ?_
            rw [HN.out]
            rintro e w4 ⟨rfl, rfl⟩
            have yy0 := PC.cell 0 rfl
            have yy1 := PC.cell 1 rfl
            have yy2 := PC.cell 2 rfl
            go_wp2_with fail
            refine (sCost_any Aw Al As cw cl cs ws l s _ HRw.any HRl.any HRs.any hS.f hS.t (by have := HFD.out.1; omega)).mono ?_
            rw [HCC.out]
            rintro e w5 ⟨rfl, b⟩
            replace HRw := HRw.below b; replace HRl := HRl.below b; replace HRs := HRs.below b; replace hw := hw.below b; replace hS := hS.below b; replace PC := PC.below b; replace BX := below2 BX b; clear b yy0 yy1 yy2
            have yy0 := PC.cell 0 rfl
            have yy1 := PC.cell 1 rfl
            have yy2 := PC.cell 2 rfl
            go_wp2_with fail
            refine (sWrite_any _ g Aw Al As cw cl cs ws l s X _ (fun x h => h.2) hw.cut (HRw.weak fun x _ h h2 => by have := h2.1; omega) (HRl.weak fun x _ h h2 => by have := h2.1; omega) (HRs.weak fun x _ h h2 => by have := h2.1; omega) hS.f hS.t (fun h => by have := h.1; have := hS.lf; omega) (fun h => by have := h.1; have := hS.lt; omega) (by have := HFD.out.1; omega) (by have := HX4.out; omega)).mono ?_
            rw [HW0.out, HWB.out]
            rintro e w6 ⟨rfl, hw4, hu⟩
            have hkk := hu.keep (ok := fun x => x < w1b.heap.size) fun x h h2 => by have := h2.1; omega
            replace HRw := HRw.keep (hkk.weak fun x h => by omega)
            replace HRl := HRl.keep (hkk.weak fun x h => by omega)
            replace HRs := HRs.keep (hkk.weak fun x h => by omega)
            replace PC := PC.keep hkk HGL.out
            replace hS := hS.upd hu (fun x h h2 => by have := h2.1; omega)
            replace BX := BX.trans (hu.below (n := W.heap.size) BX.size (fun x _ e => by have := e.1; omega)); clear hu hw hk hkk yy0 yy1 yy2
            go_wp2_with fail
            refine (wbytes_any _ g (X ++ R) _ hw4 (by rw [HY.out]; have := HB.out; omega)).mono ?_
            rintro e w7 ⟨v7, rfl, hO, b⟩
            obtain ⟨A7, c7, rfl, h7⟩ := own_ri hO
            clear hO
            replace HRw := HRw.below b; replace HRl := HRl.below b; replace HRs := HRs.below b; replace PC := PC.below b; replace hw4 := hw4.below b; replace hS := hS.below b; replace BX := below2 BX b; clear b
            go_wp2_with fail
            refine (wlen_any _ g (X ++ R) _ hw4).mono ?_
            rw [HY.out]
            rintro e w8 ⟨rfl, rfl⟩
            go_wp2_with fail
            have ho := ropen_ok A7 c7 (packB (X ++ R)) (n + m) w7 h7 (packB_in18 (X ++ R)) (by rw [packB_length, HY.out]; have := HB.out; omega) (by rw [packB_length, HY.out]; omega) (by have := HB.out; omega)
            rw [show ofB (packB (X ++ R)) (n + m) = X ++ R by rw [← HY.out]; exact fullE_ofB _] at ho
            refine ho.mono ?_
            rintro e w9 ⟨gr, rfl, hr, b1, hg⟩
            replace HRw := HRw.below b1; replace HRl := HRl.below b1; replace HRs := HRs.below b1; replace PC := PC.below b1
            have hg1 : w1b.heap.size ≤ gr := by have := hw4.lt; omega
            replace hw4 := hw4.weak (o' := fun b => b < w7.heap.size) (fun b hb _ => hb)
            replace hw4 := hw4.below b1
            have hgw : W.heap.size ≤ gr := by omega
            replace hS := hS.below b1
            replace BX := below2 BX b1; clear b1 ho h7
            go_wp2_with fail
            refine (wlen_any _ g (X ++ R) _ hw4).mono ?_
            rw [HY.out]
            rintro e w10 ⟨rfl, rfl⟩
            go_wp2_with fail
            refine (rseek_any _ gr 0 (n : Int) (X ++ R) _ hr).mono ?_
            rw [show seekE (X ++ R) (n : Int) = 0 by unfold seekE; rw [HY.out, if_neg (by omega)], show seekI (X ++ R) 0 (n : Int) = n by unfold seekI; rw [HY.out, if_neg (by omega)]; simp]
            rintro e w11 ⟨rfl, hr1, hu⟩
            have hkk := hu.keep (ok := fun x => x < w1b.heap.size) fun x h h2 => by omega
            replace HRw := HRw.keep (hkk.weak fun x h => by omega)
            replace HRl := HRl.keep (hkk.weak fun x h => by omega)
            replace HRs := HRs.keep (hkk.weak fun x h => by omega)
            replace PC := PC.keep hkk HGL.out
            replace hS := hS.upd hu (fun x h h2 => by omega)
            replace BX := BX.trans (hu.below BX.size (fun x _ e => by omega)); clear hu hr hw4 hkk
            have yy0 := PC.cell 0 rfl
            go_wp2_with fail
            refine (sRead_any _ gr n Aw cw ws (X ++ R) _ hr1.cut (fun x h => h.2) (HRw.weak fun x _ h e => by omega) hS.f hS.t (fun e => by have := hS.lf; omega) (fun e => by have := hS.lt; omega) (by have := HFD.out.1; omega)).mono ?_
            rw [HYD.out, HRD.out]
            rintro e w12 ⟨v8, v9, rfl, hO, hOs, hr2, hu⟩
            obtain ⟨A8, c8, rfl, h8⟩ := own_ri hO
            obtain ⟨A9, c9, rfl, h9⟩ := own_rs hOs
            have hkk := hu.keep (ok := fun x => x < w1b.heap.size) fun x h h2 => by omega
            replace HRl := (HRl.keep (hkk.weak fun x h => by omega)).any
            replace HRs := (HRs.keep (hkk.weak fun x h => by omega)).any
            replace PC := PC.keep hkk HGL.out
            replace hS := hS.upd hu (fun x h h2 => by omega)
            replace BX := BX.trans (hu.below BX.size (fun x _ e => by omega)); clear hu hr1 hO hOs hgw hg1 hkk yy0 HRw
            have yy1 := PC.cell 1 rfl
            go_wp2_with fail
            refine (ints_ref A8 Al c8 cl l l _ h8 HRl).mono ?_
            rw [sameL_refl]
            rintro e w13 ⟨rfl, b⟩
            replace hr2 := hr2.below b; replace hS := hS.below b; replace BX := below2 BX b; replace PC := PC.below b; replace HRs := HRs.below b; have h9' := h9.any.below b; clear b yy1 h9
            have yy2 := PC.cell 2 rfl
            go_wp2_with fail
            refine (rsame_any A9 As c9 cs s s _ h9' HRs).mono ?_
            rw [sameS_refl]
            rintro e w13b ⟨rfl, b⟩
            replace hr2 := hr2.below b; replace hS := hS.below b; replace BX := below2 BX b; clear b yy2 PC
            go_wp2_with fail
            refine (rleft_any _ gr (n + m) (X ++ R) _ hr2).mono ?_
            rw [HY.out, Nat.sub_self]
            rintro e w14 ⟨rfl, b⟩
            replace hS := hS.below b; replace BX := below2 BX b; clear b
            go_wp2_with fail
            refine (awake18_any _ hS.f hS.t).mono ?_
            rintro e w2 ⟨rfl, b⟩
            replace BX := below2 BX b; clear b
            go_wp2_with fail
            go_ret
            exact ⟨rfl, BX⟩
        · obtain ⟨f1, f2⟩ := HF.out.2.1 h0
          have HW0 := Lib.hid HF.out.1
          obtain ⟨E, hE⟩ : ∃ E, (costQ ws l s).2 = E := ⟨_, rfl⟩
          rw [hE] at HW0 f2 h0
          have HWB := Lib.hid f1; have HCC := Lib.hid f2
          have hEb : (E != 0) = true := by simp [h0]
          have hEs : (E != E) = false := by simp
          clear f1 f2 h0 HF hE
          rcases hcs with q2 | ⟨q2, q3⟩
          all_goals
            go_enter Tryd.func5, Tryd.ntmps5
            go_upto_region 1 with fail
            try simp only [hWa, hWb, hza, hg2, hg3]
            clear hWa hWb hza hg2 hg3
            have hS := HS0.out
            go_wp2_with fail
            refine (rfew_any A0 s0.length c0 N0 _).mono ?_
            rw [HD.out]
            rintro e w1 ⟨rfl, b⟩
            have BX := HBA.out.trans (b.mono HBA.out.size)
            have PB := HBX.out.below b
            have PC := HBY.out.below b
            replace hS := hS.below b; clear b
            have yy0 := PC.cell 0 rfl
            have yy1 := PC.cell 1 rfl
            have yy2 := PC.cell 2 rfl
            go_wp2_with fail
            refine (few18_any Aw Al As ws.length cw l.length cl s.length cs _).mono ?_
            rw [HFW.out]
            rintro e w1b ⟨rfl, b⟩
            replace BX := below2 BX b; replace PB := PB.below b; replace PC := PC.below b; replace hS := hS.below b; clear b yy0 yy1 yy2
            have k0 := PB.cell 0 rfl
            have k1 := PB.cell 1 rfl
            go_wp2_with fail
            refine (rbegun_any A0 c0 s0 N0 _ (HR0.out.below BX) HB0.out H50.out).mono ?_
            rw [HXE.out]
            rintro e w3 ⟨g, R1, d, k, rfl, hw, _, hk, b⟩
            have hsz := BX.size
            have hgo : w1b.heap.size ≤ g := by obtain ⟨_, h9⟩ := hw; exact h9.og.1
            have HRw := ((HRW.out.weak (ok' := fun x => x < W.heap.size) (fun x hx _ => hx)).below BX).below b
            have HRl := ((HRL.out.weak (ok' := fun x => x < W.heap.size) (fun x hx _ => hx)).below BX).below b
            have HRs := ((HRS.out.weak (ok' := fun x => x < W.heap.size) (fun x hx _ => hx)).below BX).below b
            have HGL := Lib.hid (show g3 < w1b.heap.size from PC.lt)
            replace PC := PC.below b
            replace hS := hS.below b
            replace BX := below2 BX b; clear b k0 k1 PB
            go_wp2_with fail
            refine (wlen_any _ g X _ hw).mono ?_

            rintro e w4 ⟨rfl, rfl⟩
            have yy0 := PC.cell 0 rfl
            have yy1 := PC.cell 1 rfl
            have yy2 := PC.cell 2 rfl
            go_wp2_with fail
            refine (sCost_any Aw Al As cw cl cs ws l s _ HRw.any HRl.any HRs.any hS.f hS.t (by have := HFD.out.1; omega)).mono ?_
            rw [HCC.out]
            rintro e w5 ⟨rfl, b⟩
            replace HRw := HRw.below b; replace HRl := HRl.below b; replace HRs := HRs.below b; replace hw := hw.below b; replace hS := hS.below b; replace PC := PC.below b; replace BX := below2 BX b; clear b yy0 yy1 yy2
            have yy0 := PC.cell 0 rfl
            have yy1 := PC.cell 1 rfl
            have yy2 := PC.cell 2 rfl
            go_wp2_with fail
            refine (sWrite_any _ g Aw Al As cw cl cs ws l s X _ (fun x h => h.2) hw.cut (HRw.weak fun x _ h h2 => by have := h2.1; omega) (HRl.weak fun x _ h h2 => by have := h2.1; omega) (HRs.weak fun x _ h h2 => by have := h2.1; omega) hS.f hS.t (fun h => by have := h.1; have := hS.lf; omega) (fun h => by have := h.1; have := hS.lt; omega) (by have := HFD.out.1; omega) (by have := HX4.out; omega)).mono ?_
            rw [HW0.out, HWB.out]
            rintro e w6 ⟨rfl, hw4, hu⟩
            have hkk := hu.keep (ok := fun x => x < w1b.heap.size) fun x h h2 => by have := h2.1; omega
            replace HRw := HRw.keep (hkk.weak fun x h => by omega)
            replace HRl := HRl.keep (hkk.weak fun x h => by omega)
            replace HRs := HRs.keep (hkk.weak fun x h => by omega)
            replace PC := PC.keep hkk HGL.out
            replace hS := hS.upd hu (fun x h h2 => by have := h2.1; omega)
            replace BX := BX.trans (hu.below (n := W.heap.size) BX.size (fun x _ e => by have := e.1; omega)); clear hu hw hk hkk yy0 yy1 yy2
            go_wp2_with fail
            refine (wlen_any _ g X _ hw4).mono ?_
            rintro e w7 ⟨rfl, rfl⟩
            go_wp2_with fail
            refine (awake18_any _ hS.f hS.t).mono ?_
            rintro e w2 ⟨rfl, b⟩
            replace BX := below2 BX b; clear b
            go_wp2_with fail
            go_ret
            exact ⟨rfl, BX⟩
  · have HD := Lib.hid (show decide (s0.length ≤ 50) = false from decide_eq_false h50)
    clear h50
    go_enter Tryd.func5, Tryd.ntmps5
    go_upto_region 1 with fail
    try simp only [hWa, hWb, hza, hg2, hg3]
    clear hWa hWb hza hg2 hg3
    have hS := HS0.out
    go_wp2_with fail
    refine (rfew_any A0 s0.length c0 N0 _).mono ?_
    rw [HD.out]
    rintro e w1 ⟨rfl, b⟩
    have BX := HBA.out.trans (b.mono HBA.out.size)
    have PB := HBX.out.below b
    have PC := HBY.out.below b
    replace hS := hS.below b; clear b
    go_wp2_with fail
    refine (awake18_any _ hS.f hS.t).mono ?_
    rintro e w2 ⟨rfl, b⟩
    replace BX := below2 BX b; clear b
    go_wp2_with fail
    go_ret
    exact ⟨rfl, BX⟩
end Go.Proofs.YtmcdgmiheklbeaaDoor

namespace Go.Proofs.YtmcdgmiheklbeaaDoor
open Go.ChangeShapes Go.WideShapes Go.ChangeAt Go.WideMaps Go.WideElems Go.RowKit Go.Deep

theorem laidOut_sectionBack : laidOutB Tryd.prog = true := by kernel_rfl
set_option maxRecDepth 100000 in
theorem lifted_sectionBack (os : Os) (started : os.Started) (H : Type) (enc : TypeId × Value → H) :
    ReturnsInHanded {} Tryd.checked os 5 .any (fun w args => (Rows.sectionBackSpec.pre enc Tryd.prog Tryd.f5 [] false w args ∧ laidMetH Tryd.prog laidBk w) ∧ sizedMet enc Tryd.prog Tryd.f5 (OpenSpec.ofChange Rows.sectionBackSpec) false w args)
      (Rows.sectionBackSpec.post enc Tryd.prog Tryd.f5 false true false false) := by
  refine returnsInHanded_of_change_and (C := Tryd.checked) (X := fun w _ => laidMetH Tryd.prog laidBk w) (fun _ _ _ hh h => h.of_heap hh) ownBk started (by kernel_rfl) Tryd.func5
    (ChangeSpec.witness_shaped (enc := enc) (C := Tryd.checked) (os := os) (X := fun w _ => laidMetH Tryd.prog laidBk w) false (World.doorLaid Tryd.prog 400 os) #[.agg #[.slice none 0 0, .int .i64 0], .agg #[.slice none 0 0, .slice none 0 0, .slice none 0 0]] 8 rfl (World.shaped_of_RefB (by kernel_rfl) (by kernel_rfl)) (by kernel_rfl) (by kernel_rfl) (by kernel_rfl) (door_bk os _)) ?_
  intro W base args ds gs before hval0 hW _ hsz0 hL _
  obtain ⟨hG, hT⟩ := gf_of_laid hL
  have hval : ∀ (j : Nat) t v, Tryd.f5.params[j]? = some t → args[j]? = some v → Value.okWide Tryd.prog W .any base t v := hval0
  have hW' := hW
  obtain ⟨p, q, hA0, hV, rfl, hfz, hnd⟩ := hW
  have hA : DataW.TrodAll enc Tryd.prog W 0 (fun _ => true) true Tryd.f5.params.toList args.toList ds p := hA0
  have hsz : (DataW.weightsEach Tryd.prog (Tryd.f5.params.toList ++ Rows.sectionBackSpec.plain.varTypes Tryd.prog) (ds ++ gs)).all (· ≤ reachBytes) = true := hsz0
  rw [Tryd.params5] at hA hval hsz
  obtain ⟨v0, vs0, d0, ds0, p0, q0, hargs, rfl, rfl, h0, r0⟩ := trodAll_cons hA
  obtain ⟨v1, vs1, d1, ds1, p1, q1, rfl, rfl, rfl, h1, r1⟩ := trodAll_cons r0
  obtain ⟨rfl, rfl, rfl⟩ := trodAll_nil r1
  obtain rfl : args = #[v0, v1] := by cases args; simp_all
  obtain ⟨rfl, rfl⟩ := trodVars_none hV
  have lt0 : ∀ x ∈ p0, x.block < W.heap.size := by obtain ⟨m, hm⟩ := h0; exact DataW.trod_lt m _ _ _ hm
  have y0 : ∀ m ∈ d0.weights Tryd.prog 49, m ≤ reachBytes := fun m hm => of_decide_eq_true (List.all_eq_true.1 hsz m (DataW.weights_mem_each (j := 0) rfl rfl m hm))
  obtain ⟨A0, c0, s0, N0, rfl, hR0, hB0⟩ := open_M (hval 0 49 v0 rfl rfl) h0
  have lt1 : ∀ x ∈ p1, x.block < W.heap.size := by obtain ⟨m, hm⟩ := h1; exact DataW.trod_lt m _ _ _ hm
  have y1 : ∀ m ∈ d1.weights Tryd.prog 51, m ≤ reachBytes := fun m hm => of_decide_eq_true (List.all_eq_true.1 hsz m (DataW.weights_mem_each (j := 1) rfl rfl m hm))
  obtain ⟨A1, c1, s1, A1b, c1b, s1b, A1c, c1c, s1c, rfl, hR1, hQ1, hP1⟩ := open_C (hval 1 51 v1 rfl rfl) h1
  have hwalk := sectionBack_walk A0 c0 s0 N0 A1 c1 s1 A1b c1b s1b A1c c1c s1c W hG hT hR0 hB0 hR1 hQ1 hP1
  refine hwalk.mono fun e W' ⟨he, bel⟩ => ?_
  subst he
  exact ⟨_, rfl, _, _, _, [], _, [], hW', trodAll_mk1 (shut_bool Tryd.underlying4 _), (trodAll_cons_mk (Below.trod laidOut_sectionBack (by kernel_rfl) (of_decide_eq_true (by kernel_rfl)) h0 bel lt0) (trodAll_cons_mk (Below.trod laidOut_sectionBack (by kernel_rfl) (of_decide_eq_true (by kernel_rfl)) h1 bel lt1) trodAll_mk0)), rfl, bel.frame _, fun h => by cases h⟩
theorem sectionBack_said : Rows.SectionBackSaid :=
  OpenClaim.holds_of_wide 5 Tryd.f5 rfl rfl rfl rfl rfl rfl rfl ⟨rfl, rfl, rfl, rfl, rfl⟩ rfl rfl rfl rfl rfl (by kernel_rfl) Tryd.func5 (by kernel_rfl)
    (of_decide_eq_true (by kernel_rfl)) (by unfold Func.isWrapper; first | (rw [if_pos (by decide +kernel)]; kernel_rfl) | (rw [if_neg (by decide +kernel)]; exact ⟨rfl, rfl⟩))
    (fun os started H enc _ => lifted_sectionBack os started H enc)
theorem sectionBack_card : Rows.SectionBackCardSaid :=
  Claim7.holds_tied_plain_at .later [] [.wider, .data] true Rows.sectionBackCard.stood.harness false
    sectionBack_said (fun _ h => by cases h) (by kernel_rfl) (fun _ h => by cases h) sectionBack_row_tie rfl ⟨rfl, rfl⟩ (by kernel_rfl) rfl
    (fun f fn hf hfn => by
      obtain rfl : f = 5 := Option.some.inj ((show Tryd.prog.funcNamed "shawm/shawmlaw18.SectionBack" = some 5 by kernel_rfl).symm.trans hf) |>.symm
      obtain rfl : fn = Tryd.f5 := (Option.some.inj (Tryd.func5.symm.trans hfn)).symm
      exact ⟨by kernel_rfl, fun j t ht => by
        rw [Tryd.params5] at ht
        have hm : t ∈ [49, 51] := by simpa using Array.mem_of_getElem? ht
        have hall : ([49, 51].all fun u => !Tryd.prog.wantsStandIn u) = true := by kernel_rfl
        exact (show Tryd.prog.wantsStandIn t = false by simpa using List.all_eq_true.1 hall t hm)⟩)
    (by kernel_rfl)
#print axioms sectionBack_card
end Go.Proofs.YtmcdgmiheklbeaaDoor
