/- The law SectionWrites of layer 18 (section): it returns true for every input, at every world in which book's two tables read as the program's text lays them. The row, and its tied card. -/
import Derived.Test.YtmcdgmiheklbeaaGreatDoorKm
import Derived.Test.YtmcdgmiheklbeaaGreatDoorKo
import Derived.Test.YtmcdgmiheklbeaaGreatDoorKl
import Derived.Test.YtmcdgmiheklbeaaGreatDoorKn
import Derived.Test.YtmcdgmiheklbeaaGreatDoorCards
import Derived.Test.YtmcdgmiheklbeaaGreatDoorTie
import Derived.SevenTiedAt
import Derived.OpenShut
import Derived.Carry
import Derived.SizedLaws
namespace Go.Proofs.YtmcdgmiheklbeaaGreatDoor
open Go.RowKit

set_option maxHeartbeats 8000000 in
set_option maxRecDepth 100000 in
theorem sectionWrites_walk (A0 : Option Addr) (c0 : Nat) (s0 : List Int) (N0 : Int) (Aw : Option Addr) (cw : Nat) (ws : List Int) (Al : Option Addr) (cl : Nat) (l : List Int) (As : Option Addr) (cs : Nat) (s : List (Int × Int)) (W : World) (hG : GF W) (hT : GT W) (hR0 : RY W A0 c0 s0) (hB0 : ∀ x ∈ s0, 0 ≤ x ∧ x < 256) (hRw : RI W Aw cw ws) (hRl : RI W Al cl l) (hRs : RS W As cs s) :
    Calls Tryz.prog 4 #[.agg #[.slice A0 s0.length c0, .int .i64 N0], .agg #[.slice Aw ws.length cw, .slice Al l.length cl, .slice As s.length cs]] W fun e W' => e = .returned (.bool true) ∧ Below W.heap.size W W' := by
  have hb1 := below_alloc (Below.refl W.heap.size W) (.cells #[.slice A0 s0.length c0, .int .i64 N0] 33)
  have B2 : Blk (W.alloc (.cells #[.slice A0 s0.length c0, .int .i64 N0] 33)) W.heap.size #[.slice A0 s0.length c0, .int .i64 N0] 33 := heap_alloc_new W _
  obtain ⟨g2, hg2⟩ : ∃ g2, W.heap.size = g2 := ⟨_, rfl⟩
  obtain ⟨g3, hg3⟩ : ∃ g3, g2 + 1 = g3 := ⟨_, rfl⟩
  obtain ⟨Wa, hWa⟩ : ∃ Wa, W.alloc (.cells #[.slice A0 s0.length c0, .int .i64 N0] 33) = Wa := ⟨_, rfl⟩
  have hza : Wa.heap.size = g3 := by rw [← hWa, World.size_alloc, hg2, hg3]
  rw [hWa] at hb1 B2
  rw [hg2] at B2
  have hb2 := below_alloc (Below.refl Wa.heap.size Wa) (.cells #[.slice Aw ws.length cw, .slice Al l.length cl, .slice As s.length cs] 25)
  have B3 : Blk (Wa.alloc (.cells #[.slice Aw ws.length cw, .slice Al l.length cl, .slice As s.length cs] 25)) g3 #[.slice Aw ws.length cw, .slice Al l.length cl, .slice As s.length cs] 25 := by rw [← hza]; exact heap_alloc_new Wa _
  obtain ⟨Wb, hWb⟩ : ∃ Wb, Wa.alloc (.cells #[.slice Aw ws.length cw, .slice Al l.length cl, .slice As s.length cs] 25) = Wb := ⟨_, rfl⟩
  have hzb : Wb.heap.size = g3 + 1 := by rw [← hWb, World.size_alloc, hza]
  rw [hWb] at hb2 B3
  have HBA := Lib.hid (below2 hb1 hb2)
  have HBX := Lib.hid (B2.below hb2)
  have HBY := Lib.hid B3
  have HB0 := Lib.hid hB0
  have HS0 := Lib.hid ((GS.of hG hT).below HBA.out)
  have HR0 := Lib.hid hR0
  have HRW := Lib.hid hRw
  have HRL := Lib.hid hRl
  have HRS := Lib.hid hRs
  have HGB := Lib.hid (show W.heap.size ≤ g2 ∧ g2 < Wb.heap.size ∧ g3 < Wb.heap.size ∧ W.heap.size ≤ g3 from ⟨by omega, by omega, by omega, by omega⟩)
  have x0 := B2.below hb2 |>.cell 0 rfl
  have x1 := B2.below hb2 |>.cell 1 rfl
  have y0 := B3.cell 0 rfl
  have y1 := B3.cell 1 rfl
  have y2 := B3.cell 2 rfl
  clear hB0 hG hT hR0 hRw hRl hRs hb1 hb2 B2 B3 hzb
  by_cases h50 : s0.length ≤ 50
  · have HD := Lib.hid (show decide (s0.length ≤ 50) = true from decide_eq_true h50)
    have H50 := Lib.hid h50
    clear h50
    cases hfew : few18B ws.length l.length s.length
    · have HFW := Lib.hid hfew; clear hfew
      go_enter Tryz.func4, Tryz.ntmps4
      go_upto_region 1 with fail
      try simp only [hWa, hWb, hza, hg2, hg3]
      clear hWa hWb hza hg2 hg3
      have hS := HS0.out
      go_wp2_with fail
      refine (rfew_any A0 s0.length c0 N0 _).mono ?_
      rw [HD.out]
      rintro e w1 ⟨rfl, b⟩
      have BX := HBA.out.trans (b.mono HBA.out.size)
      have PB := HBX.out.below b
      have PC := HBY.out.below b
      replace hS := hS.below b; clear b
      have yy0 := PC.cell 0 rfl
      have yy1 := PC.cell 1 rfl
      have yy2 := PC.cell 2 rfl
      go_wp2_with fail
      refine (few18_any Aw Al As ws.length cw l.length cl s.length cs _).mono ?_
      rw [HFW.out]
      rintro e w1b ⟨rfl, b⟩
      replace BX := below2 BX b; replace PB := PB.below b; replace PC := PC.below b; replace hS := hS.below b; clear b yy0 yy1 yy2
      go_wp2_with fail
      refine (awake18_any _ hS.f hS.t).mono ?_
      rintro e w19 ⟨rfl, b⟩
      replace BX := below2 BX b; clear b
      go_wp2_with fail
      go_ret
      exact ⟨rfl, BX⟩
    · have HFW := Lib.hid hfew
      have hfd : ws.length ≤ 140 ∧ l.length ≤ 600 ∧ s.length ≤ 200 := by
        unfold few18B at hfew
        rw [Bool.and_eq_true, Bool.and_eq_true, decide_eq_true_eq, decide_eq_true_eq, decide_eq_true_eq] at hfew
        exact ⟨hfew.1.1, hfew.1.2, hfew.2⟩
      have HFD := Lib.hid hfd
      clear hfew hfd
      have HRN := Lib.hid (show (roomBits s0 N0).length ≤ 1048576 by rw [roomBits_length]; exact roomN_le H50.out)
      obtain ⟨X, hX⟩ : ∃ X, roomBits s0 N0 = X := ⟨_, rfl⟩
      have HXE := Lib.hid hX
      rw [hX] at HRN
      clear hX
      go_enter Tryz.func4, Tryz.ntmps4
      go_upto_region 1 with fail
      try simp only [hWa, hWb, hza, hg2, hg3]
      clear hWa hWb hza hg2 hg3
      have hS := HS0.out
      go_wp2_with fail
      refine (rfew_any A0 s0.length c0 N0 _).mono ?_
      rw [HD.out]
      rintro e w1 ⟨rfl, b⟩
      have BX := HBA.out.trans (b.mono HBA.out.size)
      have PB := HBX.out.below b
      have PC := HBY.out.below b
      replace hS := hS.below b; clear b
      have yy0 := PC.cell 0 rfl
      have yy1 := PC.cell 1 rfl
      have yy2 := PC.cell 2 rfl
      go_wp2_with fail
      refine (few18_any Aw Al As ws.length cw l.length cl s.length cs _).mono ?_
      rw [HFW.out]
      rintro e w1b ⟨rfl, b⟩
      replace BX := below2 BX b; replace PB := PB.below b; replace PC := PC.below b; replace hS := hS.below b; clear b yy0 yy1 yy2
      have k0 := PB.cell 0 rfl
      have k1 := PB.cell 1 rfl
      go_wp2_with fail
      refine (rbegun_any A0 c0 s0 N0 _ (HR0.out.below BX) HB0.out H50.out).mono ?_
      rw [HXE.out]
      rintro e w3 ⟨g, R1, d, k, rfl, hw, hr, hk, b⟩
      have hsz := BX.size
      have HRw := ((HRW.out.weak (ok' := fun x => x < W.heap.size) (fun x hx _ => hx)).below BX).below b
      have HRl := ((HRL.out.weak (ok' := fun x => x < W.heap.size) (fun x hx _ => hx)).below BX).below b
      have HRs := ((HRS.out.weak (ok' := fun x => x < W.heap.size) (fun x hx _ => hx)).below BX).below b
      have HGL := Lib.hid (show g3 < w1b.heap.size from PC.lt)
      replace PC := PC.below b
      replace hS := hS.below b
      replace BX := below2 BX b; clear b k0 k1 PB
      have yy0 := PC.cell 0 rfl
      have yy1 := PC.cell 1 rfl
      have yy2 := PC.cell 2 rfl
      go_wp2_with fail
      refine (sWrite_any _ g Aw Al As cw cl cs ws l s X _ (fun x h => h.2) hw.cut (HRw.weak fun x _ h h2 => by have := h2.1; omega) (HRl.weak fun x _ h h2 => by have := h2.1; omega) (HRs.weak fun x _ h h2 => by have := h2.1; omega) hS.f hS.t (fun h => by have := h.1; have := hS.lf; omega) (fun h => by have := h.1; have := hS.lt; omega) (by have := HFD.out.1; omega) HRN.out).mono ?_
      rintro e w6 ⟨rfl, hw4, hu⟩
      have hkk := hu.keep (ok := fun x => x < w1b.heap.size) fun x h h2 => by have := h2.1; omega
      have hk2 := hu.keep (ok := fun x => k ≤ x) fun x h h2 => by have := h2.1; omega
      replace HRw := (HRw.keep (hkk.weak fun x h => by omega)).any
      replace HRl := (HRl.keep (hkk.weak fun x h => by omega)).any
      replace HRs := (HRs.keep (hkk.weak fun x h => by omega)).any
      replace hr := (hr.keep hk2).any
      replace PC := PC.keep hkk HGL.out
      replace hS := hS.upd hu (fun x h h2 => by have := h2.1; omega)
      replace BX := BX.trans (hu.below (n := W.heap.size) BX.size (fun x _ e => by have := e.1; omega)); clear hu hw hk hkk hk2 yy0 yy1 yy2
      have yy0 := PC.cell 0 rfl
      have yy1 := PC.cell 1 rfl
      have yy2 := PC.cell 2 rfl
      go_wp2_with fail
      refine (rWrite18_any R1 Aw Al As d cw cl cs ws l s X _ hr HRN.out HRw HRl HRs (by have := HFD.out.1; omega)).mono ?_
      rintro e w7 ⟨A7, c7, rfl, h7, b⟩
      replace hw4 := hw4.below b; replace PC := PC.below b; replace hS := hS.below b; replace BX := below2 BX b; clear b hr hsz yy0 yy1 yy2
      have hle := wrB_le ws l s X HRN.out
      generalize wrS ws l s X.length = E
      generalize wrB ws l s X = Y at hw4 h7 hle ⊢
      have HLE := Lib.hid hle
      clear hle
      go_wp2_with fail
      refine (holds_any _ g Y Y A7 c7 _ hw4 h7 (by have := HLE.out; omega) (by have := HLE.out; omega)).mono ?_
      rw [holdsB_refl]
      rintro e w8 ⟨rfl, b⟩
      replace PC := PC.below b; replace hS := hS.below b; replace BX := below2 BX b; clear b hw4 h7
      have yy0 := PC.cell 0 rfl
      have yy1 := PC.cell 1 rfl
      have yy2 := PC.cell 2 rfl
      go_wp2_with fail
      refine (sWrite_nil Aw Al As _ cw _ cl _ cs _).mono ?_
      rintro e w9 ⟨rfl, b⟩
      replace hS := hS.below b; replace BX := below2 BX b; clear b yy0 yy1 yy2
      go_wp2_with fail
      refine (awake18_any _ hS.f hS.t).mono ?_
      rintro e w19 ⟨rfl, b⟩
      replace BX := below2 BX b; clear b
      go_wp2_with fail
      go_ret
      exact ⟨rfl, BX⟩
  · have HD := Lib.hid (show decide (s0.length ≤ 50) = false from decide_eq_false h50)
    clear h50
    go_enter Tryz.func4, Tryz.ntmps4
    go_upto_region 1 with fail
    try simp only [hWa, hWb, hza, hg2, hg3]
    clear hWa hWb hza hg2 hg3
    have hS := HS0.out
    go_wp2_with fail
    refine (rfew_any A0 s0.length c0 N0 _).mono ?_
    rw [HD.out]
    rintro e w1 ⟨rfl, b⟩
    have BX := HBA.out.trans (b.mono HBA.out.size)
    have PB := HBX.out.below b
    have PC := HBY.out.below b
    replace hS := hS.below b; clear b
    go_wp2_with fail
    refine (awake18_any _ hS.f hS.t).mono ?_
    rintro e w19 ⟨rfl, b⟩
    replace BX := below2 BX b; clear b
    go_wp2_with fail
    go_ret
    exact ⟨rfl, BX⟩
end Go.Proofs.YtmcdgmiheklbeaaGreatDoor

namespace Go.Proofs.YtmcdgmiheklbeaaGreatDoor
open Go.ChangeShapes Go.WideShapes Go.ChangeAt Go.WideMaps Go.WideElems Go.RowKit Go.Deep

theorem laidOut_sectionWrites : laidOutB Tryz.prog = true := by kernel_rfl
set_option maxRecDepth 100000 in
theorem lifted_sectionWrites (os : Os) (started : os.Started) (H : Type) (enc : TypeId × Value → H) :
    ReturnsInHanded {} Tryz.checked os 4 .any (fun w args => (Rows.sectionWritesSpec.pre enc Tryz.prog Tryz.f4 [] false w args ∧ laidMetH Tryz.prog laidBk w) ∧ sizedMet enc Tryz.prog Tryz.f4 (OpenSpec.ofChange Rows.sectionWritesSpec) false w args)
      (Rows.sectionWritesSpec.post enc Tryz.prog Tryz.f4 false true false false) := by
  refine returnsInHanded_of_change_and (C := Tryz.checked) (X := fun w _ => laidMetH Tryz.prog laidBk w) (fun _ _ _ hh h => h.of_heap hh) ownBk started (by kernel_rfl) Tryz.func4
    (ChangeSpec.witness_shaped (enc := enc) (C := Tryz.checked) (os := os) (X := fun w _ => laidMetH Tryz.prog laidBk w) false (World.doorLaid Tryz.prog 400 os) #[.agg #[.slice none 0 0, .int .i64 0], .agg #[.slice none 0 0, .slice none 0 0, .slice none 0 0]] 8 rfl (World.shaped_of_RefB (by kernel_rfl) (by kernel_rfl)) (by kernel_rfl) (by kernel_rfl) (by kernel_rfl) (door_bk os _)) ?_
  intro W base args ds gs before hval0 hW _ hsz0 hL _
  obtain ⟨hG, hT⟩ := gf_of_laid hL
  have hval : ∀ (j : Nat) t v, Tryz.f4.params[j]? = some t → args[j]? = some v → Value.okWide Tryz.prog W .any base t v := hval0
  have hW' := hW
  obtain ⟨p, q, hA0, hV, rfl, hfz, hnd⟩ := hW
  have hA : DataW.TrodAll enc Tryz.prog W 0 (fun _ => true) true Tryz.f4.params.toList args.toList ds p := hA0
  have hsz : (DataW.weightsEach Tryz.prog (Tryz.f4.params.toList ++ Rows.sectionWritesSpec.plain.varTypes Tryz.prog) (ds ++ gs)).all (· ≤ reachBytes) = true := hsz0
  rw [Tryz.params4] at hA hval hsz
  obtain ⟨v0, vs0, d0, ds0, p0, q0, hargs, rfl, rfl, h0, r0⟩ := trodAll_cons hA
  obtain ⟨v1, vs1, d1, ds1, p1, q1, rfl, rfl, rfl, h1, r1⟩ := trodAll_cons r0
  obtain ⟨rfl, rfl, rfl⟩ := trodAll_nil r1
  obtain rfl : args = #[v0, v1] := by cases args; simp_all
  obtain ⟨rfl, rfl⟩ := trodVars_none hV
  have lt0 : ∀ x ∈ p0, x.block < W.heap.size := by obtain ⟨m, hm⟩ := h0; exact DataW.trod_lt m _ _ _ hm
  have y0 : ∀ m ∈ d0.weights Tryz.prog 33, m ≤ reachBytes := fun m hm => of_decide_eq_true (List.all_eq_true.1 hsz m (DataW.weights_mem_each (j := 0) rfl rfl m hm))
  obtain ⟨A0, c0, s0, N0, rfl, hR0, hB0⟩ := open_M (hval 0 33 v0 rfl rfl) h0
  have lt1 : ∀ x ∈ p1, x.block < W.heap.size := by obtain ⟨m, hm⟩ := h1; exact DataW.trod_lt m _ _ _ hm
  have y1 : ∀ m ∈ d1.weights Tryz.prog 25, m ≤ reachBytes := fun m hm => of_decide_eq_true (List.all_eq_true.1 hsz m (DataW.weights_mem_each (j := 1) rfl rfl m hm))
  obtain ⟨A1, c1, s1, A1b, c1b, s1b, A1c, c1c, s1c, rfl, hR1, hQ1, hP1⟩ := open_C (hval 1 25 v1 rfl rfl) h1
  have hwalk := sectionWrites_walk A0 c0 s0 N0 A1 c1 s1 A1b c1b s1b A1c c1c s1c W hG hT hR0 hB0 hR1 hQ1 hP1
  refine hwalk.mono fun e W' ⟨he, bel⟩ => ?_
  subst he
  exact ⟨_, rfl, _, _, _, [], _, [], hW', trodAll_mk1 (shut_bool Tryz.underlying4 _), (trodAll_cons_mk (Below.trod laidOut_sectionWrites (by kernel_rfl) (of_decide_eq_true (by kernel_rfl)) h0 bel lt0) (trodAll_cons_mk (Below.trod laidOut_sectionWrites (by kernel_rfl) (of_decide_eq_true (by kernel_rfl)) h1 bel lt1) trodAll_mk0)), rfl, bel.frame _, fun h => by cases h⟩
theorem sectionWrites_said : Rows.SectionWritesSaid :=
  OpenClaim.holds_of_wide 4 Tryz.f4 rfl rfl rfl rfl rfl rfl rfl ⟨rfl, rfl, rfl, rfl, rfl⟩ rfl rfl rfl rfl rfl (by kernel_rfl) Tryz.func4 (by kernel_rfl)
    (of_decide_eq_true (by kernel_rfl)) (by unfold Func.isWrapper; first | (rw [if_pos (by decide +kernel)]; kernel_rfl) | (rw [if_neg (by decide +kernel)]; exact ⟨rfl, rfl⟩))
    (fun os started H enc _ => lifted_sectionWrites os started H enc)
theorem sectionWrites_card : Rows.SectionWritesCardSaid :=
  Claim7.holds_tied_plain_at .later [] [.wider, .data] true Rows.sectionWritesCard.stood.harness false
    sectionWrites_said (fun _ h => by cases h) (by kernel_rfl) (fun _ h => by cases h) sectionWrites_row_tie rfl ⟨rfl, rfl⟩ (by kernel_rfl) rfl
    (fun f fn hf hfn => by
      obtain rfl : f = 4 := Option.some.inj ((show Tryz.prog.funcNamed "shawm/shawmlaw18.SectionWrites" = some 4 by kernel_rfl).symm.trans hf) |>.symm
      obtain rfl : fn = Tryz.f4 := (Option.some.inj (Tryz.func4.symm.trans hfn)).symm
      exact ⟨by kernel_rfl, fun j t ht => by
        rw [Tryz.params4] at ht
        have hm : t ∈ [33, 25] := by simpa using Array.mem_of_getElem? ht
        have hall : ([33, 25].all fun u => !Tryz.prog.wantsStandIn u) = true := by kernel_rfl
        exact (show Tryz.prog.wantsStandIn t = false by simpa using List.all_eq_true.1 hall t hm)⟩)
    (by kernel_rfl)
#print axioms sectionWrites_card
end Go.Proofs.YtmcdgmiheklbeaaGreatDoor
