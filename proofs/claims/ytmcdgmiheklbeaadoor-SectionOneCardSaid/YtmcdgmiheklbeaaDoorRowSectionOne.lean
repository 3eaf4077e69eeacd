/- The law SectionOne of layer 18 (section): it returns true for every input, at every world in which book's two tables read as the program's text lays them. The row, and its tied card. -/
import Derived.Test.YtmcdgmiheklbeaaDoorKk
import Derived.Test.YtmcdgmiheklbeaaDoorKj
import Derived.Test.YtmcdgmiheklbeaaDoorKn
import Derived.Test.YtmcdgmiheklbeaaDoorCards
import Derived.Test.YtmcdgmiheklbeaaDoorTie
import Derived.SevenTiedAt
import Derived.OpenShut
import Derived.Carry
import Derived.SizedLaws
namespace Go.Proofs.YtmcdgmiheklbeaaDoor
open Go.RowKit

set_option maxHeartbeats 8000000 in
set_option maxRecDepth 100000 in
theorem sectionOne_walk (Aw : Option Addr) (cw : Nat) (ws : List Int) (Al : Option Addr) (cl : Nat) (l : List Int) (As : Option Addr) (cs : Nat) (s : List (Int × Int)) (W : World) (hG : GF W) (hT : GT W) (hRw : RI W Aw cw ws) (hRl : RI W Al cl l) (hRs : RS W As cs s) :
    Calls Tryd.prog 7 #[.agg #[.slice Aw ws.length cw, .slice Al l.length cl, .slice As s.length cs]] W fun e W' => e = .returned (.bool true) ∧ Below W.heap.size W W' := by
  have hb2 := below_alloc (Below.refl W.heap.size W) (.cells #[.slice Aw ws.length cw, .slice Al l.length cl, .slice As s.length cs] 51)
  have B3 : Blk (W.alloc (.cells #[.slice Aw ws.length cw, .slice Al l.length cl, .slice As s.length cs] 51)) W.heap.size #[.slice Aw ws.length cw, .slice Al l.length cl, .slice As s.length cs] 51 := heap_alloc_new W _
  obtain ⟨g3, hg3⟩ : ∃ g3, W.heap.size = g3 := ⟨_, rfl⟩
  obtain ⟨Wb, hWb⟩ : ∃ Wb, W.alloc (.cells #[.slice Aw ws.length cw, .slice Al l.length cl, .slice As s.length cs] 51) = Wb := ⟨_, rfl⟩
  rw [hWb] at hb2 B3
  rw [hg3] at B3
  have HBA := Lib.hid hb2
  have HBY := Lib.hid B3
  have HS0 := Lib.hid ((GS.of hG hT).below HBA.out)
  have HRW := Lib.hid (hRw.below hb2)
  have HRL := Lib.hid (hRl.below hb2)
  have HRS := Lib.hid (hRs.below hb2)
  have HPL := Lib.hid (fun h : (chooseR ws l).2.2 = 0 => one_facts h)
  have y0 := B3.cell 0 rfl
  have y1 := B3.cell 1 rfl
  have y2 := B3.cell 2 rfl
  clear hG hT hRw hRl hRs hb2 B3
  cases hfew : few18B ws.length l.length s.length
  · have HFW := Lib.hid hfew; clear hfew
    go_enter Tryd.func7, Tryd.ntmps7
    go_upto_region 1 with fail
    try simp only [hWb, hg3]
    clear hWb hg3
    have hS := HS0.out
    have BX := HBA.out
    go_wp2_with fail
    refine (few18_any Aw Al As ws.length cw l.length cl s.length cs _).mono ?_
    rw [HFW.out]
    rintro e w1 ⟨rfl, b⟩
    replace BX := below2 BX b
    have PC := HBY.out.below b
    have rW := HRW.out.below b
    have rL := HRL.out.below b
    have rS := HRS.out.below b
    replace hS := hS.below b
    clear b y0 y1 y2
    have y0 := PC.cell 0 rfl
    have y1 := PC.cell 1 rfl
    have y2 := PC.cell 2 rfl
    go_wp2_with fail
    refine (awake18_any _ hS.f hS.t).mono ?_
    rintro e w9 ⟨rfl, b⟩
    replace BX := below2 BX b
    clear b
    go_wp2_with fail
    go_ret
    exact ⟨rfl, BX⟩
  · have HFW := Lib.hid hfew
    have hfd : ws.length ≤ 140 ∧ l.length ≤ 600 ∧ s.length ≤ 200 := by
      unfold few18B at hfew
      rw [Bool.and_eq_true, Bool.and_eq_true, decide_eq_true_eq, decide_eq_true_eq, decide_eq_true_eq] at hfew
      exact ⟨hfew.1.1, hfew.1.2, hfew.2⟩
    have HFD := Lib.hid hfd
    clear hfew hfd
    go_enter Tryd.func7, Tryd.ntmps7
    go_upto_region 1 with fail
    try simp only [hWb, hg3]
    clear hWb hg3
    have hS := HS0.out
    have BX := HBA.out
    go_wp2_with fail
    refine (few18_any Aw Al As ws.length cw l.length cl s.length cs _).mono ?_
    rw [HFW.out]
    rintro e w1 ⟨rfl, b⟩
    replace BX := below2 BX b
    have PC := HBY.out.below b
    have rW := HRW.out.below b
    have rL := HRL.out.below b
    have rS := HRS.out.below b
    replace hS := hS.below b
    clear b y0 y1 y2
    have y0 := PC.cell 0 rfl
    have y1 := PC.cell 1 rfl
    have y2 := PC.cell 2 rfl
    go_wp2_with fail
    refine (sChoose_any Aw Al cw cl ws l _ rW rL hS.f hS.t (by have := HFD.out; omega)).mono ?_
    rintro e w2 ⟨Ac, ac, rfl, _, b⟩
    replace BX := below2 BX b; replace PC := PC.below b; replace rW := rW.below b; replace rL := rL.below b; replace rS := rS.below b; replace hS := hS.below b; clear b y0 y1 y2
    have y0 := PC.cell 0 rfl
    have y1 := PC.cell 1 rfl
    have y2 := PC.cell 2 rfl
    obtain ⟨cL, hcL⟩ : ∃ cL, (chooseR ws l).1.length = cL := ⟨_, rfl⟩
    obtain ⟨cC, hcC⟩ : ∃ cC, (chooseR ws l).2.1 = cC := ⟨_, rfl⟩
    obtain ⟨cE, hcE⟩ : ∃ cE, (chooseR ws l).2.2 = cE := ⟨_, rfl⟩
    rw [hcE, hcC] at HPL
    rw [hcL, hcC, hcE]
    clear hcL hcC hcE
    by_cases hE : cE = 0
    · subst hE
      have hF := HPL.out rfl
      have HF := Lib.hid hF
      obtain ⟨n, hn⟩ : ∃ n, ws.length = n := ⟨_, rfl⟩
      by_cases hn0 : n = 0
      · rw [hn, hn0] at y0
        clear hF HPL HF hn hn0
        go_wp2_with fail
        refine (awake18_any _ hS.f hS.t).mono ?_
        rintro e w9 ⟨rfl, b⟩
        replace BX := below2 BX b
        clear b
        go_wp2_with fail
        go_ret
        exact ⟨rfl, BX⟩
      · obtain ⟨hok, h128, hsum, hq⟩ := hF.2.2
        have hne0 : ((n : Int) == 0) = false := by rw [beq_eq_false_iff_ne]; omega
        have hne0n : (n == 0) = false := by rw [beq_eq_false_iff_ne]; exact hn0
        have HN := Lib.hid (show 0 < n ∧ n ≤ 128 by omega)
        have HCO := Lib.hid (fun (k : Nat) (W' : World) (hb : Below w2.heap.size w2 W') => sCost_any Aw Al (some ⟨W'.heap.size, 0, none⟩) cw cl 1 ws l [((k : Int), (n : Int))] (W'.alloc (.cells #[.int .i64 (k : Int), .int .i64 (n : Int)] 67)) ((rW.below hb).below (below_alloc (Below.refl W'.heap.size W') _)) ((rL.below hb).below (below_alloc (Below.refl W'.heap.size W') _)) (lit_se W' [((k : Int), (n : Int))] (by simp)).any ((hS.f.below hb).below (below_alloc (Below.refl W'.heap.size W') _)) ((hS.t.below hb).below (below_alloc (Below.refl W'.heap.size W') _)) (by omega))
        have HCL := Lib.hid (fun k : Nat => show (costQ ws l [((k : Int), (n : Int))]).2 = 0 → cC ≤ (costQ ws l [((k : Int), (n : Int))]).1 from hF.1 _)
        have HBB := Lib.hid (fun j hj => best_band Al cl ws l w2 rL hS.f hS.t hok hsum hq j hj)
        have HBD := Lib.hid (fun j hj => band_best (l := l) hok hq j hj)
        have HSB := Lib.hid (fun j (hj : j ≤ ws.length) => sumB_bd hok hq j hj)
        have HOK := Lib.hid (fun j (hj : j < ws.length) => okV_at hok j hj)
        have HSV := Lib.hid (fun j (hj : j < ws.length) => sumV_all hsum j hj)
        have HWC := Lib.hid (fun j (hj : j < ws.length) => show ∃ ad, Aw = some ad ∧ ∀ W', Below w2.heap.size w2 W' → W'.cell? (ad.add j) = some (.int .i64 (nth 0 ws j)) from by
          obtain ⟨ad, h1, h2⟩ := rd_int rW j hj
          exact ⟨ad, h1, fun W' hb => cell_below hb h2⟩)
        have HLE := Lib.hid (show sumB ws l n ≤ cC from by rw [← hn]; exact hF.2.1)
        have HLC := Lib.hid (And.intro rL.le rL.cap)
        have HY := Lib.hid (show ∀ W', Below w2.heap.size w2 W' → W'.cell? ⟨g3, 0, none⟩ = some (.slice Aw n cw) ∧ W'.cell? ⟨g3, 1, none⟩ = some (.slice Al l.length cl) from fun W' hb => ⟨by rw [← hn]; exact (PC.below hb).cell 0 rfl, (PC.below hb).cell 1 rfl⟩)
        have HSS := Lib.hid hS
        have HBX := Lib.hid BX
        have HL6 := Lib.hid (show l.length ≤ 600 from HFD.out.2.1)
        rw [hn] at y0 HCO HBB HBD HSB HOK HSV HWC
        clear hF HPL HF hok h128 hsum hq BX PC rW rL rS hS HFD HFW hn hn0 HRW HRL HRS HBY HBA HS0
        go_wp2
        clear y0 y1 y2
        go_loopw [38] (fun iv wr => ∃ k : Nat, k ≤ 8 ∧ iv = .int .i64 (k : Int) ∧ Hid (Below w2.heap.size w2 wr)) (fun iv _ => 8 - (intOf iv).toNat)
        case atStart => exact ⟨0, Nat.zero_le _, rfl, Lib.hid (Below.refl _ _)⟩
        case round =>
          obtain ⟨k, hk, rfl, HB⟩ := hrel
          obtain ⟨y0, y1⟩ := HY.out wr HB.out
          by_cases hk8 : k < 8
          · have hkd : decide ((k : Int) < 8) = true := decide_eq_true (by omega)
            have hk1 : IntKind.i64.wrap ((k : Int) + 1) = ((k + 1 : Nat) : Int) := by rw [IntWalk.i64_in _ (by omega)]; omega
            have HC1 := Lib.hid (HCO.out k wr HB.out)
            have HBA := Lib.hid (below2 HB.out (below_alloc (Below.refl wr.heap.size wr) (.cells #[.int .i64 (k : Int), .int .i64 (n : Int)] 67)))
            have HCK := Lib.hid (HCL.out k)
            obtain ⟨q1, hq1⟩ : ∃ q1, (costQ ws l [((k : Int), (n : Int))]).1 = q1 := ⟨_, rfl⟩
            obtain ⟨q2, hq2⟩ : ∃ q2, (costQ ws l [((k : Int), (n : Int))]).2 = q2 := ⟨_, rfl⟩
            rw [hq1, hq2] at HC1 HCK
            clear hq1 hq2
            have hms : ∀ b' : Nat, b' = k + 1 → 8 - b' < 8 - k := fun b' e => by omega
            clear hk
            by_cases he : q2 = 0
            · subst he
              have hlt : decide (q1 < cC) = false := decide_eq_false (by have := HCK.out rfl; omega)
              go_wp2_with (go_at_call 24; refine HC1.out.mono ?_; rintro e w5 ⟨rfl, b5⟩)
              exact ⟨⟨k + 1, by omega, rfl, Lib.hid (below2 HBA.out b5)⟩, by
                show 8 - ((((k + 1 : Nat) : Int))).toNat < 8 - ((k : Int)).toNat
                rw [Int.toNat_natCast, Int.toNat_natCast]; omega⟩
            · have heb : (q2 == 0) = false := by rw [beq_eq_false_iff_ne]; exact he
              go_wp2_with (go_at_call 24; refine HC1.out.mono ?_; rintro e w5 ⟨rfl, b5⟩)
              exact ⟨⟨k + 1, by omega, rfl, Lib.hid (below2 HBA.out b5)⟩, by
                show 8 - ((((k + 1 : Nat) : Int))).toNat < 8 - ((k : Int)).toNat
                rw [Int.toNat_natCast, Int.toNat_natCast]; omega⟩
          · have hkd : decide ((k : Int) < 8) = false := decide_eq_false (by omega)
            have hkdn : decide (k < 8) = false := decide_eq_false (by omega)
            clear hk hk8 HCL HCO
            obtain ⟨wo, hwo⟩ : ∃ wo, wr = wo := ⟨_, rfl⟩
            rw [hwo] at HB y0 y1 ⊢
            clear hwo
            go_wp2
            go_loopw [9, 10, 66] (fun sv av jv wr => ∃ j : Nat, j ≤ n ∧ sv = .int .i64 (sumB ws l j) ∧ av = .int .i64 (sumV ws j : Int) ∧ jv = .int .i64 (j : Int) ∧ Hid (Below w2.heap.size w2 wr)) (fun _ _ jv _ => n - (intOf jv).toNat)
            case atStart => exact ⟨0, Nat.zero_le _, rfl, rfl, rfl, HB⟩
            case round =>
              clear HB y0 y1
              obtain ⟨j, hj, rfl, rfl, rfl, HB⟩ := hrel
              obtain ⟨y0, y1⟩ := HY.out wr HB.out
              by_cases hjn : j < n
              · obtain ⟨ad, rfl, hcw⟩ := HWC.out j hjn
                obtain ⟨bd, rfl, hbb⟩ := HBB.out j hjn
                obtain ⟨o1, o2, o3⟩ := HOK.out j hjn
                have hsv := HSV.out j hjn
                have hb1 := HSB.out j (by omega)
                have hb2 := HBD.out j hjn
                have kc := hcw wr HB.out
                rw [o1] at kc
                have HBE := Lib.hid (hbb wr HB.out)
                have hL6 := HL6.out
                have hLC := HLC.out
                have hN := HN.out
                have HSU := Lib.hid (show sumB ws l (j + 1) = sumB ws l j + (bestV (bndL ws l j)).2 from rfl)
                have HVU := Lib.hid (sumV_succ ws j)
                obtain ⟨v1, hv1⟩ : ∃ v1, (bestV (bndL ws l j)).1 = v1 := ⟨_, rfl⟩
                obtain ⟨v2, hv2⟩ : ∃ v2, (bestV (bndL ws l j)).2 = v2 := ⟨_, rfl⟩
                rw [hv1, hv2] at HBE
                rw [hv2] at hb2 HSU
                obtain ⟨S, hSe⟩ : ∃ S, sumB ws l j = S := ⟨_, rfl⟩
                rw [hSe] at hb1 HSU ⊢
                obtain ⟨a, hae⟩ : ∃ a, sumV ws j = a := ⟨_, rfl⟩
                rw [hae] at hsv HVU HBE ⊢
                obtain ⟨dw, hdw⟩ : ∃ dw, widV ws j = dw := ⟨_, rfl⟩
                rw [hdw] at hsv HVU HBE kc o2 o3
                obtain ⟨e, he⟩ : ∃ e, a + dw = e := ⟨_, rfl⟩
                have hcut := fun W => cut_lh a dw l.length cl bd o2 hsv hLC.1 W
                rw [he] at hcut
                have hwe : IntKind.i64.wrap ((a : Int) + (dw : Int)) = (e : Int) := by rw [IntWalk.i64_in _ (by omega)]; omega
                obtain ⟨S2, hS2⟩ : ∃ S2, S + v2 = S2 := ⟨_, rfl⟩
                have hws : IntKind.i64.wrap (S + v2) = S2 := by rw [IntWalk.i64_in _ (by omega)]; exact hS2
                have hjd : decide ((j : Int) < (n : Int)) = true := decide_eq_true (by omega)
                have hji : (j : Int) < (n : Int) := by omega
                have hj0 : (0 : Int) ≤ (j : Int) := by omega
                have hj1 : IntKind.i64.wrap ((j : Int) + 1) = ((j + 1 : Nat) : Int) := by rw [IntWalk.i64_in _ (by omega)]; omega
                have HJN := Lib.hid hjn
                have HSN := Lib.hid (show sumB ws l (j + 1) = S2 ∧ sumV ws (j + 1) = e by rw [HSU.out, HVU.out]; exact ⟨hS2, he⟩)
                clear hv1 hv2 hSe hae hdw he hS2 hb1 hb2 hsv o1 o2 o3 hL6 hLC hN HSU HVU hcw hbb hj hjn
                go_wp2_with (go_at_call 31; refine HBE.out.mono ?_; rintro e w5 ⟨rfl, b5⟩)
                exact ⟨⟨j + 1, by have := HJN.out; omega, by rw [HSN.out.1], by rw [HSN.out.2], rfl, Lib.hid (below2 HB.out b5)⟩, by
                  show n - ((((j + 1 : Nat) : Int))).toNat < n - ((j : Int)).toNat
                  rw [Int.toNat_natCast, Int.toNat_natCast]; have := HJN.out; omega⟩
              · have hje : j = n := by omega
                rw [hje]
                obtain ⟨S, hSe⟩ : ∃ S, sumB ws l n = S := ⟨_, rfl⟩
                have hle := HLE.out
                rw [hSe] at hle ⊢
                have hge : decide (S ≤ cC) = true := decide_eq_true hle
                have hlt' : decide ((n : Int) < (n : Int)) = false := decide_eq_false (by omega)
                have hS2 := HSS.out.below HB.out
                have HBX2 := Lib.hid (below2 HBX.out HB.out)
                clear hSe hle hj hjn hje
                go_wp2_with fail
                refine (awake18_any _ hS2.f hS2.t).mono ?_
                rintro e w9 ⟨rfl, b⟩
                go_wp2_with fail
                go_ret
                exact ⟨rfl, below2 HBX2.out b⟩
    · have hEb : (cE != 0) = true := by simp [hE]
      clear HPL
      go_wp2_with fail
      refine (awake18_any _ hS.f hS.t).mono ?_
      rintro e w9 ⟨rfl, b⟩
      replace BX := below2 BX b
      clear b
      go_wp2_with fail
      go_ret
      exact ⟨rfl, BX⟩
end Go.Proofs.YtmcdgmiheklbeaaDoor

namespace Go.Proofs.YtmcdgmiheklbeaaDoor
open Go.ChangeShapes Go.WideShapes Go.ChangeAt Go.WideMaps Go.WideElems Go.RowKit Go.Deep

theorem laidOut_sectionOne : laidOutB Tryd.prog = true := by kernel_rfl
set_option maxRecDepth 100000 in
theorem lifted_sectionOne (os : Os) (started : os.Started) (H : Type) (enc : TypeId × Value → H) :
    ReturnsInHanded {} Tryd.checked os 7 .any (fun w args => (Rows.sectionOneSpec.pre enc Tryd.prog Tryd.f7 [] false w args ∧ laidMetH Tryd.prog laidBk w) ∧ sizedMet enc Tryd.prog Tryd.f7 (OpenSpec.ofChange Rows.sectionOneSpec) false w args)
      (Rows.sectionOneSpec.post enc Tryd.prog Tryd.f7 false true false false) := by
  refine returnsInHanded_of_change_and (C := Tryd.checked) (X := fun w _ => laidMetH Tryd.prog laidBk w) (fun _ _ _ hh h => h.of_heap hh) ownBk started (by kernel_rfl) Tryd.func7
    (ChangeSpec.witness_shaped (enc := enc) (C := Tryd.checked) (os := os) (X := fun w _ => laidMetH Tryd.prog laidBk w) false (World.doorLaid Tryd.prog 400 os) #[.agg #[.slice none 0 0, .slice none 0 0, .slice none 0 0]] 8 rfl (World.shaped_of_RefB (by kernel_rfl) (by kernel_rfl)) (by kernel_rfl) (by kernel_rfl) (by kernel_rfl) (door_bk os _)) ?_
  intro W base args ds gs before hval0 hW _ hsz0 hL _
  obtain ⟨hG, hT⟩ := gf_of_laid hL
  have hval : ∀ (j : Nat) t v, Tryd.f7.params[j]? = some t → args[j]? = some v → Value.okWide Tryd.prog W .any base t v := hval0
  have hW' := hW
  obtain ⟨p, q, hA0, hV, rfl, hfz, hnd⟩ := hW
  have hA : DataW.TrodAll enc Tryd.prog W 0 (fun _ => true) true Tryd.f7.params.toList args.toList ds p := hA0
  have hsz : (DataW.weightsEach Tryd.prog (Tryd.f7.params.toList ++ Rows.sectionOneSpec.plain.varTypes Tryd.prog) (ds ++ gs)).all (· ≤ reachBytes) = true := hsz0
  rw [Tryd.params7] at hA hval hsz
  obtain ⟨v0, vs0, d0, ds0, p0, q0, hargs, rfl, rfl, h0, r0⟩ := trodAll_cons hA
  obtain ⟨rfl, rfl, rfl⟩ := trodAll_nil r0
  obtain rfl : args = #[v0] := by cases args; simp_all
  obtain ⟨rfl, rfl⟩ := trodVars_none hV
  have lt0 : ∀ x ∈ p0, x.block < W.heap.size := by obtain ⟨m, hm⟩ := h0; exact DataW.trod_lt m _ _ _ hm
  have y0 : ∀ m ∈ d0.weights Tryd.prog 51, m ≤ reachBytes := fun m hm => of_decide_eq_true (List.all_eq_true.1 hsz m (DataW.weights_mem_each (j := 0) rfl rfl m hm))
  obtain ⟨A0, c0, s0, A0b, c0b, s0b, A0c, c0c, s0c, rfl, hR0, hQ0, hP0⟩ := open_C (hval 0 51 v0 rfl rfl) h0
  have hwalk := sectionOne_walk A0 c0 s0 A0b c0b s0b A0c c0c s0c W hG hT hR0 hQ0 hP0
  refine hwalk.mono fun e W' ⟨he, bel⟩ => ?_
  subst he
  exact ⟨_, rfl, _, _, _, [], _, [], hW', trodAll_mk1 (shut_bool Tryd.underlying4 _), (trodAll_cons_mk (Below.trod laidOut_sectionOne (by kernel_rfl) (of_decide_eq_true (by kernel_rfl)) h0 bel lt0) trodAll_mk0), rfl, bel.frame _, fun h => by cases h⟩
theorem sectionOne_said : Rows.SectionOneSaid :=
  OpenClaim.holds_of_wide 7 Tryd.f7 rfl rfl rfl rfl rfl rfl rfl ⟨rfl, rfl, rfl, rfl, rfl⟩ rfl rfl rfl rfl rfl (by kernel_rfl) Tryd.func7 (by kernel_rfl)
    (of_decide_eq_true (by kernel_rfl)) (by unfold Func.isWrapper; first | (rw [if_pos (by decide +kernel)]; kernel_rfl) | (rw [if_neg (by decide +kernel)]; exact ⟨rfl, rfl⟩))
    (fun os started H enc _ => lifted_sectionOne os started H enc)
theorem sectionOne_card : Rows.SectionOneCardSaid :=
  Claim7.holds_tied_plain_at .later [] [.wider, .data] true Rows.sectionOneCard.stood.harness false
    sectionOne_said (fun _ h => by cases h) (by kernel_rfl) (fun _ h => by cases h) sectionOne_row_tie rfl ⟨rfl, rfl⟩ (by kernel_rfl) rfl
    (fun f fn hf hfn => by
      obtain rfl : f = 7 := Option.some.inj ((show Tryd.prog.funcNamed "shawm/shawmlaw18.SectionOne" = some 7 by kernel_rfl).symm.trans hf) |>.symm
      obtain rfl : fn = Tryd.f7 := (Option.some.inj (Tryd.func7.symm.trans hfn)).symm
      exact ⟨by kernel_rfl, fun j t ht => by
        rw [Tryd.params7] at ht
        have hm : t ∈ [51] := by simpa using Array.mem_of_getElem? ht
        have hall : ([51].all fun u => !Tryd.prog.wantsStandIn u) = true := by kernel_rfl
        exact (show Tryd.prog.wantsStandIn t = false by simpa using List.all_eq_true.1 hall t hm)⟩)
    (by kernel_rfl)
#print axioms sectionOne_card
end Go.Proofs.YtmcdgmiheklbeaaDoor
