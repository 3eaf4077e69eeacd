/- The law BookWrites of layer 17 (book): it returns true for every input, at every world in which book's two tables read as the program's text lays them. The row, and its tied card. -/
import Derived.Test.YtciknejchglmoaaDoorKo
import Derived.Test.YtciknejchglmoaaDoorCards
import Derived.Test.YtciknejchglmoaaDoorTie
import Derived.SevenTiedAt
import Derived.OpenShut
import Derived.Carry
import Derived.SizedLaws
namespace Go.Proofs.YtciknejchglmoaaDoor
open Go.RowKit

theorem fullB_le (a b : List Bool) (h : a.length ≤ 1048576) : (fullB a b).length ≤ 1048576 := by
  unfold fullB; split
  · exact h
  · rw [List.length_append]; omega

set_option maxHeartbeats 4000000 in
set_option maxRecDepth 100000 in
theorem bookWrites_walk (A0 : Option Addr) (c0 : Nat) (s0 : List Int) (N0 n1 : Int) (A2 : Option Addr) (c2 : Nat) (s2 : List Int) (W : World) (hG : GF W) (hT : GT W) (hR0 : RY W A0 c0 s0) (hB0 : ∀ x ∈ s0, 0 ≤ x ∧ x < 256) (hR2 : RI W A2 c2 s2) :
    Calls Tryd.prog 8 #[.agg #[.slice A0 s0.length c0, .int .i64 N0], .int .i64 n1, .slice A2 s2.length c2] W fun e W' => e = .returned (.bool true) ∧ Below W.heap.size W W' := by
  have HBA := Lib.hid (below_alloc (Below.refl W.heap.size W) (.cells #[.slice A0 s0.length c0, .int .i64 N0] 57))
  have HBX := Lib.hid (show Blk (W.alloc (.cells #[.slice A0 s0.length c0, .int .i64 N0] 57)) W.heap.size #[.slice A0 s0.length c0, .int .i64 N0] 57 from heap_alloc_new W _)
  have HB0 := Lib.hid hB0
  have hS := (GS.of hG hT).below HBA.out
  clear hB0 hG hT
  by_cases h50 : s0.length ≤ 50
  · have HD := Lib.hid (show decide (s0.length ≤ 50) = true from decide_eq_true h50)
    have H50 := Lib.hid h50
    clear h50
    by_cases h6 : 600 < s2.length
    · have g1 : decide ((600 : Int) < (s2.length : Int)) = true := decide_eq_true (by omega)
      clear h6
      go_enter Tryd.func8, Tryd.ntmps8
      go_wp2_with fail
      refine (rfew_any A0 s0.length c0 N0 _).mono ?_
      rw [HD.out]
      rintro e w1 ⟨rfl, b⟩
      have BX := below2 HBA.out b
      replace hS := hS.below b; clear b
      go_wp2_with fail
      refine (awake17_any _ hS.f hS.t).mono ?_
      rintro e w3 ⟨rfl, b⟩
      replace BX := below2 BX b; clear b
      go_wp2_with fail
      go_ret
      exact ⟨rfl, BX⟩
    · have g1 : decide ((600 : Int) < (s2.length : Int)) = false := decide_eq_false (by omega)
      have HL := Lib.hid (show s2.length ≤ 600 by omega)
      clear h6
      have HRN := Lib.hid (show (roomBits s0 N0).length ≤ 1048576 by rw [roomBits_length]; exact roomN_le H50.out)
      go_enter Tryd.func8, Tryd.ntmps8
      go_wp2_with fail
      refine (rfew_any A0 s0.length c0 N0 _).mono ?_
      rw [HD.out]
      rintro e w1 ⟨rfl, b⟩
      have BX := below2 HBA.out b
      have PB := HBX.out.below b
      replace hS := hS.below b
      replace hR0 := hR0.below BX; replace hR2 := hR2.below BX; clear b
      have k0 := PB.cell 0 rfl
      have k1 := PB.cell 1 rfl
      go_wp2_with fail
      refine (rbegun_any A0 c0 s0 N0 _ hR0 HB0.out H50.out).mono ?_
      rintro e w3 ⟨g, R, d, k, rfl, hw, hr, hk, b⟩
      have hR2' := (hR2.weak (ok' := fun x => x < w1.heap.size) (fun x hx _ => hx)).below b
      have hsz := BX.size
      replace hS := hS.below b
      replace BX := below2 BX b; clear b k0 k1 PB hR0 hR2
      generalize hbits : roomBits s0 N0 = X at hw hr HRN ⊢
      clear hbits
      go_wp2_with fail
      refine (copy17_any A2 c2 s2 _ hR2'.any (by have := HL.out; omega)).mono ?_
      rintro e w4 ⟨v9, rfl, hO9, b⟩
      obtain ⟨A9, c9, rfl, h9⟩ := hO9.rd
      have hw3 : Wr (fun x => w1.heap.size ≤ x ∧ x < k ∧ x < w3.heap.size) w3 g X := hw.cut.weak fun x _ h => ⟨h.1.1, h.1.2, h.2⟩
      replace hw := hw3.below b
      replace hr := hr.below b
      replace hR2' := hR2'.below b
      replace hS := hS.below b
      replace BX := below2 BX b; clear hw3 b hO9
      go_wp2_with fail
      refine (bwrite_any (fun x => w1.heap.size ≤ x ∧ x < k ∧ x < w3.heap.size) g A9 c9 n1 X s2 _ hw HRN.out (h9.weak fun x _ h h2 => by have := h.1; omega) hS.f hS.t (by have := HL.out; omega)).mono ?_
      rintro e w5 ⟨rfl, hw4, hu⟩
      have hk1 := hu.keep (ok := fun x => x < w1.heap.size) fun x h h2 => by omega
      have hk2 := hu.keep (ok := fun x => k ≤ x) fun x h h2 => by omega
      replace hR2' := (hR2'.keep hk1).any
      replace hr := (hr.keep hk2).any
      replace h9 := ((h9.weak (ok' := fun x => w3.heap.size ≤ x) fun x _ h => h.1).keep (hu.keep fun x h h2 => by omega)).any
      replace hS := hS.upd hu (fun x h h2 => by omega)
      replace BX := BX.trans (hu.below (n := W.heap.size) BX.size (fun x _ e => by omega)); clear hu hk1 hk2 hw hk
      go_wp2_with fail
      refine (rWrite_any A2 R c2 d n1 X s2 _ hr HRN.out hR2' (by have := HL.out; omega)).mono ?_
      rintro e w6 ⟨A7, c7, rfl, h7, b⟩
      replace hR2' := hR2'.below b; replace h9 := h9.below b; replace hw4 := hw4.below b; replace hS := hS.below b; replace BX := below2 BX b; clear b hr hsz
      have hle := fullB_le X (bkW n1 s2) HRN.out
      generalize writeK n1 s2 X.length = E
      generalize fullB X (bkW n1 s2) = Y at hw4 h7 hle ⊢
      have HLE := Lib.hid hle
      clear hle
      go_wp2_with fail
      refine (holds_any _ g Y Y A7 c7 _ hw4 h7 (by have := HLE.out; omega) (by have := HLE.out; omega)).mono ?_
      rw [holdsB_refl]
      rintro e w7 ⟨rfl, b⟩
      replace hR2' := hR2'.below b; replace h9 := h9.below b; replace hS := hS.below b; replace BX := below2 BX b; clear b hw4 h7
      go_wp2_with fail
      refine (same17_any A9 A2 c9 c2 s2 s2 _ h9 hR2').mono ?_
      rw [show sameL s2 s2 = true by simp [sameL]]
      rintro e w8 ⟨rfl, b⟩
      replace hS := hS.below b; replace BX := below2 BX b; clear b
      go_wp2_with fail
      refine (bwrite_nil A9 _ c9 n1 _).mono ?_
      rintro e w9 ⟨rfl, b⟩
      replace hS := hS.below b; replace BX := below2 BX b; clear b
      go_wp2_with fail
      refine (awake17_any _ hS.f hS.t).mono ?_
      rintro e w10 ⟨rfl, b⟩
      replace BX := below2 BX b; clear b
      go_wp2_with fail
      go_ret
      exact ⟨rfl, BX⟩
  · have HD := Lib.hid (show decide (s0.length ≤ 50) = false from decide_eq_false h50)
    clear h50
    go_enter Tryd.func8, Tryd.ntmps8
    go_wp2_with fail
    refine (rfew_any A0 s0.length c0 N0 _).mono ?_
    rw [HD.out]
    rintro e w1 ⟨rfl, b⟩
    have BX := below2 HBA.out b
    replace hS := hS.below b; clear b
    go_wp2_with fail
    refine (awake17_any _ hS.f hS.t).mono ?_
    rintro e w2 ⟨rfl, b⟩
    replace BX := below2 BX b; clear b
    go_wp2_with fail
    go_ret
    exact ⟨rfl, BX⟩
end Go.Proofs.YtciknejchglmoaaDoor

namespace Go.Proofs.YtciknejchglmoaaDoor
open Go.ChangeShapes Go.WideShapes Go.ChangeAt Go.WideMaps Go.WideElems Go.RowKit Go.Deep

theorem laidOut_bookWrites : laidOutB Tryd.prog = true := by kernel_rfl
set_option maxRecDepth 100000 in
theorem lifted_bookWrites (os : Os) (started : os.Started) (H : Type) (enc : TypeId × Value → H) :
    ReturnsInHanded {} Tryd.checked os 8 .any (fun w args => (Rows.bookWritesSpec.pre enc Tryd.prog Tryd.f8 [] false w args ∧ laidMetH Tryd.prog laidBk w) ∧ sizedMet enc Tryd.prog Tryd.f8 (OpenSpec.ofChange Rows.bookWritesSpec) false w args)
      (Rows.bookWritesSpec.post enc Tryd.prog Tryd.f8 false true false false) := by
  refine returnsInHanded_of_change_and (C := Tryd.checked) (X := fun w _ => laidMetH Tryd.prog laidBk w) (fun _ _ _ hh h => h.of_heap hh) ownBk started (by kernel_rfl) Tryd.func8
    (ChangeSpec.witness_shaped (enc := enc) (C := Tryd.checked) (os := os) (X := fun w _ => laidMetH Tryd.prog laidBk w) false (World.doorLaid Tryd.prog 400 os) #[.agg #[.slice none 0 0, .int .i64 0], .int .i64 0, .slice none 0 0] 8 rfl (World.shaped_of_RefB (by kernel_rfl) (by kernel_rfl)) (by kernel_rfl) (by kernel_rfl) (by kernel_rfl) (door_bk os _)) ?_
  intro W base args ds gs before hval0 hW _ hsz0 hL _
  obtain ⟨hG, hT⟩ := gf_of_laid hL
  have hval : ∀ (j : Nat) t v, Tryd.f8.params[j]? = some t → args[j]? = some v → Value.okWide Tryd.prog W .any base t v := hval0
  have hW' := hW
  obtain ⟨p, q, hA0, hV, rfl, hfz, hnd⟩ := hW
  have hA : DataW.TrodAll enc Tryd.prog W 0 (fun _ => true) true Tryd.f8.params.toList args.toList ds p := hA0
  have hsz : (DataW.weightsEach Tryd.prog (Tryd.f8.params.toList ++ Rows.bookWritesSpec.plain.varTypes Tryd.prog) (ds ++ gs)).all (· ≤ reachBytes) = true := hsz0
  rw [Tryd.params8] at hA hval hsz
  obtain ⟨v0, vs0, d0, ds0, p0, q0, hargs, rfl, rfl, h0, r0⟩ := trodAll_cons hA
  obtain ⟨v1, vs1, d1, ds1, p1, q1, rfl, rfl, rfl, h1, r1⟩ := trodAll_cons r0
  obtain ⟨v2, vs2, d2, ds2, p2, q2, rfl, rfl, rfl, h2, r2⟩ := trodAll_cons r1
  obtain ⟨rfl, rfl, rfl⟩ := trodAll_nil r2
  obtain rfl : args = #[v0, v1, v2] := by cases args; simp_all
  obtain ⟨rfl, rfl⟩ := trodVars_none hV
  have lt0 : ∀ x ∈ p0, x.block < W.heap.size := by obtain ⟨m, hm⟩ := h0; exact DataW.trod_lt m _ _ _ hm
  have y0 : ∀ m ∈ d0.weights Tryd.prog 57, m ≤ reachBytes := fun m hm => of_decide_eq_true (List.all_eq_true.1 hsz m (DataW.weights_mem_each (j := 0) rfl rfl m hm))
  obtain ⟨A0, c0, s0, N0, rfl, hR0, hB0⟩ := open_M (hval 0 57 v0 rfl rfl) h0
  have lt1 : ∀ x ∈ p1, x.block < W.heap.size := by obtain ⟨m, hm⟩ := h1; exact DataW.trod_lt m _ _ _ hm
  have y1 : ∀ m ∈ d1.weights Tryd.prog 3, m ≤ reachBytes := fun m hm => of_decide_eq_true (List.all_eq_true.1 hsz m (DataW.weights_mem_each (j := 1) rfl rfl m hm))
  obtain ⟨a1, rfl, _, _, w1⟩ := open_int Tryd.underlying3 (hval 1 3 v1 rfl rfl) h1
  have lt2 : ∀ x ∈ p2, x.block < W.heap.size := by obtain ⟨m, hm⟩ := h2; exact DataW.trod_lt m _ _ _ hm
  have y2 : ∀ m ∈ d2.weights Tryd.prog 25, m ≤ reachBytes := fun m hm => of_decide_eq_true (List.all_eq_true.1 hsz m (DataW.weights_mem_each (j := 2) rfl rfl m hm))
  obtain ⟨B2, l2, e2, rfl⟩ := okWide_slice Tryd.underlying25 (hval 2 25 v2 rfl rfl)
  obtain ⟨A2, c2, s2, hv2, hR2, hB2⟩ : ∃ A c xs, Value.slice B2 l2 e2 = .slice A xs.length c ∧ RI W A c xs ∧ ((∀ m ∈ d2.weights Tryd.prog 25, m ≤ reachBytes) → xs.length ≤ 140737488355328) := by obtain ⟨fuel, hf⟩ := h2; exact open_I hf
  have hwalk := bookWrites_walk A0 c0 s0 N0 a1 A2 c2 s2 W hG hT hR0 hB0 hR2
  rw [← hv2] at hwalk
  refine hwalk.mono fun e W' ⟨he, bel⟩ => ?_
  subst he
  exact ⟨_, rfl, _, _, _, [], _, [], hW', trodAll_mk1 (shut_bool Tryd.underlying4 _), (trodAll_cons_mk (Below.trod laidOut_bookWrites (by kernel_rfl) (of_decide_eq_true (by kernel_rfl)) h0 bel lt0) (trodAll_cons_mk (Below.trod laidOut_bookWrites (by kernel_rfl) (of_decide_eq_true (by kernel_rfl)) h1 bel lt1) (trodAll_cons_mk (Below.trod laidOut_bookWrites (by kernel_rfl) (of_decide_eq_true (by kernel_rfl)) h2 bel lt2) trodAll_mk0))), rfl, bel.frame _, fun h => by cases h⟩
theorem bookWrites_said : Rows.BookWritesSaid :=
  OpenClaim.holds_of_wide 8 Tryd.f8 rfl rfl rfl rfl rfl rfl rfl ⟨rfl, rfl, rfl, rfl, rfl⟩ rfl rfl rfl rfl rfl (by kernel_rfl) Tryd.func8 (by kernel_rfl)
    (of_decide_eq_true (by kernel_rfl)) (by unfold Func.isWrapper; first | (rw [if_pos (by decide +kernel)]; kernel_rfl) | (rw [if_neg (by decide +kernel)]; exact ⟨rfl, rfl⟩))
    (fun os started H enc _ => lifted_bookWrites os started H enc)
theorem bookWrites_card : Rows.BookWritesCardSaid :=
  Claim7.holds_tied_plain_at .later [] [.wider, .data] true Rows.bookWritesCard.stood.harness false
    bookWrites_said (fun _ h => by cases h) (by kernel_rfl) (fun _ h => by cases h) bookWrites_row_tie rfl ⟨rfl, rfl⟩ (by kernel_rfl) rfl
    (fun f fn hf hfn => by
      obtain rfl : f = 8 := Option.some.inj ((show Tryd.prog.funcNamed "shawm/shawmlaw17.BookWrites" = some 8 by kernel_rfl).symm.trans hf) |>.symm
      obtain rfl : fn = Tryd.f8 := (Option.some.inj (Tryd.func8.symm.trans hfn)).symm
      exact ⟨by kernel_rfl, fun j t ht => by
        rw [Tryd.params8] at ht
        have hm : t ∈ [57, 3, 25] := by simpa using Array.mem_of_getElem? ht
        have hall : ([57, 3, 25].all fun u => !Tryd.prog.wantsStandIn u) = true := by kernel_rfl
        exact (show Tryd.prog.wantsStandIn t = false by simpa using List.all_eq_true.1 hall t hm)⟩)
    (by kernel_rfl)
#print axioms bookWrites_card
end Go.Proofs.YtciknejchglmoaaDoor
