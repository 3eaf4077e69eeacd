/- The document's section: Take: what it returns, and where the tape is then. · The document's section: Read: what it returns, and where the tape is then. · Plain laws of layer 17 (book): what was written is read again. No program is named. · section: what was written is read again: the bits of right sections are read as they were, whatever is behind them. -/
import Derived.Test.YtmcdgmiheklbeaaDoorKm
import Derived.Test.YtmcdgmiheklbeaaDoorKk
import Derived.Test.YtmcdgmiheklbeaaDoorKj
import Derived.Test.YtmcdgmiheklbeaaDoorKi
import Derived.Test.YtmcdgmiheklbeaaDoorKh
namespace Go.Proofs.YtmcdgmiheklbeaaDoor
open Go.RowKit
attribute [local go_sem] Oper.semAt_some

theorem updB {g : Nat} {w W W' : World} (h : Upd (fun x => x = g) w W) (hb : Below W.heap.size W W') : Upd (fun x => x = g) w W' := h.trans (Upd.of_below hb (fun _ => False)) fun _ _ h => h.elim
/-- The book of the last section; below 0: there is none. -/
def lastB (ss : List (Int × Int)) : Int := if ss = [] then -1 else (nth (0, 0) ss (ss.length - 1)).1
theorem lastB_snoc (ss : List (Int × Int)) (x : Int × Int) : lastB (ss ++ [x]) = x.1 := by
  unfold lastB
  rw [if_neg (by simp), List.length_append, List.length_singleton, Nat.add_sub_cancel, nth_append_right _ _ _ _ (Nat.le_refl _), Nat.sub_self]; rfl
/-- What is found of a head: where it is right, where not. -/
theorem head_tape (l : List Bool) (j : Nat) (left : Nat) (last : Int) :
    (gaE l (getI l j 3) (getE l j 3) ≠ 0 → (headV (left : Int) last (l.drop j)).2.1 = gaE l (getI l j 3) (getE l j 3)) ∧
    (gaE l (getI l j 3) (getE l j 3) = 0 → ((((getV l j 3 : Nat) : Int) = last ∨ left < gaV l (getI l j 3) (getE l j 3)) → (headV (left : Int) last (l.drop j)).2.1 = 4) ∧
      (¬ (((getV l j 3 : Nat) : Int) = last ∨ left < gaV l (getI l j 3) (getE l j 3)) → headV (left : Int) last (l.drop j) = ((((getV l j 3 : Nat) : Int), ((gaV l (getI l j 3) (getE l j 3) : Nat) : Int)), 0, 3 + (gamF (l.drop (getI l j 3))).2.2) ∧ getI l j 3 = j + 3)) := by
  unfold headV gaE gaV getE getI getV
  by_cases h3 : l.length < j + 3
  · have hd : (l.drop j).length < 3 := by rw [List.length_drop]; omega
    rw [if_pos h3, if_pos h3, if_pos h3, if_pos hd]
    simp
  · have hd : ¬ (l.drop j).length < 3 := by rw [List.length_drop]; omega
    have hdd : (l.drop j).drop 3 = l.drop (j + 3) := by rw [List.drop_drop]
    rw [if_neg h3, if_neg h3, if_neg h3, if_neg hd, hdd]
    simp only [if_true, ne_eq]
    refine ⟨fun h => by rw [if_pos h], fun h => ⟨fun hc => ?_, fun hc => ?_⟩⟩
    · rw [if_neg (by simp [h]), if_pos (by rcases hc with hc | hc; exact .inl hc; exact .inr (by omega))]
    · rw [if_neg (by simp [h]), if_neg (by intro h9; rcases h9 with h9 | h9; exact hc (.inl h9); exact hc (.inr (by omega)))]
      exact ⟨rfl, trivial⟩
/-- xs[lo:lo+d], with what is behind it as capacity. -/
theorem cut_lh (lo d n c : Nat) (ad : Addr) (hd : 1 ≤ d) (h2 : lo + d ≤ n) (hnc : n ≤ c) (W : World) :
    (Instr.slice 25 (.slice (some ad) n c) (some (.int .i64 (lo : Int))) (some (.int .i64 ((lo + d : Nat) : Int))) none).run Tryd.prog W = .ok (.slice (some (ad.add lo)) d (c - lo)) W := by
  obtain ⟨i, hi, hz⟩ := Option.map_eq_some_iff.1 infoI
  have hel : Tryd.prog.elem 25 = 3 := by simp [Program.elem, Tryd.underlying25]
  have hu : Tryd.prog.underlying 25 = some (.slice (Tryd.prog.elem 25)) := by rw [hel]; exact Tryd.underlying25
  have h1 : i.size = 1 := by simp at hz; exact hz.2.1
  rw [run_slice_lh W 25 (some ad) n c hu .i64 .i64 (lo : Int) ((lo + d : Nat) : Int) (Int.natCast_nonneg _) (by omega) (by omega), hel]
  have e1 : ¬ (c = lo) := by omega
  have e2 : lo + d - lo = d := by omega
  simp [sizeOf, typeInfo, hi, sliced, Result.andThen, h1, e1, e2]
  omega
set_option maxHeartbeats 8000000 in
set_option maxRecDepth 100000 in
theorem rtake18_any (o : Nat → Prop) (g i : Nat) (A : Option Addr) (c : Nat) (ws : List Int) (l : List Bool) (w : World) (h : Tr o w g l i 0) (ho : ∀ x, o x → x < w.heap.size) (hS : Sl (kInt .i64) (fun x => x ≠ g) w A c ws) (hok : ws.all okV = true) (h128 : ws.length ≤ 128) :
    Calls Tryd.prog 37 #[.pointer (some ⟨g, 0, none⟩), .slice A ws.length c] w
      fun e w' => ∃ va vb L S j, e = .returned (.tuple #[va, vb]) ∧ OwnI 3 .i64 w.heap.size w' va L ∧ OwnS w.heap.size w' vb S ∧ Tr o w' g l j (rdQ ws (l.drop i) ws.length 0 (-1) [] [] 0).2.2.1
        ∧ ((rdQ ws (l.drop i) ws.length 0 (-1) [] [] 0).2.2.1 = 0 → L = (rdQ ws (l.drop i) ws.length 0 (-1) [] [] 0).1 ∧ S = (rdQ ws (l.drop i) ws.length 0 (-1) [] [] 0).2.1 ∧ j = i + (rdQ ws (l.drop i) ws.length 0 (-1) [] [] 0).2.2.2) ∧ Upd (fun x => x = g) w w' := by
  have hlt0 := h.lt
  have HLT := Lib.hid hlt0
  have HH := Lib.hid h
  have HO := Lib.hid ho
  have HSK := Lib.hid (fun W (hu : Upd (fun x => x = g) w W) => hS.keep (hu.keep (ok := fun x => x ≠ g) fun _ h => h))
  have HOK := Lib.hid (fun j (hj : j < ws.length) => okV_at hok j hj)
  have H128 := Lib.hid h128
  have HLC := Lib.hid (show ws.length ≤ c ∧ c ≤ 9223372036854775807 from ⟨hS.le, hS.cap⟩)
  obtain ⟨Q, hQ⟩ : ∃ Q, rdQ ws (l.drop i) ws.length 0 (-1) [] [] 0 = Q := ⟨_, rfl⟩
  have HQ0 := Lib.hid hQ
  rw [hQ]
  clear hQ h ho hS hok hlt0
  go_enter Tryd.func37, Tryd.ntmps37
  go_wp2_with (go_at_call 62; refine (rall_any _).mono ?_; rintro e w1 ⟨gA, rfl, hA, b1⟩)
  have HAL := Lib.hid (hA.weak (ok' := fun x => x ≠ g ∧ x < w1.heap.size) fun x hx h => ⟨fun e => by have := HLT.out; omega, hx⟩)
  have HLT1 := Lib.hid (show g < w1.heap.size by have := HLT.out; have := b1.size; omega)
  have HB1 := Lib.hid b1
  have HSZ1 := Lib.hid b1.size
  have HU0 := Lib.hid (Upd.of_below b1 (fun x => x = g))
  have HT0 := Lib.hid (HH.out.below b1)
  clear hA b1
  go_loopw [7, 8, 9] (fun va vb av wr => ∃ (f a m j : Nat) (last E : Int) (vs : List Int) (ss : List (Int × Int)), a ≤ ws.length ∧ av = .int .i64 (a : Int) ∧ Hid (vs.length ≤ 128 * a ∧ ss.length ≤ a) ∧ Hid (OwnI 3 .i64 w1.heap.size wr va vs) ∧ Hid (OwnS w1.heap.size wr vb ss) ∧ Hid (∀ x, va.ownBlock = some x → vb.ownBlock ≠ some x) ∧ Hid (Tr o wr g l j E) ∧ Hid (Upd (fun x => x = g) w wr) ∧ Hid (Upd (fun x => x = g ∨ w1.heap.size ≤ x) w1 wr) ∧ Hid (lastB ss = last) ∧ Hid ((E = 0 ∧ j = i + m ∧ rdQ ws (l.drop i) f a last vs ss m = Q ∧ ws.length ≤ f + a) ∨ (E ≠ 0 ∧ Q.2.2.1 = E))) (fun _ _ av _ => ws.length - (intOf av).toNat)
  case atStart => exact ⟨ws.length, 0, 0, i, -1, 0, [], [], Nat.zero_le _, rfl, Lib.hid ⟨Nat.zero_le _, Nat.zero_le _⟩, Lib.hid (OwnI.nil _ _ _ _), Lib.hid (OwnK.nil _ _ _ _ _), Lib.hid (fun x e => by cases e), HT0, HU0, Lib.hid (Upd.refl _ _), Lib.hid rfl, Lib.hid (.inl ⟨rfl, rfl, HQ0.out, Nat.le_refl _⟩)⟩
  case round =>
    clear HQ0 HT0 HU0 HH
    obtain ⟨f, a, m, j, last, E, vs, ss, ha, rfl, hF, hV, hB, hAP, hR, hU, hU1, hL, hX⟩ := hrel
    have HK := Lib.hid (tok_any o g j l E wr hR.out)
    by_cases hE : E = 0
    · subst hE
      rw [show ((0 : Int) == 0) = true from rfl] at HK
      obtain ⟨hj, hq, hfa⟩ : j = i + m ∧ rdQ ws (l.drop i) f a last vs ss m = Q ∧ ws.length ≤ f + a := by
        rcases hX.out with ⟨_, h1, h2, h3⟩ | ⟨h1, _⟩
        · exact ⟨h1, h2, h3⟩
        · exact absurd rfl h1
      by_cases hlt : a < ws.length
      · have hai : (a : Int) < (ws.length : Int) := by omega
        obtain ⟨f', rfl⟩ : ∃ f', f = f' + 1 := ⟨f - 1, by omega⟩
        have HQH := Lib.hid (rdQ_head ws (l.drop i) f' a last vs ss m (by omega))
        have HQS := Lib.hid (fun b n cnt => rdQ_step ws (l.drop i) f' a last vs ss m (by omega) (b := b) (n := n) (c := cnt))
        rw [hq, List.drop_drop, ← hj] at HQH HQS
        have HHT := Lib.hid (head_tape l j (ws.length - a) last)
        have HHO := Lib.hid (headV_ok (left := ((ws.length - a : Nat) : Int)) (last := last) (D := l.drop j))
        have HG1 := Lib.hid (tget_any o g j 3 l wr hR.out (by decide))
        have HJ := Lib.hid hj
        have HFA := Lib.hid hfa
        clear hq hX hj hfa
        obtain ⟨v, hv⟩ : ∃ v, getV l j 3 = v := ⟨_, rfl⟩
        obtain ⟨j1, hj1⟩ : ∃ j1, getI l j 3 = j1 := ⟨_, rfl⟩
        obtain ⟨E1, hE1⟩ : ∃ E1, getE l j 3 = E1 := ⟨_, rfl⟩
        obtain ⟨n, hn⟩ : ∃ n, gaV l j1 E1 = n := ⟨_, rfl⟩
        obtain ⟨E2, hE2⟩ : ∃ E2, gaE l j1 E1 = E2 := ⟨_, rfl⟩
        rw [hv, hj1, hE1, hn, hE2] at HHT
        rw [hv, hj1, hE1] at HG1
        have HGG := Lib.hid (fun W (h : Tr o W g l j1 E1) => tgamma_u o g j1 l E1 W h)
        simp only [hn, hE2] at HGG
        clear hv hj1 hE1 hn hE2
        go_wp2_with (first
          | (go_at_call 38; refine HK.out.mono ?_; rintro e w2 ⟨rfl, rfl⟩)
          | (go_at_call 63; refine HG1.out.mono ?_; rintro e w3 ⟨rfl, hr3, hu3⟩; have HGA2 := Lib.hid (HGG.out _ hr3); have HU3 := Lib.hid hu3; clear hr3 hu3)
          | (go_at_call 64; refine HGA2.out.mono ?_; rintro e w4 ⟨rfl, hr4, hu4⟩; have HR4 := Lib.hid hr4; have HU4 := Lib.hid hu4; clear hr4 hu4))
        obtain ⟨g10, hg10⟩ : ∃ g10, w4.heap.size = g10 := ⟨_, rfl⟩
        have hb5 := below_alloc (Below.refl w4.heap.size w4) (.cells #[.int .i64 (v : Int), .int .i64 (n : Int)] 67)
        have B10 : Blk (w4.alloc (.cells #[.int .i64 (v : Int), .int .i64 (n : Int)] 67)) g10 #[.int .i64 (v : Int), .int .i64 (n : Int)] 67 := by rw [← hg10]; exact heap_alloc_new w4 _
        obtain ⟨W5, hW5⟩ : ∃ W5, w4.alloc (.cells #[.int .i64 (v : Int), .int .i64 (n : Int)] 67) = W5 := ⟨_, rfl⟩
        rw [hW5] at hb5 B10
        have hu5 : Upd (fun x => x = g) wr W5 := updB (HU3.out.trans HU4.out fun _ _ h => h) hb5
        have HV5 := Lib.hid (ownI_keepU hV.out hu5 HLT1.out)
        have HB5 := Lib.hid (OwnS.keepU hB.out hu5 HLT1.out)
        obtain ⟨j2, hr4, hj2⟩ := HR4.out
        have HR5 := Lib.hid (hr4.below hb5)
        have HJ2 := Lib.hid hj2
        have HU5 := Lib.hid (show Upd (fun x => x = g) w W5 from hU.out.trans hu5 fun _ _ h => h)
        have HU15 := Lib.hid (show Upd (fun x => x = g ∨ w1.heap.size ≤ x) w1 W5 from hU1.out.trans hu5 fun _ _ h => .inl h)
        have HB10 := Lib.hid B10
        have HG10 := Lib.hid (show w.heap.size ≤ g10 ∧ w1.heap.size ≤ g10 ∧ (∀ x, u7.ownBlock = some x → x < g10) ∧ (∀ x, u8.ownBlock = some x → x < g10) from by
          have q1 := HU3.out.size
          have q2 := HU4.out.size
          have q3 := hU.out.size
          have q4 := hU1.out.size
          exact ⟨by omega, by omega, fun x e => by have := (hV.out.lt x e).2; omega, fun x e => by have := (hB.out.lt x e).2; omega⟩)
        obtain ⟨A8, c8, hv8, hs8⟩ := HB5.out.rd
        have HS8 := Lib.hid hs8
        obtain ⟨lf, hlf⟩ : ∃ lf, ws.length - a = lf := ⟨_, rfl⟩
        rw [hlf] at HQH HQS HHT HHO
        have hwl : IntKind.i64.wrap ((ws.length : Int) - (a : Int)) = (lf : Int) := by rw [IntWalk.i64_in _ (by have := H128.out; omega)]; omega
        have HLF := Lib.hid hlf
        obtain ⟨C, hC⟩ : ∃ C : Bool, decide ((v : Int) = last ∨ lf < n) = C := ⟨_, rfl⟩
        have HC := Lib.hid hC
        have hd := (Below.refl W5.heap.size W5).drew
        have hsn := hF.out.2
        have hss8 := H128.out
        clear hb5 B10 hu5 hr4 hj2 HU3 HU4 HR4 HGG HGA2 HG1 HK hlf hV hB hR hU hU1
        try simp only [hW5, hg10]
        clear hW5 hg10
        subst hv8
        go_cut [50] (fun s50 wx => s50 = .bool C ∧ Hid (Below W5.heap.size W5 wx))
        case first =>
          by_cases hs0 : ss = []
          · have HF := Lib.hid (show ∀ W' : World, Below W5.heap.size W5 W' → (W'.cell? ⟨g10, 0, none⟩ = some (.int .i64 (v : Int)) ∧ W'.cell? ⟨g10, 1, none⟩ = some (.int .i64 (n : Int))) from fun W' hb => ⟨(HB10.out.below hb).cell 0 rfl, (HB10.out.below hb).cell 1 rfl⟩)
            have hlast : last = -1 := by rw [← hL.out, hs0]; rfl
            have hCC : decide ((lf : Int) < (n : Int)) = C := by rw [← hC]; congr 1; simp only [eq_iff_iff]; constructor <;> intro h9 <;> omega
            have hCN : decide (lf < n) = C := by rw [← hC]; congr 1; simp only [eq_iff_iff]; constructor <;> intro h9 <;> omega
            have hl0 : decide ((0 : Int) < (ss.length : Int)) = false := by rw [hs0]; rfl
            have hl0n : decide (0 < ss.length) = false := by rw [hs0]; rfl
            clear hs0 hlast hC hsn HS8
            refine wp_region_G 23 (fun W' => W'.cell? ⟨g10, 0, none⟩ = some (.int .i64 (v : Int)) ∧ W'.cell? ⟨g10, 1, none⟩ = some (.int .i64 (n : Int))) (by kernel_rfl) (HF.out _ hd) (fun hHeld => ?_)
            refine wpAnyG_takeL (i := 0) (.slice A8 ss.length c8) [1, 2, 3, 15, 23] rfl (by kernel_rfl) (fun _ _ _ h => h) hHeld (by rfl) ?_ ?_
            · (intro W' hSw; (try dsimp only at hSw); go_simp)
            try simp only [Act.put, List.setIfInBounds_toArray, List.set_cons_zero, List.set_cons_succ]
            refine wpAnyG_takeL (i := 1) (.int .i64 (ss.length : Int)) [2, 3, 15, 23] rfl (by kernel_rfl) (fun _ _ _ h => h) hHeld (by rfl) ?_ ?_
            · (intro W' hSw; (try dsimp only at hSw); go_simp)
            try simp only [Act.put, List.setIfInBounds_toArray, List.set_cons_zero, List.set_cons_succ]
            refine wpAnyG_takeL (i := 2) (.bool false) [3, 15, 23] rfl (by kernel_rfl) (fun _ _ _ h => h) hHeld (by rfl) ?_ ?_
            · (intro W' hSw; (try dsimp only at hSw); go_simp)
            try simp only [Act.put, List.setIfInBounds_toArray, List.set_cons_zero, List.set_cons_succ]
            refine wpAnyG_takeL (i := 3) (.bool false) [15, 23] rfl (by kernel_rfl) (fun _ _ _ h => h) hHeld (by rfl) ?_ ?_
            · (intro W' hSw; (try dsimp only at hSw); go_simp)
            try simp only [Act.put, List.setIfInBounds_toArray, List.set_cons_zero, List.set_cons_succ]
            refine wpAnyG_dropL (i := 4) [8, 9, 10, 13, 14, 15, 23] rfl (by kernel_rfl) (fun _ _ _ h => h) hHeld (by rfl) ?_
            try simp only [Act.put, List.setIfInBounds_toArray, List.set_cons_zero, List.set_cons_succ]
            refine wpAnyG_dropL (i := 5) [6, 7, 8, 9, 10, 13, 14, 15, 23] rfl (by kernel_rfl) (fun _ _ _ h => h) hHeld (by rfl) ?_
            try simp only [Act.put, List.setIfInBounds_toArray, List.set_cons_zero, List.set_cons_succ]
            refine wpAnyG_dropL (i := 6) [7, 8, 9, 10, 13, 14, 15, 23] rfl (by kernel_rfl) (fun _ _ _ h => h) hHeld (by rfl) ?_
            try simp only [Act.put, List.setIfInBounds_toArray, List.set_cons_zero, List.set_cons_succ]
            refine wpAnyG_dropL (i := 7) [8, 9, 10, 13, 14, 15, 23] rfl (by kernel_rfl) (fun _ _ _ h => h) hHeld (by rfl) ?_
            try simp only [Act.put, List.setIfInBounds_toArray, List.set_cons_zero, List.set_cons_succ]
            refine wpAnyG_dropL (i := 8) [9, 10, 13, 14, 15, 23] rfl (by kernel_rfl) (fun _ _ _ h => h) hHeld (by rfl) ?_
            try simp only [Act.put, List.setIfInBounds_toArray, List.set_cons_zero, List.set_cons_succ]
            refine wpAnyG_dropL (i := 9) [10, 13, 14, 15, 23] rfl (by kernel_rfl) (fun _ _ _ h => h) hHeld (by rfl) ?_
            try simp only [Act.put, List.setIfInBounds_toArray, List.set_cons_zero, List.set_cons_succ]
            refine wpAnyG_dropL (i := 10) [13, 14, 15, 23] rfl (by kernel_rfl) (fun _ _ _ h => h) hHeld (by rfl) ?_
            try simp only [Act.put, List.setIfInBounds_toArray, List.set_cons_zero, List.set_cons_succ]
            refine wpAnyG_dropL (i := 11) [12, 13, 14, 15, 23] rfl (by kernel_rfl) (fun _ _ _ h => h) hHeld (by rfl) ?_
            try simp only [Act.put, List.setIfInBounds_toArray, List.set_cons_zero, List.set_cons_succ]
            refine wpAnyG_dropL (i := 12) [13, 14, 15, 23] rfl (by kernel_rfl) (fun _ _ _ h => h) hHeld (by rfl) ?_
            try simp only [Act.put, List.setIfInBounds_toArray, List.set_cons_zero, List.set_cons_succ]
            refine wpAnyG_dropL (i := 13) [14, 15, 23] rfl (by kernel_rfl) (fun _ _ _ h => h) hHeld (by rfl) ?_
            try simp only [Act.put, List.setIfInBounds_toArray, List.set_cons_zero, List.set_cons_succ]
            refine wpAnyG_takeL (i := 14) (.bool false) [15, 23] rfl (by kernel_rfl) (fun _ _ _ h => h) hHeld (by rfl) ?_ ?_
            · (intro W' hSw; (try dsimp only at hSw); go_simp)
            try simp only [Act.put, List.setIfInBounds_toArray, List.set_cons_zero, List.set_cons_succ]
            refine wpAnyG_takeL (i := 15) (.bool false) [23] rfl (by kernel_rfl) (fun _ _ _ h => h) hHeld (by rfl) ?_ ?_
            · (intro W' hSw; (try dsimp only at hSw); go_simp)
            try simp only [Act.put, List.setIfInBounds_toArray, List.set_cons_zero, List.set_cons_succ]
            refine wpAnyG_takeL (i := 16) (.pointer (some ⟨g10, 1, none⟩)) [17, 22, 23] rfl (by kernel_rfl) (fun _ _ _ h => h) hHeld (by rfl) ?_ ?_
            · (intro W' hSw; (try dsimp only at hSw); go_simp)
            try simp only [Act.put, List.setIfInBounds_toArray, List.set_cons_zero, List.set_cons_succ]
            refine wpAnyG_takeL (i := 17) (.int .i64 (n : Int)) [22, 23] rfl (by kernel_rfl) (fun _ _ _ h => h) hHeld (by rfl) ?_ ?_
            · (intro W' hSw; (try dsimp only at hSw); go_simp)
            try simp only [Act.put, List.setIfInBounds_toArray, List.set_cons_zero, List.set_cons_succ]
            refine wpAnyG_takeL (i := 18) (.slice A ws.length c) [19, 21, 22, 23] rfl (by kernel_rfl) (fun _ _ _ h => h) hHeld (by rfl) ?_ ?_
            · (intro W' hSw; (try dsimp only at hSw); go_simp)
            try simp only [Act.put, List.setIfInBounds_toArray, List.set_cons_zero, List.set_cons_succ]
            refine wpAnyG_takeL (i := 19) (.int .i64 (ws.length : Int)) [21, 22, 23] rfl (by kernel_rfl) (fun _ _ _ h => h) hHeld (by rfl) ?_ ?_
            · (intro W' hSw; (try dsimp only at hSw); go_simp)
            try simp only [Act.put, List.setIfInBounds_toArray, List.set_cons_zero, List.set_cons_succ]
            refine wpAnyG_takeL (i := 20) (.int .i64 (a : Int)) [21, 22, 23] rfl (by kernel_rfl) (fun _ _ _ h => h) hHeld (by rfl) ?_ ?_
            · (intro W' hSw; (try dsimp only at hSw); go_simp)
            try simp only [Act.put, List.setIfInBounds_toArray, List.set_cons_zero, List.set_cons_succ]
            refine wpAnyG_takeL (i := 21) (.int .i64 (lf : Int)) [22, 23] rfl (by kernel_rfl) (fun _ _ _ h => h) hHeld (by rfl) ?_ ?_
            · (intro W' hSw; (try dsimp only at hSw); go_simp)
            try simp only [Act.put, List.setIfInBounds_toArray, List.set_cons_zero, List.set_cons_succ]
            refine wpAnyG_takeL (i := 22) (.bool C) [23] rfl (by kernel_rfl) (fun _ _ _ h => h) hHeld (by rfl) ?_ ?_
            · (intro W' hSw; (try dsimp only at hSw); go_simp)
            try simp only [Act.put, List.setIfInBounds_toArray, List.set_cons_zero, List.set_cons_succ]
            clear hHeld
            refine wpAnyG_oneL (i := 23) (by kernel_rfl) rfl (fun K hK => ?_)
            (go_simp)
            refine hK.out _ _ (fun h => Bool.noConfusion (show true = false from h)) ?_
            clear hK K
            refine wpAnyG_done (by kernel_rfl) ?_ _
            go_wp2_with fail
            go_meet
            exact ⟨rfl, Lib.hid hd⟩
          · have hsp : 0 < ss.length := by cases ss; exact absurd rfl hs0; simp
            obtain ⟨ad, hAD, _, q0, _⟩ := rd_se HS8.out (ss.length - 1) (by omega)
            subst hAD
            obtain ⟨p, hp⟩ : ∃ p, ss.length - 1 = p := ⟨_, rfl⟩
            have hlast : (nth (0, 0) ss p).1 = last := by rw [← hL.out, ← hp]; unfold lastB; rw [if_neg hs0]
            rw [hp, hlast] at q0
            have HF := Lib.hid (show ∀ W' : World, Below W5.heap.size W5 W' → (W'.cell? ⟨g10, 0, none⟩ = some (.int .i64 (v : Int)) ∧ W'.cell? ⟨g10, 1, none⟩ = some (.int .i64 (n : Int)) ∧ W'.cell? (ad.add (p * 2)) = some (.int .i64 last)) from fun W' hb => ⟨(HB10.out.below hb).cell 0 rfl, (HB10.out.below hb).cell 1 rfl, cell_below hb q0⟩)
            have hd0 : decide ((0 : Int) < (ss.length : Int)) = true := decide_eq_true (by omega)
            have hd0n : decide (0 < ss.length) = true := decide_eq_true (by omega)
            have hpi : (p : Int) < (ss.length : Int) := by omega
            have hp0 : (0 : Int) ≤ (p : Int) := by omega
            have hwp : IntKind.i64.wrap ((ss.length : Int) - 1) = (p : Int) := by rw [IntWalk.i64_in _ (by omega)]; omega
            by_cases hvl : last = (v : Int)
            · have hCC : C = true := by rw [← hC]; exact decide_eq_true (.inl hvl.symm)
              have heq : (last == (v : Int)) = true := by simp [hvl]
              clear hs0 hp hlast hC hsn q0 hvl HS8
              subst hCC
              refine wp_region_G 23 (fun W' => W'.cell? ⟨g10, 0, none⟩ = some (.int .i64 (v : Int)) ∧ W'.cell? ⟨g10, 1, none⟩ = some (.int .i64 (n : Int)) ∧ W'.cell? (ad.add (p * 2)) = some (.int .i64 last)) (by kernel_rfl) (HF.out _ hd) (fun hHeld => ?_)
              refine wpAnyG_takeL (i := 0) (.slice (some ad) ss.length c8) [1, 2, 3, 15, 23] rfl (by kernel_rfl) (fun _ _ _ h => h) hHeld (by rfl) ?_ ?_
              · (intro W' hSw; (try dsimp only at hSw); go_simp)
              try simp only [Act.put, List.setIfInBounds_toArray, List.set_cons_zero, List.set_cons_succ]
              refine wpAnyG_takeL (i := 1) (.int .i64 (ss.length : Int)) [2, 3, 15, 23] rfl (by kernel_rfl) (fun _ _ _ h => h) hHeld (by rfl) ?_ ?_
              · (intro W' hSw; (try dsimp only at hSw); go_simp)
              try simp only [Act.put, List.setIfInBounds_toArray, List.set_cons_zero, List.set_cons_succ]
              refine wpAnyG_takeL (i := 2) (.bool true) [3, 15, 23] rfl (by kernel_rfl) (fun _ _ _ h => h) hHeld (by rfl) ?_ ?_
              · (intro W' hSw; (try dsimp only at hSw); go_simp)
              try simp only [Act.put, List.setIfInBounds_toArray, List.set_cons_zero, List.set_cons_succ]
              refine wpAnyG_takeL (i := 3) (.bool true) [15, 23] rfl (by kernel_rfl) (fun _ _ _ h => h) hHeld (by rfl) ?_ ?_
              · (intro W' hSw; (try dsimp only at hSw); go_simp)
              try simp only [Act.put, List.setIfInBounds_toArray, List.set_cons_zero, List.set_cons_succ]
              refine wpAnyG_takeL (i := 4) (.slice (some ad) ss.length c8) [8, 9, 10, 13, 14, 15, 23] rfl (by kernel_rfl) (fun _ _ _ h => h) hHeld (by rfl) ?_ ?_
              · (intro W' hSw; (try dsimp only at hSw); go_simp)
              try simp only [Act.put, List.setIfInBounds_toArray, List.set_cons_zero, List.set_cons_succ]
              refine wpAnyG_takeL (i := 5) (.slice (some ad) ss.length c8) [6, 7, 8, 9, 10, 13, 14, 15, 23] rfl (by kernel_rfl) (fun _ _ _ h => h) hHeld (by rfl) ?_ ?_
              · (intro W' hSw; (try dsimp only at hSw); go_simp)
              try simp only [Act.put, List.setIfInBounds_toArray, List.set_cons_zero, List.set_cons_succ]
              refine wpAnyG_takeL (i := 6) (.int .i64 (ss.length : Int)) [7, 8, 9, 10, 13, 14, 15, 23] rfl (by kernel_rfl) (fun _ _ _ h => h) hHeld (by rfl) ?_ ?_
              · (intro W' hSw; (try dsimp only at hSw); go_simp)
              try simp only [Act.put, List.setIfInBounds_toArray, List.set_cons_zero, List.set_cons_succ]
              refine wpAnyG_takeL (i := 7) (.int .i64 (p : Int)) [8, 9, 10, 13, 14, 15, 23] rfl (by kernel_rfl) (fun _ _ _ h => h) hHeld (by rfl) ?_ ?_
              · (intro W' hSw; (try dsimp only at hSw); go_simp)
              try simp only [Act.put, List.setIfInBounds_toArray, List.set_cons_zero, List.set_cons_succ]
              refine wpAnyG_takeL (i := 8) (.pointer (some (ad.add (p * 2)))) [9, 10, 13, 14, 15, 23] rfl (by kernel_rfl) (fun _ _ _ h => h) hHeld (by rfl) ?_ ?_
              · (intro W' hSw; (try dsimp only at hSw); go_simp)
              try simp only [Act.put, List.setIfInBounds_toArray, List.set_cons_zero, List.set_cons_succ]
              refine wpAnyG_takeL (i := 9) (.pointer (some (ad.add (p * 2)))) [10, 13, 14, 15, 23] rfl (by kernel_rfl) (fun _ _ _ h => h) hHeld (by rfl) ?_ ?_
              · (intro W' hSw; (try dsimp only at hSw); go_simp)
              try simp only [Act.put, List.setIfInBounds_toArray, List.set_cons_zero, List.set_cons_succ]
              refine wpAnyG_takeL (i := 10) (.int .i64 last) [13, 14, 15, 23] rfl (by kernel_rfl) (fun _ _ _ h => h) hHeld (by rfl) ?_ ?_
              · (intro W' hSw; (try dsimp only at hSw); go_simp)
              try simp only [Act.put, List.setIfInBounds_toArray, List.set_cons_zero, List.set_cons_succ]
              refine wpAnyG_takeL (i := 11) (.pointer (some ⟨g10, 0, none⟩)) [12, 13, 14, 15, 23] rfl (by kernel_rfl) (fun _ _ _ h => h) hHeld (by rfl) ?_ ?_
              · (intro W' hSw; (try dsimp only at hSw); go_simp)
              try simp only [Act.put, List.setIfInBounds_toArray, List.set_cons_zero, List.set_cons_succ]
              refine wpAnyG_takeL (i := 12) (.int .i64 (v : Int)) [13, 14, 15, 23] rfl (by kernel_rfl) (fun _ _ _ h => h) hHeld (by rfl) ?_ ?_
              · (intro W' hSw; (try dsimp only at hSw); go_simp)
              try simp only [Act.put, List.setIfInBounds_toArray, List.set_cons_zero, List.set_cons_succ]
              refine wpAnyG_takeL (i := 13) (.bool true) [14, 15, 23] rfl (by kernel_rfl) (fun _ _ _ h => h) hHeld (by rfl) ?_ ?_
              · (intro W' hSw; (try dsimp only at hSw); go_simp)
              try simp only [Act.put, List.setIfInBounds_toArray, List.set_cons_zero, List.set_cons_succ]
              refine wpAnyG_takeL (i := 14) (.bool true) [15, 23] rfl (by kernel_rfl) (fun _ _ _ h => h) hHeld (by rfl) ?_ ?_
              · (intro W' hSw; (try dsimp only at hSw); go_simp)
              try simp only [Act.put, List.setIfInBounds_toArray, List.set_cons_zero, List.set_cons_succ]
              refine wpAnyG_takeL (i := 15) (.bool true) [23] rfl (by kernel_rfl) (fun _ _ _ h => h) hHeld (by rfl) ?_ ?_
              · (intro W' hSw; (try dsimp only at hSw); go_simp)
              try simp only [Act.put, List.setIfInBounds_toArray, List.set_cons_zero, List.set_cons_succ]
              refine wpAnyG_dropL (i := 16) [17, 22, 23] rfl (by kernel_rfl) (fun _ _ _ h => h) hHeld (by rfl) ?_
              try simp only [Act.put, List.setIfInBounds_toArray, List.set_cons_zero, List.set_cons_succ]
              refine wpAnyG_dropL (i := 17) [22, 23] rfl (by kernel_rfl) (fun _ _ _ h => h) hHeld (by rfl) ?_
              try simp only [Act.put, List.setIfInBounds_toArray, List.set_cons_zero, List.set_cons_succ]
              refine wpAnyG_dropL (i := 18) [19, 21, 22, 23] rfl (by kernel_rfl) (fun _ _ _ h => h) hHeld (by rfl) ?_
              try simp only [Act.put, List.setIfInBounds_toArray, List.set_cons_zero, List.set_cons_succ]
              refine wpAnyG_dropL (i := 19) [21, 22, 23] rfl (by kernel_rfl) (fun _ _ _ h => h) hHeld (by rfl) ?_
              try simp only [Act.put, List.setIfInBounds_toArray, List.set_cons_zero, List.set_cons_succ]
              refine wpAnyG_dropL (i := 20) [21, 22, 23] rfl (by kernel_rfl) (fun _ _ _ h => h) hHeld (by rfl) ?_
              try simp only [Act.put, List.setIfInBounds_toArray, List.set_cons_zero, List.set_cons_succ]
              refine wpAnyG_dropL (i := 21) [22, 23] rfl (by kernel_rfl) (fun _ _ _ h => h) hHeld (by rfl) ?_
              try simp only [Act.put, List.setIfInBounds_toArray, List.set_cons_zero, List.set_cons_succ]
              refine wpAnyG_dropL (i := 22) [23] rfl (by kernel_rfl) (fun _ _ _ h => h) hHeld (by rfl) ?_
              try simp only [Act.put, List.setIfInBounds_toArray, List.set_cons_zero, List.set_cons_succ]
              clear hHeld
              refine wpAnyG_oneL (i := 23) (by kernel_rfl) rfl (fun K hK => ?_)
              (go_simp)
              refine hK.out _ _ (fun h => Bool.noConfusion (show true = false from h)) ?_
              clear hK K
              refine wpAnyG_done (by kernel_rfl) ?_ _
              go_wp2_with fail
              go_meet
              exact ⟨rfl, Lib.hid hd⟩
            · have hCC : decide ((lf : Int) < (n : Int)) = C := by rw [← hC]; congr 1; simp only [eq_iff_iff]; constructor <;> intro h9 <;> omega
              have hCN : decide (lf < n) = C := by rw [← hC]; congr 1; simp only [eq_iff_iff]; constructor <;> intro h9 <;> omega
              have heq : (last == (v : Int)) = false := by simp [hvl]
              clear hs0 hp hlast hC hsn q0 hvl HS8
              refine wp_region_G 23 (fun W' => W'.cell? ⟨g10, 0, none⟩ = some (.int .i64 (v : Int)) ∧ W'.cell? ⟨g10, 1, none⟩ = some (.int .i64 (n : Int)) ∧ W'.cell? (ad.add (p * 2)) = some (.int .i64 last)) (by kernel_rfl) (HF.out _ hd) (fun hHeld => ?_)
              refine wpAnyG_takeL (i := 0) (.slice (some ad) ss.length c8) [1, 2, 3, 15, 23] rfl (by kernel_rfl) (fun _ _ _ h => h) hHeld (by rfl) ?_ ?_
              · (intro W' hSw; (try dsimp only at hSw); go_simp)
              try simp only [Act.put, List.setIfInBounds_toArray, List.set_cons_zero, List.set_cons_succ]
              refine wpAnyG_takeL (i := 1) (.int .i64 (ss.length : Int)) [2, 3, 15, 23] rfl (by kernel_rfl) (fun _ _ _ h => h) hHeld (by rfl) ?_ ?_
              · (intro W' hSw; (try dsimp only at hSw); go_simp)
              try simp only [Act.put, List.setIfInBounds_toArray, List.set_cons_zero, List.set_cons_succ]
              refine wpAnyG_takeL (i := 2) (.bool true) [3, 15, 23] rfl (by kernel_rfl) (fun _ _ _ h => h) hHeld (by rfl) ?_ ?_
              · (intro W' hSw; (try dsimp only at hSw); go_simp)
              try simp only [Act.put, List.setIfInBounds_toArray, List.set_cons_zero, List.set_cons_succ]
              refine wpAnyG_takeL (i := 3) (.bool true) [15, 23] rfl (by kernel_rfl) (fun _ _ _ h => h) hHeld (by rfl) ?_ ?_
              · (intro W' hSw; (try dsimp only at hSw); go_simp)
              try simp only [Act.put, List.setIfInBounds_toArray, List.set_cons_zero, List.set_cons_succ]
              refine wpAnyG_takeL (i := 4) (.slice (some ad) ss.length c8) [8, 9, 10, 13, 14, 15, 23] rfl (by kernel_rfl) (fun _ _ _ h => h) hHeld (by rfl) ?_ ?_
              · (intro W' hSw; (try dsimp only at hSw); go_simp)
              try simp only [Act.put, List.setIfInBounds_toArray, List.set_cons_zero, List.set_cons_succ]
              refine wpAnyG_takeL (i := 5) (.slice (some ad) ss.length c8) [6, 7, 8, 9, 10, 13, 14, 15, 23] rfl (by kernel_rfl) (fun _ _ _ h => h) hHeld (by rfl) ?_ ?_
              · (intro W' hSw; (try dsimp only at hSw); go_simp)
              try simp only [Act.put, List.setIfInBounds_toArray, List.set_cons_zero, List.set_cons_succ]
              refine wpAnyG_takeL (i := 6) (.int .i64 (ss.length : Int)) [7, 8, 9, 10, 13, 14, 15, 23] rfl (by kernel_rfl) (fun _ _ _ h => h) hHeld (by rfl) ?_ ?_
              · (intro W' hSw; (try dsimp only at hSw); go_simp)
              try simp only [Act.put, List.setIfInBounds_toArray, List.set_cons_zero, List.set_cons_succ]
              refine wpAnyG_takeL (i := 7) (.int .i64 (p : Int)) [8, 9, 10, 13, 14, 15, 23] rfl (by kernel_rfl) (fun _ _ _ h => h) hHeld (by rfl) ?_ ?_
              · (intro W' hSw; (try dsimp only at hSw); go_simp)
              try simp only [Act.put, List.setIfInBounds_toArray, List.set_cons_zero, List.set_cons_succ]
              refine wpAnyG_takeL (i := 8) (.pointer (some (ad.add (p * 2)))) [9, 10, 13, 14, 15, 23] rfl (by kernel_rfl) (fun _ _ _ h => h) hHeld (by rfl) ?_ ?_
              · (intro W' hSw; (try dsimp only at hSw); go_simp)
              try simp only [Act.put, List.setIfInBounds_toArray, List.set_cons_zero, List.set_cons_succ]
              refine wpAnyG_takeL (i := 9) (.pointer (some (ad.add (p * 2)))) [10, 13, 14, 15, 23] rfl (by kernel_rfl) (fun _ _ _ h => h) hHeld (by rfl) ?_ ?_
              · (intro W' hSw; (try dsimp only at hSw); go_simp)
              try simp only [Act.put, List.setIfInBounds_toArray, List.set_cons_zero, List.set_cons_succ]
              refine wpAnyG_takeL (i := 10) (.int .i64 last) [13, 14, 15, 23] rfl (by kernel_rfl) (fun _ _ _ h => h) hHeld (by rfl) ?_ ?_
              · (intro W' hSw; (try dsimp only at hSw); go_simp)
              try simp only [Act.put, List.setIfInBounds_toArray, List.set_cons_zero, List.set_cons_succ]
              refine wpAnyG_takeL (i := 11) (.pointer (some ⟨g10, 0, none⟩)) [12, 13, 14, 15, 23] rfl (by kernel_rfl) (fun _ _ _ h => h) hHeld (by rfl) ?_ ?_
              · (intro W' hSw; (try dsimp only at hSw); go_simp)
              try simp only [Act.put, List.setIfInBounds_toArray, List.set_cons_zero, List.set_cons_succ]
              refine wpAnyG_takeL (i := 12) (.int .i64 (v : Int)) [13, 14, 15, 23] rfl (by kernel_rfl) (fun _ _ _ h => h) hHeld (by rfl) ?_ ?_
              · (intro W' hSw; (try dsimp only at hSw); go_simp)
              try simp only [Act.put, List.setIfInBounds_toArray, List.set_cons_zero, List.set_cons_succ]
              refine wpAnyG_takeL (i := 13) (.bool false) [14, 15, 23] rfl (by kernel_rfl) (fun _ _ _ h => h) hHeld (by rfl) ?_ ?_
              · (intro W' hSw; (try dsimp only at hSw); go_simp)
              try simp only [Act.put, List.setIfInBounds_toArray, List.set_cons_zero, List.set_cons_succ]
              refine wpAnyG_takeL (i := 14) (.bool false) [15, 23] rfl (by kernel_rfl) (fun _ _ _ h => h) hHeld (by rfl) ?_ ?_
              · (intro W' hSw; (try dsimp only at hSw); go_simp)
              try simp only [Act.put, List.setIfInBounds_toArray, List.set_cons_zero, List.set_cons_succ]
              refine wpAnyG_takeL (i := 15) (.bool false) [23] rfl (by kernel_rfl) (fun _ _ _ h => h) hHeld (by rfl) ?_ ?_
              · (intro W' hSw; (try dsimp only at hSw); go_simp)
              try simp only [Act.put, List.setIfInBounds_toArray, List.set_cons_zero, List.set_cons_succ]
              refine wpAnyG_takeL (i := 16) (.pointer (some ⟨g10, 1, none⟩)) [17, 22, 23] rfl (by kernel_rfl) (fun _ _ _ h => h) hHeld (by rfl) ?_ ?_
              · (intro W' hSw; (try dsimp only at hSw); go_simp)
              try simp only [Act.put, List.setIfInBounds_toArray, List.set_cons_zero, List.set_cons_succ]
              refine wpAnyG_takeL (i := 17) (.int .i64 (n : Int)) [22, 23] rfl (by kernel_rfl) (fun _ _ _ h => h) hHeld (by rfl) ?_ ?_
              · (intro W' hSw; (try dsimp only at hSw); go_simp)
              try simp only [Act.put, List.setIfInBounds_toArray, List.set_cons_zero, List.set_cons_succ]
              refine wpAnyG_takeL (i := 18) (.slice A ws.length c) [19, 21, 22, 23] rfl (by kernel_rfl) (fun _ _ _ h => h) hHeld (by rfl) ?_ ?_
              · (intro W' hSw; (try dsimp only at hSw); go_simp)
              try simp only [Act.put, List.setIfInBounds_toArray, List.set_cons_zero, List.set_cons_succ]
              refine wpAnyG_takeL (i := 19) (.int .i64 (ws.length : Int)) [21, 22, 23] rfl (by kernel_rfl) (fun _ _ _ h => h) hHeld (by rfl) ?_ ?_
              · (intro W' hSw; (try dsimp only at hSw); go_simp)
              try simp only [Act.put, List.setIfInBounds_toArray, List.set_cons_zero, List.set_cons_succ]
              refine wpAnyG_takeL (i := 20) (.int .i64 (a : Int)) [21, 22, 23] rfl (by kernel_rfl) (fun _ _ _ h => h) hHeld (by rfl) ?_ ?_
              · (intro W' hSw; (try dsimp only at hSw); go_simp)
              try simp only [Act.put, List.setIfInBounds_toArray, List.set_cons_zero, List.set_cons_succ]
              refine wpAnyG_takeL (i := 21) (.int .i64 (lf : Int)) [22, 23] rfl (by kernel_rfl) (fun _ _ _ h => h) hHeld (by rfl) ?_ ?_
              · (intro W' hSw; (try dsimp only at hSw); go_simp)
              try simp only [Act.put, List.setIfInBounds_toArray, List.set_cons_zero, List.set_cons_succ]
              refine wpAnyG_takeL (i := 22) (.bool C) [23] rfl (by kernel_rfl) (fun _ _ _ h => h) hHeld (by rfl) ?_ ?_
              · (intro W' hSw; (try dsimp only at hSw); go_simp)
              try simp only [Act.put, List.setIfInBounds_toArray, List.set_cons_zero, List.set_cons_succ]
              clear hHeld
              refine wpAnyG_oneL (i := 23) (by kernel_rfl) rfl (fun K hK => ?_)
              (go_simp)
              refine hK.out _ _ (fun h => Bool.noConfusion (show true = false from h)) ?_
              clear hK K
              refine wpAnyG_done (by kernel_rfl) ?_ _
              go_wp2_with fail
              go_meet
              exact ⟨rfl, Lib.hid hd⟩
        case rest =>
          obtain ⟨rfl, hB6⟩ := hcut
          have HR6 := Lib.hid (HR5.out.below hB6.out)
          have HV6 := Lib.hid (HV5.out.below hB6.out)
          have HS6 := Lib.hid (HB5.out.below hB6.out)
          have HU6 := Lib.hid (updB HU5.out hB6.out)
          have HU16 := Lib.hid (show Upd (fun x => x = g ∨ w1.heap.size ≤ x) w1 wc from HU15.out.trans (Upd.of_below hB6.out (fun _ => False)) fun _ _ h => h.elim)
          have HB16 := Lib.hid (HB10.out.below hB6.out)
          have HAP6 := Lib.hid hAP.out
          clear HR5 HV5 HB5 HU5 HU15 HB10 hB6 hd hs8 HS8 hAP
          by_cases hgo : E2 = 0 ∧ C = false
          · obtain ⟨hE20, hCf⟩ := hgo
            subst hE20 hCf
            have HK2 := Lib.hid (tok_any o g j2 l 0 wc HR6.out)
            rw [show ((0 : Int) == 0) = true from rfl] at HK2
            have hnc : ¬ ((v : Int) = last ∨ lf < n) := of_decide_eq_false HC.out
            obtain ⟨hhd, hj1⟩ := (HHT.out.2 rfl).2 hnc
            obtain ⟨b', n', hbn, hb8, hn1, hnl, hbne⟩ := HHO.out (by rw [hhd])
            rw [hhd] at hbn
            have hvb : v < 8 ∧ 1 ≤ n ∧ n ≤ lf := by
              have h1 := congrArg Prod.fst hbn
              have h2 := congrArg Prod.snd hbn
              simp only at h1 h2
              omega
            have HX := Lib.hid (HQS.out _ _ _ hhd)
            rw [Int.toNat_natCast, List.drop_drop] at HX
            have hj2 := HJ2.out rfl
            obtain ⟨p0, hp0⟩ : ∃ p0, i + (m + (3 + (gamF (l.drop j1)).2.2)) = p0 := ⟨_, rfl⟩
            have hjp : j2 = p0 := by have := HJ.out; omega
            subst hjp
            rw [hp0] at HX
            have HM := Lib.hid hp0
            have hnle : a + n ≤ ws.length := by have := HLF.out; omega
            obtain ⟨aw, hAW, _⟩ := rd_int (HSK.out _ HU6.out).any a hlt
            subst hAW
            have hcut := fun W => cut_lh a n ws.length c aw hvb.2.1 hnle HLC.out.1 W
            obtain ⟨q, hq⟩ : ∃ q, a + n = q := ⟨_, rfl⟩
            rw [hq] at hcut hnle HX
            have hwq : IntKind.i64.wrap ((a : Int) + (n : Int)) = (q : Int) := by rw [IntWalk.i64_in _ (by have := H128.out; omega)]; omega
            have HQ := Lib.hid hq
            have HVB := Lib.hid hvb
            have HNLE := Lib.hid hnle
            have z0 := HB16.out.cell 0 rfl
            have z1 := HB16.out.cell 1 rfl
            have HSL := Lib.hid (show ss.length ≤ 128 by omega)
            have HF2 := Lib.hid hF.out
            have HNXT := Lib.hid (fun k (L : List Int) m (h9 : rbP (v : Int) ws a (l.drop j2) k = (L, 0, m)) => rbP_next (v : Int) ws a (l.drop j2) k h9)
            have HERR := Lib.hid (rbP_err (v : Int) ws a (l.drop j2))
            have HRP := Lib.hid (show rbP (v : Int) ws a (l.drop j2) 0 = ([], 0, 0) from rfl)
            have HBD := Lib.hid (show w1.heap.size ≤ wc.heap.size from HU16.out.size)
            clear hnc hhd hj1 hbn hb8 hn1 hnl hbne hp0 hq hvb hnle hC HQH HQS HHT HHO HJ2 hF hsn hss8
            go_wp2_with (first
              | (go_at_call 38; refine HK2.out.mono ?_; rintro e w7 ⟨rfl, rfl⟩)
              | (at_builtin; (refine append_k (k := kSe) (W := wc) w1.heap.size rfl (.tmp 56) (.tmp 58) 31 67 (.agg #[.int .i64 0, .int .i64 0]) 16 (fun _ => False) rfl Tryd.underlying31 infoSe rfl (by decide) (by decide) _ ss ((v : Int), (n : Int)) [.int .i64 (v : Int), .int .i64 (n : Int)] rfl rfl rfl HS6.out rfl HBD.out (by have := HSL.out; omega) ?_); intro g5 cap5 w5 hO5 hg5 hb5 ha5; have HB5 := Lib.hid (HB16.out.keep (Keep.of_grown hg5) (fun e => by have := HG10.out.2.2.2 _ e.symm; omega)); have y0 := HB5.out.cell 0 rfl; have y1 := HB5.out.cell 1 rfl; have HO5 := Lib.hid hO5; have HGU := Lib.hid (Upd.of_grown (o := fun x => w1.heap.size ≤ x) hg5 (fun r e => HS6.out.base_le r e)); have HV7 := Lib.hid (HV6.out.grown hg5 (by
                  cases hx : u7.ownBlock with
                  | none => exact .inl rfl
                  | some x => exact .inr (fun e => HAP6.out x hx e.symm))); have HA5 := Lib.hid (show ∀ x, u7.ownBlock = some x → x ≠ g5 ∧ x ≠ g10 from fun x e => ⟨fun h => by
                  subst h
                  rcases ha5 with h | h
                  · exact HAP6.out x e h
                  · have := HG10.out.2.2.1 x e; have := HB16.out.lt; omega, by have := HG10.out.2.2.1 x e; omega⟩); clear hO5 hg5 hb5 ha5))
            have HT5 := Lib.hid (HR6.out.upd HGU.out (fun x _ h9 h8 => by have := HO.out x h9; have := HSZ1.out; omega))
            have HU5 := Lib.hid (show Upd (fun x => x = g) w w5 from HU6.out.trans HGU.out fun x hx h9 => by have := HSZ1.out; omega)
            have HU15 := Lib.hid (show Upd (fun x => x = g ∨ w1.heap.size ≤ x) w1 w5 from HU16.out.trans HGU.out fun x hx h9 => .inr h9)
            clear y0 y1 z0 z1
            go_loopw [7, 68] (fun vv iv wx => ∃ (k p : Nat) (E : Int) (L : List Int), k ≤ n ∧ iv = .int .i64 (k : Int) ∧ Hid (L.length ≤ 128 * k) ∧ Hid (OwnI 3 .i64 w1.heap.size wx vv (vs ++ L)) ∧ Hid (OwnS w1.heap.size wx (.slice (some ⟨g5, 0, none⟩) (ss.length + 1) cap5) (ss ++ [((v : Int), (n : Int))])) ∧ Hid (∀ x, vv.ownBlock = some x → x ≠ g5 ∧ x ≠ g10) ∧ Hid (Tr o wx g l p E) ∧ Hid (Upd (fun x => x = g) w wx) ∧ Hid (Upd (fun x => x = g ∨ w1.heap.size ≤ x) w1 wx) ∧ Hid (Blk wx g10 #[.int .i64 (v : Int), .int .i64 (n : Int)] 67) ∧ Hid (g5 < wx.heap.size) ∧ Hid ((E = 0 ∧ ∃ mm, rbP (v : Int) ws a (l.drop j2) k = (L, 0, mm) ∧ p = j2 + mm) ∨ (E ≠ 0 ∧ (rbP (v : Int) ws a (l.drop j2) n).2.1 = E))) (fun _ iv _ => n - (intOf iv).toNat)
            case atStart => exact ⟨0, j2, 0, [], Nat.zero_le _, rfl, Lib.hid (Nat.zero_le _), by rw [List.append_nil]; exact HV7, HO5, HA5, HT5, HU5, HU15, HB5, Lib.hid (HO5.out.lt g5 rfl).2, Lib.hid (.inl ⟨rfl, 0, HRP.out, rfl⟩)⟩
            case round =>
              clear HV7 HO5 HA5 HT5 HU5 HU15 HB5 HGU HRP
              obtain ⟨k, p, E, L, hk, rfl, hLL, hI, hSS, hAP, hR, hU, hU1, hB10, hG5, hX⟩ := hrel
              by_cases hkl : k < n
              · have hki : (k : Int) < (n : Int) := by omega
                have hk1 : IntKind.i64.wrap ((k : Int) + 1) = ((k + 1 : Nat) : Int) := by rw [IntWalk.i64_in _ (by have := H128.out; have := HNLE.out; have := HQ.out; omega)]; omega
                have hq9 := HQ.out
                have hnle := HNLE.out
                obtain ⟨aw', e', k0⟩ := rd_int (HSK.out _ hU.out).any (a + k) (by omega)
                cases e'
                rw [← add_add] at k0
                obtain ⟨hwn, hw1, hw128⟩ := HOK.out (a + k) (by omega)
                obtain ⟨ab, A1, c1, A2, c2, hab, t1, t2, d0, d1, d2, d3, d4, d5⟩ := rd_all (HAL.out.keep (hU1.out.keep (ok := fun x => x ≠ g ∧ x < w1.heap.size) fun x h h2 => by
                  rcases h2 with h2 | h2
                  · exact h.1 h2
                  · omega)) v HVB.out.1
                cases hab
                rw [add_plain] at d0 d1 d2 d3 d4 d5
                have z0 := hB10.out.cell 0 rfl
                have hdp := dimB_pos v
                have HBE := Lib.hid (show ∀ D, brdE (v : Int) (nth 0 ws (a + k)) D = if widV ws (a + k) % dimB v ≠ 0 then 4 else bkRE v (widV ws (a + k)) D from fun D => by
                  unfold brdE
                  rw [if_neg (by have := HVB.out.1; omega), hwn, Int.toNat_natCast, Int.toNat_natCast]
                  by_cases h9 : widV ws (a + k) % dimB v ≠ 0
                  · rw [if_pos (.inr (.inr h9)), if_pos h9]
                  · rw [if_neg (by intro h8; rcases h8 with h8 | h8 | h8 <;> first | omega | exact h9 h8), if_neg h9])
                have HBL := Lib.hid (show ∀ D, brdE (v : Int) (nth 0 ws (a + k)) D = 0 → brdL (v : Int) (nth 0 ws (a + k)) D = bkRL v (widV ws (a + k)) D ∧ brdN (v : Int) (nth 0 ws (a + k)) D = bkRN v (widV ws (a + k)) D from fun D h9 => by
                  unfold brdL brdN
                  rw [if_neg (by simp [h9]), if_neg (by simp [h9]), hwn, Int.toNat_natCast, Int.toNat_natCast]
                  exact ⟨rfl, rfl⟩)
                have HNX := Lib.hid (HNXT.out k)
                rw [hwn] at k0
                have HTK := Lib.hid (fun (h0 : Tr o wr g l p 0) (hd : widV ws (a + k) % dimB v = 0) => rtake_any o g p (widV ws (a + k)) v A1 c1 A2 c2 l wr h0 (fun x hx => by have := HO.out x hx; have := hU.out.size; omega) (t1.weak fun x _ h => h.1) (t2.weak fun x _ h => h.1) HVB.out.1 (by omega) hd)
                have HTN := Lib.hid (fun (E' : Int) W (h0 : Tr o W g l p E') (hE : E' ≠ 0) => rtake_no o g p (widV ws (a + k)) v A1 (tabKI v).length c1 A2 (tabKI v).length c2 l E' W h0 hE)
                obtain ⟨wd, hwd⟩ : ∃ wd, widV ws (a + k) = wd := ⟨_, rfl⟩
                obtain ⟨dm, hdm⟩ : ∃ dm, dimB v = dm := ⟨_, rfl⟩
                unfold bookM bookC at HTK
                unfold bookC at HTN
                rw [hwd] at HTK HTN HBE HBL k0 hw1 hw128
                rw [hdm] at HTK HTN HBE d0 hdp
                have hlt : wd % dm < dm := Nat.mod_lt _ (by omega)
                have ht : (wd : Int).tmod (dm : Int) = ((wd % dm : Nat) : Int) := by rw [Int.tmod_eq_emod_of_nonneg (by omega), ← Int.natCast_emod]
                have hm : (wd : Int) % (dm : Int) = ((wd % dm : Nat) : Int) := by rw [← Int.natCast_emod]
                obtain ⟨r, hr⟩ : ∃ r, wd % dm = r := ⟨_, rfl⟩
                rw [hr] at hlt ht hm HTK HBE
                have hw : IntKind.i64.wrap ((wd : Int).tmod (dm : Int)) = (r : Int) := by rw [ht]; exact IntWalk.i64_in _ (by omega)
                have hwr : IntKind.i64.wrap (r : Int) = (r : Int) := IntWalk.i64_in _ (by omega)
                have hD0 : ((dm : Int) == 0) = false := by simp; omega
                have hDn : ¬ dm = 0 := by omega
                have hv8 : (v : Int) < 8 := by have := HVB.out.1; omega
                have hv0 : (0 : Int) ≤ (v : Int) := by omega
                obtain ⟨A7, c7, rfl⟩ := hI.out.slice
                obtain ⟨VL, hVL⟩ : ∃ VL, vs ++ L = VL := ⟨_, rfl⟩
                have HLN := Lib.hid (show VL.length + 128 ≤ 100000000 by
                  rw [← hVL, List.length_append]
                  have h2 := HF2.out.1
                  have h3 := hLL.out
                  have h4 := H128.out
                  omega)
                rw [hVL] at hI hAP ⊢
                have HVL := Lib.hid hVL
                have HK1 := Lib.hid hkl
                have HW1 := Lib.hid (show w1.heap.size ≤ wr.heap.size from hU1.out.size)
                have HWD := Lib.hid (show wd ≤ 128 from hw128)
                clear hwn hw1 hw128 hwd hdm hr t1 t2 hVL hkl hq9 hnle
                by_cases hgood : E = 0 ∧ r = 0
                · obtain ⟨hE0, hr0⟩ := hgood
                  subst hE0 hr0
                  obtain ⟨mm, hP, hpp⟩ : ∃ mm, rbP (v : Int) ws a (l.drop j2) k = (L, 0, mm) ∧ p = j2 + mm := by
                    rcases hX.out with ⟨_, h1⟩ | ⟨h1, _⟩
                    · exact h1
                    · exact absurd rfl h1
                  have hP2 := HNX.out L mm hP
                  rw [List.drop_drop, ← hpp] at hP2
                  have HP2 := Lib.hid hP2
                  have HPP := Lib.hid hpp
                  have HT := Lib.hid (HTK.out hR.out rfl)
                  have hbe := HBE.out (l.drop p)
                  rw [if_neg (by simp)] at hbe
                  have HBE2 := Lib.hid hbe
                  clear hP hpp hX HTK HTN hP2 hbe
                  go_wp2_with (first
                    | (go_at_call 66; refine HT.out.mono ?_; rintro e w6 ⟨v4, L4, rfl, hO4, hr4, hl4, hn4, hu4⟩; obtain ⟨A4, c4, rfl, hs4⟩ := hO4.rd; have HS4 := Lib.hid hs4.any; have HI4 := Lib.hid (ownI_keepU hI.out hu4 HLT1.out); have HR4 := Lib.hid hr4; have HU4 := Lib.hid hu4; have HL4 := Lib.hid (And.intro hl4 hn4); have HSZ4 := Lib.hid (show w1.heap.size ≤ w6.heap.size by have := HW1.out; have := hu4.size; omega); clear hO4 hs4 hr4 hu4 hl4 hn4)
                    | (at_builtin; (refine append_row (w0 := w6) w1.heap.size rfl (.tmp 83) (.tmp 91) 25 3 .i64 8 rfl Tryd.underlying25 infoI (by decide) _ VL L4 A4 c4 rfl rfl HI4.out HS4.out (Below.refl _ _) HSZ4.out (by have := HLN.out; have := HL4.out.2; have := HWD.out; omega) ?_); intro v1 w8 hO5 _ hg5 ha5; have HO5 := Lib.hid hO5; have HG5 := Lib.hid hg5; have HA5 := Lib.hid ha5; clear hO5 hg5 ha5))
                  have hgu := Upd.of_grown (o := fun x => w1.heap.size ≤ x) HG5.out (fun r e => HI4.out.base_le r e)
                  obtain ⟨jn, hrn, hjn⟩ := HR4.out
                  go_roundw
                  case rel =>
                    refine ⟨k + 1, jn, bkRE v wd (l.drop p), L ++ L4, HK1.out, by first | rfl | go_num, Lib.hid (by rw [List.length_append]; have := hLL.out; have := HL4.out.2; have := HWD.out; omega), by rw [← List.append_assoc, HVL.out]; exact HO5, ?_, ?_, ?_, ?_, ?_, ?_, ?_, ?_⟩
                    · have h1 := OwnS.keepU hSS.out HU4.out HLT1.out
                      exact Lib.hid (h1.keep (Keep.of_grown HG5.out) (fun x e e' => (hAP.out x e'.symm).1 (by cases e; rfl)) (fun _ h => h.elim) ⟨HG5.out.1, HG5.out.2, HG5.out.3⟩)
                    · refine Lib.hid fun x e => ?_
                      rcases HA5.out with h1 | ⟨y, h1, h2⟩
                      · rw [h1] at e; exact hAP.out x e
                      · rw [h1] at e; cases e
                        have h3 := hB10.out.lt
                        have h4 := HU4.out.size
                        have h5 := hG5.out
                        exact ⟨by omega, by omega⟩
                    · exact Lib.hid (hrn.upd hgu (fun x _ h9 h8 => by have := HO.out x h9; have := HSZ1.out; omega))
                    · exact Lib.hid ((hU.out.trans HU4.out fun _ _ h => h).trans hgu fun x hx h9 => by have := HSZ1.out; omega)
                    · exact Lib.hid ((hU1.out.trans HU4.out fun _ _ h => .inl h).trans hgu fun x hx h9 => .inr h9)
                    · have h1 := hB10.out.keep (HU4.out.keep (ok := fun x => x ≠ g) fun _ h => h) (by have := HLT.out; have := HG10.out.1; omega)
                      exact Lib.hid (h1.keep (Keep.of_grown HG5.out) (fun e => (hAP.out _ e.symm).2 rfl))
                    · exact Lib.hid (by have := hG5.out; have := HU4.out.size; have := hgu.size; omega)
                    · refine Lib.hid ?_
                      by_cases h9 : bkRE v wd (l.drop p) = 0
                      · obtain ⟨q1, q2⟩ := HBL.out (l.drop p) (by rw [HBE2.out]; exact h9)
                        refine .inl ⟨h9, mm + bkRN v wd (l.drop p), ?_, by rw [hjn h9, HPP.out]; omega⟩
                        rw [HP2.out, HBE2.out, h9, q1, q2, HL4.out.1 h9]
                      · refine .inr ⟨h9, ?_⟩
                        rw [HERR.out (k + 1) (by rw [HP2.out]; show brdE _ _ _ ≠ 0; rw [HBE2.out]; exact h9) n HK1.out, HP2.out]
                        exact HBE2.out
                  case measure => simp [intOf] <;> (have := HK1.out; omega)
                · have hbad : ∃ E4, E4 ≠ 0 ∧ (if r ≠ 0 then failE E 4 else E) = E4 ∧ (rbP (v : Int) ws a (l.drop j2) n).2.1 = E4 := by
                    rcases hX.out with ⟨h0, mm, hP, hpp⟩ | ⟨h0, h1⟩
                    · have hr0 : r ≠ 0 := fun h => hgood ⟨h0, h⟩
                      have hP2 := HNX.out L mm hP
                      rw [List.drop_drop, ← hpp] at hP2
                      have hb := HBE.out (l.drop p)
                      rw [if_pos hr0] at hb
                      refine ⟨4, by decide, by rw [if_pos hr0, h0]; rfl, ?_⟩
                      rw [HERR.out (k + 1) (by rw [hP2]; show brdE _ _ _ ≠ 0; rw [hb]; decide) n HK1.out, hP2]
                      exact hb
                    · refine ⟨E, h0, ?_, h1⟩
                      split
                      · unfold failE; rw [if_neg h0]
                      · rfl
                  obtain ⟨E4, hE4, hEq, hRB⟩ := hbad
                  have HE4 := Lib.hid hE4
                  have HRB := Lib.hid hRB
                  have HFL := Lib.hid (tfail_any o g p l E 4 wr hR.out)
                  have HSN := Lib.hid (show ∀ W, Sl (kInt .i64) AnyB W none 0 [] from fun W => ⟨Nat.le_refl _, by omega, Kd.Rd.nil _ _ _ _⟩)
                  by_cases hr0 : r = 0
                  · subst hr0
                    rw [if_neg (by simp)] at hEq
                    subst hEq
                    have HT := Lib.hid (HTN.out E wr hR.out HE4.out)
                    clear hgood hE4 hRB hX HTK HTN HBE HBL HNX HFL
                    go_wp2_with (first
                      | (go_at_call 66; refine HT.out.mono ?_; rintro e w6 ⟨rfl, b6⟩; have HI4 := Lib.hid (hI.out.below b6); have HB6 := Lib.hid b6; have HSZ4 := Lib.hid (show w1.heap.size ≤ w6.heap.size by have := HW1.out; have := b6.size; omega); clear b6)
                      | (at_builtin; (refine append_row (w0 := w6) w1.heap.size rfl (.tmp 83) (.tmp 91) 25 3 .i64 8 rfl Tryd.underlying25 infoI (by decide) _ VL [] none 0 rfl rfl HI4.out (HSN.out _) (Below.refl _ _) HSZ4.out (by have := HLN.out; simp; omega) ?_); intro v1 w8 hO5 _ hg5 ha5; have HO5 := Lib.hid hO5; have HG5 := Lib.hid hg5; have HA5 := Lib.hid ha5; clear hO5 hg5 ha5))
                    have HU4 := Lib.hid (Upd.of_below HB6.out (fun x => x = g))
                    have HR4 := Lib.hid (hR.out.below HB6.out)
                    have hgu := Upd.of_grown (o := fun x => w1.heap.size ≤ x) HG5.out (fun r e => HI4.out.base_le r e)
                    go_roundw
                    case rel =>
                      refine ⟨k + 1, p, E, L ++ [], HK1.out, by first | rfl | go_num, Lib.hid (by rw [List.append_nil]; have := hLL.out; omega), by rw [← List.append_assoc, HVL.out]; exact HO5, ?_, ?_, ?_, ?_, ?_, ?_, ?_, Lib.hid (.inr ⟨HE4.out, HRB.out⟩)⟩
                      · have h1 := OwnS.keepU hSS.out HU4.out HLT1.out
                        exact Lib.hid (h1.keep (Keep.of_grown HG5.out) (fun x e e' => (hAP.out x e'.symm).1 (by cases e; rfl)) (fun _ h => h.elim) ⟨HG5.out.1, HG5.out.2, HG5.out.3⟩)
                      · refine Lib.hid fun x e => ?_
                        rcases HA5.out with h1 | ⟨y, h1, h2⟩
                        · rw [h1] at e; exact hAP.out x e
                        · rw [h1] at e; cases e
                          have h3 := hB10.out.lt
                          have h4 := HU4.out.size
                          have h5 := hG5.out
                          exact ⟨by omega, by omega⟩
                      · exact Lib.hid (HR4.out.upd hgu (fun x _ h9 h8 => by have := HO.out x h9; have := HSZ1.out; omega))
                      · exact Lib.hid ((hU.out.trans HU4.out fun _ _ h => h).trans hgu fun x hx h9 => by have := HSZ1.out; omega)
                      · exact Lib.hid ((hU1.out.trans HU4.out fun _ _ h => .inl h).trans hgu fun x hx h9 => .inr h9)
                      · have h1 := hB10.out.keep (HU4.out.keep (ok := fun x => x ≠ g) fun _ h => h) (by have := HLT.out; have := HG10.out.1; omega)
                        exact Lib.hid (h1.keep (Keep.of_grown HG5.out) (fun e => (hAP.out _ e.symm).2 rfl))
                      · exact Lib.hid (by have := hG5.out; have := HU4.out.size; have := hgu.size; omega)
                    case measure => simp [intOf] <;> (have := HK1.out; omega)
                  · have hrne : ((r : Int) != 0) = true := by simp [hr0]
                    rw [if_pos hr0] at hEq
                    rw [hEq] at HFL
                    have HTN4 := Lib.hid (fun W h0 => HTN.out E4 W h0 HE4.out)
                    have HZZ := Lib.hid (show ∀ W', Upd (fun x => x = g) wr W' → W'.cell? ⟨g10, 0, none⟩ = some (.int .i64 (v : Int)) ∧ W'.cell? ⟨gA, v * 6, none⟩ = some (.int .i64 (dm : Int)) ∧ W'.cell? ⟨gA, v * 6 + 1, none⟩ = some (.int .i64 (mostB v)) ∧ W'.cell? ⟨gA, v * 6 + 2, none⟩ = some (.int .i64 (fallB v)) ∧ W'.cell? ⟨gA, v * 6 + 3, none⟩ = some (.bool (escB v)) ∧ W'.cell? ⟨gA, v * 6 + 4, none⟩ = some (.slice A1 (tabKI v).length c1) ∧ W'.cell? ⟨gA, v * 6 + 5, none⟩ = some (.slice A2 (tabKI v).length c2) from fun W' hu => by
                      have kk := hu.keep (ok := fun x => x ≠ g) fun _ h => h
                      have hgA : gA ≠ g := by
                        obtain ⟨ad, _, e, h0, _⟩ := HAL.out.rd 0 (by decide)
                        cases e; exact h0.1
                      have h10 : g10 ≠ g := by have := HLT.out; have := HG10.out.1; omega
                      exact ⟨(hB10.out.keep kk h10).cell 0 rfl, kk.cell (show (fun x => x ≠ g) (⟨gA, v * 6, none⟩ : Addr).block from hgA) d0, kk.cell (show (fun x => x ≠ g) (⟨gA, v * 6 + 1, none⟩ : Addr).block from hgA) d1, kk.cell (show (fun x => x ≠ g) (⟨gA, v * 6 + 2, none⟩ : Addr).block from hgA) d2, kk.cell (show (fun x => x ≠ g) (⟨gA, v * 6 + 3, none⟩ : Addr).block from hgA) d3, kk.cell (show (fun x => x ≠ g) (⟨gA, v * 6 + 4, none⟩ : Addr).block from hgA) d4, kk.cell (show (fun x => x ≠ g) (⟨gA, v * 6 + 5, none⟩ : Addr).block from hgA) d5⟩)
                    clear hgood hE4 hRB hX HTK HTN HBE HBL HNX hr0
                    go_wp2_with (first
                      | (go_at_call 65; refine HFL.out.mono ?_; rintro e w5' ⟨rfl, hr5, hu5⟩; have HR5 := Lib.hid hr5; have HU5 := Lib.hid hu5; have HT := Lib.hid (HTN4.out _ hr5); obtain ⟨z0', d0', d1', d2', d3', d4', d5'⟩ := HZZ.out _ hu5; clear hr5 hu5)
                      | (go_at_call 66; refine HT.out.mono ?_; rintro e w6 ⟨rfl, b6⟩; have HI4 := Lib.hid ((ownI_keepU hI.out HU5.out HLT1.out).below b6); have HB6 := Lib.hid b6; have HSZ4 := Lib.hid (show w1.heap.size ≤ w6.heap.size by have := HW1.out; have := HU5.out.size; have := b6.size; omega); clear b6)
                      | (at_builtin; (refine append_row (w0 := w6) w1.heap.size rfl (.tmp 83) (.tmp 91) 25 3 .i64 8 rfl Tryd.underlying25 infoI (by decide) _ VL [] none 0 rfl rfl HI4.out (HSN.out _) (Below.refl _ _) HSZ4.out (by have := HLN.out; simp; omega) ?_); intro v1 w8 hO5 _ hg5 ha5; have HO5 := Lib.hid hO5; have HG5 := Lib.hid hg5; have HA5 := Lib.hid ha5; clear hO5 hg5 ha5))
                    have HU4 := Lib.hid (HU5.out.trans (Upd.of_below HB6.out (fun x => x = g)) fun _ _ h => h)
                    have HR4 := Lib.hid (HR5.out.below HB6.out)
                    have hgu := Upd.of_grown (o := fun x => w1.heap.size ≤ x) HG5.out (fun r e => HI4.out.base_le r e)
                    go_roundw
                    case rel =>
                      refine ⟨k + 1, p, E4, L ++ [], HK1.out, by first | rfl | go_num, Lib.hid (by rw [List.append_nil]; have := hLL.out; omega), by rw [← List.append_assoc, HVL.out]; exact HO5, ?_, ?_, ?_, ?_, ?_, ?_, ?_, Lib.hid (.inr ⟨HE4.out, HRB.out⟩)⟩
                      · have h1 := OwnS.keepU hSS.out HU4.out HLT1.out
                        exact Lib.hid (h1.keep (Keep.of_grown HG5.out) (fun x e e' => (hAP.out x e'.symm).1 (by cases e; rfl)) (fun _ h => h.elim) ⟨HG5.out.1, HG5.out.2, HG5.out.3⟩)
                      · refine Lib.hid fun x e => ?_
                        rcases HA5.out with h1 | ⟨y, h1, h2⟩
                        · rw [h1] at e; exact hAP.out x e
                        · rw [h1] at e; cases e
                          have h3 := hB10.out.lt
                          have h4 := HU4.out.size
                          have h5 := hG5.out
                          exact ⟨by omega, by omega⟩
                      · exact Lib.hid (HR4.out.upd hgu (fun x _ h9 h8 => by have := HO.out x h9; have := HSZ1.out; omega))
                      · exact Lib.hid ((hU.out.trans HU4.out fun _ _ h => h).trans hgu fun x hx h9 => by have := HSZ1.out; omega)
                      · exact Lib.hid ((hU1.out.trans HU4.out fun _ _ h => .inl h).trans hgu fun x hx h9 => .inr h9)
                      · have h1 := hB10.out.keep (HU4.out.keep (ok := fun x => x ≠ g) fun _ h => h) (by have := HLT.out; have := HG10.out.1; omega)
                        exact Lib.hid (h1.keep (Keep.of_grown HG5.out) (fun e => (hAP.out _ e.symm).2 rfl))
                      · exact Lib.hid (by have := hG5.out; have := HU4.out.size; have := hgu.size; omega)
                    case measure => simp [intOf] <;> (have := HK1.out; omega)
              · obtain rfl : k = n := by omega
                have z1 := hB10.out.cell 1 rfl
                have hRBN : (E = 0 ∧ ∃ mm, rbP (v : Int) ws a (l.drop j2) k = (L, 0, mm) ∧ p = j2 + mm) ∨ (E ≠ 0 ∧ (rbP (v : Int) ws a (l.drop j2) k).2.1 = E) := hX.out
                have HRN := Lib.hid hRBN
                have HXX := Lib.hid HX.out
                clear hRBN hX hkl
                go_wp2
                go_roundw
                case rel =>
                  have hq9 := HQ.out
                  have hn1 := HVB.out.2.1
                  have hnb := HNLE.out
                  have hmj := HM.out
                  have hfa := HFA.out
                  have hJJ := HJ.out
                  rcases HRN.out with ⟨hE0, mm, hP, hpp⟩ | ⟨hE0, hP⟩
                  · have hXX := HXX.out
                    rw [hP, if_neg (by simp)] at hXX
                    refine ⟨f', q, m + (3 + (gamF (l.drop j1)).2.2) + mm, p, (v : Int), E, vs ++ L, ss ++ [((v : Int), (k : Int))], hnb, rfl, Lib.hid ⟨by rw [List.length_append]; have := HF2.out.1; have := hLL.out; omega, by rw [List.length_append, List.length_singleton]; have := HF2.out.2; omega⟩, hI, hSS, Lib.hid fun x e e2 => (hAP.out x e).1 (by cases e2; rfl), hR, hU, hU1, Lib.hid (lastB_snoc _ _), Lib.hid (.inl ⟨hE0, by omega, hXX.symm, by omega⟩)⟩
                  · have hXX := HXX.out
                    rw [if_pos (by rw [hP]; exact hE0), hP] at hXX
                    refine ⟨f', q, 0, p, (v : Int), E, vs ++ L, ss ++ [((v : Int), (k : Int))], hnb, rfl, Lib.hid ⟨by rw [List.length_append]; have := HF2.out.1; have := hLL.out; omega, by rw [List.length_append, List.length_singleton]; have := HF2.out.2; omega⟩, hI, hSS, Lib.hid fun x e e2 => (hAP.out x e).1 (by cases e2; rfl), hR, hU, hU1, Lib.hid (lastB_snoc _ _), Lib.hid (.inr ⟨hE0, by rw [hXX]⟩)⟩
                case measure => simp [intOf] <;> (have := HQ.out; have := HVB.out.2.1; have := HNLE.out; omega)
          · have hERR : ∃ E3, E3 ≠ 0 ∧ Q = ([], [], E3, 0) ∧ (if C = true then failE E2 4 else E2) = E3 := by
              by_cases h0 : E2 = 0
              · have hCt : C = true := by cases hcv : C; exact absurd ⟨h0, hcv⟩ hgo; rfl
                have h4 := (HHT.out.2 h0).1 (of_decide_eq_true (by rw [HC.out, hCt]))
                have h5 := HQH.out (by rw [h4]; decide)
                rw [h4] at h5
                exact ⟨4, by decide, h5, by rw [if_pos hCt, h0]; rfl⟩
              · have h4 := HHT.out.1 h0
                have h5 := HQH.out (by rw [h4]; exact h0)
                rw [h4] at h5
                refine ⟨E2, h0, h5, ?_⟩
                split
                · unfold failE; rw [if_neg h0]
                · rfl
            obtain ⟨E3, hE3, hQE, hEq⟩ := hERR
            have HQE := Lib.hid hQE
            have HE3 := Lib.hid hE3
            have hne : (E3 == 0) = false := by simp [hE3]
            have HFL := Lib.hid (tfail_any o g j2 l E2 4 wc HR6.out)
            cases hcv : C
            · rw [hcv, if_neg (by decide)] at hEq
              subst hEq
              have HK2 := Lib.hid (tok_any o g j2 l E2 wc HR6.out)
              rw [hne] at HK2
              clear hgo hE3 hQE hcv
              go_wp2_with (go_at_call 38; refine HK2.out.mono ?_; rintro e w7 ⟨rfl, rfl⟩)
              go_ret2
              exact ⟨_, _, vs, ss, j2, rfl, HV6.out.mono HSZ1.out, HS6.out.mono HSZ1.out, by rw [HQE.out]; exact HR6.out, fun h => absurd (by rw [HQE.out] at h; exact h) HE3.out, HU6.out⟩
            · rw [hcv, if_pos rfl] at hEq
              rw [hEq] at HFL
              have HK2 := Lib.hid (fun W (h : Tr o W g l j2 E3) => tok_any o g j2 l E3 W h)
              rw [hne] at HK2
              clear hgo hE3 hQE hcv
              go_wp2_with (first
                | (go_at_call 65; refine HFL.out.mono ?_; rintro e w7 ⟨rfl, hr7, hu7⟩; have HR7 := Lib.hid hr7; have HU7 := Lib.hid hu7; have HK3 := Lib.hid (HK2.out _ hr7); clear hr7 hu7)
                | (go_at_call 38; refine HK3.out.mono ?_; rintro e w8 ⟨rfl, rfl⟩))
              go_ret2
              exact ⟨_, _, vs, ss, j2, rfl, (ownI_keepU HV6.out HU7.out HLT1.out).mono HSZ1.out, (OwnS.keepU HS6.out HU7.out HLT1.out).mono HSZ1.out, by rw [HQE.out]; exact HR7.out, fun h => absurd (by rw [HQE.out] at h; exact h) HE3.out, HU6.out.trans HU7.out fun _ _ h => h⟩
      · obtain rfl : a = ws.length := by omega
        have HQD := Lib.hid (rdQ_done ws (l.drop i) f ws.length last vs ss m (Nat.le_refl _))
        rw [hq] at HQD
        have HJ := Lib.hid hj
        clear hq hX hj hfa
        have hnl : ¬ (ws.length : Int) < (ws.length : Int) := by omega
        go_wp2_with (go_at_call 38; refine HK.out.mono ?_; rintro e w2 ⟨rfl, rfl⟩)
        go_ret2
        rw [HQD.out]
        exact ⟨_, _, vs, ss, j, rfl, hV.out.mono HSZ1.out, hB.out.mono HSZ1.out, hR.out, fun _ => ⟨rfl, rfl, HJ.out⟩, hU.out⟩
    · have hQE : Q.2.2.1 = E := by
        rcases hX.out with ⟨h1, _⟩ | ⟨_, h1⟩
        · exact absurd h1 hE
        · exact h1
      have HQE := Lib.hid hQE
      have HE := Lib.hid hE
      rw [show (E == 0) = false by simp [hE]] at HK
      clear hX hQE hE
      go_wp2_with (go_at_call 38; refine HK.out.mono ?_; rintro e w2 ⟨rfl, rfl⟩)
      go_ret2
      exact ⟨_, _, vs, ss, j, rfl, hV.out.mono HSZ1.out, hB.out.mono HSZ1.out, by rw [HQE.out]; exact hR.out, fun h => absurd (by rw [HQE.out] at h; exact h) HE.out, hU.out⟩
end Go.Proofs.YtmcdgmiheklbeaaDoor

namespace Go.Proofs.YtmcdgmiheklbeaaDoor
open Go.RowKit

set_option maxHeartbeats 4000000 in
set_option maxRecDepth 100000 in
theorem rRead18_any (o : Nat → Prop) (g i : Nat) (A : Option Addr) (c : Nat) (ws : List Int) (l : List Bool) (w : World) (h : Tr o w g l i 0) (ho : ∀ x, o x → x < w.heap.size) (hS : Sl (kInt .i64) (fun x => x ≠ g) w A c ws) (hw : ws.length ≤ 100000) :
    Calls Tryd.prog 12 #[.pointer (some ⟨g, 0, none⟩), .slice A ws.length c] w
      fun e w' => ∃ va vb, e = .returned (.tuple #[va, vb, .int .i64 (readS ws (l.drop i)).2.2.1]) ∧ OwnI 3 .i64 w.heap.size w' va (readS ws (l.drop i)).1 ∧ OwnS w.heap.size w' vb (readS ws (l.drop i)).2.1
        ∧ (∃ E, Tr o w' g l (i + (readS ws (l.drop i)).2.2.2) E) ∧ Upd (fun x => x = g) w w' := by
  have HR := Lib.hid (widths18_any A c ws w hS.any hw)
  by_cases hr : ws.all okV = true ∧ ws.length ≤ 128
  · rw [if_pos hr.1, hr.1, decide_eq_true hr.2] at HR
    have HC := Lib.hid (rtake18_any o g i A c ws l w h ho hS hr.1 hr.2)
    have HV := Lib.hid (show readS ws (l.drop i) = rdQ ws (l.drop i) ws.length 0 (-1) [] [] 0 by unfold readS; rw [if_pos hr])
    have HB := Lib.hid (readS_bits ws (l.drop i))
    rw [← HV.out] at HC
    generalize readS ws (l.drop i) = Q at *
    obtain ⟨qv, qs, E, qm⟩ := Q
    simp only at HC HB
    have HILE := Lib.hid h.le
    have HLT := Lib.hid h.lt
    obtain ⟨_, _, a0, a1, a2, a3, a4, _⟩ := h.cells
    have HK := Lib.hid (fun j W (h : Tr o W g l j E) => tok_any o g j l E W h)
    generalize (sumV ws ws.length : Int) = X at HR
    clear HV h ho hS hr
    by_cases hE : E = 0
    · subst hE
      go_enter Tryd.func12, Tryd.ntmps12
      go_wp2_with (first
        | (go_at_call 36; refine HR.out.mono ?_; rintro e w2 ⟨rfl, rfl⟩)
        | (go_at_call 37; refine HC.out.mono ?_; rintro e w3 ⟨va, vb, L, S, j, rfl, hOa, hOb, hj, hj0, hu3⟩; have HK3 := Lib.hid (HK.out _ _ hj))
        | (go_at_call 38; refine HK3.out.mono ?_; rintro e w5 ⟨rfl, rfl⟩))
      go_ret3
      obtain ⟨q1, q2, q3⟩ := hj0 trivial
      subst q1 q2 q3
      exact ⟨va, vb, rfl, hOa, hOb, ⟨_, hj⟩, hu3⟩
    · have hne : (E == 0) = false := by simp [hE]
      have hBX := HB.out hE
      cases hBX
      have HE := Lib.hid hE
      rw [hne] at HK
      clear hE
      go_enter Tryd.func12, Tryd.ntmps12
      go_wp2_with (first
        | (go_at_call 36; refine HR.out.mono ?_; rintro e w2 ⟨rfl, rfl⟩)
        | (go_at_call 37; refine HC.out.mono ?_; rintro e w3 ⟨va, vb, L, S, j, rfl, hOa, hOb, hj, hj0, hu3⟩; have HK3 := Lib.hid (HK.out _ _ hj); obtain ⟨_, _, y0, y1, y2, p1, p2, _⟩ := hj.cells; have HM := Lib.hid (hj.moved i HILE.out); have HU3 := Lib.hid hu3; clear hj hj0 hOa hOb hu3)
        | (go_at_call 38; refine HK3.out.mono ?_; rintro e w5 ⟨rfl, rfl⟩))
      obtain ⟨_, _, r0, r1, r2, _⟩ := HM.out.1.cells
      go_quiet (fail)
      go_wp2
      go_ret3
      exact ⟨_, _, rfl, OwnI.nil _ _ _ _, OwnK.nil _ _ _ _ _, ⟨_, HM.out.1.below (below_drewN (Below.refl _ _) _)⟩, (HU3.out.trans HM.out.2 fun _ _ h => h).trans (Upd.drewN (fun x => x = g) _ _) fun _ _ h => h⟩
  · have hb : (ws.all okV && decide (ws.length ≤ 128)) = false := by
      rw [Bool.and_eq_false_iff]
      by_cases h1 : ws.all okV = true
      · exact .inr (decide_eq_false fun h2 => hr ⟨h1, h2⟩)
      · exact .inl (by simpa using h1)
    rw [hb] at HR
    have HV := Lib.hid (show readS ws (l.drop i) = ([], [], 1, 0) by unfold readS; rw [if_neg hr])
    generalize (if ws.all okV = true then (sumV ws ws.length : Int) else 0) = X at HR
    have HH := Lib.hid h
    clear h ho hS hr hb
    go_enter Tryd.func12, Tryd.ntmps12
    go_wp2_with (go_at_call 36; refine HR.out.mono ?_; rintro e w2 ⟨rfl, rfl⟩)
    go_ret3
    rw [HV.out]
    exact ⟨_, _, rfl, OwnI.nil _ _ _ _, OwnK.nil _ _ _ _ _, ⟨0, HH.out⟩, Upd.refl _ _⟩
end Go.Proofs.YtmcdgmiheklbeaaDoor

namespace Go.Proofs.YtmcdgmiheklbeaaDoor
open Go.RowKit

theorem wordF_code {ls : List Int} (hr : Right ls) {s : Nat} (hs : s < ls.length) (h0 : 0 < lenOf ls s) (rest : List Bool) : ∀ (fuel n : Nat), n < lenOf ls s → lenOf ls s ≤ n + fuel →
    wordF ls (numB (codeN ls s) (lenOf ls s) ++ rest) fuel n = (s, 0, lenOf ls s)
  | 0, n, h1, h2 => by omega
  | fuel + 1, n, h1, h2 => by
    have h16 := hr.ok.len16
    have hC := code_lt h16 hr.full hs
    have hl : (numB (codeN ls s) (lenOf ls s)).length = lenOf ls s := numB_length _ _
    have hv : valB ((numB (codeN ls s) (lenOf ls s) ++ rest).take (n + 1)) = codeN ls s / 2 ^ (lenOf ls s - (n + 1)) := by
      rw [List.take_append_of_le_length (by omega), numB_take _ _ _ (by omega), valB_numB]
      refine Nat.mod_eq_of_lt ?_
      rw [Nat.div_lt_iff_lt_mul (Nat.two_pow_pos _), ← Nat.pow_add]
      rw [show n + 1 + (lenOf ls s - (n + 1)) = lenOf ls s by omega]
      exact hC
    unfold wordF
    rw [if_neg (by rw [List.length_append]; omega), hv]
    rcases Nat.lt_or_ge (n + 1) (lenOf ls s) with h3 | h3
    · have e1 : symF ls ls.length (n + 1, codeN ls s / 2 ^ (lenOf ls s - (n + 1))) = none := symF_none fun j hj ⟨hj0, e⟩ => by
        injection e with e1 e2
        have hne : j ≠ s := fun e => by subst e; omega
        exact code_free h16 hj hs hne hj0 (by omega) (by rw [← e1]; exact e2)
      rw [e1]
      exact wordF_code hr hs h0 rest fuel (n + 1) h3 (by omega)
    · have e : n + 1 = lenOf ls s := by omega
      rw [e, Nat.sub_self, Nat.pow_zero, Nat.div_one, symF_some hr h0 hs (Nat.le_refl _)]
theorem numB_cons (v k : Nat) (h1 : 2 ^ k ≤ v) (h2 : v < 2 ^ (k + 1)) : numB v (k + 1) = true :: numB v k := by
  have hd : v / 2 ^ k = 1 := by
    have := Nat.two_pow_pos k
    rw [Nat.pow_succ] at h2
    exact Nat.div_eq_of_lt_le (by omega) (by omega)
  apply List.ext_getElem
  · simp [numB]
  · intro i h3 h4
    cases i with
    | zero => simp [numB, hd]
    | succ i =>
      simp only [numB, List.getElem_map, List.getElem_range, List.getElem_cons_succ]
      rw [show k + 1 - 1 - (i + 1) = k - 1 - i by omega]
theorem gamF_gam (v : Nat) (h1 : 1 ≤ v) (h2 : v < 2 ^ 20) (rest : List Bool) : gamF (gamB v ++ rest) = (v, 0, (gamB v).length) := by
  obtain ⟨k, hk⟩ : ∃ k, Nat.log2 v = k := ⟨_, rfl⟩
  have hk0 : 2 ^ k ≤ v ∧ v < 2 ^ (k + 1) := (Nat.log2_eq_iff (by omega)).1 hk
  have hk20 : k ≤ 20 := by rw [← hk]; exact log2_le (by rw [Nat.pow_succ]; omega)
  have hg : gamB v = List.replicate k false ++ true :: numB v k := by unfold gamB; rw [hk, numB_cons v k hk0.1 hk0.2]
  have hz : zerF (gamB v ++ rest) 0 = (k, 0) := by
    rw [hg, List.append_assoc]
    have := zerF_rep (numB v k ++ rest) k 0 (by omega)
    rw [Nat.zero_add] at this
    exact this
  have hl : (gamB v).length = 2 * k + 1 := by rw [gamB_length, hk]
  unfold gamF
  rw [hz, if_neg (by simp), if_neg (by rw [List.length_append]; show ¬ _ < 2 * k + 1; omega), hl]
  show (2 ^ k + valB (((gamB v ++ rest).drop (k + 1)).take k), (0 : Int), 2 * k + 1) = _
  have hd : ((gamB v ++ rest).drop (k + 1)).take k = numB v k := by
    rw [hg, List.append_assoc, List.cons_append]
    have e1 : (List.replicate k false ++ true :: (numB v k ++ rest)).drop (k + 1) = numB v k ++ rest := by
      rw [List.drop_append, List.drop_of_length_le (by simp)]; simp
    rw [e1, List.take_append_of_le_length (by rw [numB_length]; exact Nat.le_refl _), List.take_of_length_le (by rw [numB_length]; exact Nat.le_refl _)]
  rw [hd, valB_numB]
  have hm : v % 2 ^ k = v - 2 ^ k := by
    rw [Nat.mod_eq_sub_mod hk0.1]; exact Nat.mod_eq_of_lt (by rw [Nat.pow_succ] at hk0; omega)
  rw [hm, show 2 ^ k + (v - 2 ^ k) = v by omega]
theorem esc_most (b : Nat) (h : escB b = true) : 1 ≤ mostB b := by
  unfold escB at h; unfold mostB
  split at h <;> first | decide | cases h
theorem sign_abs (v : Int) (h : v ≠ 0) : (if decide (v < 0) = true then (-1 : Int) else 1) * (v.natAbs : Int) = v := by
  by_cases h1 : v < 0
  · rw [if_pos (decide_eq_true h1)]; omega
  · rw [if_neg (by simp [h1])]; omega
theorem valF_bes (b : Nat) (v : Int) (hq : v.natAbs ≤ 1023) (hi : inB b v = true) (rest : List Bool) : valF b (digB b v) (besB b v ++ rest) = (v, 0, (besB b v).length) := by
  by_cases h0 : v = 0
  · subst h0; unfold digB besB valF; simp
  · have hm : 1 ≤ mostB b := by
      unfold inB at hi
      rw [Bool.or_eq_true, decide_eq_true_eq] at hi
      rcases hi with h | h
      · omega
      · exact esc_most b h
    have hd : digB b v ≠ 0 := by unfold digB; omega
    have he : (escB b && decide (digB b v = mostB b)) = escpB b v := by
      unfold escpB digB
      congr 1
      by_cases h : mostB b ≤ v.natAbs
      · rw [decide_eq_true h, decide_eq_true (by omega)]
      · rw [decide_eq_false h, decide_eq_false (by omega)]
    unfold valF besB
    rw [if_neg hd, if_neg (by rw [if_neg h0]; simp), if_neg h0, he]
    cases hx : escpB b v with
    | true =>
      have hx2 : mostB b ≤ v.natAbs := by unfold escpB at hx; rw [Bool.and_eq_true, decide_eq_true_eq] at hx; exact hx.2
      have hg := gamF_gam (v.natAbs - mostB b + 1) (by omega) (by omega) rest
      rw [if_pos rfl, if_pos rfl, show ((decide (v < 0) :: gamB (v.natAbs - mostB b + 1)) ++ rest).drop 1 = gamB (v.natAbs - mostB b + 1) ++ rest from rfl, hg]
      rw [if_neg (by simp), if_neg (by show ¬ 1023 < mostB b + (v.natAbs - mostB b + 1) - 1; omega)]
      show ((if decide (v < 0) = true then (-1 : Int) else 1) * ((mostB b + (v.natAbs - mostB b + 1) - 1 : Nat) : Int), (0 : Int), 1 + (gamB (v.natAbs - mostB b + 1)).length) = _
      rw [show mostB b + (v.natAbs - mostB b + 1) - 1 = v.natAbs by omega, sign_abs v h0, List.length_cons, Nat.add_comm]
    | false =>
      have hx2 : digB b v = v.natAbs := by
        unfold escpB at hx; unfold inB at hi; unfold digB
        rw [Bool.or_eq_true, decide_eq_true_eq] at hi
        rcases hi with h | h
        · omega
        · rw [h, Bool.true_and, decide_eq_false_iff_not] at hx; omega
      simp only [Bool.false_eq_true, if_false]
      rw [hx2]
      show ((if decide (v < 0) = true then (-1 : Int) else 1) * (v.natAbs : Int), (0 : Int), 1) = _
      rw [sign_abs v h0]; rfl
theorem digN_symG (b : Nat) : ∀ (k : Nat) (g : List Int), g.length = k → digN (mostB b) k (symG b g) = g.map (digB b)
  | 0, g, h => by rw [List.eq_nil_of_length_eq_zero h]; rfl
  | k + 1, g, h => by
    obtain ⟨g', v, rfl⟩ : ∃ g' v, g = g' ++ [v] := ⟨g.dropLast, g.getLast (by intro e; rw [e] at h; cases h), (List.dropLast_concat_getLast _).symm⟩
    have hl : g'.length = k := by rw [List.length_append] at h; simpa using h
    have hd : digB b v < mostB b + 1 := by unfold digB; omega
    show digN (mostB b) k (symG b (g' ++ [v]) / (mostB b + 1)) ++ [symG b (g' ++ [v]) % (mostB b + 1)] = _
    rw [symG_snoc, Nat.add_comm, Nat.add_mul_div_right _ _ (Nat.succ_pos _), Nat.div_eq_of_lt hd, Nat.zero_add, Nat.add_mul_mod_self_right, Nat.mod_eq_of_lt hd, digN_symG b k g' hl, List.map_append]; rfl
theorem valP_bes (b : Nat) (D : List Bool) : ∀ (g : List Int), (∀ v ∈ g, v.natAbs ≤ 1023 ∧ inB b v = true) → ∀ (st : List Int) (n : Nat) (rest : List Bool), D.drop n = g.flatMap (besB b) ++ rest → (g.map (digB b)).foldl (valS b D) (st, 0, n) = (st ++ g, 0, n + (g.flatMap (besB b)).length)
  | [], _, st, n, rest, _ => by simp
  | v :: g, hg, st, n, rest, hD => by
    have h1 := hg v (by simp)
    rw [List.flatMap_cons, List.append_assoc] at hD
    have h2 : valS b D (st, 0, n) (digB b v) = (st ++ [v], 0, n + (besB b v).length) := by
      unfold valS
      rw [if_neg (by simp)]
      show (if (valF b (digB b v) (D.drop n)).2.1 ≠ 0 then _ else (st ++ [(valF b (digB b v) (D.drop n)).1], (0 : Int), n + (valF b (digB b v) (D.drop n)).2.2)) = _
      rw [hD, valF_bes b v h1.1 h1.2, if_neg (by simp)]
    rw [List.map_cons, List.foldl_cons, h2, valP_bes b D g (fun x hx => hg x (by simp [hx])) (st ++ [v]) _ rest (by rw [← List.drop_drop, hD, List.drop_left])]
    rw [List.append_assoc, List.flatMap_cons, List.length_append, Nat.add_assoc]; rfl
theorem symR_wrd (b : Nat) (g : List Int) (h8 : b < 8) (hl : g.length = dimB b) (rest : List Bool) : symR b (wrdB b g ++ rest) = (symG b g, 0, (wrdB b g).length) := by
  unfold symR wrdB
  by_cases h0 : b = 0
  · subst h0
    have h1 := symG_lt 0 g
    rw [show mostB 0 + 1 = 1 from rfl, Nat.one_pow] at h1
    rw [if_pos rfl, if_pos rfl, show symG 0 g = 0 by omega]; rfl
  · have h1 : 1 ≤ b := by omega
    have hs := sym_in b g hl
    have ht : symG b g < (tabKI b).length := by rw [tabKI_length b h1 h8]; exact hs
    have hlen := tabK_lenOf b h1 h8 hs
    have hb := tab_bound b h1 h8 hs
    have h16 := tabK_len16 b h1 h8 (symG b g)
    have hp : 0 < lenOf (tabKI b) (symG b g) := by rw [hlen]; omega
    have hw : wordR (tabKI b) (numB (codeN (tabKI b) (symG b g)) (lenOf (tabKI b) (symG b g)) ++ rest) = (symG b g, 0, lenOf (tabKI b) (symG b g)) :=
      wordF_code (tabK_right b h1 h8) ht hp rest 16 0 hp (by omega)
    rw [if_neg h0, if_neg h0]
    unfold symV symE symN
    rw [hw, if_pos rfl, numB_length]
theorem grpR_grp (b : Nat) (g : List Int) (h8 : b < 8) (hl : g.length = dimB b) (hg : ∀ v ∈ g, v.natAbs ≤ 1023 ∧ inB b v = true) (rest : List Bool) : grpR b (grpB b g ++ rest) = (g, 0, (grpB b g).length) := by
  unfold grpR grpB
  rw [List.append_assoc, symR_wrd b g h8 hl, if_neg (by simp)]
  show ((valP b ((wrdB b g ++ (g.flatMap (besB b) ++ rest)).drop (wrdB b g).length) (digN (mostB b) (dimB b) (symG b g))).1, (valP b ((wrdB b g ++ (g.flatMap (besB b) ++ rest)).drop (wrdB b g).length) (digN (mostB b) (dimB b) (symG b g))).2.1, (wrdB b g).length + (valP b ((wrdB b g ++ (g.flatMap (besB b) ++ rest)).drop (wrdB b g).length) (digN (mostB b) (dimB b) (symG b g))).2.2) = _
  rw [List.drop_left, digN_symG b (dimB b) g hl]
  have hv : valP b (g.flatMap (besB b) ++ rest) (g.map (digB b)) = (g, 0, (g.flatMap (besB b)).length) := by
    have := valP_bes b (g.flatMap (besB b) ++ rest) g hg [] 0 rest rfl
    rw [List.nil_append, Nat.zero_add] at this
    exact this
  rw [hv, List.length_append]
theorem lstB_part (b : Nat) (l : List Int) : ∀ (K k : Nat), k ≤ K → ∃ T, lstB b l K = lstB b l k ++ T
  | 0, k, h => ⟨[], by obtain rfl : k = 0 := by omega
                       simp⟩
  | K + 1, k, h => by
    rcases Nat.eq_or_lt_of_le h with rfl | h1
    · exact ⟨[], by simp⟩
    · obtain ⟨T, hT⟩ := lstB_part b l K k (by omega)
      exact ⟨T ++ grpB b (grpK (dimB b) l K), by rw [lstB_succ, hT, List.append_assoc]⟩
theorem grpP_row (b : Nat) (l : List Int) (h8 : b < 8) (hg : ∀ v ∈ l, v.natAbs ≤ 1023 ∧ inB b v = true) (rest : List Bool) : ∀ k, k ≤ l.length / dimB b → grpP b (rowK b l ++ rest) k = (l.take (k * dimB b), 0, (lstB b l k).length)
  | 0, _ => by simp [grpP, lstB]
  | k + 1, hk => by
    have hin := grp_in (d := dimB b) (k := k) (n := l.length) hk
    obtain ⟨T, hT⟩ := lstB_part b l (l.length / dimB b) (k + 1) hk
    have hD : (rowK b l ++ rest).drop (lstB b l k).length = grpB b (grpK (dimB b) l k) ++ (T ++ rest) := by
      unfold rowK; rw [hT, lstB_succ, List.append_assoc, List.append_assoc, List.drop_left]
    show grpS b (rowK b l ++ rest) (grpP b (rowK b l ++ rest) k) = _
    rw [grpP_row b l h8 hg rest k (by omega)]
    unfold grpS
    rw [if_neg (by simp)]
    show (l.take (k * dimB b) ++ (grpR b ((rowK b l ++ rest).drop (lstB b l k).length)).1, (grpR b ((rowK b l ++ rest).drop (lstB b l k).length)).2.1, (lstB b l k).length + (grpR b ((rowK b l ++ rest).drop (lstB b l k).length)).2.2) = _
    rw [hD, grpR_grp b _ h8 (grpK_length _ _ _ hin) (fun v hv => hg v (List.mem_of_mem_drop (List.mem_of_mem_take hv))), lstB_succ, List.length_append]
    rw [show l.take (k * dimB b) ++ grpK (dimB b) l k = l.take ((k + 1) * dimB b) by unfold grpK; rw [Nat.add_mul, Nat.one_mul, List.take_add]]
/-- What was written with a book is read again. -/
theorem row_read (b : Nat) (l : List Int) (h8 : b < 8) (hq : quantB l = true) (hf : fitB b l = true) (rest : List Bool) :
    bkRE b l.length (rowK b l ++ rest) = 0 ∧ bkRL b l.length (rowK b l ++ rest) = l ∧ bkRN b l.length (rowK b l ++ rest) = (rowK b l).length := by
  unfold fitB at hf
  rw [Bool.and_eq_true, decide_eq_true_eq] at hf
  have hg : ∀ v ∈ l, v.natAbs ≤ 1023 ∧ inB b v = true := fun v hv => by
    have h1 := List.all_eq_true.1 hq v hv
    rw [Bool.and_eq_true, decide_eq_true_eq, decide_eq_true_eq] at h1
    exact ⟨by omega, List.all_eq_true.1 hf.1 v hv⟩
  have hp := grpP_row b l h8 hg rest _ (Nat.le_refl _)
  have ht : l.take (l.length / dimB b * dimB b) = l := List.take_of_length_le (by have := Nat.div_add_mod l.length (dimB b); rw [hf.2, Nat.mul_comm] at this; omega)
  rw [ht] at hp
  have hE : bkRE b l.length (rowK b l ++ rest) = 0 := by unfold bkRE; rw [hp]
  refine ⟨hE, ?_, ?_⟩
  · unfold bkRL; rw [hE, if_neg (by simp), hp]
  · unfold bkRN; rw [hE, if_neg (by simp), hp]; rfl
end Go.Proofs.YtmcdgmiheklbeaaDoor

namespace Go.Proofs.YtmcdgmiheklbeaaDoor
open Go.RowKit

theorem bkC_okX {b : Nat} {l : List Int} (h8 : b < 8) (h : (bkC (b : Int) l).2 = 0) : quantB l = true ∧ fitB b l = true ∧ bkW (b : Int) l = rowK b l := by
  have e : bkW (b : Int) l = rowK (b : Int).toNat l := by unfold bkW; rw [if_neg (by simp [h])]
  rw [Int.toNat_natCast] at e
  unfold bkC at h
  split at h
  · rename_i h1; exact absurd h h1
  · rename_i h1
    split at h
    · simp at h
    · rename_i h2
      rw [Int.toNat_natCast] at h2
      refine ⟨?_, by simpa using h2, e⟩
      unfold checkedK at h1
      rw [if_neg (by omega)] at h1
      cases hq : quantB l
      · rw [hq] at h1; simp at h1
      · rfl
/-- A band's bits are read as the band. -/
theorem brd_back {b : Nat} {l : List Int} (h8 : b < 8) (hl : l.length ≤ 4096) (h : (bkC (b : Int) l).2 = 0) (rest : List Bool) :
    brdE (b : Int) (l.length : Int) (bkW (b : Int) l ++ rest) = 0 ∧ brdL (b : Int) (l.length : Int) (bkW (b : Int) l ++ rest) = l ∧ brdN (b : Int) (l.length : Int) (bkW (b : Int) l ++ rest) = (bkW (b : Int) l).length := by
  obtain ⟨hq, hf, e⟩ := bkC_okX h8 h
  rw [e]
  obtain ⟨r1, r2, r3⟩ := row_read b l h8 hq hf rest
  have hm := hf
  unfold fitB at hm
  rw [Bool.and_eq_true, decide_eq_true_eq] at hm
  have hE : brdE (b : Int) (l.length : Int) (rowK b l ++ rest) = 0 := by
    unfold brdE
    rw [if_neg (by omega), if_neg (by rw [Int.toNat_natCast, Int.toNat_natCast]; omega), Int.toNat_natCast, Int.toNat_natCast]; exact r1
  refine ⟨hE, ?_, ?_⟩
  · unfold brdL; rw [hE, if_neg (by simp), Int.toNat_natCast, Int.toNat_natCast]; exact r2
  · unfold brdN; rw [hE, if_neg (by simp), Int.toNat_natCast, Int.toNat_natCast]; exact r3
/-- The values of a section's first bands. -/
theorem bnd_next (ws l : List Int) (a q : Nat) : l.take (sumV ws (a + (q + 1))) = l.take (sumV ws (a + q)) ++ bndL ws l (a + q) := by
  rw [← Nat.add_assoc, sumV_succ]
  unfold bndL
  rw [List.take_add]
theorem secB_part (ws l : List Int) (b : Int) (a : Nat) : ∀ q n, ∃ T, secB ws l b a (q + n) = secB ws l b a q ++ T ∧ (0 < n → ∃ T', T = bkW b (bndL ws l (a + q)) ++ T')
  | q, 0 => ⟨[], by simp, fun h => by omega⟩
  | q, n + 1 => by
    obtain ⟨T, h1, h2⟩ := secB_part ws l b a q n
    refine ⟨T ++ bkW b (bndL ws l (a + (q + n))), by rw [← Nat.add_assoc, secB_succ, h1, List.append_assoc], fun _ => ?_⟩
    rcases Nat.eq_zero_or_pos n with h0 | h0
    · subst h0
      have hT : T = [] := by
        have := congrArg List.length h1
        simp at this
        exact this
      exact ⟨[], by rw [hT, List.append_nil]; rfl⟩
    · obtain ⟨T', h3⟩ := h2 h0
      exact ⟨T' ++ bkW b (bndL ws l (a + (q + n))), by rw [h3, List.append_assoc]⟩
/-- A section's bits are read as its bands. -/
theorem rbP_back {ws l : List Int} {b : Nat} {a m : Nat} (h8 : b < 8) (hok : ws.all okV = true) (hsum : sumV ws ws.length = l.length) (ham : a + m ≤ ws.length) (hf : ∀ t, t < m → (bkC (b : Int) (bndL ws l (a + t))).2 = 0) (rest : List Bool) :
    ∀ q, q ≤ m → ∃ L, rbP (b : Int) ws a (secB ws l (b : Int) a m ++ rest) q = (L, 0, (secB ws l (b : Int) a q).length) ∧ l.take (sumV ws a) ++ L = l.take (sumV ws (a + q))
  | 0, _ => ⟨[], rfl, by simp⟩
  | q + 1, hq => by
    obtain ⟨L, h1, h2⟩ := rbP_back h8 hok hsum ham hf rest q (by omega)
    obtain ⟨T, h3, h4⟩ := secB_part ws l (b : Int) a q (m - q)
    rw [show q + (m - q) = m by omega] at h3
    obtain ⟨T', h5⟩ := h4 (by omega)
    obtain ⟨hwn, hw1, hw128⟩ := okV_at hok (a + q) (by omega)
    have hle := sumV_all hsum (a + q) (by omega)
    have hbl : (bndL ws l (a + q)).length = widV ws (a + q) := by unfold bndL; rw [List.length_take, List.length_drop]; omega
    have hD : (secB ws l (b : Int) a m ++ rest).drop (secB ws l (b : Int) a q).length = bkW (b : Int) (bndL ws l (a + q)) ++ (T' ++ rest) := by
      rw [h3, h5, List.append_assoc, List.drop_left, List.append_assoc]
    obtain ⟨r1, r2, r3⟩ := brd_back h8 (by rw [hbl]; omega) (hf q (by omega)) (T' ++ rest)
    rw [hbl, ← hwn] at r1 r2 r3
    refine ⟨L ++ bndL ws l (a + q), ?_, ?_⟩
    · rw [rbP_next _ _ _ _ _ h1, hD, r1, r2, r3, secB_succ, List.length_append]
    · rw [← List.append_assoc, h2, ← bnd_next]
theorem secP_part (ws l : List Int) (s : List (Int × Int)) (k : Nat) : ∀ n, ∃ T, secP ws l s (k + n) = secP ws l s k ++ T ∧ (0 < n → ∃ T', T = numB (nth (0, 0) s k).1.toNat 3 ++ gamB (nth (0, 0) s k).2.toNat ++ secB ws l (nth (0, 0) s k).1 (secA s k) (nth (0, 0) s k).2.toNat ++ T')
  | 0 => ⟨[], by simp, fun h => by omega⟩
  | n + 1 => by
    obtain ⟨T, h1, h2⟩ := secP_part ws l s k n
    refine ⟨T ++ (numB (nth (0, 0) s (k + n)).1.toNat 3 ++ gamB (nth (0, 0) s (k + n)).2.toNat ++ secB ws l (nth (0, 0) s (k + n)).1 (secA s (k + n)) (nth (0, 0) s (k + n)).2.toNat), ?_, fun _ => ?_⟩
    · show secP ws l s (k + n) ++ _ = _
      rw [h1, List.append_assoc]; rfl
    · rcases Nat.eq_zero_or_pos n with h0 | h0
      · subst h0
        have hT : T = [] := by
          have := congrArg List.length h1
          simp at this
          exact this
        exact ⟨[], by rw [hT, List.append_nil]; rfl⟩
      · obtain ⟨T', h3⟩ := h2 h0
        exact ⟨_, by rw [h3, List.append_assoc]⟩
theorem lastT (s : List (Int × Int)) (k : Nat) : (if k = 0 then (-1 : Int) else (nth (0, 0) s (k - 1)).1) = -1 ∨ ∃ q, k = q + 1 ∧ (if k = 0 then (-1 : Int) else (nth (0, 0) s (k - 1)).1) = (nth (0, 0) s q).1 := by
  cases k with
  | zero => exact .inl rfl
  | succ q => exact .inr ⟨q, rfl, by rw [if_neg (by omega), Nat.add_sub_cancel]⟩
theorem rdQ_back {ws l : List Int} {s : List (Int × Int)} (hs : sureE ws l = 0) (hc : (costV ws l s).2 = true) (T : List Bool) : ∀ q k f, k + q = s.length → q ≤ f →
    rdQ ws (secP ws l s s.length ++ T) f (secA s k) (if k = 0 then -1 else (nth (0, 0) s (k - 1)).1) (l.take (sumV ws (secA s k))) (s.take k) (secP ws l s k).length = (l, s, 0, (secP ws l s s.length).length)
  | 0, k, f, hk, _ => by
    obtain ⟨h1, h2, h3, h4, h5, h6⟩ := costV_ok hc
    obtain ⟨hok, h128, hsum, hq⟩ := sureE_facts hs
    obtain rfl : k = s.length := by omega
    rw [h5, rdQ_done _ _ _ _ _ _ _ _ (Nat.le_refl _), hsum, List.take_length, List.take_length]
  | q + 1, k, f, hk, hf => by
    obtain ⟨h1, h2, h3, h4, h5, h6⟩ := costV_ok hc
    obtain ⟨hok, h128, hsum, hq⟩ := sureE_facts hs
    obtain ⟨f', rfl⟩ : ∃ f', f = f' + 1 := ⟨f - 1, by omega⟩
    have hkl : k < s.length := by omega
    obtain ⟨sh1, sh2⟩ := bks_shape h1
    obtain ⟨b0, b8, b1, b128⟩ := sh2 k hkl
    obtain ⟨o, ho, hol, hon⟩ := bks_at h1 s.length (Nat.le_refl _)
    rw [List.take_length] at ho
    have hbo : booksL s = o := by unfold booksL; rw [ho]; rfl
    obtain ⟨b, hb⟩ : ∃ b : Nat, (nth (0, 0) s k).1 = (b : Int) := ⟨(nth (0, 0) s k).1.toNat, by omega⟩
    obtain ⟨m, hm⟩ : ∃ m : Nat, (nth (0, 0) s k).2 = (m : Int) := ⟨(nth (0, 0) s k).2.toNat, by omega⟩
    have hA : secA s (k + 1) = secA s k + m := by rw [secA_succ, hm, Int.toNat_natCast]
    have hle : secA s k + m ≤ ws.length := by
      have := secA_mono s (k + 1) (s.length - (k + 1))
      rw [show k + 1 + (s.length - (k + 1)) = s.length by omega, h5] at this
      omega
    have hfit : ∀ t, t < m → (bkC (b : Int) (bndL ws l (secA s k + t))).2 = 0 := fun t ht => by
      have h7 := List.all_eq_true.1 h4 (secA s k + t) (List.mem_range.2 (by omega))
      have h8 : (bdC ws l (booksL s) (secA s k + t)).2 = 0 := of_decide_eq_true h7
      unfold bdC at h8
      rwa [hbo, hon k hkl t (by rw [hm, Int.toNat_natCast]; exact ht), hb] at h8
    obtain ⟨X, hX, hX2⟩ := secP_part ws l s k (q + 1)
    rw [hk] at hX
    obtain ⟨X', hX'⟩ := hX2 (by omega)
    rw [hb, hm, Int.toNat_natCast, Int.toNat_natCast] at hX'
    have hD : (secP ws l s s.length ++ T).drop (secP ws l s k).length = numB b 3 ++ (gamB m ++ (secB ws l (b : Int) (secA s k) m ++ (X' ++ T))) := by
      rw [hX, hX', List.append_assoc, List.drop_left]; simp
    have hgam := gamF_gam m (by omega) (by omega) (secB ws l (b : Int) (secA s k) m ++ (X' ++ T))
    have hlast : (b : Int) ≠ (if k = 0 then (-1 : Int) else (nth (0, 0) s (k - 1)).1) := by
      rcases lastT s k with h9 | ⟨p, hp, h9⟩
      · rw [h9]; omega
      · rw [h9]
        have h10 := List.all_eq_true.1 h3 k (List.mem_range.2 hkl)
        simp at h10
        rcases h10 with h10 | h10
        · omega
        · rw [hp, Nat.add_sub_cancel, ← hp, hb] at h10; exact h10
    have hH : headV ((ws.length - secA s k : Nat) : Int) (if k = 0 then (-1 : Int) else (nth (0, 0) s (k - 1)).1) ((secP ws l s s.length ++ T).drop (secP ws l s k).length) = (((b : Int), (m : Int)), 0, 3 + (gamB m).length) := by
      rw [hD]
      unfold headV
      have hn3 : (numB b 3).length = 3 := numB_length b 3
      have ht3 : (numB b 3 ++ (gamB m ++ (secB ws l (b : Int) (secA s k) m ++ (X' ++ T)))).take 3 = numB b 3 := by rw [← hn3]; exact List.take_left
      have hd3 : (numB b 3 ++ (gamB m ++ (secB ws l (b : Int) (secA s k) m ++ (X' ++ T)))).drop 3 = gamB m ++ (secB ws l (b : Int) (secA s k) m ++ (X' ++ T)) := by
        have := List.drop_left (l₁ := numB b 3) (l₂ := gamB m ++ (secB ws l (b : Int) (secA s k) m ++ (X' ++ T)))
        rwa [hn3] at this
      rw [if_neg (by rw [List.length_append, hn3]; omega), hd3, ht3, hgam, if_neg (by simp), valB_numB, show b % 2 ^ 3 = b from Nat.mod_eq_of_lt (by omega), if_neg (by
        intro h9
        rcases h9 with h9 | h9
        · exact hlast h9
        · omega)]
    have hD2 : (secP ws l s s.length ++ T).drop ((secP ws l s k).length + (3 + (gamB m).length)) = secB ws l (b : Int) (secA s k) m ++ (X' ++ T) := by
      rw [← List.drop_drop, hD, ← List.drop_drop]
      have hn3 : (numB b 3).length = 3 := numB_length b 3
      have hd3 : (numB b 3 ++ (gamB m ++ (secB ws l (b : Int) (secA s k) m ++ (X' ++ T)))).drop 3 = gamB m ++ (secB ws l (b : Int) (secA s k) m ++ (X' ++ T)) := by
        have := List.drop_left (l₁ := numB b 3) (l₂ := gamB m ++ (secB ws l (b : Int) (secA s k) m ++ (X' ++ T)))
        rwa [hn3] at this
      rw [hd3]; exact List.drop_left
    obtain ⟨L, hL, hL2⟩ := rbP_back (b := b) (by omega) hok hsum hle hfit (X' ++ T) m (Nat.le_refl _)
    rw [rdQ_step _ _ _ _ _ _ _ _ (by omega) hH, hD2, Int.toNat_natCast, hL, if_neg (by simp), hL2]
    have ih := rdQ_back hs hc T q (k + 1) f' (by omega) (by omega)
    rw [if_neg (by omega), Nat.add_sub_cancel, hb, hA] at ih
    have htk : s.take k ++ [((b : Int), (m : Int))] = s.take (k + 1) := by
      rw [take_succ_nth (0, 0) s k hkl]
      congr 2
      exact (Prod.ext hb hm).symm
    have hlen : (secP ws l s k).length + (3 + (gamB m).length) + (secB ws l (b : Int) (secA s k) m).length = (secP ws l s (k + 1)).length := by
      show _ = (secP ws l s k ++ _).length
      rw [List.length_append, List.length_append, List.length_append, numB_length, hb, hm, Int.toNat_natCast]; omega
    rw [htk, hlen]
    exact ih
/-- What was written is read again. -/
theorem readS_back {ws l : List Int} {s : List (Int × Int)} (h : (costQ ws l s).2 = 0) (T : List Bool) : readS ws (secP ws l s s.length ++ T) = (l, s, 0, (secP ws l s s.length).length) := by
  obtain ⟨hs, hc, _⟩ := costQ_ok h
  obtain ⟨hok, h128, hsum, hq⟩ := sureE_facts hs
  unfold readS
  rw [if_pos ⟨hok, h128⟩]
  have h5 := (costV_ok hc).1
  have h6 := (costV_ok hc).2.2.2.2.1
  have hsl : s.length ≤ ws.length := by
    have : ∀ k, k ≤ s.length → k ≤ secA s k := by
      intro k
      induction k with
      | zero => intro _; exact Nat.zero_le _
      | succ k ih =>
        intro hk
        have h1 := ih (by omega)
        have h2 := (bks_shape h5).2 k (by omega)
        rw [secA_succ]; omega
    have := this s.length (Nat.le_refl _)
    omega
  have := rdQ_back hs hc T s.length 0 ws.length (by omega) hsl
  have h0 : sumV ws 0 = 0 := rfl
  have h1 : secA s 0 = 0 := rfl
  rw [h1, h0] at this
  simpa [secP] using this
end Go.Proofs.YtmcdgmiheklbeaaDoor
