/- section: read: what it returns, and where the reader is then. · section: Read: what it returns, and where the reader is then. · section: the law's few. · section: Write, plain: the bits that sections have. · section: a book's list written within a call that writes. · ranges over a function inside a loop: what a frame's marks ask for at the end. · section: Write where it writes nothing. · section: choosing, plain: the best list of sections, as the program finds it and as the document does. · Plain laws of layer 17 (book): the first book of the least cost; two lists, one behind the other. No program is named. · section: choosing, plain: right sections are those that cost counts; what each band costs in each book. -/
import Derived.Test.YtmcdgmiheklbeaaDoorKi
import Derived.Test.YtmcdgmiheklbeaaDoorKg
namespace Go.Proofs.YtmcdgmiheklbeaaDoor
open Go.RowKit
attribute [local go_sem] Oper.semAt_some

theorem OwnS.keepU {base g : Nat} {w w' : World} {v : Value} {xs : List (Int × Int)} (h : OwnS base w v xs) (hu : Upd (fun x => x = g) w w') (hg : g < base) : OwnS base w' v xs :=
  h.keep (hu.keep (ok := fun x => x ≠ g) fun _ h => h) (fun b e => by have := h.base_le b e; omega) (fun _ h => h.elim) ⟨hu.os, hu.tape, hu.output⟩
theorem ownI_keepU {base g : Nat} {w w' : World} {v : Value} {xs : List Int} (h : OwnI 3 .i64 base w v xs) (hu : Upd (fun x => x = g) w w') (hg : g < base) : OwnI 3 .i64 base w' v xs :=
  ownI_keep h (hu.keep (ok := fun x => x ≠ g) fun _ h => h) (fun x e => by have := h.base_le x e; omega)

theorem sumV_add (ws : List Int) (a : Nat) : ∀ k, sumV ws (a + k) = sumV ws a + sumTo k fun i => widV ws (a + i)
  | 0 => rfl
  | k + 1 => by rw [← Nat.add_assoc, sumV_succ, sumV_add ws a k, sumTo_succ]; omega
set_option maxHeartbeats 8000000 in
set_option maxRecDepth 100000 in
theorem read18_any (o : Nat → Prop) (g i : Nat) (A : Option Addr) (c : Nat) (ws : List Int) (l : List Bool) (w : World) (h : Rr o w g l i) (ho : ∀ x, o x → x < w.heap.size) (hS : Sl (kInt .i64) (fun x => x ≠ g) w A c ws) (hG : GF w) (hT : GT w) (ng : g ≠ 0) (nt : g ≠ 1) (hok : ws.all okV = true) (h128 : ws.length ≤ 128) :
    Calls Tryd.prog 35 #[.pointer (some ⟨g, 0, none⟩), .slice A ws.length c] w
      fun e w' => ∃ va vb, e = .returned (.tuple #[va, vb, .int .i64 (rdQ ws (l.drop i) ws.length 0 (-1) [] [] 0).2.2.1]) ∧ OwnI 3 .i64 w.heap.size w' va (rdQ ws (l.drop i) ws.length 0 (-1) [] [] 0).1 ∧ OwnS w.heap.size w' vb (rdQ ws (l.drop i) ws.length 0 (-1) [] [] 0).2.1
        ∧ (∃ j, Rr o w' g l j ∧ ((rdQ ws (l.drop i) ws.length 0 (-1) [] [] 0).2.2.1 = 0 → j = i + (rdQ ws (l.drop i) ws.length 0 (-1) [] [] 0).2.2.2)) ∧ Upd (fun x => x = g) w w' := by
  have hlt0 := h.lt
  have HLT := Lib.hid hlt0
  have HH := Lib.hid h
  have HO := Lib.hid ho
  have HS := Lib.hid hS
  have HGT := Lib.hid (fun W (hu : Upd (fun x => x = g) w W) => show GF W ∧ GT W from ⟨hG.keep (hu.keep (ok := fun x => x ≠ g) fun _ h => h) (Ne.symm ng), hT.keep (hu.keep (ok := fun x => x ≠ g) fun _ h => h) (Ne.symm nt)⟩)
  have HSK := Lib.hid (fun W (hu : Upd (fun x => x = g) w W) => hS.keep (hu.keep (ok := fun x => x ≠ g) fun _ h => h))
  have HOK := Lib.hid (fun j (hj : j < ws.length) => okV_at hok j hj)
  have HSV := Lib.hid (fun k (hk : k ≤ ws.length) => sumV_le (ws := ws) k hk (by
    rw [List.all_eq_true] at hok ⊢
    exact fun x hx => hok x (List.mem_of_mem_take hx)))
  have HNG := Lib.hid ng
  have H128 := Lib.hid h128
  have hlen := hS.len
  have HLC := Lib.hid (show ws.length ≤ c ∧ c ≤ 9223372036854775807 from ⟨hS.le, hS.cap⟩)
  obtain ⟨Q, hQ⟩ : ∃ Q, rdQ ws (l.drop i) ws.length 0 (-1) [] [] 0 = Q := ⟨_, rfl⟩
  have HQ0 := Lib.hid hQ
  rw [hQ]
  clear hQ h ho hS hG hT ng nt hok hlt0
  go_enter Tryd.func35, Tryd.ntmps35
  go_wp2
  go_loopw [7, 8, 9, 10] (fun va vb lv av wr => ∃ (f a m : Nat) (last : Int) (vs : List Int) (ss : List (Int × Int)), a ≤ ws.length ∧ av = .int .i64 (a : Int) ∧ lv = .int .i64 last ∧ Hid (rdQ ws (l.drop i) f a last vs ss m = Q) ∧ Hid (ws.length ≤ f + a ∧ vs.length = sumV ws a ∧ ss.length ≤ a) ∧ Hid (OwnI 3 .i64 w.heap.size wr va vs) ∧ Hid (OwnS w.heap.size wr vb ss) ∧ Hid (∀ x, va.ownBlock = some x → vb.ownBlock ≠ some x) ∧ Hid (Rr o wr g l (i + m)) ∧ Hid (Upd (fun x => x = g) w wr)) (fun _ _ _ av _ => ws.length - (intOf av).toNat)
  case atStart => exact ⟨ws.length, 0, 0, -1, [], [], Nat.zero_le _, rfl, rfl, HQ0, Lib.hid ⟨Nat.le_refl _, rfl, Nat.le_refl _⟩, Lib.hid (OwnI.nil _ _ _ _), Lib.hid (OwnK.nil _ _ _ _ _), Lib.hid (fun x e => by cases e), HH, Lib.hid (Upd.refl _ _)⟩
  case round =>
    obtain ⟨f, a, m, last, vs, ss, ha, rfl, rfl, hQ, hF, hV, hB, hAP, hR, hU⟩ := hrel
    by_cases hlt : a < ws.length
    · have hai : (a : Int) < (ws.length : Int) := by omega
      have hwl : IntKind.i64.wrap ((ws.length : Int) - (a : Int)) = ((ws.length - a : Nat) : Int) := by rw [IntWalk.i64_in _ (by omega)]; omega
      have HC := Lib.hid (head_any o g (i + m) ((ws.length - a : Nat) : Int) last l wr hR.out (fun x hx => by have := HO.out x hx; have := hU.out.size; omega))
      obtain ⟨f', rfl⟩ : ∃ f', f = f' + 1 := ⟨f - 1, by have := hF.out.1; omega⟩
      have HQH := Lib.hid (rdQ_head ws (l.drop i) f' a last vs ss m (by omega))
      have HQS := Lib.hid (fun b n cnt => rdQ_step ws (l.drop i) f' a last vs ss m (by omega) (b := b) (n := n) (c := cnt))
      rw [hQ.out, List.drop_drop] at HQH HQS
      have hho := headV_ok (left := ((ws.length - a : Nat) : Int)) (last := last) (D := l.drop (i + m))
      generalize headV ((ws.length - a : Nat) : Int) last (l.drop (i + m)) = H at *
      obtain ⟨⟨hb, hn⟩, E, cnt⟩ := H
      simp only at HC HQH HQS hho
      by_cases hE : E = 0
      · subst hE
        obtain ⟨b, n, hbn, hb8, hn1, hnl, hbne⟩ := hho rfl
        cases hbn
        have HX := Lib.hid (HQS.out _ _ _ rfl)
        rw [Int.toNat_natCast, List.drop_drop] at HX
        have hnle : a + n ≤ ws.length := by omega
        obtain ⟨ad, rfl, _⟩ := rd_int (HSK.out _ hU.out).any a hlt
        have hcap := HLC.out.1
        have hcut := fun W => cut_grp a n ws.length c ad hn1 hnle hcap W
        have hwp : IntKind.i64.wrap ((a : Int) + (n : Int)) = ((a + n : Nat) : Int) := by rw [Int.natCast_add]; exact IntWalk.i64_in _ (by omega)
        obtain ⟨q, hq⟩ : ∃ q, a + n = q := ⟨_, rfl⟩
        rw [hq] at hcut hwp hnle HX
        have HQ := Lib.hid hq
        obtain ⟨m1, hm1⟩ : ∃ m1, m + cnt = m1 := ⟨_, rfl⟩
        rw [hm1] at HX
        have HM1 := Lib.hid hm1
        have HBN := Lib.hid (And.intro hb8 hn1)
        clear HQH HQS hho hq hm1 hb8 hbne hnl
        go_wp2_with (first
          | (go_at_call 60; refine HC.out.mono ?_; rintro e W2 ⟨rfl, hr2, hu2⟩))
        have hba := below_alloc (Below.refl W2.heap.size W2) (.cells #[.int .i64 (b : Int), .int .i64 (n : Int)] 67)
        have hU3 := (hU.out.trans hu2 fun _ _ h => h).trans (Upd.of_below hba (fun x => x = g)) fun _ _ h => h
        have hU2 := hU.out.trans hu2 fun _ _ h => h
        have hu3 := hu2.trans (Upd.of_below hba (fun x => x = g)) fun _ _ h => h
        have HI := Lib.hid (ownI_keepU hV.out hu3 HLT.out)
        have HSS := Lib.hid (OwnS.keepU hB.out hu3 HLT.out)
        have HB11 : Hid (Blk (W2.alloc (.cells #[.int .i64 (b : Int), .int .i64 (n : Int)] 67)) W2.heap.size #[.int .i64 (b : Int), .int .i64 (n : Int)] 67) := Lib.hid (heap_alloc_new W2 _)
        have HAP := Lib.hid (show ∀ x, u7.ownBlock = some x → u8.ownBlock ≠ some x ∧ x ≠ W2.heap.size from fun x e => ⟨hAP.out x e, by have := (hV.out.lt x e).2; have := hu2.size; omega⟩)
        have HSZ := Lib.hid (show w.heap.size ≤ W2.heap.size from hU2.size)
        have HSB := Lib.hid (show ∀ x, u8.ownBlock = some x → x < W2.heap.size from fun x e => by have := (hB.out.lt x e).2; have := hu2.size; omega)
        have HR3 := Lib.hid (show Rr o (W2.alloc (.cells #[.int .i64 (b : Int), .int .i64 (n : Int)] 67)) g l (i + m1 + 0) from by
          have h9 := hr2.below hba
          rw [Nat.add_assoc, HM1.out] at h9
          exact h9)
        have HU3 := Lib.hid hU3
        have HFV := Lib.hid hF.out
        have HNXT := Lib.hid (fun k (L : List Int) m (h9 : rbP (b : Int) ws a (l.drop (i + m1)) k = (L, 0, m)) => rbP_next (b : Int) ws a (l.drop (i + m1)) k h9)
        have HERR := Lib.hid (rbP_err (b : Int) ws a (l.drop (i + m1)))
        have HRL := Lib.hid (rbP_len (b : Int) ws a (l.drop (i + m1)))
        have HRP := Lib.hid (show rbP (b : Int) ws a (l.drop (i + m1)) 0 = ([], 0, 0) from rfl)
        generalize (W2.alloc (.cells #[.int .i64 (b : Int), .int .i64 (n : Int)] 67)) = W3 at *
        clear hba hU3 hU2 hu3 hU hu2 hr2 hV hB hAP hR hF HC hQ
        go_loopw [7, 46] (fun vv iv wx => ∃ (k m2 : Nat) (L : List Int), k ≤ n ∧ iv = .int .i64 (k : Int) ∧ Hid (rbP (b : Int) ws a (l.drop (i + m1)) k = (L, 0, m2)) ∧ Hid (OwnI 3 .i64 w.heap.size wx vv (vs ++ L)) ∧ Hid (OwnS w.heap.size wx u8 ss) ∧ Hid (∀ x, vv.ownBlock = some x → u8.ownBlock ≠ some x ∧ x ≠ W2.heap.size) ∧ Hid (Rr o wx g l (i + m1 + m2)) ∧ Hid (Upd (fun x => x = g) w wx) ∧ Hid (Blk wx W2.heap.size #[.int .i64 (b : Int), .int .i64 (n : Int)] 67)) (fun _ iv _ => n - (intOf iv).toNat)
        case atStart => exact ⟨0, 0, [], Nat.zero_le _, rfl, HRP, by rw [List.append_nil]; exact HI, HSS, HAP, HR3, HU3, HB11⟩
        case round =>
          clear HRP HI HSS HAP HR3 HU3 HB11
          obtain ⟨k, m2, L, hk, rfl, hP, hI, hSS, hAP, hR, hU, hB11⟩ := hrel
          by_cases hkl : k < n
          · have hki : (k : Int) < (n : Int) := by omega
            have hq9 : a + n = q := HQ.out
            have hk1 : IntKind.i64.wrap ((k : Int) + 1) = ((k + 1 : Nat) : Int) := by rw [IntWalk.i64_in _ (by omega)]; omega
            obtain ⟨ad', e', k0⟩ := rd_int (HSK.out _ hU.out).any (a + k) (by omega)
            cases e'
            rw [← add_add] at k0
            have hGT := HGT.out _ hU.out
            have HC := Lib.hid (bRead_any o g (i + m1 + m2) (b : Int) (nth 0 ws (a + k)) l _ hR.out hGT.1 hGT.2 HNG.out)
            have hP2 := HNXT.out k L m2 hP.out
            rw [List.drop_drop] at hP2
            have hwk := HOK.out (a + k) (by omega)
            have hbl := fun h => brdL_len (n := (b : Int)) (m := nth 0 ws (a + k)) (D := l.drop (i + m1 + m2)) h
            have z0 := hB11.out.cell 0 rfl
            have hrl := HRL.out k (by rw [hP.out])
            rw [hP.out] at hrl
            have hsl := HSV.out (a + k) (by omega)
            have hsm := hsl
            obtain ⟨A7, c7, rfl⟩ := hI.out.slice
            obtain ⟨VL, hVL⟩ : ∃ VL, vs ++ L = VL := ⟨_, rfl⟩
            rw [hVL] at hI hAP ⊢
            have HVL := Lib.hid hVL
            have HK1 := Lib.hid hkl
            generalize nth 0 ws (a + k) = N0 at *
            generalize brdE (b : Int) N0 (l.drop (i + m1 + m2)) = E at *
            generalize brdL (b : Int) N0 (l.drop (i + m1 + m2)) = RL at *
            generalize brdN (b : Int) N0 (l.drop (i + m1 + m2)) = RN at *
            by_cases hE : E = 0
            · subst hE
              have HP2 := Lib.hid hP2
              have HLN := Lib.hid (show VL.length + RL.length ≤ 100000000 by
                rw [← hVL]
                have h1 := hbl rfl
                have h2 := HFV.out.2.1
                have h3 := HSV.out a (by omega)
                have h4 : L.length ≤ 128 * k := by
                  rw [hrl]
                  have : ∀ k', k' ≤ k → (sumTo k' fun i => widV ws (a + i)) ≤ 128 * k' := by
                    intro k' hk'
                    induction k' with
                    | zero => exact Nat.le_refl _
                    | succ k' ih =>
                      have h5 := ih (by omega)
                      have h6 := (HOK.out (a + k') (by omega)).2.2
                      rw [sumTo_succ]; omega
                  exact this k (Nat.le_refl _)
                rw [List.length_append]; omega)
              clear hrl hsl hsm hbl hwk hP2 hGT hkl hq9 hVL
              go_wp2_with (first
                | (go_at_call 61; refine HC.out.mono ?_; rintro e w4 ⟨v4, rfl, hO4, hr4, hu4⟩; obtain ⟨A4, c4, rfl, hs4⟩ := hO4.rd; have HS4 := Lib.hid hs4.any; have HI4 := Lib.hid (ownI_keepU hI.out hu4 HLT.out); have HR4 := Lib.hid hr4; have HU4 := Lib.hid hu4; have HSZ4 := Lib.hid (show w.heap.size ≤ w4.heap.size by have := hU.out.size; have := hu4.size; omega); clear hO4 hs4 hr4 hu4)
                | (at_builtin; (refine append_row (w0 := w4) w.heap.size rfl (.tmp 61) (.tmp 62) 25 3 .i64 8 rfl Tryd.underlying25 infoI (by decide) _ VL RL A4 c4 rfl rfl HI4.out HS4.out (Below.refl _ _) HSZ4.out (by have := HLN.out; omega) ?_); intro v1 w5 hO5 _ hg5 ha5; have HO5 := Lib.hid hO5; have HG5 := Lib.hid hg5; have HA5 := Lib.hid ha5; clear hO5 hg5 ha5))
              have hgu := Upd.of_grown (o := fun x => w.heap.size ≤ x) HG5.out (fun r e => HI4.out.base_le r e)
              go_roundw
              case rel =>
                refine ⟨k + 1, m2 + RN, L ++ RL, HK1.out, by first | rfl | go_num, HP2, by rw [← List.append_assoc, HVL.out]; exact HO5, ?_, ?_, ?_, ?_, ?_⟩
                · have h1 := OwnS.keepU hSS.out HU4.out HLT.out
                  exact Lib.hid (h1.keep (Keep.of_grown HG5.out) (fun x e e' => (hAP.out x e'.symm).1 e) (fun _ h => h.elim) ⟨HG5.out.1, HG5.out.2, HG5.out.3⟩)
                · refine Lib.hid fun x e => ?_
                  rcases HA5.out with h1 | ⟨y, h1, h2⟩
                  · rw [h1] at e; exact hAP.out x e
                  · rw [h1] at e; cases e
                    have h3 := hB11.out.lt
                    have h4 := HU4.out.size
                    exact ⟨fun e => by have := HSB.out _ e; omega, by omega⟩
                · rw [← Nat.add_assoc]
                  exact Lib.hid (HR4.out.upd hgu (fun x _ h9 h8 => by have := HO.out x h9; omega))
                · exact Lib.hid ((hU.out.trans HU4.out fun _ _ h => h).trans hgu fun x hx h9 => by omega)
                · have h1 := hB11.out.keep (HU4.out.keep (ok := fun x => x ≠ g) fun _ h => h) (by have := HLT.out; have := HSZ.out; omega)
                  exact Lib.hid (h1.keep (Keep.of_grown HG5.out) (fun e => (hAP.out _ e.symm).2 rfl))
              case measure => simp [intOf] <;> (have := HK1.out; omega)
            · have hne : (E == 0) = false := by simp [hE]
              have HE := Lib.hid hE
              have HXE := Lib.hid (show Q = ([], [], E, 0) by
                have h1 := HERR.out (k + 1) (by rw [hP2]; exact hE) n (by omega)
                rw [HX.out, h1, hP2, if_pos hE])
              clear hrl hsl hsm hbl hwk hP2 hGT hkl hq9 hE hVL
              go_wp2_with (first
                | (go_at_call 61; refine HC.out.mono ?_; rintro e w4 ⟨v4, rfl, hO4, hr4, hu4⟩))
              go_ret3
              rw [HXE.out]
              exact ⟨_, _, rfl, OwnI.nil _ _ _ _, OwnK.nil _ _ _ _ _, ⟨_, hr4, fun h => absurd h HE.out⟩, hU.out.trans hu4 fun _ _ h => h⟩
          · obtain rfl : k = n := by omega
            have HXN := HX.out
            rw [hP.out, if_neg (by simp)] at HXN
            have HXN := Lib.hid HXN
            have z0 := hB11.out.cell 0 rfl
            have z1 := hB11.out.cell 1 rfl
            have HVS := Lib.hid (show (vs ++ L).length = sumV ws (a + k) by
              have h1 := HRL.out k (by rw [hP.out])
              rw [hP.out] at h1
              rw [List.length_append, HFV.out.2.1, sumV_add, h1])
            have hsl : ss.length ≤ 128 := by have := HFV.out.2.2; have := H128.out; omega
            clear hkl
            go_wp2
            have hd := (Below.refl wr.heap.size wr).drew
            have hba := below2 hd (below_alloc (Below.refl _ _) (.cells #[.int .i64 (b : Int), .int .i64 (k : Int)] 67))
            have HF := Lib.hid (show ∀ W : World, Below wr.heap.size wr W → (W.cell? ⟨W2.heap.size, 0, none⟩ = some (.int .i64 (b : Int)) ∧ W.cell? ⟨W2.heap.size, 1, none⟩ = some (.int .i64 (k : Int))) from fun W hb => ⟨(hB11.out.below hb).cell 0 rfl, (hB11.out.below hb).cell 1 rfl⟩)
            clear z0 z1
            refine wp_region_G 12 (fun W => W.cell? ⟨W2.heap.size, 0, none⟩ = some (.int .i64 (b : Int)) ∧ W.cell? ⟨W2.heap.size, 1, none⟩ = some (.int .i64 (k : Int))) (by kernel_rfl) (HF.out _ hd) (fun hHeld => ?_)
            refine wpAnyG_takeL (i := 0) (.int .i64 (a : Int)) [12] rfl (by kernel_rfl) (fun _ _ _ h => h) hHeld (by rfl) ?_ ?_
            · (intro W' hSw; (try dsimp only at hSw); go_simp)
            try simp only [Act.put, List.setIfInBounds_toArray, List.set_cons_zero, List.set_cons_succ]
            refine wpAnyG_takeL (i := 1) (.pointer (some ⟨W2.heap.size, 1, none⟩)) [12] rfl (by kernel_rfl) (fun _ _ _ h => h) hHeld (by rfl) ?_ ?_
            · (intro W' hSw; (try dsimp only at hSw); go_simp)
            try simp only [Act.put, List.setIfInBounds_toArray, List.set_cons_zero, List.set_cons_succ]
            refine wpAnyG_takeL (i := 2) (.int .i64 (k : Int)) [12] rfl (by kernel_rfl) (fun _ _ _ h => h) hHeld (by rfl) ?_ ?_
            · (intro W' hSw; (try dsimp only at hSw); go_simp)
            try simp only [Act.put, List.setIfInBounds_toArray, List.set_cons_zero, List.set_cons_succ]
            refine wpAnyG_takeL (i := 3) (.int .i64 (q : Int)) [12] rfl (by kernel_rfl) (fun _ _ _ h => h) hHeld (by rfl) ?_ ?_
            · (intro W' hSw; (try dsimp only at hSw); go_simp)
            try simp only [Act.put, List.setIfInBounds_toArray, List.set_cons_zero, List.set_cons_succ]
            refine wpAnyG_takeL (i := 4) (.pointer (some ⟨W2.heap.size, 0, none⟩)) [12] rfl (by kernel_rfl) (fun _ _ _ h => h) hHeld (by rfl) ?_ ?_
            · (intro W' hSw; (try dsimp only at hSw); go_simp)
            try simp only [Act.put, List.setIfInBounds_toArray, List.set_cons_zero, List.set_cons_succ]
            refine wpAnyG_takeL (i := 5) (.int .i64 (b : Int)) [12] rfl (by kernel_rfl) (fun _ _ _ h => h) hHeld (by rfl) ?_ ?_
            · (intro W' hSw; (try dsimp only at hSw); go_simp)
            try simp only [Act.put, List.setIfInBounds_toArray, List.set_cons_zero, List.set_cons_succ]
            refine wpAnyG_takeL (i := 6) (u8) [12] rfl (by kernel_rfl) (fun _ _ _ h => h) hHeld (by rfl) ?_ ?_
            · (intro W' hSw; (try dsimp only at hSw); go_simp)
            try simp only [Act.put, List.setIfInBounds_toArray, List.set_cons_zero, List.set_cons_succ]
            refine wpAnyG_takeL (i := 7) (.agg #[.int .i64 (b : Int), .int .i64 (k : Int)]) [12] rfl (by kernel_rfl) (fun _ _ _ h => h) hHeld (by rfl) ?_ ?_
            · (intro W' hSw; (try dsimp only at hSw); go_simp)
            try simp only [Act.put, List.setIfInBounds_toArray, List.set_cons_zero, List.set_cons_succ]
            clear hHeld
            refine wpAnyG_oneL (i := 8) (by kernel_rfl) rfl (fun K hK => ?_)
            go_simp
            refine hK.out _ _ (fun _ => (HF.out _ hba)) ?_
            clear hK K
            try simp only [Act.put, List.setIfInBounds_toArray, List.set_cons_zero, List.set_cons_succ]
            refine wpAnyG_oneL (i := 9) (by kernel_rfl) rfl (fun K hK => ?_)
            refine step_append_k (W := wr.drew) (k := kSe) w.heap.size rfl (.tmp 71) (.tmp 73) 31 67 (.agg #[.int .i64 0, .int .i64 0]) 16 (fun _ => False) rfl Tryd.underlying31 infoSe rfl (by decide) (by decide) u8 ss ((b : Int), (k : Int)) [.int .i64 (b : Int), .int .i64 (k : Int)] rfl rfl rfl (hSS.out.below hd) rfl (Nat.le_trans hU.out.size hd.size) (by omega) ?_
            intro g5 cap5 w5 hO5 hg5 hb5 ha5
            have hk5 : Keep (fun x => u8.ownBlock ≠ some x) wr w5 := (show Keep _ wr wr.drew from ⟨hd.size, fun i hi _ => hd.block i hi⟩).trans ((Keep.of_grown hg5).weak fun x h e => h e.symm)
            have HB5 := Lib.hid (hB11.out.keep hk5 (fun e => by have := HSB.out _ e; omega))
            have HO5 := Lib.hid hO5
            have HU5 := Lib.hid (show Upd (fun x => w.heap.size ≤ x) wr w5 from (Upd.of_below hd _).trans (Upd.of_grown (o := fun x => w.heap.size ≤ x) hg5 (fun r e => hSS.out.base_le r e)) fun _ _ h => h)
            have HK5 := Lib.hid hk5
            have HA5 := Lib.hid (show u8.ownBlock = some g5 ∨ wr.heap.size < g5 from ha5)
            refine hK.out _ _ (fun _ => ⟨HB5.out.cell 0 rfl, HB5.out.cell 1 rfl⟩) ?_
            clear hK K hO5 hg5 hb5 ha5 hk5
            try simp only [Act.put, List.setIfInBounds_toArray, List.set_cons_zero, List.set_cons_succ]
            have hHeld : w5.cell? ⟨W2.heap.size, 0, none⟩ = some (.int .i64 (b : Int)) ∧ w5.cell? ⟨W2.heap.size, 1, none⟩ = some (.int .i64 (k : Int)) := ⟨HB5.out.cell 0 rfl, HB5.out.cell 1 rfl⟩
            refine wpAnyG_takeL (i := 10) (.int .i64 (q : Int)) [12] rfl (by kernel_rfl) (fun _ _ _ h => h) hHeld (by rfl) ?_ ?_
            · (intro W' hSw; (try dsimp only at hSw); go_simp)
            try simp only [Act.put, List.setIfInBounds_toArray, List.set_cons_zero, List.set_cons_succ]
            refine wpAnyG_takeL (i := 11) (.int .i64 (b : Int)) [12] rfl (by kernel_rfl) (fun _ _ _ h => h) hHeld (by rfl) ?_ ?_
            · (intro W' hSw; (try dsimp only at hSw); go_simp)
            try simp only [Act.put, List.setIfInBounds_toArray, List.set_cons_zero, List.set_cons_succ]
            clear hHeld
            refine wpAnyG_oneL (i := 12) (by kernel_rfl) rfl (fun K hK => ?_)
            go_simp
            refine hK.out _ _ (fun h => Bool.noConfusion (show true = false from h)) ?_
            clear hK K
            refine wpAnyG_done (by kernel_rfl) ?_ _
            go_wp2
            go_roundw
            case rel =>
              have hq9 := HQ.out
              refine ⟨f', q, m1 + m2, (b : Int), vs ++ L, ss ++ [((b : Int), (k : Int))], hnle, rfl, rfl, Lib.hid HXN.out.symm, Lib.hid ⟨by have := HFV.out.1; have := HBN.out.2; omega, by rw [HVS.out, hq9], by have := HFV.out.2.2; have := HBN.out.2; rw [List.length_append, List.length_singleton]; omega⟩, ?_, HO5, ?_, ?_, ?_⟩
              · exact Lib.hid (ownI_keep hI.out HK5.out (fun x e => (hAP.out x e).1))
              · refine Lib.hid fun x e e2 => ?_
                have e3 : g5 = x := by simpa [Value.ownBlock] using e2
                rcases HA5.out with h1 | h1
                · exact (hAP.out x e).1 (by rw [h1, e3])
                · have := (hI.out.lt x e).2; omega
              · rw [← Nat.add_assoc]
                exact Lib.hid (hR.out.upd HU5.out (fun x _ h9 h8 => by have := HO.out x h9; omega))
              · exact Lib.hid (hU.out.trans HU5.out fun x hx h9 => by omega)
            case measure => have := HQ.out; have := HBN.out.2; simp [intOf] <;> omega
      · have hne : (E == 0) = false := by simp [hE]
        have HX := Lib.hid (HQH.out hE)
        have HE := Lib.hid hE
        clear HQH HQS hho hE
        go_wp2_with (first
          | (go_at_call 60; refine HC.out.mono ?_; rintro e W2 ⟨rfl, hr2, hu2⟩))
        go_ret3
        have hba := below_alloc (Below.refl W2.heap.size W2) (.cells #[.int .i64 hb, .int .i64 hn] 67)
        rw [HX.out]
        exact ⟨_, _, rfl, OwnI.nil _ _ _ _, OwnK.nil _ _ _ _ _, ⟨_, hr2.below hba, fun h => absurd h HE.out⟩, ((hU.out.trans hu2 fun _ _ h => h).trans (Upd.of_below hba (fun x => x = g)) fun _ _ h => h)⟩
    · obtain rfl : a = ws.length := by omega
      rw [rdQ_done _ _ _ _ _ _ _ _ (Nat.le_refl _)] at hQ
      clear hlt
      go_wp2
      go_ret3
      rw [← hQ.out]
      exact ⟨_, _, rfl, hV.out, hB.out, ⟨_, hR.out, fun _ => rfl⟩, hU.out⟩
end Go.Proofs.YtmcdgmiheklbeaaDoor

namespace Go.Proofs.YtmcdgmiheklbeaaDoor
open Go.RowKit
attribute [local go_sem] Oper.semAt_some

theorem rdQ_bits (ws : List Int) (D : List Bool) : ∀ (f at_ : Nat) (last : Int) (vs : List Int) (ss : List (Int × Int)) (m : Nat), (rdQ ws D f at_ last vs ss m).2.2.1 ≠ 0 → rdQ ws D f at_ last vs ss m = ([], [], (rdQ ws D f at_ last vs ss m).2.2.1, 0)
  | 0, _, _, _, _, _, h => absurd rfl h
  | f + 1, at_, last, vs, ss, m, h => by
    by_cases h1 : ws.length ≤ at_
    · rw [rdQ_done ws D _ at_ last vs ss m h1] at h; exact absurd rfl h
    · by_cases h2 : (headV ((ws.length - at_ : Nat) : Int) last (D.drop m)).2.1 = 0
      · obtain ⟨⟨⟨b, n⟩, E, c⟩, hH⟩ : ∃ H, headV ((ws.length - at_ : Nat) : Int) last (D.drop m) = H := ⟨_, rfl⟩
        rw [hH] at h2
        obtain rfl : E = 0 := h2
        rw [rdQ_step ws D f at_ last vs ss m h1 hH] at h ⊢
        split
        · rfl
        · rename_i h3
          rw [if_neg h3] at h
          exact rdQ_bits ws D f _ _ _ _ _ h
      · rw [rdQ_head ws D f at_ last vs ss m h1 h2]
/-- What Read returns: the values, the sections, the error, how many bits. -/
def readS (ws : List Int) (D : List Bool) : List Int × List (Int × Int) × Int × Nat :=
  if ws.all okV = true ∧ ws.length ≤ 128 then rdQ ws D ws.length 0 (-1) [] [] 0 else ([], [], 1, 0)
theorem readS_bits (ws : List Int) (D : List Bool) (h : (readS ws D).2.2.1 ≠ 0) : readS ws D = ([], [], (readS ws D).2.2.1, 0) := by
  unfold readS at h ⊢
  split
  · rename_i h1
    rw [if_pos h1] at h
    exact rdQ_bits ws D _ _ _ _ _ _ h
  · rfl
set_option maxHeartbeats 4000000 in
theorem sRead_any (o : Nat → Prop) (g i : Nat) (A : Option Addr) (c : Nat) (ws : List Int) (l : List Bool) (w : World) (h : Rr o w g l i) (ho : ∀ x, o x → x < w.heap.size) (hS : Sl (kInt .i64) (fun x => x ≠ g) w A c ws) (hG : GF w) (hT : GT w) (ng : g ≠ 0) (nt : g ≠ 1) (hw : ws.length ≤ 100000) :
    Calls Tryd.prog 11 #[.pointer (some ⟨g, 0, none⟩), .slice A ws.length c] w
      fun e w' => ∃ va vb, e = .returned (.tuple #[va, vb, .int .i64 (readS ws (l.drop i)).2.2.1]) ∧ OwnI 3 .i64 w.heap.size w' va (readS ws (l.drop i)).1 ∧ OwnS w.heap.size w' vb (readS ws (l.drop i)).2.1
        ∧ Rr o w' g l (i + (readS ws (l.drop i)).2.2.2) ∧ Upd (fun x => x = g) w w' := by
  have HR := Lib.hid (right18_any A c ws w hS.any hw)
  by_cases hr : ws.all okV = true ∧ ws.length ≤ 128
  · rw [if_pos hr.1, hr.1, decide_eq_true hr.2] at HR
    have HC := Lib.hid (read18_any o g i A c ws l w h ho hS hG hT ng nt hr.1 hr.2)
    have HAT := Lib.hid (rat_any o g i l w h)
    have HV := Lib.hid (show readS ws (l.drop i) = rdQ ws (l.drop i) ws.length 0 (-1) [] [] 0 by unfold readS; rw [if_pos hr])
    have HB := Lib.hid (readS_bits ws (l.drop i))
    rw [← HV.out] at HC
    generalize readS ws (l.drop i) = Q at *
    obtain ⟨qv, qs, E, qm⟩ := Q
    simp only at HC HB
    have HILE := Lib.hid h.le
    have HLT := Lib.hid h.lt
    generalize (sumV ws ws.length : Int) = X at HR
    clear HV h ho hS hG hT ng nt hr
    by_cases hE : E = 0
    · subst hE
      go_enter Tryd.func11, Tryd.ntmps11
      go_wp2_with (first
        | (go_at_call 34; refine HR.out.mono ?_; rintro e w2 ⟨rfl, rfl⟩)
        | (go_at_call 15; refine HAT.out.mono ?_; rintro e w2 ⟨rfl, rfl⟩)
        | (go_at_call 35; refine HC.out.mono ?_; rintro e w3 ⟨va, vb, rfl, hOa, hOb, ⟨j, hj, hj0⟩, hu3⟩))
      go_ret3
      obtain rfl := hj0 trivial
      exact ⟨va, vb, rfl, hOa, hOb, hj, hu3⟩
    · have hne : (E == 0) = false := by simp [hE]
      have hBX := HB.out hE
      cases hBX
      have HE := Lib.hid hE
      clear hE
      go_enter Tryd.func11, Tryd.ntmps11
      go_wp2_with (first
        | (go_at_call 34; refine HR.out.mono ?_; rintro e w2 ⟨rfl, rfl⟩)
        | (go_at_call 15; refine HAT.out.mono ?_; rintro e w2 ⟨rfl, rfl⟩)
        | (go_at_call 35; refine HC.out.mono ?_; rintro e w3 ⟨va, vb, rfl, hOa, hOb, ⟨j, hj, hj0⟩, hu3⟩)
        | (go_at_call 28; refine (rseek_any o g j (i : Int) l w3 hj).mono ?_; rintro e w4 ⟨rfl, hr4, hu4⟩))
      go_ret3
      have hsk : seekI l j (i : Int) = i := by unfold seekI; rw [if_neg (by have := HILE.out; omega)]; simp
      rw [hsk] at hr4
      exact ⟨va, vb, rfl, ownI_keep hOa (hu4.keep (ok := fun x => x ≠ g) fun _ h => h) (fun x e => by have := hOa.base_le x e; have := HLT.out; omega), hOb.keep (hu4.keep (ok := fun x => x ≠ g) fun _ h => h) (fun x e => by have := hOb.base_le x e; have := HLT.out; omega) (fun _ h => h.elim) ⟨hu4.os, hu4.tape, hu4.output⟩, hr4, hu3.trans hu4 fun _ _ h => h⟩
  · have HV := Lib.hid (show readS ws (l.drop i) = ([], [], 1, 0) by unfold readS; rw [if_neg hr])
    have hf : (ws.all okV && decide (ws.length ≤ 128)) = false := by
      cases h1 : ws.all okV
      · rfl
      · rw [Bool.true_and]; exact decide_eq_false (fun h2 => hr ⟨h1, h2⟩)
    rw [hf] at HR
    generalize (if ws.all okV = true then (sumV ws ws.length : Int) else 0) = X at HR
    have HH := Lib.hid h
    rw [HV.out]
    clear h ho hS hG hT ng nt hr hf
    go_enter Tryd.func11, Tryd.ntmps11
    go_wp2_with (first
      | (go_at_call 34; refine HR.out.mono ?_; rintro e w2 ⟨rfl, rfl⟩))
    go_ret3
    exact ⟨_, _, rfl, OwnI.nil _ _ _ _, OwnK.nil _ _ _ _ _, HH.out, Upd.refl _ _⟩
end Go.Proofs.YtmcdgmiheklbeaaDoor

namespace Go.Proofs.YtmcdgmiheklbeaaDoor
open Go.RowKit
attribute [local go_sem] Oper.semAt_some

/-- Small enough for the law. -/
def few18B (a b d : Nat) : Bool := decide (a ≤ 140) && decide (b ≤ 600) && decide (d ≤ 200)
set_option maxHeartbeats 1000000 in
theorem few18_any (A B D : Option Addr) (a c1 b c2 d c3 : Nat) (w : World) :
    Calls Tryd.prog 21 #[.agg #[.slice A a c1, .slice B b c2, .slice D d c3]] w fun e w' => e = .returned (.bool (few18B a b d)) ∧ Below w.heap.size w w' := by
  have hba := below_alloc (Below.refl w.heap.size w) (.cells #[.slice A a c1, .slice B b c2, .slice D d c3] 51)
  have h1 : decide ((a : Int) ≤ 140) = decide (a ≤ 140) := by simp; omega
  have h2 : decide ((b : Int) ≤ 600) = decide (b ≤ 600) := by simp; omega
  have h3 : decide ((d : Int) ≤ 200) = decide (d ≤ 200) := by simp; omega
  unfold few18B
  by_cases k1 : a ≤ 140
  · by_cases k2 : b ≤ 600
    · have e1 : decide ((a : Int) ≤ 140) = true := decide_eq_true (by omega)
      have e2 : decide ((b : Int) ≤ 600) = true := decide_eq_true (by omega)
      rw [decide_eq_true k1, decide_eq_true k2, ← h3]
      clear h1 h2 h3
      go_enter Tryd.func21, Tryd.ntmps21
      go_wp2
      go_ret
      exact ⟨rfl, hba⟩
    · have e1 : decide ((a : Int) ≤ 140) = true := decide_eq_true (by omega)
      have e2 : decide ((b : Int) ≤ 600) = false := decide_eq_false (by omega)
      rw [decide_eq_true k1, decide_eq_false k2]
      clear h1 h2 h3
      go_enter Tryd.func21, Tryd.ntmps21
      go_wp2
      go_ret
      exact ⟨rfl, hba⟩
  · have e1 : decide ((a : Int) ≤ 140) = false := decide_eq_false (by omega)
    rw [decide_eq_false k1]
    clear h1 h2 h3
    go_enter Tryd.func21, Tryd.ntmps21
    go_wp2
    go_ret
    exact ⟨rfl, hba⟩
end Go.Proofs.YtmcdgmiheklbeaaDoor

namespace Go.Proofs.YtmcdgmiheklbeaaDoor
open Go.RowKit

/-- How many bands the first sections have. -/
def secA (s : List (Int × Int)) (k : Nat) : Nat := sumTo k fun i => (nth (0, 0) s i).2.toNat
theorem secA_succ (s : List (Int × Int)) (k : Nat) : secA s (k + 1) = secA s k + (nth (0, 0) s k).2.toNat := sumTo_succ _ _
/-- The bits of a section's first bands. -/
def secB (ws l : List Int) (b : Int) (at_ n : Nat) : List Bool := (List.range n).flatMap fun i => bkW b (bndL ws l (at_ + i))
/-- The bits of the first sections. -/
def secP (ws l : List Int) (s : List (Int × Int)) : Nat → List Bool
  | 0 => []
  | k + 1 => secP ws l s k ++ (numB (nth (0, 0) s k).1.toNat 3 ++ gamB (nth (0, 0) s k).2.toNat ++ secB ws l (nth (0, 0) s k).1 (secA s k) (nth (0, 0) s k).2.toNat)
theorem secB_succ (ws l : List Int) (b : Int) (at_ n : Nat) : secB ws l b at_ (n + 1) = secB ws l b at_ n ++ bkW b (bndL ws l (at_ + n)) := by
  unfold secB; rw [List.range_succ, List.flatMap_append]; simp
theorem secA_mono (s : List (Int × Int)) (a : Nat) : ∀ k, secA s a ≤ secA s (a + k)
  | 0 => Nat.le_refl _
  | k + 1 => by have := secA_mono s a k; rw [← Nat.add_assoc, secA_succ]; omega
/-- The books of right sections, band by band. -/
theorem bks_at {s : List (Int × Int)} (h : booksE s = 0) : ∀ k, k ≤ s.length → ∃ o, bksP (s.take k) = some o ∧ o.length = secA s k ∧ ∀ q, q < k → ∀ i, i < (nth (0, 0) s q).2.toNat → nth 0 o (secA s q + i) = (nth (0, 0) s q).1
  | 0, _ => ⟨[], rfl, rfl, fun q hq => by omega⟩
  | k + 1, hk => by
    obtain ⟨o, ho, hl, hn⟩ := bks_at h k (by omega)
    have h3 := bks_take s k hk
    rw [ho] at h3
    have hm : bksP s ≠ none := fun e => by unfold booksE at h; rw [e] at h; simp at h
    by_cases hb : (nth (0, 0) s k).1 < 0 ∨ 8 ≤ (nth (0, 0) s k).1 ∨ (nth (0, 0) s k).2 < 1 ∨ 128 - (o.length : Int) < (nth (0, 0) s k).2
    · have e : bksS (some o) (nth (0, 0) s k) = none := if_pos hb
      rw [e] at h3
      exact absurd (bks_stop s (k + 1) h3) hm
    · have e : bksS (some o) (nth (0, 0) s k) = some (o ++ List.replicate (nth (0, 0) s k).2.toNat (nth (0, 0) s k).1) := if_neg hb
      rw [e] at h3
      refine ⟨_, h3, by rw [List.length_append, List.length_replicate, hl, secA_succ], fun q hq i hi => ?_⟩
      rcases Nat.lt_or_ge q k with h4 | h4
      · have h5 : secA s q + i < o.length := by
          rw [hl]
          have h6 := secA_mono s (q + 1) (k - (q + 1))
          rw [show q + 1 + (k - (q + 1)) = k by omega] at h6
          rw [secA_succ] at h6; omega
        rw [nth_append_left _ _ _ _ h5]
        exact hn q h4 i hi
      · obtain rfl : q = k := by omega
        rw [nth_append_right _ _ _ _ (by omega), hl, show secA s q + i - secA s q = i by omega]
        rw [nth_eq 0 _ _ (by rw [List.length_replicate]; exact hi)]
        exact List.getElem_replicate _
theorem secB_len (ws l bs : List Int) (b : Int) (at_ : Nat) : ∀ n, (∀ i, i < n → nth 0 bs (at_ + i) = b) → bdN ws l bs (at_ + n) = bdN ws l bs at_ + (secB ws l b at_ n).length
  | 0, _ => rfl
  | n + 1, h => by
    have h1 := secB_len ws l bs b at_ n (fun i hi => h i (by omega))
    rw [← Nat.add_assoc, bdN_succ, h1, secB_succ, List.length_append, h n (by omega)]; omega
/-- How many bits: what cost counts. -/
theorem secP_len {ws l : List Int} {s : List (Int × Int)} (h : booksE s = 0) : ∀ k, k ≤ s.length → (secP ws l s k).length = hdN s k + bdN ws l (booksL s) (secA s k)
  | 0, _ => rfl
  | k + 1, hk => by
    have h1 := secP_len (ws := ws) (l := l) h k (by omega)
    obtain ⟨o, ho, hl, hn⟩ := bks_at h s.length (Nat.le_refl _)
    rw [List.take_length] at ho
    have hb : booksL s = o := by unfold booksL; rw [ho]; rfl
    have h2 := secB_len ws l (booksL s) (nth (0, 0) s k).1 (secA s k) (nth (0, 0) s k).2.toNat (fun i hi => by rw [hb]; exact hn k (by omega) i hi)
    rw [hdN_succ, secA_succ, h2]
    show (secP ws l s k ++ _).length = _
    rw [List.length_append, List.length_append, List.length_append, numB_length, gamB_length, h1]
    unfold gamN
    omega
/-- Where cost is right. -/
theorem costV_ok {ws l : List Int} {s : List (Int × Int)} (h : (costV ws l s).2 = true) : booksE s = 0 ∧ (booksL s).length = ws.length ∧ adjK s = true ∧ bdOK ws l (booksL s) = true ∧ secA s s.length = ws.length ∧ costV ws l s = (((secP ws l s s.length).length : Int), true) := by
  unfold costV at h
  split at h
  · rename_i h1
    obtain ⟨o, ho, hl, _⟩ := bks_at h1.1 s.length (Nat.le_refl _)
    rw [List.take_length] at ho
    have hb : booksL s = o := by unfold booksL; rw [ho]; rfl
    have ha : secA s s.length = ws.length := by rw [← hl, ← hb]; exact h1.2.1
    refine ⟨h1.1, h1.2.1, h1.2.2.1, h1.2.2.2, ha, ?_⟩
    unfold costV
    rw [if_pos h1, secP_len h1.1 s.length (Nat.le_refl _), ha]
  · simp at h
end Go.Proofs.YtmcdgmiheklbeaaDoor

namespace Go.Proofs.YtmcdgmiheklbeaaDoor
open Go.RowKit

/-- A call that writes, and reads what is not the writer's. -/
theorem BwI.runF {o : Nat → Prop} {W0 W W' : World} {g f : Nat} {args : Array Value} {bits : List Bool} (hs : BwI o W0 g bits W) (hb : Below W.heap.size W W') (more : List Bool) (hl : bits.length + more.length ≤ 1048576)
    (hc : ∀ o' : Nat → Prop, (∀ x, o' x → o x ∨ W0.heap.size ≤ x) → Wr o' W' g bits → Calls Tryd.prog f args W' fun e w' => (∃ E, e = .returned (.int .i64 E)) ∧ Wr (fun b => o' b ∨ W'.heap.size ≤ b) w' g (fullB bits more) ∧ Upd o' W' w') :
    Calls Tryd.prog f args W' fun e w' => (∃ E, e = .returned (.int .i64 E)) ∧ KeepsFrom W0.heap.size W w' ∧ Keep (fun b => ¬ o b ∧ b < W0.heap.size) W w' ∧ BwI o W0 g (bits ++ more) w' := by
  obtain ⟨vv, hw⟩ := hs.wr
  have hfoot := hw.foot_in
  refine (hc (foot g vv) (fun x hx => (hfoot x hx).1) ((show Wr (foot g vv) W g bits from ⟨vv, hw.exact⟩).below hb)).mono ?_
  rintro e w3 ⟨he, hw3, hu3⟩
  have hu := (Upd.of_below hb (foot g vv)).trans hu3 (fun b _ e => e)
  refine ⟨he, (hw.others hu).from _, hu.keep (fun b hb hf => ?_), ⟨?_, hs.upd.trans hu (fun b hb hf => ?_)⟩⟩
  · rcases (hfoot b hf).1 with h | h
    · exact hb.1 h
    · exact absurd hb.2 (by omega)
  · have hfb : fullB bits more = bits ++ more := by unfold fullB; rw [if_neg (by omega)]
    rw [← hfb]
    exact hw3.weak (fun b _ h => by
      rcases h with h | h
      · exact (hfoot b h).1
      · exact .inr (by have := hs.upd.size; have := hb.size; omega))
  · rcases (hfoot b hf).1 with h | h
    · exact h
    · omega
/-- A list written by a book. -/
theorem BwI.book {o : Nat → Prop} {W0 W W' : World} {g : Nat} {bits : List Bool} (hs : BwI o W0 g bits W) (hb : Below W.heap.size W W') (A : Option Addr) (c : Nat) (n : Int) (l : List Int) (hS : Sl (kInt .i64) (fun b => ¬ o b ∧ b < W0.heap.size) W' A c l) (hG : GF W') (hT : GT W') (hlm : l.length ≤ 1000000) (hl : bits.length + (bkW n l).length ≤ 1048576) :
    Calls Tryd.prog 49 #[.pointer (some ⟨g, 0, none⟩), .int .i64 n, .slice A l.length c] W'
      fun e w' => (∃ E, e = .returned (.int .i64 E)) ∧ KeepsFrom W0.heap.size W w' ∧ Keep (fun b => ¬ o b ∧ b < W0.heap.size) W w' ∧ BwI o W0 g (bits ++ bkW n l) w' :=
  hs.runF hb (bkW n l) hl fun o' hf h => (bwrite_any o' g A c n bits l W' h (by omega) (hS.weak fun b _ hx hy => by rcases hf b hy with h1 | h1
                                                                                                                    · exact hx.1 h1
                                                                                                                    · have := hx.2; omega) hG hT hlm).mono fun _ _ ⟨h1, h2, h3⟩ => ⟨⟨_, h1⟩, h2, h3⟩
end Go.Proofs.YtmcdgmiheklbeaaDoor

namespace Go.Proofs.YtmcdgmiheklbeaaDoor
open Go.RowKit

end Go.Proofs.YtmcdgmiheklbeaaDoor

namespace Go.Proofs.YtmcdgmiheklbeaaDoor
open Go.RowKit
attribute [local go_sem] Oper.semAt_some

theorem costQ_ok {ws l : List Int} {s : List (Int × Int)} (h : (costQ ws l s).2 = 0) : sureE ws l = 0 ∧ (costV ws l s).2 = true ∧ costQ ws l s = (((secP ws l s s.length).length : Int), 0) := by
  by_cases h1 : sureE ws l = 0
  · by_cases h2 : (costV ws l s).2 = true
    · refine ⟨h1, h2, ?_⟩
      unfold costQ
      rw [if_neg (by simp [h1]), if_neg (by simp [h2]), (costV_ok h2).2.2.2.2.2]
    · unfold costQ at h
      rw [if_neg (by simp [h1]), if_pos (by simpa using h2)] at h
      simp at h
  · unfold costQ at h
    rw [if_pos h1] at h
    exact absurd h h1
set_option maxHeartbeats 1000000 in
theorem sWrite_err (o : Nat → Prop) (g : Nat) (A B D : Option Addr) (c d e0 : Nat) (ws l : List Int) (s : List (Int × Int)) (bs : List Bool) (w : World) (_h : Wr o w g bs) (hS : RI w A c ws) (hT : RI w B d l) (hR : RS w D e0 s) (hG : GF w) (hGT : GT w) (hw : ws.length ≤ 100000) (hE : (costQ ws l s).2 ≠ 0) :
    Calls Tryd.prog 25 #[.pointer (some ⟨g, 0, none⟩), .slice A ws.length c, .slice B l.length d, .slice D s.length e0] w fun e w' => e = .returned (.int .i64 (costQ ws l s).2) ∧ Below w.heap.size w w' := by
  have hba := below_alloc (Below.refl w.heap.size w) (.cells #[.pointer (some ⟨g, 0, none⟩)] 53)
  have HC := Lib.hid (sCost_any A B D c d e0 ws l s _ (hS.below hba) (hT.below hba) (hR.below hba) (hG.below hba) (hGT.below hba) hw)
  have hne : ((costQ ws l s).2 == 0) = false := by simp [hE]
  generalize costQ ws l s = V at *
  obtain ⟨v, E⟩ := V
  simp only at HC hne hE
  have HBA := Lib.hid hba
  clear _h hS hT hR hG hGT hw hE hba
  go_enter Tryd.func25, Tryd.ntmps25
  go_wp2_with (first | (go_at_call 24; refine HC.out.mono ?_; rintro e w2 ⟨rfl, b2⟩))
  go_ret
  exact ⟨rfl, below2 HBA.out b2⟩
set_option maxHeartbeats 1000000 in
theorem sWrite_full (o : Nat → Prop) (g : Nat) (A B D : Option Addr) (c d e0 : Nat) (ws l : List Int) (s : List (Int × Int)) (bs : List Bool) (w : World) (N : Nat) (h : Wr o w g bs) (hS : RI w A c ws) (hT : RI w B d l) (hR : RS w D e0 s) (hG : GF w) (hGT : GT w) (hw : ws.length ≤ 100000) (hE : costQ ws l s = ((N : Int), 0)) (hN : N ≤ 100000000) (hl : bs.length ≤ 1048576) (hf : 1048576 < bs.length + N) :
    Calls Tryd.prog 25 #[.pointer (some ⟨g, 0, none⟩), .slice A ws.length c, .slice B l.length d, .slice D s.length e0] w fun e w' => e = .returned (.int .i64 2) ∧ Below w.heap.size w w' := by
  have hba := below_alloc (Below.refl w.heap.size w) (.cells #[.pointer (some ⟨g, 0, none⟩)] 53)
  have B4 : Blk (w.alloc (.cells #[.pointer (some ⟨g, 0, none⟩)] 53)) w.heap.size #[.pointer (some ⟨g, 0, none⟩)] 53 := heap_alloc_new w _
  have HC := Lib.hid (sCost_any A B D c d e0 ws l s _ (hS.below hba) (hT.below hba) (hR.below hba) (hG.below hba) (hGT.below hba) hw)
  rw [hE] at HC
  have hd : decide ((1048576 : Int) < (bs.length : Int) + (N : Int)) = true := decide_eq_true (by omega)
  have hwp : IntKind.i64.wrap ((bs.length : Int) + (N : Int)) = (bs.length : Int) + (N : Int) := IntWalk.i64_in _ (by omega)
  have HBA := Lib.hid hba
  have H := Lib.hid h
  have HB4 := Lib.hid B4
  clear h hS hT hR hG hGT hw hE hba hl hf hN B4
  go_enter Tryd.func25, Tryd.ntmps25
  go_wp2_with (first
    | (go_at_call 24; refine HC.out.mono ?_; rintro e w2 ⟨rfl, b2⟩; have hw2 := H.out.below (below2 HBA.out b2); have k4 := (HB4.out.below b2).cell 0 rfl)
    | (go_at_call 23; refine (wlen_any o g bs _ hw2).mono ?_; rintro e w3 ⟨rfl, rfl⟩))
  go_ret
  exact ⟨rfl, below2 HBA.out b2⟩
end Go.Proofs.YtmcdgmiheklbeaaDoor

namespace Go.Proofs.YtmcdgmiheklbeaaDoor

/-- Whether a list of numbers comes ahead of another one. -/
def lexB : List Int → List Int → Bool
  | _, [] => false
  | [], _ :: _ => true
  | x :: xs, y :: ys => if x = y then lexB xs ys else decide (x < y)
theorem lexB_irr : ∀ a : List Int, lexB a a = false
  | [] => rfl
  | x :: xs => by simp [lexB, lexB_irr xs]
theorem lexB_le_trans : ∀ a b c : List Int, lexB b a = false → lexB c b = false → lexB c a = false
  | [], _, _, _, _ => by cases ‹List Int› <;> rfl
  | _ :: _, [], _, h, _ => by simp [lexB] at h
  | _ :: _, _ :: _, [], _, h => by simp [lexB] at h
  | x :: xs, y :: ys, z :: zs, h1, h2 => by
    have ih := lexB_le_trans xs ys zs
    unfold lexB at h1 h2 ⊢
    split at h1 <;> split at h2 <;> split <;> simp_all <;> omega
theorem lexB_le_anti : ∀ a b : List Int, lexB a b = false → lexB b a = false → a = b
  | [], [], _, _ => rfl
  | [], _ :: _, h, _ => by simp [lexB] at h
  | _ :: _, [], _, h => by simp [lexB] at h
  | x :: xs, y :: ys, h1, h2 => by
    have ih := lexB_le_anti xs ys
    unfold lexB at h1 h2
    split at h1 <;> split at h2 <;> simp_all <;> omega
theorem lexB_as : ∀ a b : List Int, lexB a b = true → lexB b a = false
  | _, [], h => by simp [lexB] at h
  | [], _ :: _, _ => rfl
  | x :: xs, y :: ys, h => by
    have ih := lexB_as xs ys
    unfold lexB at h ⊢
    split at h <;> split <;> simp_all <;> omega
theorem lexB_app (a b : List Int) : ∀ h : List Int, lexB (h ++ a) (h ++ b) = lexB a b
  | [] => rfl
  | x :: xs => by simp [lexB, lexB_app a b xs]

/-- A list of sections from a band on: what it costs, and its books. -/
structure Way where
  cost : Int
  secs : List (Int × Int)
  books : List Int
deriving Inhabited
/-- Whether a way is better. -/
def Way.less (a b : Way) : Bool := if a.cost = b.cost then lexB a.books b.books else decide (a.cost < b.cost)
theorem Way.irr (a : Way) : a.less a = false := by simp [Way.less, lexB_irr]
theorem Way.le_trans {a b c : Way} (h1 : b.less a = false) (h2 : c.less b = false) : c.less a = false := by
  have h3 := lexB_le_trans a.books b.books c.books
  unfold Way.less at h1 h2 ⊢
  split at h1 <;> split at h2 <;> split <;> simp_all <;> omega
theorem Way.lt_le {a b : Way} (h : a.less b = true) : b.less a = false := by
  have h3 := lexB_as a.books b.books
  unfold Way.less at h ⊢
  split at h <;> split <;> simp_all <;> omega
theorem Way.le_cost {a b : Way} (h : b.less a = false) : a.cost ≤ b.cost := by
  unfold Way.less at h
  split at h
  · omega
  · simp at h; omega
theorem Way.le_of_cost {a b : Way} (h : a.cost < b.cost) : b.less a = false := by
  unfold Way.less
  rw [if_neg (by omega)]; simp; omega

/-- What the bands from i on cost in a book, the first ones. -/
def sumK (cst : Nat → Int → Int) (i : Nat) (k : Int) : Nat → Int
  | 0 => 0
  | m + 1 => sumK cst i k m + cst (i + m) k
theorem sumK_add (cst : Nat → Int → Int) (i : Nat) (k : Int) (a : Nat) : ∀ b, sumK cst i k (a + b) = sumK cst i k a + sumK cst (i + a) k b
  | 0 => by simp [sumK]
  | b + 1 => by
    have := sumK_add cst i k a b
    rw [← Nat.add_assoc]
    simp only [sumK]
    rw [this, Nat.add_assoc]; omega
/-- How many bands from i on fit a book. -/
def runC (cst : Nat → Int → Int) (k : Int) : Nat → Nat → Nat
  | 0, _ => 0
  | f + 1, i => if 0 ≤ cst i k then runC cst k f (i + 1) + 1 else 0
theorem runC_le (cst : Nat → Int → Int) (k : Int) : ∀ f i, runC cst k f i ≤ f
  | 0, _ => Nat.le_refl _
  | f + 1, i => by
    have := runC_le cst k f (i + 1)
    unfold runC; split <;> omega
theorem runC_ok (cst : Nat → Int → Int) (k : Int) : ∀ f i t, t < runC cst k f i → 0 ≤ cst (i + t) k
  | 0, _, _, h => by simp [runC] at h
  | f + 1, i, t, h => by
    unfold runC at h
    split at h
    · rename_i h1
      cases t with
      | zero => exact h1
      | succ t =>
        have := runC_ok cst k f (i + 1) t (by omega)
        rwa [show i + 1 + t = i + (t + 1) by omega] at this
    · omega
theorem runC_stop (cst : Nat → Int → Int) (k : Int) : ∀ f i, runC cst k f i < f → cst (i + runC cst k f i) k < 0
  | 0, _, h => by omega
  | f + 1, i, h => by
    unfold runC at h ⊢
    split at h
    · rename_i h1
      rw [if_pos h1]
      have := runC_stop cst k f (i + 1) (by omega)
      rwa [show i + 1 + runC cst k f (i + 1) = i + (runC cst k f (i + 1) + 1) by omega] at this
    · rename_i h1
      rw [if_neg h1]; simp; omega
theorem runC_max (cst : Nat → Int → Int) (k : Int) (f i m : Nat) (hm : m ≤ f) (h : ∀ t, t < m → 0 ≤ cst (i + t) k) : m ≤ runC cst k f i := by
  rcases Nat.lt_or_ge (runC cst k f i) m with h1 | h1
  · have h2 := runC_stop cst k f i (by omega)
    have h3 := h _ h1
    omega
  · exact h1
/-- One way more is looked at. -/
def stpWay (gam : Nat → Nat) (k : Int) (m : Nat) (sum : Int) (rest : Way) (top : Option Way) : Option Way :=
  if (match top with | some t => decide (t.cost < 3 + (gam m : Int) + sum + rest.cost) | none => false) = true ∨ rest.books.head? = some k then top
  else match top with
    | none => some ⟨3 + (gam m : Int) + sum + rest.cost, (k, (m : Int)) :: rest.secs, List.replicate m k ++ rest.books⟩
    | some t => if Way.less ⟨3 + (gam m : Int) + sum + rest.cost, (k, (m : Int)) :: rest.secs, List.replicate m k ++ rest.books⟩ t = true then some ⟨3 + (gam m : Int) + sum + rest.cost, (k, (m : Int)) :: rest.secs, List.replicate m k ++ rest.books⟩ else some t
/-- The ways whose first section has a book. -/
def innW (cst : Nat → Int → Int) (gam : Nat → Nat) (k : Int) (i : Nat) (tl : List Way) (top : Option Way) : Nat → Option Way
  | 0 => top
  | m + 1 => stpWay gam k (m + 1) (sumK cst i k (m + 1)) (tl.getD m default) (innW cst gam k i tl top m)
/-- The ways whose first section has one of the first books. -/
def topW (n : Nat) (cst : Nat → Int → Int) (gam : Nat → Nat) (i : Nat) (tl : List Way) : Nat → Option Way
  | 0 => none
  | k + 1 => innW cst gam (k : Int) i tl (topW n cst gam i tl k) (runC cst k (n - i) i)
/-- The best ways of the last bands. -/
def waysW (n : Nat) (cst : Nat → Int → Int) (gam : Nat → Nat) : Nat → List Way
  | 0 => [⟨0, [], []⟩]
  | q + 1 => ((topW n cst gam (n - (q + 1)) (waysW n cst gam q) 8).getD default) :: waysW n cst gam q
/-- Right sections from a band on, and what they cost. -/
inductive Ways (n : Nat) (cst : Nat → Int → Int) (gam : Nat → Nat) : Nat → List (Int × Int) → Int → Prop
  | nil : Ways n cst gam n [] 0
  | cons {i : Nat} {k : Int} {m : Nat} {s : List (Int × Int)} {c : Int} (h0 : 0 ≤ k) (h8 : k < 8) (h1 : 1 ≤ m) (hn : i + m ≤ n) (hf : ∀ t, t < m → 0 ≤ cst (i + t) k) (hd : ∀ y, s.head? = some y → y.1 ≠ k) (hs : Ways n cst gam (i + m) s c) :
      Ways n cst gam i ((k, (m : Int)) :: s) (3 + (gam m : Int) + sumK cst i k m + c)
/-- The books of sections. -/
def bksO : List (Int × Int) → List Int
  | [] => []
  | x :: s => List.replicate x.2.toNat x.1 ++ bksO s
theorem Ways.head {n : Nat} {cst : Nat → Int → Int} {gam : Nat → Nat} {i : Nat} {s : List (Int × Int)} {c : Int} (h : Ways n cst gam i s c) : (bksO s).head? = s.head?.map (·.1) := by
  cases h with
  | nil => rfl
  | @cons i k m s c h0 h8 h1 hn hf hd hs =>
    obtain ⟨m', rfl⟩ : ∃ m', m = m' + 1 := ⟨m - 1, by omega⟩
    show (List.replicate (((m' + 1 : Nat) : Int).toNat) k ++ bksO s).head? = some k
    rw [Int.toNat_natCast, List.replicate_succ]
    rfl
/-- The best way from a band on. -/
structure Opt (n : Nat) (cst : Nat → Int → Int) (gam : Nat → Nat) (i : Nat) (w : Way) : Prop where
  is : Ways n cst gam i w.secs w.cost
  books : w.books = bksO w.secs
  least : ∀ s c, Ways n cst gam i s c → Way.less ⟨c, s, bksO s⟩ w = false
/-- A way that is looked at: what is behind it is the best, and begins otherwise. -/
def Clean (n : Nat) (cst : Nat → Int → Int) (_gam : Nat → Nat) (i : Nat) (R : Nat → Way) (k : Int) (m : Nat) : Prop := 1 ≤ m ∧ m ≤ runC cst k (n - i) i ∧ (R (i + m)).books.head? ≠ some k
/-- The way itself. -/
def wayO (cst : Nat → Int → Int) (gam : Nat → Nat) (i : Nat) (R : Nat → Way) (k : Int) (m : Nat) : Way := ⟨3 + (gam m : Int) + sumK cst i k m + (R (i + m)).cost, (k, (m : Int)) :: (R (i + m)).secs, List.replicate m k ++ (R (i + m)).books⟩
variable {n : Nat} {cst : Nat → Int → Int} {gam : Nat → Nat} {i : Nat} {R : Nat → Way}

theorem Clean.is {k : Int} {m : Nat} (hk : 0 ≤ k ∧ k < 8) (hi : i ≤ n) (h : Clean n cst gam i R k m) (hR : Opt n cst gam (i + m) (R (i + m))) : Ways n cst gam i (wayO cst gam i R k m).secs (wayO cst gam i R k m).cost ∧ (wayO cst gam i R k m).books = bksO (wayO cst gam i R k m).secs := by
  have hl := runC_le cst k (n - i) i
  refine ⟨Ways.cons hk.1 hk.2 h.1 (by have := h.2.1; omega) (fun t ht => runC_ok cst k (n - i) i t (by have := h.2.1; omega)) (fun y hy e => ?_) hR.is, ?_⟩
  · have h1 := hR.is.head
    rw [hy, ← hR.books] at h1
    exact h.2.2 (h1.trans (by rw [Option.map_some, e]))
  · show List.replicate m k ++ _ = List.replicate ((m : Int).toNat) k ++ _
    rw [hR.books, Int.toNat_natCast]
/-- Whatever begins with a book is no better than a way that is looked at. -/
theorem clean_le (hg : ∀ a b, 1 ≤ a → 1 ≤ b → gam (a + b) < gam a + gam b + 3) (hi : i ≤ n) (hR : ∀ j, i < j → j ≤ n → Opt n cst gam j (R j)) {k : Int} (hk : 0 ≤ k ∧ k < 8) {m : Nat} (h1 : 1 ≤ m) (hm : m ≤ runC cst k (n - i) i) :
    ∃ m', Clean n cst gam i R k m' ∧ (wayO cst gam i R k m).less (wayO cst gam i R k m') = false := by
  by_cases hc : (R (i + m)).books.head? = some k
  · have hl := runC_le cst k (n - i) i
    have hO := hR (i + m) (by omega) (by omega)
    rw [hO.books, hO.is.head] at hc
    obtain ⟨his, hbk, hls⟩ := hO
    generalize hs : (R (i + m)).secs = S at *
    generalize hcc : (R (i + m)).cost = c0 at *
    cases his with
    | nil => simp at hc
    | @cons _ k2 m2 s2 c2 h20 h28 h21 h2n h2f h2d h2s =>
      simp at hc
      subst hc
      have hO2 := hR (i + m + m2) (by omega) (by omega)
      have hm2 : m + m2 ≤ runC cst k2 (n - i) i := runC_max cst k2 (n - i) i (m + m2) (by omega) (fun t ht => by
        rcases Nat.lt_or_ge t m with h4 | h4
        · exact runC_ok cst k2 (n - i) i t (by omega)
        · have := h2f (t - m) (by omega)
          rwa [show i + m + (t - m) = i + t by omega] at this)
      have h5 := hO2.least _ _ h2s
      have h6 := Way.le_cost h5
      simp only at h6
      refine ⟨m + m2, ⟨by omega, hm2, fun hc2 => ?_⟩, Way.le_of_cost ?_⟩
      · rw [← Nat.add_assoc, hO2.books, hO2.is.head] at hc2
        obtain ⟨his3, hbk3, hls3⟩ := hO2
        generalize hs3 : (R (i + m + m2)).secs = S3 at *
        generalize hc3 : (R (i + m + m2)).cost = c3 at *
        cases his3 with
        | nil => simp at hc2
        | @cons _ k3 m3 s3 c3 h30 h38 h31 h3n h3f h3d h3s =>
          simp at hc2
          subst hc2
          have h7 := hls _ _ (Ways.cons (i := i + m) (m := m2 + m3) h30 h38 (by omega) (by omega) (fun t ht => by
            rcases Nat.lt_or_ge t m2 with h4 | h4
            · exact h2f t h4
            · have := h3f (t - m2) (by omega)
              rwa [show i + m + m2 + (t - m2) = i + m + t by omega] at this) h3d (by rw [← Nat.add_assoc]; exact h3s))
          have h8 := Way.le_cost h7
          simp only at h8
          rw [hcc, sumK_add] at h8
          have := hg m2 m3 h21 h31
          omega
      · show 3 + (gam (m + m2) : Int) + sumK cst i k2 (m + m2) + (R (i + (m + m2))).cost < 3 + (gam m : Int) + sumK cst i k2 m + (R (i + m)).cost
        rw [hcc, sumK_add, ← Nat.add_assoc]
        have := hg m m2 h1 h21
        omega
  · exact ⟨m, ⟨h1, hm, hc⟩, Way.irr _⟩
/-- Any right sections are no better than a way that is looked at. -/
theorem any_le (hg : ∀ a b, 1 ≤ a → 1 ≤ b → gam (a + b) < gam a + gam b + 3) (hi : i < n) (hR : ∀ j, i < j → j ≤ n → Opt n cst gam j (R j)) {s : List (Int × Int)} {c : Int} (hs : Ways n cst gam i s c) :
    ∃ (k m : Nat), k < 8 ∧ Clean n cst gam i R (k : Int) m ∧ Way.less ⟨c, s, bksO s⟩ (wayO cst gam i R k m) = false := by
  cases hs with
  | nil => omega
  | @cons _ k m s c h0 h8 h1 hn hf hd hs =>
    have hm := runC_max cst k (n - i) i m (by omega) hf
    obtain ⟨m', hc, hl⟩ := clean_le hg (by omega) hR ⟨h0, h8⟩ h1 hm
    have hk : ((k.toNat : Nat) : Int) = k := by omega
    refine ⟨k.toNat, m', by omega, by rw [hk]; exact hc, Way.le_trans (b := wayO cst gam i R k m) (by rw [hk]; exact hl) ?_⟩
    have h2 := (hR (i + m) (by omega) hn).least _ _ hs
    unfold Way.less at h2 ⊢
    simp only [wayO, bksO, Int.toNat_natCast, lexB_app] at h2 ⊢
    split at h2
    · rename_i e
      rw [if_pos (by omega)]; exact h2
    · rename_i e
      rw [if_neg (by omega)]
      simp at h2 ⊢; omega
/-- What is looked at so far: the best of it. -/
structure TopI (n : Nat) (cst : Nat → Int → Int) (gam : Nat → Nat) (i : Nat) (R : Nat → Way) (D : Int → Nat → Prop) (top : Option Way) : Prop where
  is : ∀ t, top = some t → Ways n cst gam i t.secs t.cost ∧ t.books = bksO t.secs
  all : ∀ k m, D k m → Clean n cst gam i R k m → ∃ t, top = some t ∧ (wayO cst gam i R k m).less t = false
theorem stpWay_top {D : Int → Nat → Prop} {top : Option Way} (hi : i ≤ n) (hR : ∀ j, i < j → j ≤ n → Opt n cst gam j (R j)) (h : TopI n cst gam i R D top) {k : Int} (hk : 0 ≤ k ∧ k < 8) {m : Nat} (h1 : 1 ≤ m) (hm : m ≤ runC cst k (n - i) i) :
    TopI n cst gam i R (fun k' m' => D k' m' ∨ (k' = k ∧ m' = m)) (stpWay gam k m (sumK cst i k m) (R (i + m)) top) := by
  have hl := runC_le cst k (n - i) i
  have hO := hR (i + m) (by omega) (by omega)
  by_cases hb : (R (i + m)).books.head? = some k
  · have e : stpWay gam k m (sumK cst i k m) (R (i + m)) top = top := if_pos (.inr hb)
    rw [e]
    refine ⟨h.is, fun k' m' hD hC => ?_⟩
    rcases hD with hD | ⟨rfl, rfl⟩
    · exact h.all k' m' hD hC
    · exact absurd hb hC.2.2
  · have hC : Clean n cst gam i R k m := ⟨h1, hm, hb⟩
    have hw := hC.is hk hi hO
    cases top with
    | none =>
      have e : stpWay gam k m (sumK cst i k m) (R (i + m)) none = some (wayO cst gam i R k m) := if_neg (by simp [hb])
      rw [e]
      refine ⟨fun t e => by cases e; exact hw, fun k' m' hD hC => ?_⟩
      rcases hD with hD | ⟨rfl, rfl⟩
      · obtain ⟨t, e, _⟩ := h.all k' m' hD hC; cases e
      · exact ⟨_, rfl, Way.irr _⟩
    | some t =>
      by_cases hlt : t.cost < (wayO cst gam i R k m).cost
      · have e : stpWay gam k m (sumK cst i k m) (R (i + m)) (some t) = some t := if_pos (.inl (decide_eq_true hlt))
        rw [e]
        refine ⟨h.is, fun k' m' hD hC => ?_⟩
        rcases hD with hD | ⟨rfl, rfl⟩
        · exact h.all k' m' hD hC
        · exact ⟨t, rfl, Way.le_of_cost hlt⟩
      · have e : stpWay gam k m (sumK cst i k m) (R (i + m)) (some t) = if (wayO cst gam i R k m).less t = true then some (wayO cst gam i R k m) else some t := if_neg (by
          have : ¬ t.cost < 3 + (gam m : Int) + sumK cst i k m + (R (i + m)).cost := hlt
          simp [hb, this])
        rw [e]
        by_cases hL : (wayO cst gam i R k m).less t = true
        · rw [if_pos hL]
          refine ⟨fun t e => by cases e; exact hw, fun k' m' hD hC => ?_⟩
          rcases hD with hD | ⟨rfl, rfl⟩
          · obtain ⟨t', e, h2⟩ := h.all k' m' hD hC
            cases e
            exact ⟨_, rfl, Way.le_trans (Way.lt_le hL) h2⟩
          · exact ⟨_, rfl, Way.irr _⟩
        · rw [if_neg hL]
          refine ⟨h.is, fun k' m' hD hC => ?_⟩
          rcases hD with hD | ⟨rfl, rfl⟩
          · exact h.all k' m' hD hC
          · exact ⟨t, rfl, by simpa using hL⟩
theorem TopI.weak {D D' : Int → Nat → Prop} {top : Option Way} (h : TopI n cst gam i R D top) (hD : ∀ k m, D' k m → Clean n cst gam i R k m → D k m) : TopI n cst gam i R D' top := ⟨h.is, fun k m h1 h2 => h.all k m (hD k m h1 h2) h2⟩
theorem innW_top {tl : List Way} (htl : ∀ m, i + (m + 1) ≤ n → tl.getD m default = R (i + (m + 1))) {D : Int → Nat → Prop} {top : Option Way} (hi : i ≤ n) (hR : ∀ j, i < j → j ≤ n → Opt n cst gam j (R j)) (h : TopI n cst gam i R D top) {k : Int} (hk : 0 ≤ k ∧ k < 8) :
    ∀ m, m ≤ runC cst k (n - i) i → TopI n cst gam i R (fun k' m' => D k' m' ∨ (k' = k ∧ 1 ≤ m' ∧ m' ≤ m)) (innW cst gam k i tl top m)
  | 0, _ => h.weak fun k m h1 _ => by rcases h1 with h1 | h1; exact h1; omega
  | m + 1, hm => by
    have hl := runC_le cst k (n - i) i
    have h1 := innW_top htl hi hR h hk m (by omega)
    have h2 := stpWay_top hi hR h1 hk (m := m + 1) (by omega) hm
    unfold innW
    rw [htl m (by omega)]
    exact h2.weak fun k' m' h3 _ => by
      rcases h3 with h3 | ⟨h3, h4, h5⟩
      · exact .inl (.inl h3)
      · rcases Nat.lt_or_ge m m' with h6 | h6
        · exact .inr ⟨h3, by omega⟩
        · exact .inl (.inr ⟨h3, h4, h6⟩)
theorem topW_top {tl : List Way} (htl : ∀ m, i + (m + 1) ≤ n → tl.getD m default = R (i + (m + 1))) (hi : i ≤ n) (hR : ∀ j, i < j → j ≤ n → Opt n cst gam j (R j)) : ∀ k : Nat, k ≤ 8 → TopI n cst gam i R (fun k' _ => 0 ≤ k' ∧ k' < (k : Int)) (topW n cst gam i tl k)
  | 0, _ => ⟨fun t h => by simp [topW] at h, fun k m h _ => by omega⟩
  | k + 1, hk => by
    have h1 := topW_top htl hi hR k (by omega)
    have h2 := innW_top htl hi hR h1 (k := (k : Int)) (by omega) _ (Nat.le_refl _)
    exact h2.weak fun k' m' h3 hC => by
      rcases Int.lt_or_le k' k with h4 | h4
      · exact .inl ⟨h3.1, h4⟩
      · have h5 : k' = k := by omega
        subst h5
        exact .inr ⟨rfl, hC.1, hC.2.1⟩
theorem topW_opt {tl : List Way} (hg : ∀ a b, 1 ≤ a → 1 ≤ b → gam (a + b) < gam a + gam b + 3) (htl : ∀ m, i + (m + 1) ≤ n → tl.getD m default = R (i + (m + 1))) (hi : i < n) (hR : ∀ j, i < j → j ≤ n → Opt n cst gam j (R j)) (hf : ∃ k : Nat, k < 8 ∧ 0 ≤ cst i k) : ∃ t, topW n cst gam i tl 8 = some t ∧ Opt n cst gam i t := by
  have h := topW_top htl (Nat.le_of_lt hi) hR 8 (Nat.le_refl _)
  have hall : ∀ (k m : Nat), k < 8 → Clean n cst gam i R k m → ∃ t, topW n cst gam i tl 8 = some t ∧ (wayO cst gam i R k m).less t = false := fun k m hk hC => h.all k m (by omega) hC
  obtain ⟨k, hk, hc⟩ := hf
  have hm := runC_max cst k (n - i) i 1 (by omega) (fun t ht => by obtain rfl : t = 0 := by omega
                                                                   exact hc)
  obtain ⟨m', hC, _⟩ := clean_le hg (by omega) hR (k := (k : Int)) (by omega) (Nat.le_refl 1) hm
  obtain ⟨t, ht, _⟩ := hall k m' hk hC
  refine ⟨t, ht, (h.is t ht).1, (h.is t ht).2, fun s c hs => ?_⟩
  obtain ⟨k2, m2, hk2, hC2, hl2⟩ := any_le hg hi hR hs
  obtain ⟨t2, ht2, h3⟩ := hall k2 m2 hk2 hC2
  rw [ht] at ht2
  cases ht2
  exact Way.le_trans h3 hl2
theorem Opt.last : Opt n cst gam n ⟨0, [], []⟩ := ⟨.nil, rfl, fun s c h => by
  cases h with
  | nil => rfl
  | @cons _ k m s c h0 h8 h1 hn hf hd hs => omega⟩
theorem waysW_opt (hg : ∀ a b, 1 ≤ a → 1 ≤ b → gam (a + b) < gam a + gam b + 3) (hf : ∀ j, j < n → ∃ k : Nat, k < 8 ∧ 0 ≤ cst j k) : ∀ q, q ≤ n → ∀ p, p ≤ q → Opt n cst gam (n - q + p) ((waysW n cst gam q).getD p default)
  | 0, _, p, hp => by
    obtain rfl : p = 0 := by omega
    exact Opt.last
  | q + 1, hq, p, hp => by
    have ih := waysW_opt hg hf q (by omega)
    cases p with
    | zero =>
      obtain ⟨t, ht, hO⟩ := topW_opt (n := n) (cst := cst) (gam := gam) (i := n - (q + 1)) (R := fun j => (waysW n cst gam q).getD (j - (n - q)) default) (tl := waysW n cst gam q) hg (fun m hm => by rw [show n - (q + 1) + (m + 1) - (n - q) = m by omega]) (by omega) (fun j h1 h2 => by
        have := ih (j - (n - q)) (by omega)
        rwa [show n - q + (j - (n - q)) = j by omega] at this) (hf _ (by omega))
      show Opt n cst gam (n - (q + 1)) ((topW n cst gam (n - (q + 1)) (waysW n cst gam q) 8).getD default)
      rw [ht]; exact hO
    | succ p =>
      have := ih p (by omega)
      rw [show n - q + p = n - (q + 1) + (p + 1) by omega] at this
      exact this

theorem Opt.same {a b : Way} (ha : Opt n cst gam i a) (hb : Opt n cst gam i b) : a.cost = b.cost ∧ a.books = b.books := by
  have h1 := ha.least _ _ hb.is
  have h2 := hb.least _ _ ha.is
  rw [← hb.books] at h1
  rw [← ha.books] at h2
  have h3 := Way.le_cost h1
  have h4 := Way.le_cost h2
  simp only at h3 h4
  have e : a.cost = b.cost := by omega
  refine ⟨e, ?_⟩
  unfold Way.less at h1 h2
  rw [if_pos e.symm] at h1
  rw [if_pos e] at h2
  exact lexB_le_anti _ _ h2 h1

/-- More than any sections cost. -/
def farC : Int := 1099511627776
/-- What was asked of the costs. -/
structure Fair (n : Nat) (cst : Nat → Int → Int) (gam : Nat → Nat) : Prop where
  sub : ∀ a b, 1 ≤ a → 1 ≤ b → gam (a + b) < gam a + gam b + 3
  small : ∀ i s c, Ways n cst gam i s c → c < farC
  fit : ∀ j, j < n → ∃ k : Nat, k < 8 ∧ 0 ≤ cst j k
theorem Ways.pos {s : List (Int × Int)} {c : Int} (h : Ways n cst gam i s c) : 0 ≤ c := by
  induction h with
  | nil => omega
  | @cons i k m s c h0 h8 h1 hn hf hd hs ih =>
    have : ∀ m, (∀ t, t < m → 0 ≤ cst (i + t) k) → 0 ≤ sumK cst i k m := by
      intro m
      induction m with
      | zero => intro _; simp [sumK]
      | succ m ih2 =>
        intro h
        have h3 := ih2 (fun t ht => h t (by omega))
        have h4 := h m (by omega)
        simp only [sumK]; omega
    have := this m hf
    omega
end Go.Proofs.YtmcdgmiheklbeaaDoor

namespace Go.Proofs.YtmcdgmiheklbeaaDoor
open Go.RowKit

theorem lstK_first (l : List Int) : ∀ k, (lstK l k = (-1, 0) ∧ ∀ n, n < k → fitB n l = false) ∨
    ∃ b, b < k ∧ fitB b l = true ∧ lstK l k = ((b : Int), ((rowK b l).length : Int)) ∧ (∀ n, n < k → fitB n l = true → (rowK b l).length ≤ (rowK n l).length) ∧ (∀ n, n < b → fitB n l = true → (rowK b l).length < (rowK n l).length)
  | 0 => .inl ⟨rfl, fun n h => by omega⟩
  | k + 1 => by
    have ih := lstK_first l k
    have e : lstK l (k + 1) = if fitB k l = true then (if (lstK l k).1 < 0 ∨ ((rowK k l).length : Int) < (lstK l k).2 then ((k : Int), ((rowK k l).length : Int)) else lstK l k) else lstK l k := rfl
    by_cases hf : fitB k l = true
    · rw [e, if_pos hf]
      right
      rcases ih with ⟨h1, h2⟩ | ⟨b, hb, hfb, h1, h2, h3⟩
      · rw [h1, if_pos (.inl (by decide))]
        refine ⟨k, by omega, hf, rfl, fun n hn hfn => ?_, fun n hn hfn => ?_⟩
        · rcases Nat.lt_or_ge n k with h | h
          · rw [h2 n h] at hfn; cases hfn
          · obtain rfl : n = k := by omega
            exact Nat.le_refl _
        · rw [h2 n hn] at hfn; cases hfn
      · rw [h1]
        by_cases h4 : (rowK k l).length < (rowK b l).length
        · rw [if_pos (.inr (by show ((rowK k l).length : Int) < ((rowK b l).length : Int); omega))]
          refine ⟨k, by omega, hf, rfl, fun n hn hfn => ?_, fun n hn hfn => ?_⟩
          · rcases Nat.lt_or_ge n k with h | h
            · have := h2 n h hfn; omega
            · obtain rfl : n = k := by omega
              exact Nat.le_refl _
          · have := h2 n hn hfn; omega
        · rw [if_neg (fun h => h.elim (fun h => by have h : (b : Int) < 0 := h; omega) (fun h => by have h : ((rowK k l).length : Int) < ((rowK b l).length : Int) := h; omega))]
          refine ⟨b, by omega, hfb, rfl, fun n hn hfn => ?_, h3⟩
          rcases Nat.lt_or_ge n k with h | h
          · exact h2 n h hfn
          · obtain rfl : n = k := by omega
            omega
    · rw [e, if_neg hf]
      rcases ih with ⟨h1, h2⟩ | ⟨b, hb, hfb, h1, h2, h3⟩
      · refine .inl ⟨h1, fun n hn => ?_⟩
        rcases Nat.lt_or_ge n k with h | h
        · exact h2 n h
        · obtain rfl : n = k := by omega
          simpa using hf
      · refine .inr ⟨b, by omega, hfb, h1, fun n hn hfn => ?_, h3⟩
        rcases Nat.lt_or_ge n k with h | h
        · exact h2 n h hfn
        · obtain rfl : n = k := by omega
          exact absurd hfn hf
theorem best_first {l : List Int} (hq : quantB l = true) : ∃ b, b < 8 ∧ fitB b l = true ∧ bestV l = ((b : Int), ((rowK b l).length : Int)) ∧ (∀ n, n < 8 → fitB n l = true → (rowK b l).length ≤ (rowK n l).length) ∧ (∀ n, n < b → fitB n l = true → (rowK b l).length < (rowK n l).length) := by
  have e : bestV l = lstK l 8 := by unfold bestV; rw [if_neg (by simp [hq]), lstK_8]
  rcases lstK_first l 8 with ⟨_, h2⟩ | h
  · have := h2 7 (by omega); rw [fitB_7] at this; cases this
  · rw [e]; exact h
theorem bkC_at {l : List Int} (hq : quantB l = true) (n : Nat) (h8 : n < 8) : checkedK (n : Int) l = 0 ∧ fitsV (n : Int) l = fitB n l ∧ bkC (n : Int) l = if fitB n l = true then (((rowK n l).length : Int), 0) else (0, 4) := by
  have hc : checkedK (n : Int) l = 0 := by unfold checkedK; rw [if_neg (by omega), if_neg (by simp [hq])]
  refine ⟨hc, ?_, ?_⟩
  · unfold fitsV; rw [hc, if_neg (by simp), Int.toNat_natCast]
  · unfold bkC; rw [hc, if_neg (by simp), Int.toNat_natCast]
    cases fitB n l <;> simp
end Go.Proofs.YtmcdgmiheklbeaaDoor

namespace Go.Proofs.YtmcdgmiheklbeaaDoor
open Go.RowKit

/-- What a band costs in a book; below 0: it does not fit. -/
def cstV (ws l : List Int) (j : Nat) (k : Int) : Int := if (bkC k (bndL ws l j)).2 = 0 then (bkC k (bndL ws l j)).1 else -1
theorem cstV_ok {ws l : List Int} {j : Nat} {k : Int} (h : 0 ≤ cstV ws l j k) : (bkC k (bndL ws l j)).2 = 0 ∧ cstV ws l j k = ((bkW k (bndL ws l j)).length : Int) := by
  unfold cstV at h ⊢
  split at h
  · rename_i e
    rw [if_pos e]
    exact ⟨e, bkC_len _ _⟩
  · omega
theorem cstV_fit {ws l : List Int} {j : Nat} {k : Int} (h : (bkC k (bndL ws l j)).2 = 0) : cstV ws l j k = ((bkW k (bndL ws l j)).length : Int) := by
  unfold cstV; rw [if_pos h, bkC_len]
theorem log2_max {a b : Nat} (ha : 1 ≤ a) (hb : 1 ≤ b) : Nat.log2 (a + b) ≤ max (Nat.log2 a) (Nat.log2 b) + 1 := by
  have h1 : a + b < 2 ^ (max (Nat.log2 a) (Nat.log2 b) + 2) := by
    have h2 := Nat.lt_log2_self (n := a)
    have h3 := Nat.lt_log2_self (n := b)
    have h4 : 2 ^ (Nat.log2 a + 1) ≤ 2 ^ (max (Nat.log2 a) (Nat.log2 b) + 1) := Nat.pow_le_pow_right (by decide) (by omega)
    have h5 : 2 ^ (Nat.log2 b + 1) ≤ 2 ^ (max (Nat.log2 a) (Nat.log2 b) + 1) := Nat.pow_le_pow_right (by decide) (by omega)
    have h6 : 2 ^ (max (Nat.log2 a) (Nat.log2 b) + 2) = 2 * 2 ^ (max (Nat.log2 a) (Nat.log2 b) + 1) := by rw [show max (Nat.log2 a) (Nat.log2 b) + 2 = max (Nat.log2 a) (Nat.log2 b) + 1 + 1 by omega, Nat.pow_succ]; omega
    omega
  have := (Nat.log2_lt (n := a + b) (k := max (Nat.log2 a) (Nat.log2 b) + 2) (by omega)).2 h1
  omega
theorem gamN_sub (a b : Nat) (ha : 1 ≤ a) (hb : 1 ≤ b) : gamN (a + b) < gamN a + gamN b + 3 := by
  have := log2_max ha hb
  unfold gamN
  omega
theorem bandsQ {l : List Int} (ws : List Int) (hq : quantB l = true) (j : Nat) : quantB (bndL ws l j) = true := by
  unfold quantB at hq ⊢
  rw [List.all_eq_true] at hq ⊢
  exact fun v hv => hq v (List.mem_of_mem_drop (List.mem_of_mem_take hv))
theorem sureE_facts {ws l : List Int} (h : sureE ws l = 0) : ws.all okV = true ∧ ws.length ≤ 128 ∧ sumV ws ws.length = l.length ∧ quantB l = true := by
  unfold sureE at h
  split at h
  · rename_i h1
    split at h
    · rename_i h2
      exact ⟨h1.1, h1.2.1, h1.2.2, h2⟩
    · omega
  · omega
theorem Ways.bound {ws l : List Int} (hok : ws.all okV = true) (h128 : ws.length ≤ 128) {i : Nat} {s : List (Int × Int)} {c : Int} (h : Ways ws.length (cstV ws l) gamN i s c) : i ≤ ws.length ∧ c ≤ 14000 * ((ws.length - i : Nat) : Int) := by
  induction h with
  | nil => exact ⟨Nat.le_refl _, by omega⟩
  | @cons i k m s c h0 h8 h1 hn hf hd hs ih =>
    have hk : ∀ q, q ≤ m → sumK (cstV ws l) i k q ≤ 13312 * (q : Int) := by
      intro q
      induction q with
      | zero => intro _; simp [sumK]
      | succ q ih2 =>
        intro hq
        have h3 := ih2 (by omega)
        obtain ⟨_, h4⟩ := cstV_ok (hf q (by omega))
        have h5 := bkW_len k (bndL ws l (i + q))
        have h6 := bndL_le ws l (i + q)
        obtain ⟨_, _, h7⟩ := okV_at hok (i + q) (by omega)
        simp only [sumK]
        omega
    have h2 := hk m (Nat.le_refl _)
    have h3 := gamN_le m (by omega)
    refine ⟨by omega, ?_⟩
    have := ih.2
    omega
theorem fairV {ws l : List Int} (h : sureE ws l = 0) : Fair ws.length (cstV ws l) gamN := by
  obtain ⟨hok, h128, hsum, hq⟩ := sureE_facts h
  refine ⟨gamN_sub, fun i s c hw => ?_, fun j hj => ⟨7, by decide, ?_⟩⟩
  · have := (hw.bound hok h128).2
    unfold farC
    omega
  · have h1 := (bkC_at (bandsQ ws hq j) 7 (by decide)).2.2
    rw [fitB_7] at h1
    have h2 := cstV_fit (ws := ws) (l := l) (j := j) (k := ((7 : Nat) : Int)) (by rw [h1]; rfl)
    rw [h2]; omega
/-- Books of sections, from a list of books on. -/
theorem bks_ways {ws l : List Int} (h128 : ws.length ≤ 128) {i : Nat} {s : List (Int × Int)} {c : Int} (h : Ways ws.length (cstV ws l) gamN i s c) : ∀ o : List Int, o.length = i → s.foldl bksS (some o) = some (o ++ bksO s) ∧ (bksO s).length = ws.length - i := by
  induction h with
  | nil => intro o ho; exact ⟨by simp [bksO], by simp [bksO]⟩
  | @cons i k m s c h0 h8 h1 hn hf hd hs ih =>
    intro o ho
    have e : bksS (some o) (k, (m : Int)) = some (o ++ List.replicate m k) := by
      show (if k < 0 ∨ 8 ≤ k ∨ (m : Int) < 1 ∨ 128 - (o.length : Int) < (m : Int) then none else some (o ++ List.replicate (m : Int).toNat k)) = _
      rw [if_neg (by omega), Int.toNat_natCast]
    obtain ⟨h2, h3⟩ := ih (o ++ List.replicate m k) (by rw [List.length_append, List.length_replicate, ho])
    refine ⟨?_, ?_⟩
    · rw [List.foldl_cons, e, h2]; simp [bksO]
    · show (List.replicate (m : Int).toNat k ++ bksO s).length = _
      rw [List.length_append, List.length_replicate, h3, Int.toNat_natCast]; omega
theorem ways_books {ws l : List Int} (h128 : ws.length ≤ 128) {s : List (Int × Int)} {c : Int} (h : Ways ws.length (cstV ws l) gamN 0 s c) : booksE s = 0 ∧ booksL s = bksO s ∧ (booksL s).length = ws.length := by
  obtain ⟨h1, h2⟩ := bks_ways h128 h [] rfl
  have h3 : bksP s = some (bksO s) := h1
  refine ⟨by unfold booksE; rw [h3]; rfl, by unfold booksL; rw [h3]; rfl, ?_⟩
  unfold booksL
  rw [h3]
  show (bksO s).length = _
  omega
theorem ways_adj {n : Nat} {cst : Nat → Int → Int} {gam : Nat → Nat} {i : Nat} {s : List (Int × Int)} {c : Int} (h : Ways n cst gam i s c) : ∀ q, q + 1 < s.length → (nth (0, 0) s (q + 1)).1 ≠ (nth (0, 0) s q).1 := by
  induction h with
  | nil => intro q hq; simp at hq
  | @cons i k m s c h0 h8 h1 hn hf hd hs ih =>
    intro q hq
    cases q with
    | zero =>
      cases s with
      | nil => simp at hq
      | cons y s => exact hd y rfl
    | succ q => exact ih q (by simpa using hq)
theorem ways_fit {n : Nat} {cst : Nat → Int → Int} {gam : Nat → Nat} {i : Nat} {s : List (Int × Int)} {c : Int} (h : Ways n cst gam i s c) : ∀ t, t < (bksO s).length → 0 ≤ cst (i + t) (nth 0 (bksO s) t) := by
  induction h with
  | nil => intro t ht; simp [bksO] at ht
  | @cons i k m s c h0 h8 h1 hn hf hd hs ih =>
    intro t ht
    have e : bksO ((k, (m : Int)) :: s) = List.replicate m k ++ bksO s := by simp [bksO]
    rw [e] at ht ⊢
    rw [List.length_append, List.length_replicate] at ht
    rcases Nat.lt_or_ge t m with h2 | h2
    · rw [nth_append_left _ _ _ _ (by rw [List.length_replicate]; exact h2), nth_eq 0 _ t (by rw [List.length_replicate]; exact h2), List.getElem_replicate]
      exact hf t h2
    · rw [nth_append_right _ _ _ _ (by rw [List.length_replicate]; exact h2), List.length_replicate]
      have := ih (t - m) (by omega)
      rwa [show i + m + (t - m) = i + t by omega] at this
/-- Right sections from a band on, of which cost counts so much. -/
theorem cost_ways {ws l : List Int} {s : List (Int × Int)} (h : (costV ws l s).2 = true) : ∀ q, q ≤ s.length → ∃ c, Ways ws.length (cstV ws l) gamN (secA s (s.length - q)) (s.drop (s.length - q)) c ∧ c + (hdN s (s.length - q) : Int) + (bdN ws l (booksL s) (secA s (s.length - q)) : Int) = (costV ws l s).1
  | 0, _ => by
    obtain ⟨h1, h2, h3, h4, h5, h6⟩ := costV_ok h
    refine ⟨0, ?_, ?_⟩
    · rw [Nat.sub_zero, List.drop_length, h5]; exact .nil
    · rw [Nat.sub_zero, h6, secP_len h1 s.length (Nat.le_refl _)]; simp
  | q + 1, hq => by
    obtain ⟨h1, h2, h3, h4, h5, h6⟩ := costV_ok h
    obtain ⟨c, hw, hc⟩ := cost_ways h q (by omega)
    obtain ⟨p, hp⟩ : ∃ p, s.length - (q + 1) = p := ⟨_, rfl⟩
    rw [show s.length - q = p + 1 by omega] at hw hc
    rw [hp]
    have hpl : p < s.length := by omega
    obtain ⟨sh1, sh2⟩ := bks_shape h1
    obtain ⟨b0, b8, b1, _⟩ := sh2 p hpl
    obtain ⟨o, ho, hol, hon⟩ := bks_at h1 s.length (Nat.le_refl _)
    rw [List.take_length] at ho
    have hbo : booksL s = o := by unfold booksL; rw [ho]; rfl
    obtain ⟨x1, hx1⟩ : ∃ x1, (nth (0, 0) s p).1 = x1 := ⟨_, rfl⟩
    obtain ⟨m, hm⟩ : ∃ m : Nat, (nth (0, 0) s p).2 = (m : Int) := ⟨(nth (0, 0) s p).2.toNat, by omega⟩
    have hsec : secA s (p + 1) = secA s p + m := by rw [secA_succ, hm, Int.toNat_natCast]
    have hle : secA s p + m ≤ ws.length := by
      have := secA_mono s (p + 1) (s.length - (p + 1))
      rw [show p + 1 + (s.length - (p + 1)) = s.length by omega, h5] at this
      omega
    have hbk : ∀ t, t < m → nth 0 (booksL s) (secA s p + t) = x1 := fun t ht => by rw [hbo, hon p hpl t (by rw [hm, Int.toNat_natCast]; exact ht), hx1]
    have hfit : ∀ t, t < m → (bkC x1 (bndL ws l (secA s p + t))).2 = 0 := fun t ht => by
      have h7 := List.all_eq_true.1 h4 (secA s p + t) (List.mem_range.2 (by omega))
      have h8 : (bdC ws l (booksL s) (secA s p + t)).2 = 0 := of_decide_eq_true h7
      unfold bdC at h8
      rwa [hbk t ht] at h8
    have hsum : ∀ t, t ≤ m → sumK (cstV ws l) (secA s p) x1 t + (bdN ws l (booksL s) (secA s p) : Int) = (bdN ws l (booksL s) (secA s p + t) : Int) := by
      intro t
      induction t with
      | zero => intro _; simp [sumK]
      | succ t ih =>
        intro ht
        have h9 := ih (by omega)
        rw [← Nat.add_assoc, bdN_succ, hbk t (by omega)]
        simp only [sumK]
        rw [cstV_fit (hfit t (by omega))]
        omega
    have hdr : s.drop p = (x1, (m : Int)) :: s.drop (p + 1) := by
      rw [List.drop_eq_getElem_cons hpl, ← nth_eq (0, 0) s p hpl, ← hx1, ← hm]
    have hsm := hsum m (Nat.le_refl _)
    rw [hsec] at hw hc
    refine ⟨3 + (gamN m : Int) + sumK (cstV ws l) (secA s p) x1 m + c, ?_, ?_⟩
    · rw [hdr]
      refine Ways.cons (by omega) (by omega) (by omega) hle (fun t ht => by rw [cstV_fit (hfit t ht)]; omega) (fun y hy => ?_) hw
      have hpl2 : p + 1 < s.length := by
        rcases Nat.lt_or_ge (p + 1) s.length with h7 | h7
        · exact h7
        · rw [List.drop_of_length_le h7] at hy; simp at hy
      rw [List.drop_eq_getElem_cons hpl2, ← nth_eq (0, 0) s (p + 1) hpl2] at hy
      cases hy
      have h7 := List.all_eq_true.1 h3 (p + 1) (List.mem_range.2 hpl2)
      simp at h7
      rw [← hx1]; exact h7
    · rw [hdN_succ, hm, Int.toNat_natCast] at hc
      omega
theorem ways_of_cost {ws l : List Int} {s : List (Int × Int)} (h : (costV ws l s).2 = true) : Ways ws.length (cstV ws l) gamN 0 s (costV ws l s).1 := by
  obtain ⟨c, h1, h2⟩ := cost_ways h s.length (Nat.le_refl _)
  rw [Nat.sub_self, List.drop_zero] at h1
  rw [Nat.sub_self] at h2
  have h3 : hdN s 0 = 0 := rfl
  have h4 : secA s 0 = 0 := rfl
  rw [h4] at h1 h2
  have h5 : bdN ws l (booksL s) 0 = 0 := rfl
  rw [h3, h5] at h2
  have : c = (costV ws l s).1 := by omega
  rwa [this] at h1
theorem Ways.det {n : Nat} {cst : Nat → Int → Int} {gam : Nat → Nat} {i : Nat} {s : List (Int × Int)} {c : Int} (h : Ways n cst gam i s c) : ∀ d, Ways n cst gam i s d → c = d := by
  induction h with
  | nil =>
    intro d hd
    generalize hx : ([] : List (Int × Int)) = x at hd
    cases hd with
    | nil => rfl
    | @cons _ _ _ _ _ _ _ _ _ _ _ _ => cases hx
  | @cons i k m s c h0 h8 h1 hn hf hd hs ih =>
    intro d h2
    generalize hx : (k, (m : Int)) :: s = x at h2
    cases h2 with
    | nil => cases hx
    | @cons _ k2 m2 s2 c2 g0 g8 g1 gn gf gd gs =>
      simp only [List.cons.injEq, Prod.mk.injEq] at hx
      obtain ⟨⟨rfl, hm⟩, rfl⟩ := hx
      obtain rfl : m = m2 := by omega
      rw [ih _ gs]
theorem cost_of_ways {ws l : List Int} (h128 : ws.length ≤ 128) {s : List (Int × Int)} {c : Int} (h : Ways ws.length (cstV ws l) gamN 0 s c) : costV ws l s = (c, true) := by
  obtain ⟨h1, h2, h3⟩ := ways_books h128 h
  have h4 : adjK s = true := adjK_yes fun i hi => by
    cases i with
    | zero => exact .inl rfl
    | succ q => exact .inr (by rw [Nat.add_sub_cancel]; exact ways_adj h q hi)
  have h5 : bdOK ws l (booksL s) = true := bdOK_yes fun j hj => by
    have h6 := ways_fit h j (by rw [← h2, h3]; exact hj)
    rw [Nat.zero_add, ← h2] at h6
    exact (cstV_ok h6).1
  have h6 : (costV ws l s).2 = true := by unfold costV; rw [if_pos ⟨h1, h3, h4, h5⟩]
  rw [h.det _ (ways_of_cost h6), ← h6]
end Go.Proofs.YtmcdgmiheklbeaaDoor
