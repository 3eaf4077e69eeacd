/- section: read: what it returns, and where the reader is then. · section: Read: what it returns, and where the reader is then. · section: the law's few. · section: Write, plain: the bits that sections have. · section: a book's list written within a call that writes. · ranges over a function inside a loop: what a frame's marks ask for at the end. · section: Write where it writes nothing. · section: choosing, plain: the best list of sections, as the program finds it and as the document does. · Plain laws of layer 17 (book): the first book of the least cost; two lists, one behind the other. No program is named. · section: choosing, plain: right sections are those that cost counts; what each band costs in each book. · section: Write where it writes. · section: Write: what it returns and writes. · The document's rows of bits: Bits; rows of bools compared; the statements' Holds, Right, Few: what each call returns. -/
import Derived.Test.YtmcdgmiheklbeaaGreatDoorKk
import Derived.Test.YtmcdgmiheklbeaaGreatDoorKj
import Derived.Test.YtmcdgmiheklbeaaGreatDoorKf
import Derived.Test.YtmcdgmiheklbeaaGreatDoorKe
namespace Go.Proofs.YtmcdgmiheklbeaaGreatDoor
open Go.RowKit
attribute [local go_sem] Oper.semAt_some

theorem OwnS.keepU {base g : Nat} {w w' : World} {v : Value} {xs : List (Int × Int)} (h : OwnS base w v xs) (hu : Upd (fun x => x = g) w w') (hg : g < base) : OwnS base w' v xs :=
  h.keep (hu.keep (ok := fun x => x ≠ g) fun _ h => h) (fun b e => by have := h.base_le b e; omega) (fun _ h => h.elim) ⟨hu.os, hu.tape, hu.output⟩
theorem ownI_keepU {base g : Nat} {w w' : World} {v : Value} {xs : List Int} (h : OwnI 3 .i64 base w v xs) (hu : Upd (fun x => x = g) w w') (hg : g < base) : OwnI 3 .i64 base w' v xs :=
  ownI_keep h (hu.keep (ok := fun x => x ≠ g) fun _ h => h) (fun x e => by have := h.base_le x e; omega)

theorem sumV_add (ws : List Int) (a : Nat) : ∀ k, sumV ws (a + k) = sumV ws a + sumTo k fun i => widV ws (a + i)
  | 0 => rfl
  | k + 1 => by rw [← Nat.add_assoc, sumV_succ, sumV_add ws a k, sumTo_succ]; omega
set_option maxHeartbeats 8000000 in
set_option maxRecDepth 100000 in
theorem read18_any (o : Nat → Prop) (g i : Nat) (A : Option Addr) (c : Nat) (ws : List Int) (l : List Bool) (w : World) (h : Rr o w g l i) (ho : ∀ x, o x → x < w.heap.size) (hS : Sl (kInt .i64) (fun x => x ≠ g) w A c ws) (hG : GF w) (hT : GT w) (ng : g ≠ 0) (nt : g ≠ 1) (hok : ws.all okV = true) (h128 : ws.length ≤ 128) :
    Calls Tryz.prog 51 #[.pointer (some ⟨g, 0, none⟩), .slice A ws.length c] w
      fun e w' => ∃ va vb, e = .returned (.tuple #[va, vb, .int .i64 (rdQ ws (l.drop i) ws.length 0 (-1) [] [] 0).2.2.1]) ∧ OwnI 3 .i64 w.heap.size w' va (rdQ ws (l.drop i) ws.length 0 (-1) [] [] 0).1 ∧ OwnS w.heap.size w' vb (rdQ ws (l.drop i) ws.length 0 (-1) [] [] 0).2.1
        ∧ (∃ j, Rr o w' g l j ∧ ((rdQ ws (l.drop i) ws.length 0 (-1) [] [] 0).2.2.1 = 0 → j = i + (rdQ ws (l.drop i) ws.length 0 (-1) [] [] 0).2.2.2)) ∧ Upd (fun x => x = g) w w' := by
  have hlt0 := h.lt
  have HLT := Lib.hid hlt0
  have HH := Lib.hid h
  have HO := Lib.hid ho
  have HS := Lib.hid hS
  have HGT := Lib.hid (fun W (hu : Upd (fun x => x = g) w W) => show GF W ∧ GT W from ⟨hG.keep (hu.keep (ok := fun x => x ≠ g) fun _ h => h) (Ne.symm ng), hT.keep (hu.keep (ok := fun x => x ≠ g) fun _ h => h) (Ne.symm nt)⟩)
  have HSK := Lib.hid (fun W (hu : Upd (fun x => x = g) w W) => hS.keep (hu.keep (ok := fun x => x ≠ g) fun _ h => h))
  have HOK := Lib.hid (fun j (hj : j < ws.length) => okV_at hok j hj)
  have HSV := Lib.hid (fun k (hk : k ≤ ws.length) => sumV_le (ws := ws) k hk (by
    rw [List.all_eq_true] at hok ⊢
    exact fun x hx => hok x (List.mem_of_mem_take hx)))
  have HNG := Lib.hid ng
  have H128 := Lib.hid h128
  have hlen := hS.len
  have HLC := Lib.hid (show ws.length ≤ c ∧ c ≤ 9223372036854775807 from ⟨hS.le, hS.cap⟩)
  obtain ⟨Q, hQ⟩ : ∃ Q, rdQ ws (l.drop i) ws.length 0 (-1) [] [] 0 = Q := ⟨_, rfl⟩
  have HQ0 := Lib.hid hQ
  rw [hQ]
  clear hQ h ho hS hG hT ng nt hok hlt0
  go_enter Tryz.func51, Tryz.ntmps51
  go_wp2
  go_loopw [7, 8, 9, 10] (fun va vb lv av wr => ∃ (f a m : Nat) (last : Int) (vs : List Int) (ss : List (Int × Int)), a ≤ ws.length ∧ av = .int .i64 (a : Int) ∧ lv = .int .i64 last ∧ Hid (rdQ ws (l.drop i) f a last vs ss m = Q) ∧ Hid (ws.length ≤ f + a ∧ vs.length = sumV ws a ∧ ss.length ≤ a) ∧ Hid (OwnI 3 .i64 w.heap.size wr va vs) ∧ Hid (OwnS w.heap.size wr vb ss) ∧ Hid (∀ x, va.ownBlock = some x → vb.ownBlock ≠ some x) ∧ Hid (Rr o wr g l (i + m)) ∧ Hid (Upd (fun x => x = g) w wr)) (fun _ _ _ av _ => ws.length - (intOf av).toNat)
  case atStart => exact ⟨ws.length, 0, 0, -1, [], [], Nat.zero_le _, rfl, rfl, HQ0, Lib.hid ⟨Nat.le_refl _, rfl, Nat.le_refl _⟩, Lib.hid (OwnI.nil _ _ _ _), Lib.hid (OwnK.nil _ _ _ _ _), Lib.hid (fun x e => by cases e), HH, Lib.hid (Upd.refl _ _)⟩
  case round =>
    obtain ⟨f, a, m, last, vs, ss, ha, rfl, rfl, hQ, hF, hV, hB, hAP, hR, hU⟩ := hrel
    by_cases hlt : a < ws.length
    · have hai : (a : Int) < (ws.length : Int) := by omega
      have hwl : IntKind.i64.wrap ((ws.length : Int) - (a : Int)) = ((ws.length - a : Nat) : Int) := by rw [IntWalk.i64_in _ (by omega)]; omega
      have HC := Lib.hid (head_any o g (i + m) ((ws.length - a : Nat) : Int) last l wr hR.out (fun x hx => by have := HO.out x hx; have := hU.out.size; omega))
      obtain ⟨f', rfl⟩ : ∃ f', f = f' + 1 := ⟨f - 1, by have := hF.out.1; omega⟩
      have HQH := Lib.hid (rdQ_head ws (l.drop i) f' a last vs ss m (by omega))
      have HQS := Lib.hid (fun b n cnt => rdQ_step ws (l.drop i) f' a last vs ss m (by omega) (b := b) (n := n) (c := cnt))
      rw [hQ.out, List.drop_drop] at HQH HQS
      have hho := headV_ok (left := ((ws.length - a : Nat) : Int)) (last := last) (D := l.drop (i + m))
      generalize headV ((ws.length - a : Nat) : Int) last (l.drop (i + m)) = H at *
      obtain ⟨⟨hb, hn⟩, E, cnt⟩ := H
      simp only at HC HQH HQS hho
      by_cases hE : E = 0
      · subst hE
        obtain ⟨b, n, hbn, hb8, hn1, hnl, hbne⟩ := hho rfl
        cases hbn
        have HX := Lib.hid (HQS.out _ _ _ rfl)
        rw [Int.toNat_natCast, List.drop_drop] at HX
        have hnle : a + n ≤ ws.length := by omega
        obtain ⟨ad, rfl, _⟩ := rd_int (HSK.out _ hU.out).any a hlt
        have hcap := HLC.out.1
        have hcut := fun W => cut_grp a n ws.length c ad hn1 hnle hcap W
        have hwp : IntKind.i64.wrap ((a : Int) + (n : Int)) = ((a + n : Nat) : Int) := by rw [Int.natCast_add]; exact IntWalk.i64_in _ (by omega)
        obtain ⟨q, hq⟩ : ∃ q, a + n = q := ⟨_, rfl⟩
        rw [hq] at hcut hwp hnle HX
        have HQ := Lib.hid hq
        obtain ⟨m1, hm1⟩ : ∃ m1, m + cnt = m1 := ⟨_, rfl⟩
        rw [hm1] at HX
        have HM1 := Lib.hid hm1
        have HBN := Lib.hid (And.intro hb8 hn1)
        clear HQH HQS hho hq hm1 hb8 hbne hnl
        go_wp2_with (first
          | (go_at_call 80; refine HC.out.mono ?_; rintro e W2 ⟨rfl, hr2, hu2⟩))
        have hba := below_alloc (Below.refl W2.heap.size W2) (.cells #[.int .i64 (b : Int), .int .i64 (n : Int)] 47)
        have hU3 := (hU.out.trans hu2 fun _ _ h => h).trans (Upd.of_below hba (fun x => x = g)) fun _ _ h => h
        have hU2 := hU.out.trans hu2 fun _ _ h => h
        have hu3 := hu2.trans (Upd.of_below hba (fun x => x = g)) fun _ _ h => h
        have HI := Lib.hid (ownI_keepU hV.out hu3 HLT.out)
        have HSS := Lib.hid (OwnS.keepU hB.out hu3 HLT.out)
        have HB11 : Hid (Blk (W2.alloc (.cells #[.int .i64 (b : Int), .int .i64 (n : Int)] 47)) W2.heap.size #[.int .i64 (b : Int), .int .i64 (n : Int)] 47) := Lib.hid (heap_alloc_new W2 _)
        have HAP := Lib.hid (show ∀ x, u7.ownBlock = some x → u8.ownBlock ≠ some x ∧ x ≠ W2.heap.size from fun x e => ⟨hAP.out x e, by have := (hV.out.lt x e).2; have := hu2.size; omega⟩)
        have HSZ := Lib.hid (show w.heap.size ≤ W2.heap.size from hU2.size)
        have HSB := Lib.hid (show ∀ x, u8.ownBlock = some x → x < W2.heap.size from fun x e => by have := (hB.out.lt x e).2; have := hu2.size; omega)
        have HR3 := Lib.hid (show Rr o (W2.alloc (.cells #[.int .i64 (b : Int), .int .i64 (n : Int)] 47)) g l (i + m1 + 0) from by
          have h9 := hr2.below hba
          rw [Nat.add_assoc, HM1.out] at h9
          exact h9)
        have HU3 := Lib.hid hU3
        have HFV := Lib.hid hF.out
        have HNXT := Lib.hid (fun k (L : List Int) m (h9 : rbP (b : Int) ws a (l.drop (i + m1)) k = (L, 0, m)) => rbP_next (b : Int) ws a (l.drop (i + m1)) k h9)
        have HERR := Lib.hid (rbP_err (b : Int) ws a (l.drop (i + m1)))
        have HRL := Lib.hid (rbP_len (b : Int) ws a (l.drop (i + m1)))
        have HRP := Lib.hid (show rbP (b : Int) ws a (l.drop (i + m1)) 0 = ([], 0, 0) from rfl)
        generalize (W2.alloc (.cells #[.int .i64 (b : Int), .int .i64 (n : Int)] 47)) = W3 at *
        clear hba hU3 hU2 hu3 hU hu2 hr2 hV hB hAP hR hF HC hQ
        go_loopw [7, 46] (fun vv iv wx => ∃ (k m2 : Nat) (L : List Int), k ≤ n ∧ iv = .int .i64 (k : Int) ∧ Hid (rbP (b : Int) ws a (l.drop (i + m1)) k = (L, 0, m2)) ∧ Hid (OwnI 3 .i64 w.heap.size wx vv (vs ++ L)) ∧ Hid (OwnS w.heap.size wx u8 ss) ∧ Hid (∀ x, vv.ownBlock = some x → u8.ownBlock ≠ some x ∧ x ≠ W2.heap.size) ∧ Hid (Rr o wx g l (i + m1 + m2)) ∧ Hid (Upd (fun x => x = g) w wx) ∧ Hid (Blk wx W2.heap.size #[.int .i64 (b : Int), .int .i64 (n : Int)] 47)) (fun _ iv _ => n - (intOf iv).toNat)
        case atStart => exact ⟨0, 0, [], Nat.zero_le _, rfl, HRP, by rw [List.append_nil]; exact HI, HSS, HAP, HR3, HU3, HB11⟩
        case round =>
          clear HRP HI HSS HAP HR3 HU3 HB11
          obtain ⟨k, m2, L, hk, rfl, hP, hI, hSS, hAP, hR, hU, hB11⟩ := hrel
          by_cases hkl : k < n
          · have hki : (k : Int) < (n : Int) := by omega
            have hq9 : a + n = q := HQ.out
            have hk1 : IntKind.i64.wrap ((k : Int) + 1) = ((k + 1 : Nat) : Int) := by rw [IntWalk.i64_in _ (by omega)]; omega
            obtain ⟨ad', e', k0⟩ := rd_int (HSK.out _ hU.out).any (a + k) (by omega)
            cases e'
            rw [← add_add] at k0
            have hGT := HGT.out _ hU.out
            have HC := Lib.hid (bRead_any o g (i + m1 + m2) (b : Int) (nth 0 ws (a + k)) l _ hR.out hGT.1 hGT.2 HNG.out)
            have hP2 := HNXT.out k L m2 hP.out
            rw [List.drop_drop] at hP2
            have hwk := HOK.out (a + k) (by omega)
            have hbl := fun h => brdL_len (n := (b : Int)) (m := nth 0 ws (a + k)) (D := l.drop (i + m1 + m2)) h
            have z0 := hB11.out.cell 0 rfl
            have hrl := HRL.out k (by rw [hP.out])
            rw [hP.out] at hrl
            have hsl := HSV.out (a + k) (by omega)
            have hsm := hsl
            obtain ⟨A7, c7, rfl⟩ := hI.out.slice
            obtain ⟨VL, hVL⟩ : ∃ VL, vs ++ L = VL := ⟨_, rfl⟩
            rw [hVL] at hI hAP ⊢
            have HVL := Lib.hid hVL
            have HK1 := Lib.hid hkl
            generalize nth 0 ws (a + k) = N0 at *
            generalize brdE (b : Int) N0 (l.drop (i + m1 + m2)) = E at *
            generalize brdL (b : Int) N0 (l.drop (i + m1 + m2)) = RL at *
            generalize brdN (b : Int) N0 (l.drop (i + m1 + m2)) = RN at *
            by_cases hE : E = 0
            · subst hE
              have HP2 := Lib.hid hP2
              have HLN := Lib.hid (show VL.length + RL.length ≤ 100000000 by
                rw [← hVL]
                have h1 := hbl rfl
                have h2 := HFV.out.2.1
                have h3 := HSV.out a (by omega)
                have h4 : L.length ≤ 128 * k := by
                  rw [hrl]
                  have : ∀ k', k' ≤ k → (sumTo k' fun i => widV ws (a + i)) ≤ 128 * k' := by
                    intro k' hk'
                    induction k' with
                    | zero => exact Nat.le_refl _
                    | succ k' ih =>
                      have h5 := ih (by omega)
                      have h6 := (HOK.out (a + k') (by omega)).2.2
                      rw [sumTo_succ]; omega
                  exact this k (Nat.le_refl _)
                rw [List.length_append]; omega)
              clear hrl hsl hsm hbl hwk hP2 hGT hkl hq9 hVL
              go_wp2_with (first
                | (go_at_call 81; refine HC.out.mono ?_; rintro e w4 ⟨v4, rfl, hO4, hr4, hu4⟩; obtain ⟨A4, c4, rfl, hs4⟩ := hO4.rd; have HS4 := Lib.hid hs4.any; have HI4 := Lib.hid (ownI_keepU hI.out hu4 HLT.out); have HR4 := Lib.hid hr4; have HU4 := Lib.hid hu4; have HSZ4 := Lib.hid (show w.heap.size ≤ w4.heap.size by have := hU.out.size; have := hu4.size; omega); clear hO4 hs4 hr4 hu4)
                | (at_builtin; (refine append_row (w0 := w4) w.heap.size rfl (.tmp 61) (.tmp 62) 22 3 .i64 8 rfl Tryz.underlying22 infoI (by decide) _ VL RL A4 c4 rfl rfl HI4.out HS4.out (Below.refl _ _) HSZ4.out (by have := HLN.out; omega) ?_); intro v1 w5 hO5 _ hg5 ha5; have HO5 := Lib.hid hO5; have HG5 := Lib.hid hg5; have HA5 := Lib.hid ha5; clear hO5 hg5 ha5))
              have hgu := Upd.of_grown (o := fun x => w.heap.size ≤ x) HG5.out (fun r e => HI4.out.base_le r e)
              go_roundw
              case rel =>
                refine ⟨k + 1, m2 + RN, L ++ RL, HK1.out, by first | rfl | go_num, HP2, by rw [← List.append_assoc, HVL.out]; exact HO5, ?_, ?_, ?_, ?_, ?_⟩
                · have h1 := OwnS.keepU hSS.out HU4.out HLT.out
                  exact Lib.hid (h1.keep (Keep.of_grown HG5.out) (fun x e e' => (hAP.out x e'.symm).1 e) (fun _ h => h.elim) ⟨HG5.out.1, HG5.out.2, HG5.out.3⟩)
                · refine Lib.hid fun x e => ?_
                  rcases HA5.out with h1 | ⟨y, h1, h2⟩
                  · rw [h1] at e; exact hAP.out x e
                  · rw [h1] at e; cases e
                    have h3 := hB11.out.lt
                    have h4 := HU4.out.size
                    exact ⟨fun e => by have := HSB.out _ e; omega, by omega⟩
                · rw [← Nat.add_assoc]
                  exact Lib.hid (HR4.out.upd hgu (fun x _ h9 h8 => by have := HO.out x h9; omega))
                · exact Lib.hid ((hU.out.trans HU4.out fun _ _ h => h).trans hgu fun x hx h9 => by omega)
                · have h1 := hB11.out.keep (HU4.out.keep (ok := fun x => x ≠ g) fun _ h => h) (by have := HLT.out; have := HSZ.out; omega)
                  exact Lib.hid (h1.keep (Keep.of_grown HG5.out) (fun e => (hAP.out _ e.symm).2 rfl))
              case measure => simp [intOf] <;> (have := HK1.out; omega)
            · have hne : (E == 0) = false := by simp [hE]
              have HE := Lib.hid hE
              have HXE := Lib.hid (show Q = ([], [], E, 0) by
                have h1 := HERR.out (k + 1) (by rw [hP2]; exact hE) n (by omega)
                rw [HX.out, h1, hP2, if_pos hE])
              clear hrl hsl hsm hbl hwk hP2 hGT hkl hq9 hE hVL
              go_wp2_with (first
                | (go_at_call 81; refine HC.out.mono ?_; rintro e w4 ⟨v4, rfl, hO4, hr4, hu4⟩))
              go_ret3
              rw [HXE.out]
              exact ⟨_, _, rfl, OwnI.nil _ _ _ _, OwnK.nil _ _ _ _ _, ⟨_, hr4, fun h => absurd h HE.out⟩, hU.out.trans hu4 fun _ _ h => h⟩
          · obtain rfl : k = n := by omega
            have HXN := HX.out
            rw [hP.out, if_neg (by simp)] at HXN
            have HXN := Lib.hid HXN
            have z0 := hB11.out.cell 0 rfl
            have z1 := hB11.out.cell 1 rfl
            have HVS := Lib.hid (show (vs ++ L).length = sumV ws (a + k) by
              have h1 := HRL.out k (by rw [hP.out])
              rw [hP.out] at h1
              rw [List.length_append, HFV.out.2.1, sumV_add, h1])
            have hsl : ss.length ≤ 128 := by have := HFV.out.2.2; have := H128.out; omega
            clear hkl
            go_wp2
            have hd := (Below.refl wr.heap.size wr).drew
            have hba := below2 hd (below_alloc (Below.refl _ _) (.cells #[.int .i64 (b : Int), .int .i64 (k : Int)] 47))
            have HF := Lib.hid (show ∀ W : World, Below wr.heap.size wr W → (W.cell? ⟨W2.heap.size, 0, none⟩ = some (.int .i64 (b : Int)) ∧ W.cell? ⟨W2.heap.size, 1, none⟩ = some (.int .i64 (k : Int))) from fun W hb => ⟨(hB11.out.below hb).cell 0 rfl, (hB11.out.below hb).cell 1 rfl⟩)
            clear z0 z1
            refine wp_region_G 12 (fun W => W.cell? ⟨W2.heap.size, 0, none⟩ = some (.int .i64 (b : Int)) ∧ W.cell? ⟨W2.heap.size, 1, none⟩ = some (.int .i64 (k : Int))) (by kernel_rfl) (HF.out _ hd) (fun hHeld => ?_)
            refine wpAnyG_takeL (i := 0) (.int .i64 (a : Int)) [12] rfl (by kernel_rfl) (fun _ _ _ h => h) hHeld (by rfl) ?_ ?_
            · (intro W' hSw; (try dsimp only at hSw); go_simp)
            try simp only [Act.put, List.setIfInBounds_toArray, List.set_cons_zero, List.set_cons_succ]
            refine wpAnyG_takeL (i := 1) (.pointer (some ⟨W2.heap.size, 1, none⟩)) [12] rfl (by kernel_rfl) (fun _ _ _ h => h) hHeld (by rfl) ?_ ?_
            · (intro W' hSw; (try dsimp only at hSw); go_simp)
            try simp only [Act.put, List.setIfInBounds_toArray, List.set_cons_zero, List.set_cons_succ]
            refine wpAnyG_takeL (i := 2) (.int .i64 (k : Int)) [12] rfl (by kernel_rfl) (fun _ _ _ h => h) hHeld (by rfl) ?_ ?_
            · (intro W' hSw; (try dsimp only at hSw); go_simp)
            try simp only [Act.put, List.setIfInBounds_toArray, List.set_cons_zero, List.set_cons_succ]
            refine wpAnyG_takeL (i := 3) (.int .i64 (q : Int)) [12] rfl (by kernel_rfl) (fun _ _ _ h => h) hHeld (by rfl) ?_ ?_
            · (intro W' hSw; (try dsimp only at hSw); go_simp)
            try simp only [Act.put, List.setIfInBounds_toArray, List.set_cons_zero, List.set_cons_succ]
            refine wpAnyG_takeL (i := 4) (.pointer (some ⟨W2.heap.size, 0, none⟩)) [12] rfl (by kernel_rfl) (fun _ _ _ h => h) hHeld (by rfl) ?_ ?_
            · (intro W' hSw; (try dsimp only at hSw); go_simp)
            try simp only [Act.put, List.setIfInBounds_toArray, List.set_cons_zero, List.set_cons_succ]
            refine wpAnyG_takeL (i := 5) (.int .i64 (b : Int)) [12] rfl (by kernel_rfl) (fun _ _ _ h => h) hHeld (by rfl) ?_ ?_
            · (intro W' hSw; (try dsimp only at hSw); go_simp)
            try simp only [Act.put, List.setIfInBounds_toArray, List.set_cons_zero, List.set_cons_succ]
            refine wpAnyG_takeL (i := 6) (u8) [12] rfl (by kernel_rfl) (fun _ _ _ h => h) hHeld (by rfl) ?_ ?_
            · (intro W' hSw; (try dsimp only at hSw); go_simp)
            try simp only [Act.put, List.setIfInBounds_toArray, List.set_cons_zero, List.set_cons_succ]
            refine wpAnyG_takeL (i := 7) (.agg #[.int .i64 (b : Int), .int .i64 (k : Int)]) [12] rfl (by kernel_rfl) (fun _ _ _ h => h) hHeld (by rfl) ?_ ?_
            · (intro W' hSw; (try dsimp only at hSw); go_simp)
            try simp only [Act.put, List.setIfInBounds_toArray, List.set_cons_zero, List.set_cons_succ]
            clear hHeld
            refine wpAnyG_oneL (i := 8) (by kernel_rfl) rfl (fun K hK => ?_)
            go_simp
            refine hK.out _ _ (fun _ => (HF.out _ hba)) ?_
            clear hK K
            try simp only [Act.put, List.setIfInBounds_toArray, List.set_cons_zero, List.set_cons_succ]
            refine wpAnyG_oneL (i := 9) (by kernel_rfl) rfl (fun K hK => ?_)
            refine step_append_k (W := wr.drew) (k := kSe) w.heap.size rfl (.tmp 71) (.tmp 73) 23 47 (.agg #[.int .i64 0, .int .i64 0]) 16 (fun _ => False) rfl Tryz.underlying23 infoSe rfl (by decide) (by decide) u8 ss ((b : Int), (k : Int)) [.int .i64 (b : Int), .int .i64 (k : Int)] rfl rfl rfl (hSS.out.below hd) rfl (Nat.le_trans hU.out.size hd.size) (by omega) ?_
            intro g5 cap5 w5 hO5 hg5 hb5 ha5
            have hk5 : Keep (fun x => u8.ownBlock ≠ some x) wr w5 := (show Keep _ wr wr.drew from ⟨hd.size, fun i hi _ => hd.block i hi⟩).trans ((Keep.of_grown hg5).weak fun x h e => h e.symm)
            have HB5 := Lib.hid (hB11.out.keep hk5 (fun e => by have := HSB.out _ e; omega))
            have HO5 := Lib.hid hO5
            have HU5 := Lib.hid (show Upd (fun x => w.heap.size ≤ x) wr w5 from (Upd.of_below hd _).trans (Upd.of_grown (o := fun x => w.heap.size ≤ x) hg5 (fun r e => hSS.out.base_le r e)) fun _ _ h => h)
            have HK5 := Lib.hid hk5
            have HA5 := Lib.hid (show u8.ownBlock = some g5 ∨ wr.heap.size < g5 from ha5)
            refine hK.out _ _ (fun _ => ⟨HB5.out.cell 0 rfl, HB5.out.cell 1 rfl⟩) ?_
            clear hK K hO5 hg5 hb5 ha5 hk5
            try simp only [Act.put, List.setIfInBounds_toArray, List.set_cons_zero, List.set_cons_succ]
            have hHeld : w5.cell? ⟨W2.heap.size, 0, none⟩ = some (.int .i64 (b : Int)) ∧ w5.cell? ⟨W2.heap.size, 1, none⟩ = some (.int .i64 (k : Int)) := ⟨HB5.out.cell 0 rfl, HB5.out.cell 1 rfl⟩
            refine wpAnyG_takeL (i := 10) (.int .i64 (q : Int)) [12] rfl (by kernel_rfl) (fun _ _ _ h => h) hHeld (by rfl) ?_ ?_
            · (intro W' hSw; (try dsimp only at hSw); go_simp)
            try simp only [Act.put, List.setIfInBounds_toArray, List.set_cons_zero, List.set_cons_succ]
            refine wpAnyG_takeL (i := 11) (.int .i64 (b : Int)) [12] rfl (by kernel_rfl) (fun _ _ _ h => h) hHeld (by rfl) ?_ ?_
            · (intro W' hSw; (try dsimp only at hSw); go_simp)
            try simp only [Act.put, List.setIfInBounds_toArray, List.set_cons_zero, List.set_cons_succ]
            clear hHeld
            refine wpAnyG_oneL (i := 12) (by kernel_rfl) rfl (fun K hK => ?_)
            go_simp
            refine hK.out _ _ (fun h => Bool.noConfusion (show true = false from h)) ?_
            clear hK K
            refine wpAnyG_done (by kernel_rfl) ?_ _
            go_wp2
            go_roundw
            case rel =>
              have hq9 := HQ.out
              refine ⟨f', q, m1 + m2, (b : Int), vs ++ L, ss ++ [((b : Int), (k : Int))], hnle, rfl, rfl, Lib.hid HXN.out.symm, Lib.hid ⟨by have := HFV.out.1; have := HBN.out.2; omega, by rw [HVS.out, hq9], by have := HFV.out.2.2; have := HBN.out.2; rw [List.length_append, List.length_singleton]; omega⟩, ?_, HO5, ?_, ?_, ?_⟩
              · exact Lib.hid (ownI_keep hI.out HK5.out (fun x e => (hAP.out x e).1))
              · refine Lib.hid fun x e e2 => ?_
                have e3 : g5 = x := by simpa [Value.ownBlock] using e2
                rcases HA5.out with h1 | h1
                · exact (hAP.out x e).1 (by rw [h1, e3])
                · have := (hI.out.lt x e).2; omega
              · rw [← Nat.add_assoc]
                exact Lib.hid (hR.out.upd HU5.out (fun x _ h9 h8 => by have := HO.out x h9; omega))
              · exact Lib.hid (hU.out.trans HU5.out fun x hx h9 => by omega)
            case measure => have := HQ.out; have := HBN.out.2; simp [intOf] <;> omega
      · have hne : (E == 0) = false := by simp [hE]
        have HX := Lib.hid (HQH.out hE)
        have HE := Lib.hid hE
        clear HQH HQS hho hE
        go_wp2_with (first
          | (go_at_call 80; refine HC.out.mono ?_; rintro e W2 ⟨rfl, hr2, hu2⟩))
        go_ret3
        have hba := below_alloc (Below.refl W2.heap.size W2) (.cells #[.int .i64 hb, .int .i64 hn] 47)
        rw [HX.out]
        exact ⟨_, _, rfl, OwnI.nil _ _ _ _, OwnK.nil _ _ _ _ _, ⟨_, hr2.below hba, fun h => absurd h HE.out⟩, ((hU.out.trans hu2 fun _ _ h => h).trans (Upd.of_below hba (fun x => x = g)) fun _ _ h => h)⟩
    · obtain rfl : a = ws.length := by omega
      rw [rdQ_done _ _ _ _ _ _ _ _ (Nat.le_refl _)] at hQ
      clear hlt
      go_wp2
      go_ret3
      rw [← hQ.out]
      exact ⟨_, _, rfl, hV.out, hB.out, ⟨_, hR.out, fun _ => rfl⟩, hU.out⟩
end Go.Proofs.YtmcdgmiheklbeaaGreatDoor

namespace Go.Proofs.YtmcdgmiheklbeaaGreatDoor
open Go.RowKit
attribute [local go_sem] Oper.semAt_some

theorem rdQ_bits (ws : List Int) (D : List Bool) : ∀ (f at_ : Nat) (last : Int) (vs : List Int) (ss : List (Int × Int)) (m : Nat), (rdQ ws D f at_ last vs ss m).2.2.1 ≠ 0 → rdQ ws D f at_ last vs ss m = ([], [], (rdQ ws D f at_ last vs ss m).2.2.1, 0)
  | 0, _, _, _, _, _, h => absurd rfl h
  | f + 1, at_, last, vs, ss, m, h => by
    by_cases h1 : ws.length ≤ at_
    · rw [rdQ_done ws D _ at_ last vs ss m h1] at h; exact absurd rfl h
    · by_cases h2 : (headV ((ws.length - at_ : Nat) : Int) last (D.drop m)).2.1 = 0
      · obtain ⟨⟨⟨b, n⟩, E, c⟩, hH⟩ : ∃ H, headV ((ws.length - at_ : Nat) : Int) last (D.drop m) = H := ⟨_, rfl⟩
        rw [hH] at h2
        obtain rfl : E = 0 := h2
        rw [rdQ_step ws D f at_ last vs ss m h1 hH] at h ⊢
        split
        · rfl
        · rename_i h3
          rw [if_neg h3] at h
          exact rdQ_bits ws D f _ _ _ _ _ h
      · rw [rdQ_head ws D f at_ last vs ss m h1 h2]
/-- What Read returns: the values, the sections, the error, how many bits. -/
def readS (ws : List Int) (D : List Bool) : List Int × List (Int × Int) × Int × Nat :=
  if ws.all okV = true ∧ ws.length ≤ 128 then rdQ ws D ws.length 0 (-1) [] [] 0 else ([], [], 1, 0)
theorem readS_bits (ws : List Int) (D : List Bool) (h : (readS ws D).2.2.1 ≠ 0) : readS ws D = ([], [], (readS ws D).2.2.1, 0) := by
  unfold readS at h ⊢
  split
  · rename_i h1
    rw [if_pos h1] at h
    exact rdQ_bits ws D _ _ _ _ _ _ h
  · rfl
set_option maxHeartbeats 4000000 in
theorem sRead_any (o : Nat → Prop) (g i : Nat) (A : Option Addr) (c : Nat) (ws : List Int) (l : List Bool) (w : World) (h : Rr o w g l i) (ho : ∀ x, o x → x < w.heap.size) (hS : Sl (kInt .i64) (fun x => x ≠ g) w A c ws) (hG : GF w) (hT : GT w) (ng : g ≠ 0) (nt : g ≠ 1) (hw : ws.length ≤ 100000) :
    Calls Tryz.prog 24 #[.pointer (some ⟨g, 0, none⟩), .slice A ws.length c] w
      fun e w' => ∃ va vb, e = .returned (.tuple #[va, vb, .int .i64 (readS ws (l.drop i)).2.2.1]) ∧ OwnI 3 .i64 w.heap.size w' va (readS ws (l.drop i)).1 ∧ OwnS w.heap.size w' vb (readS ws (l.drop i)).2.1
        ∧ Rr o w' g l (i + (readS ws (l.drop i)).2.2.2) ∧ Upd (fun x => x = g) w w' := by
  have HR := Lib.hid (right18_any A c ws w hS.any hw)
  by_cases hr : ws.all okV = true ∧ ws.length ≤ 128
  · rw [if_pos hr.1, hr.1, decide_eq_true hr.2] at HR
    have HC := Lib.hid (read18_any o g i A c ws l w h ho hS hG hT ng nt hr.1 hr.2)
    have HAT := Lib.hid (rat_any o g i l w h)
    have HV := Lib.hid (show readS ws (l.drop i) = rdQ ws (l.drop i) ws.length 0 (-1) [] [] 0 by unfold readS; rw [if_pos hr])
    have HB := Lib.hid (readS_bits ws (l.drop i))
    rw [← HV.out] at HC
    generalize readS ws (l.drop i) = Q at *
    obtain ⟨qv, qs, E, qm⟩ := Q
    simp only at HC HB
    have HILE := Lib.hid h.le
    have HLT := Lib.hid h.lt
    generalize (sumV ws ws.length : Int) = X at HR
    clear HV h ho hS hG hT ng nt hr
    by_cases hE : E = 0
    · subst hE
      go_enter Tryz.func24, Tryz.ntmps24
      go_wp2_with (first
        | (go_at_call 49; refine HR.out.mono ?_; rintro e w2 ⟨rfl, rfl⟩)
        | (go_at_call 50; refine HAT.out.mono ?_; rintro e w2 ⟨rfl, rfl⟩)
        | (go_at_call 51; refine HC.out.mono ?_; rintro e w3 ⟨va, vb, rfl, hOa, hOb, ⟨j, hj, hj0⟩, hu3⟩))
      go_ret3
      obtain rfl := hj0 trivial
      exact ⟨va, vb, rfl, hOa, hOb, hj, hu3⟩
    · have hne : (E == 0) = false := by simp [hE]
      have hBX := HB.out hE
      cases hBX
      have HE := Lib.hid hE
      clear hE
      go_enter Tryz.func24, Tryz.ntmps24
      go_wp2_with (first
        | (go_at_call 49; refine HR.out.mono ?_; rintro e w2 ⟨rfl, rfl⟩)
        | (go_at_call 50; refine HAT.out.mono ?_; rintro e w2 ⟨rfl, rfl⟩)
        | (go_at_call 51; refine HC.out.mono ?_; rintro e w3 ⟨va, vb, rfl, hOa, hOb, ⟨j, hj, hj0⟩, hu3⟩)
        | (go_at_call 52; refine (rseek_any o g j (i : Int) l w3 hj).mono ?_; rintro e w4 ⟨rfl, hr4, hu4⟩))
      go_ret3
      have hsk : seekI l j (i : Int) = i := by unfold seekI; rw [if_neg (by have := HILE.out; omega)]; simp
      rw [hsk] at hr4
      exact ⟨va, vb, rfl, ownI_keep hOa (hu4.keep (ok := fun x => x ≠ g) fun _ h => h) (fun x e => by have := hOa.base_le x e; have := HLT.out; omega), hOb.keep (hu4.keep (ok := fun x => x ≠ g) fun _ h => h) (fun x e => by have := hOb.base_le x e; have := HLT.out; omega) (fun _ h => h.elim) ⟨hu4.os, hu4.tape, hu4.output⟩, hr4, hu3.trans hu4 fun _ _ h => h⟩
  · have HV := Lib.hid (show readS ws (l.drop i) = ([], [], 1, 0) by unfold readS; rw [if_neg hr])
    have hf : (ws.all okV && decide (ws.length ≤ 128)) = false := by
      cases h1 : ws.all okV
      · rfl
      · rw [Bool.true_and]; exact decide_eq_false (fun h2 => hr ⟨h1, h2⟩)
    rw [hf] at HR
    generalize (if ws.all okV = true then (sumV ws ws.length : Int) else 0) = X at HR
    have HH := Lib.hid h
    rw [HV.out]
    clear h ho hS hG hT ng nt hr hf
    go_enter Tryz.func24, Tryz.ntmps24
    go_wp2_with (first
      | (go_at_call 49; refine HR.out.mono ?_; rintro e w2 ⟨rfl, rfl⟩))
    go_ret3
    exact ⟨_, _, rfl, OwnI.nil _ _ _ _, OwnK.nil _ _ _ _ _, HH.out, Upd.refl _ _⟩
end Go.Proofs.YtmcdgmiheklbeaaGreatDoor

namespace Go.Proofs.YtmcdgmiheklbeaaGreatDoor
open Go.RowKit
attribute [local go_sem] Oper.semAt_some

/-- Small enough for the law. -/
def few18B (a b d : Nat) : Bool := decide (a ≤ 140) && decide (b ≤ 600) && decide (d ≤ 200)
set_option maxHeartbeats 1000000 in
theorem few18_any (A B D : Option Addr) (a c1 b c2 d c3 : Nat) (w : World) :
    Calls Tryz.prog 6 #[.agg #[.slice A a c1, .slice B b c2, .slice D d c3]] w fun e w' => e = .returned (.bool (few18B a b d)) ∧ Below w.heap.size w w' := by
  have hba := below_alloc (Below.refl w.heap.size w) (.cells #[.slice A a c1, .slice B b c2, .slice D d c3] 25)
  have h1 : decide ((a : Int) ≤ 140) = decide (a ≤ 140) := by simp; omega
  have h2 : decide ((b : Int) ≤ 600) = decide (b ≤ 600) := by simp; omega
  have h3 : decide ((d : Int) ≤ 200) = decide (d ≤ 200) := by simp; omega
  unfold few18B
  by_cases k1 : a ≤ 140
  · by_cases k2 : b ≤ 600
    · have e1 : decide ((a : Int) ≤ 140) = true := decide_eq_true (by omega)
      have e2 : decide ((b : Int) ≤ 600) = true := decide_eq_true (by omega)
      rw [decide_eq_true k1, decide_eq_true k2, ← h3]
      clear h1 h2 h3
      go_enter Tryz.func6, Tryz.ntmps6
      go_wp2
      go_ret
      exact ⟨rfl, hba⟩
    · have e1 : decide ((a : Int) ≤ 140) = true := decide_eq_true (by omega)
      have e2 : decide ((b : Int) ≤ 600) = false := decide_eq_false (by omega)
      rw [decide_eq_true k1, decide_eq_false k2]
      clear h1 h2 h3
      go_enter Tryz.func6, Tryz.ntmps6
      go_wp2
      go_ret
      exact ⟨rfl, hba⟩
  · have e1 : decide ((a : Int) ≤ 140) = false := decide_eq_false (by omega)
    rw [decide_eq_false k1]
    clear h1 h2 h3
    go_enter Tryz.func6, Tryz.ntmps6
    go_wp2
    go_ret
    exact ⟨rfl, hba⟩
end Go.Proofs.YtmcdgmiheklbeaaGreatDoor

namespace Go.Proofs.YtmcdgmiheklbeaaGreatDoor
open Go.RowKit

/-- How many bands the first sections have. -/
def secA (s : List (Int × Int)) (k : Nat) : Nat := sumTo k fun i => (nth (0, 0) s i).2.toNat
theorem secA_succ (s : List (Int × Int)) (k : Nat) : secA s (k + 1) = secA s k + (nth (0, 0) s k).2.toNat := sumTo_succ _ _
/-- The bits of a section's first bands. -/
def secB (ws l : List Int) (b : Int) (at_ n : Nat) : List Bool := (List.range n).flatMap fun i => bkW b (bndL ws l (at_ + i))
/-- The bits of the first sections. -/
def secP (ws l : List Int) (s : List (Int × Int)) : Nat → List Bool
  | 0 => []
  | k + 1 => secP ws l s k ++ (numB (nth (0, 0) s k).1.toNat 3 ++ gamB (nth (0, 0) s k).2.toNat ++ secB ws l (nth (0, 0) s k).1 (secA s k) (nth (0, 0) s k).2.toNat)
theorem secB_succ (ws l : List Int) (b : Int) (at_ n : Nat) : secB ws l b at_ (n + 1) = secB ws l b at_ n ++ bkW b (bndL ws l (at_ + n)) := by
  unfold secB; rw [List.range_succ, List.flatMap_append]; simp
theorem secA_mono (s : List (Int × Int)) (a : Nat) : ∀ k, secA s a ≤ secA s (a + k)
  | 0 => Nat.le_refl _
  | k + 1 => by have := secA_mono s a k; rw [← Nat.add_assoc, secA_succ]; omega
/-- The books of right sections, band by band. -/
theorem bks_at {s : List (Int × Int)} (h : booksE s = 0) : ∀ k, k ≤ s.length → ∃ o, bksP (s.take k) = some o ∧ o.length = secA s k ∧ ∀ q, q < k → ∀ i, i < (nth (0, 0) s q).2.toNat → nth 0 o (secA s q + i) = (nth (0, 0) s q).1
  | 0, _ => ⟨[], rfl, rfl, fun q hq => by omega⟩
  | k + 1, hk => by
    obtain ⟨o, ho, hl, hn⟩ := bks_at h k (by omega)
    have h3 := bks_take s k hk
    rw [ho] at h3
    have hm : bksP s ≠ none := fun e => by unfold booksE at h; rw [e] at h; simp at h
    by_cases hb : (nth (0, 0) s k).1 < 0 ∨ 8 ≤ (nth (0, 0) s k).1 ∨ (nth (0, 0) s k).2 < 1 ∨ 128 - (o.length : Int) < (nth (0, 0) s k).2
    · have e : bksS (some o) (nth (0, 0) s k) = none := if_pos hb
      rw [e] at h3
      exact absurd (bks_stop s (k + 1) h3) hm
    · have e : bksS (some o) (nth (0, 0) s k) = some (o ++ List.replicate (nth (0, 0) s k).2.toNat (nth (0, 0) s k).1) := if_neg hb
      rw [e] at h3
      refine ⟨_, h3, by rw [List.length_append, List.length_replicate, hl, secA_succ], fun q hq i hi => ?_⟩
      rcases Nat.lt_or_ge q k with h4 | h4
      · have h5 : secA s q + i < o.length := by
          rw [hl]
          have h6 := secA_mono s (q + 1) (k - (q + 1))
          rw [show q + 1 + (k - (q + 1)) = k by omega] at h6
          rw [secA_succ] at h6; omega
        rw [nth_append_left _ _ _ _ h5]
        exact hn q h4 i hi
      · obtain rfl : q = k := by omega
        rw [nth_append_right _ _ _ _ (by omega), hl, show secA s q + i - secA s q = i by omega]
        rw [nth_eq 0 _ _ (by rw [List.length_replicate]; exact hi)]
        exact List.getElem_replicate _
theorem secB_len (ws l bs : List Int) (b : Int) (at_ : Nat) : ∀ n, (∀ i, i < n → nth 0 bs (at_ + i) = b) → bdN ws l bs (at_ + n) = bdN ws l bs at_ + (secB ws l b at_ n).length
  | 0, _ => rfl
  | n + 1, h => by
    have h1 := secB_len ws l bs b at_ n (fun i hi => h i (by omega))
    rw [← Nat.add_assoc, bdN_succ, h1, secB_succ, List.length_append, h n (by omega)]; omega
/-- How many bits: what cost counts. -/
theorem secP_len {ws l : List Int} {s : List (Int × Int)} (h : booksE s = 0) : ∀ k, k ≤ s.length → (secP ws l s k).length = hdN s k + bdN ws l (booksL s) (secA s k)
  | 0, _ => rfl
  | k + 1, hk => by
    have h1 := secP_len (ws := ws) (l := l) h k (by omega)
    obtain ⟨o, ho, hl, hn⟩ := bks_at h s.length (Nat.le_refl _)
    rw [List.take_length] at ho
    have hb : booksL s = o := by unfold booksL; rw [ho]; rfl
    have h2 := secB_len ws l (booksL s) (nth (0, 0) s k).1 (secA s k) (nth (0, 0) s k).2.toNat (fun i hi => by rw [hb]; exact hn k (by omega) i hi)
    rw [hdN_succ, secA_succ, h2]
    show (secP ws l s k ++ _).length = _
    rw [List.length_append, List.length_append, List.length_append, numB_length, gamB_length, h1]
    unfold gamN
    omega
/-- Where cost is right. -/
theorem costV_ok {ws l : List Int} {s : List (Int × Int)} (h : (costV ws l s).2 = true) : booksE s = 0 ∧ (booksL s).length = ws.length ∧ adjK s = true ∧ bdOK ws l (booksL s) = true ∧ secA s s.length = ws.length ∧ costV ws l s = (((secP ws l s s.length).length : Int), true) := by
  unfold costV at h
  split at h
  · rename_i h1
    obtain ⟨o, ho, hl, _⟩ := bks_at h1.1 s.length (Nat.le_refl _)
    rw [List.take_length] at ho
    have hb : booksL s = o := by unfold booksL; rw [ho]; rfl
    have ha : secA s s.length = ws.length := by rw [← hl, ← hb]; exact h1.2.1
    refine ⟨h1.1, h1.2.1, h1.2.2.1, h1.2.2.2, ha, ?_⟩
    unfold costV
    rw [if_pos h1, secP_len h1.1 s.length (Nat.le_refl _), ha]
  · simp at h
end Go.Proofs.YtmcdgmiheklbeaaGreatDoor

namespace Go.Proofs.YtmcdgmiheklbeaaGreatDoor
open Go.RowKit

/-- A call that writes, and reads what is not the writer's. -/
theorem BwI.runF {o : Nat → Prop} {W0 W W' : World} {g f : Nat} {args : Array Value} {bits : List Bool} (hs : BwI o W0 g bits W) (hb : Below W.heap.size W W') (more : List Bool) (hl : bits.length + more.length ≤ 1048576)
    (hc : ∀ o' : Nat → Prop, (∀ x, o' x → o x ∨ W0.heap.size ≤ x) → Wr o' W' g bits → Calls Tryz.prog f args W' fun e w' => (∃ E, e = .returned (.int .i64 E)) ∧ Wr (fun b => o' b ∨ W'.heap.size ≤ b) w' g (fullB bits more) ∧ Upd o' W' w') :
    Calls Tryz.prog f args W' fun e w' => (∃ E, e = .returned (.int .i64 E)) ∧ KeepsFrom W0.heap.size W w' ∧ Keep (fun b => ¬ o b ∧ b < W0.heap.size) W w' ∧ BwI o W0 g (bits ++ more) w' := by
  obtain ⟨vv, hw⟩ := hs.wr
  have hfoot := hw.foot_in
  refine (hc (foot g vv) (fun x hx => (hfoot x hx).1) ((show Wr (foot g vv) W g bits from ⟨vv, hw.exact⟩).below hb)).mono ?_
  rintro e w3 ⟨he, hw3, hu3⟩
  have hu := (Upd.of_below hb (foot g vv)).trans hu3 (fun b _ e => e)
  refine ⟨he, (hw.others hu).from _, hu.keep (fun b hb hf => ?_), ⟨?_, hs.upd.trans hu (fun b hb hf => ?_)⟩⟩
  · rcases (hfoot b hf).1 with h | h
    · exact hb.1 h
    · exact absurd hb.2 (by omega)
  · have hfb : fullB bits more = bits ++ more := by unfold fullB; rw [if_neg (by omega)]
    rw [← hfb]
    exact hw3.weak (fun b _ h => by
      rcases h with h | h
      · exact (hfoot b h).1
      · exact .inr (by have := hs.upd.size; have := hb.size; omega))
  · rcases (hfoot b hf).1 with h | h
    · exact h
    · omega
/-- A list written by a book. -/
theorem BwI.book {o : Nat → Prop} {W0 W W' : World} {g : Nat} {bits : List Bool} (hs : BwI o W0 g bits W) (hb : Below W.heap.size W W') (A : Option Addr) (c : Nat) (n : Int) (l : List Int) (hS : Sl (kInt .i64) (fun b => ¬ o b ∧ b < W0.heap.size) W' A c l) (hG : GF W') (hT : GT W') (hlm : l.length ≤ 1000000) (hl : bits.length + (bkW n l).length ≤ 1048576) :
    Calls Tryz.prog 34 #[.pointer (some ⟨g, 0, none⟩), .int .i64 n, .slice A l.length c] W'
      fun e w' => (∃ E, e = .returned (.int .i64 E)) ∧ KeepsFrom W0.heap.size W w' ∧ Keep (fun b => ¬ o b ∧ b < W0.heap.size) W w' ∧ BwI o W0 g (bits ++ bkW n l) w' :=
  hs.runF hb (bkW n l) hl fun o' hf h => (bwrite_any o' g A c n bits l W' h (by omega) (hS.weak fun b _ hx hy => by rcases hf b hy with h1 | h1
                                                                                                                    · exact hx.1 h1
                                                                                                                    · have := hx.2; omega) hG hT hlm).mono fun _ _ ⟨h1, h2, h3⟩ => ⟨⟨_, h1⟩, h2, h3⟩
end Go.Proofs.YtmcdgmiheklbeaaGreatDoor

namespace Go.Proofs.YtmcdgmiheklbeaaGreatDoor
open Go.RowKit

end Go.Proofs.YtmcdgmiheklbeaaGreatDoor

namespace Go.Proofs.YtmcdgmiheklbeaaGreatDoor
open Go.RowKit
attribute [local go_sem] Oper.semAt_some

theorem costQ_ok {ws l : List Int} {s : List (Int × Int)} (h : (costQ ws l s).2 = 0) : sureE ws l = 0 ∧ (costV ws l s).2 = true ∧ costQ ws l s = (((secP ws l s s.length).length : Int), 0) := by
  by_cases h1 : sureE ws l = 0
  · by_cases h2 : (costV ws l s).2 = true
    · refine ⟨h1, h2, ?_⟩
      unfold costQ
      rw [if_neg (by simp [h1]), if_neg (by simp [h2]), (costV_ok h2).2.2.2.2.2]
    · unfold costQ at h
      rw [if_neg (by simp [h1]), if_pos (by simpa using h2)] at h
      simp at h
  · unfold costQ at h
    rw [if_pos h1] at h
    exact absurd h h1
set_option maxHeartbeats 1000000 in
theorem sWrite_nil (A B D : Option Addr) (a c b d m e0 : Nat) (w : World) :
    Calls Tryz.prog 12 #[.pointer none, .slice A a c, .slice B b d, .slice D m e0] w fun e w' => e = .returned (.int .i64 1) ∧ Below w.heap.size w w' := by
  go_enter Tryz.func12, Tryz.ntmps12
  go_wp2
  go_ret
  exact ⟨rfl, below_alloc (Below.refl _ _) _⟩
set_option maxHeartbeats 1000000 in
theorem sWrite_err (o : Nat → Prop) (g : Nat) (A B D : Option Addr) (c d e0 : Nat) (ws l : List Int) (s : List (Int × Int)) (bs : List Bool) (w : World) (_h : Wr o w g bs) (hS : RI w A c ws) (hT : RI w B d l) (hR : RS w D e0 s) (hG : GF w) (hGT : GT w) (hw : ws.length ≤ 100000) (hE : (costQ ws l s).2 ≠ 0) :
    Calls Tryz.prog 12 #[.pointer (some ⟨g, 0, none⟩), .slice A ws.length c, .slice B l.length d, .slice D s.length e0] w fun e w' => e = .returned (.int .i64 (costQ ws l s).2) ∧ Below w.heap.size w w' := by
  have hba := below_alloc (Below.refl w.heap.size w) (.cells #[.pointer (some ⟨g, 0, none⟩)] 34)
  have HC := Lib.hid (sCost_any A B D c d e0 ws l s _ (hS.below hba) (hT.below hba) (hR.below hba) (hG.below hba) (hGT.below hba) hw)
  have hne : ((costQ ws l s).2 == 0) = false := by simp [hE]
  generalize costQ ws l s = V at *
  obtain ⟨v, E⟩ := V
  simp only at HC hne hE
  have HBA := Lib.hid hba
  clear _h hS hT hR hG hGT hw hE hba
  go_enter Tryz.func12, Tryz.ntmps12
  go_wp2_with (first | (go_at_call 8; refine HC.out.mono ?_; rintro e w2 ⟨rfl, b2⟩))
  go_ret
  exact ⟨rfl, below2 HBA.out b2⟩
set_option maxHeartbeats 1000000 in
theorem sWrite_full (o : Nat → Prop) (g : Nat) (A B D : Option Addr) (c d e0 : Nat) (ws l : List Int) (s : List (Int × Int)) (bs : List Bool) (w : World) (N : Nat) (h : Wr o w g bs) (hS : RI w A c ws) (hT : RI w B d l) (hR : RS w D e0 s) (hG : GF w) (hGT : GT w) (hw : ws.length ≤ 100000) (hE : costQ ws l s = ((N : Int), 0)) (hN : N ≤ 100000000) (hl : bs.length ≤ 1048576) (hf : 1048576 < bs.length + N) :
    Calls Tryz.prog 12 #[.pointer (some ⟨g, 0, none⟩), .slice A ws.length c, .slice B l.length d, .slice D s.length e0] w fun e w' => e = .returned (.int .i64 2) ∧ Below w.heap.size w w' := by
  have hba := below_alloc (Below.refl w.heap.size w) (.cells #[.pointer (some ⟨g, 0, none⟩)] 34)
  have B4 : Blk (w.alloc (.cells #[.pointer (some ⟨g, 0, none⟩)] 34)) w.heap.size #[.pointer (some ⟨g, 0, none⟩)] 34 := heap_alloc_new w _
  have HC := Lib.hid (sCost_any A B D c d e0 ws l s _ (hS.below hba) (hT.below hba) (hR.below hba) (hG.below hba) (hGT.below hba) hw)
  rw [hE] at HC
  have hd : decide ((1048576 : Int) < (bs.length : Int) + (N : Int)) = true := decide_eq_true (by omega)
  have hwp : IntKind.i64.wrap ((bs.length : Int) + (N : Int)) = (bs.length : Int) + (N : Int) := IntWalk.i64_in _ (by omega)
  have HBA := Lib.hid hba
  have H := Lib.hid h
  have HB4 := Lib.hid B4
  clear h hS hT hR hG hGT hw hE hba hl hf hN B4
  go_enter Tryz.func12, Tryz.ntmps12
  go_wp2_with (first
    | (go_at_call 8; refine HC.out.mono ?_; rintro e w2 ⟨rfl, b2⟩; have hw2 := H.out.below (below2 HBA.out b2); have k4 := (HB4.out.below b2).cell 0 rfl)
    | (go_at_call 23; refine (wlen_any o g bs _ hw2).mono ?_; rintro e w3 ⟨rfl, rfl⟩))
  go_ret
  exact ⟨rfl, below2 HBA.out b2⟩
end Go.Proofs.YtmcdgmiheklbeaaGreatDoor

namespace Go.Proofs.YtmcdgmiheklbeaaGreatDoor

/-- Whether a list of numbers comes ahead of another one. -/
def lexB : List Int → List Int → Bool
  | _, [] => false
  | [], _ :: _ => true
  | x :: xs, y :: ys => if x = y then lexB xs ys else decide (x < y)
theorem lexB_le_trans : ∀ a b c : List Int, lexB b a = false → lexB c b = false → lexB c a = false
  | [], _, _, _, _ => by cases ‹List Int› <;> rfl
  | _ :: _, [], _, h, _ => by simp [lexB] at h
  | _ :: _, _ :: _, [], _, h => by simp [lexB] at h
  | x :: xs, y :: ys, z :: zs, h1, h2 => by
    have ih := lexB_le_trans xs ys zs
    unfold lexB at h1 h2 ⊢
    split at h1 <;> split at h2 <;> split <;> simp_all <;> omega
theorem lexB_le_anti : ∀ a b : List Int, lexB a b = false → lexB b a = false → a = b
  | [], [], _, _ => rfl
  | [], _ :: _, h, _ => by simp [lexB] at h
  | _ :: _, [], _, h => by simp [lexB] at h
  | x :: xs, y :: ys, h1, h2 => by
    have ih := lexB_le_anti xs ys
    unfold lexB at h1 h2
    split at h1 <;> split at h2 <;> simp_all <;> omega
/-- A list of sections from a band on: what it costs, and its books. -/
structure Way where
  cost : Int
  secs : List (Int × Int)
  books : List Int
deriving Inhabited
/-- Whether a way is better. -/
def Way.less (a b : Way) : Bool := if a.cost = b.cost then lexB a.books b.books else decide (a.cost < b.cost)
theorem Way.le_trans {a b c : Way} (h1 : b.less a = false) (h2 : c.less b = false) : c.less a = false := by
  have h3 := lexB_le_trans a.books b.books c.books
  unfold Way.less at h1 h2 ⊢
  split at h1 <;> split at h2 <;> split <;> simp_all <;> omega
theorem Way.le_cost {a b : Way} (h : b.less a = false) : a.cost ≤ b.cost := by
  unfold Way.less at h
  split at h
  · omega
  · simp at h; omega
/-- What the bands from i on cost in a book, the first ones. -/
def sumK (cst : Nat → Int → Int) (i : Nat) (k : Int) : Nat → Int
  | 0 => 0
  | m + 1 => sumK cst i k m + cst (i + m) k
/-- How many bands from i on fit a book. -/
def runC (cst : Nat → Int → Int) (k : Int) : Nat → Nat → Nat
  | 0, _ => 0
  | f + 1, i => if 0 ≤ cst i k then runC cst k f (i + 1) + 1 else 0
theorem runC_le (cst : Nat → Int → Int) (k : Int) : ∀ f i, runC cst k f i ≤ f
  | 0, _ => Nat.le_refl _
  | f + 1, i => by
    have := runC_le cst k f (i + 1)
    unfold runC; split <;> omega
theorem runC_ok (cst : Nat → Int → Int) (k : Int) : ∀ f i t, t < runC cst k f i → 0 ≤ cst (i + t) k
  | 0, _, _, h => by simp [runC] at h
  | f + 1, i, t, h => by
    unfold runC at h
    split at h
    · rename_i h1
      cases t with
      | zero => exact h1
      | succ t =>
        have := runC_ok cst k f (i + 1) t (by omega)
        rwa [show i + 1 + t = i + (t + 1) by omega] at this
    · omega
/-- Right sections from a band on, and what they cost. -/
inductive Ways (n : Nat) (cst : Nat → Int → Int) (gam : Nat → Nat) : Nat → List (Int × Int) → Int → Prop
  | nil : Ways n cst gam n [] 0
  | cons {i : Nat} {k : Int} {m : Nat} {s : List (Int × Int)} {c : Int} (h0 : 0 ≤ k) (h8 : k < 8) (h1 : 1 ≤ m) (hn : i + m ≤ n) (hf : ∀ t, t < m → 0 ≤ cst (i + t) k) (hd : ∀ y, s.head? = some y → y.1 ≠ k) (hs : Ways n cst gam (i + m) s c) :
      Ways n cst gam i ((k, (m : Int)) :: s) (3 + (gam m : Int) + sumK cst i k m + c)
/-- The books of sections. -/
def bksO : List (Int × Int) → List Int
  | [] => []
  | x :: s => List.replicate x.2.toNat x.1 ++ bksO s
theorem Ways.head {n : Nat} {cst : Nat → Int → Int} {gam : Nat → Nat} {i : Nat} {s : List (Int × Int)} {c : Int} (h : Ways n cst gam i s c) : (bksO s).head? = s.head?.map (·.1) := by
  cases h with
  | nil => rfl
  | @cons i k m s c h0 h8 h1 hn hf hd hs =>
    obtain ⟨m', rfl⟩ : ∃ m', m = m' + 1 := ⟨m - 1, by omega⟩
    show (List.replicate (((m' + 1 : Nat) : Int).toNat) k ++ bksO s).head? = some k
    rw [Int.toNat_natCast, List.replicate_succ]
    rfl
/-- The best way from a band on. -/
structure Opt (n : Nat) (cst : Nat → Int → Int) (gam : Nat → Nat) (i : Nat) (w : Way) : Prop where
  is : Ways n cst gam i w.secs w.cost
  books : w.books = bksO w.secs
  least : ∀ s c, Ways n cst gam i s c → Way.less ⟨c, s, bksO s⟩ w = false
/-- A way that is looked at: what is behind it is the best, and begins otherwise. -/
def Clean (n : Nat) (cst : Nat → Int → Int) (_gam : Nat → Nat) (i : Nat) (R : Nat → Way) (k : Int) (m : Nat) : Prop := 1 ≤ m ∧ m ≤ runC cst k (n - i) i ∧ (R (i + m)).books.head? ≠ some k
/-- The way itself. -/
def wayO (cst : Nat → Int → Int) (gam : Nat → Nat) (i : Nat) (R : Nat → Way) (k : Int) (m : Nat) : Way := ⟨3 + (gam m : Int) + sumK cst i k m + (R (i + m)).cost, (k, (m : Int)) :: (R (i + m)).secs, List.replicate m k ++ (R (i + m)).books⟩
variable {n : Nat} {cst : Nat → Int → Int} {gam : Nat → Nat} {i : Nat} {R : Nat → Way}

theorem Clean.is {k : Int} {m : Nat} (hk : 0 ≤ k ∧ k < 8) (hi : i ≤ n) (h : Clean n cst gam i R k m) (hR : Opt n cst gam (i + m) (R (i + m))) : Ways n cst gam i (wayO cst gam i R k m).secs (wayO cst gam i R k m).cost ∧ (wayO cst gam i R k m).books = bksO (wayO cst gam i R k m).secs := by
  have hl := runC_le cst k (n - i) i
  refine ⟨Ways.cons hk.1 hk.2 h.1 (by have := h.2.1; omega) (fun t ht => runC_ok cst k (n - i) i t (by have := h.2.1; omega)) (fun y hy e => ?_) hR.is, ?_⟩
  · have h1 := hR.is.head
    rw [hy, ← hR.books] at h1
    exact h.2.2 (h1.trans (by rw [Option.map_some, e]))
  · show List.replicate m k ++ _ = List.replicate ((m : Int).toNat) k ++ _
    rw [hR.books, Int.toNat_natCast]
/-- What is looked at so far: the best of it. -/
structure TopI (n : Nat) (cst : Nat → Int → Int) (gam : Nat → Nat) (i : Nat) (R : Nat → Way) (D : Int → Nat → Prop) (top : Option Way) : Prop where
  is : ∀ t, top = some t → Ways n cst gam i t.secs t.cost ∧ t.books = bksO t.secs
  all : ∀ k m, D k m → Clean n cst gam i R k m → ∃ t, top = some t ∧ (wayO cst gam i R k m).less t = false
theorem TopI.weak {D D' : Int → Nat → Prop} {top : Option Way} (h : TopI n cst gam i R D top) (hD : ∀ k m, D' k m → Clean n cst gam i R k m → D k m) : TopI n cst gam i R D' top := ⟨h.is, fun k m h1 h2 => h.all k m (hD k m h1 h2) h2⟩
theorem Opt.last : Opt n cst gam n ⟨0, [], []⟩ := ⟨.nil, rfl, fun s c h => by
  cases h with
  | nil => rfl
  | @cons _ k m s c h0 h8 h1 hn hf hd hs => omega⟩
theorem Opt.same {a b : Way} (ha : Opt n cst gam i a) (hb : Opt n cst gam i b) : a.cost = b.cost ∧ a.books = b.books := by
  have h1 := ha.least _ _ hb.is
  have h2 := hb.least _ _ ha.is
  rw [← hb.books] at h1
  rw [← ha.books] at h2
  have h3 := Way.le_cost h1
  have h4 := Way.le_cost h2
  simp only at h3 h4
  have e : a.cost = b.cost := by omega
  refine ⟨e, ?_⟩
  unfold Way.less at h1 h2
  rw [if_pos e.symm] at h1
  rw [if_pos e] at h2
  exact lexB_le_anti _ _ h2 h1

theorem Ways.pos {s : List (Int × Int)} {c : Int} (h : Ways n cst gam i s c) : 0 ≤ c := by
  induction h with
  | nil => omega
  | @cons i k m s c h0 h8 h1 hn hf hd hs ih =>
    have : ∀ m, (∀ t, t < m → 0 ≤ cst (i + t) k) → 0 ≤ sumK cst i k m := by
      intro m
      induction m with
      | zero => intro _; simp [sumK]
      | succ m ih2 =>
        intro h
        have h3 := ih2 (fun t ht => h t (by omega))
        have h4 := h m (by omega)
        simp only [sumK]; omega
    have := this m hf
    omega
end Go.Proofs.YtmcdgmiheklbeaaGreatDoor

namespace Go.Proofs.YtmcdgmiheklbeaaGreatDoor
open Go.RowKit

theorem bkC_at {l : List Int} (hq : quantB l = true) (n : Nat) (h8 : n < 8) : checkedK (n : Int) l = 0 ∧ fitsV (n : Int) l = fitB n l ∧ bkC (n : Int) l = if fitB n l = true then (((rowK n l).length : Int), 0) else (0, 4) := by
  have hc : checkedK (n : Int) l = 0 := by unfold checkedK; rw [if_neg (by omega), if_neg (by simp [hq])]
  refine ⟨hc, ?_, ?_⟩
  · unfold fitsV; rw [hc, if_neg (by simp), Int.toNat_natCast]
  · unfold bkC; rw [hc, if_neg (by simp), Int.toNat_natCast]
    cases fitB n l <;> simp
end Go.Proofs.YtmcdgmiheklbeaaGreatDoor

namespace Go.Proofs.YtmcdgmiheklbeaaGreatDoor
open Go.RowKit

/-- What a band costs in a book; below 0: it does not fit. -/
def cstV (ws l : List Int) (j : Nat) (k : Int) : Int := if (bkC k (bndL ws l j)).2 = 0 then (bkC k (bndL ws l j)).1 else -1
theorem cstV_ok {ws l : List Int} {j : Nat} {k : Int} (h : 0 ≤ cstV ws l j k) : (bkC k (bndL ws l j)).2 = 0 ∧ cstV ws l j k = ((bkW k (bndL ws l j)).length : Int) := by
  unfold cstV at h ⊢
  split at h
  · rename_i e
    rw [if_pos e]
    exact ⟨e, bkC_len _ _⟩
  · omega
theorem cstV_fit {ws l : List Int} {j : Nat} {k : Int} (h : (bkC k (bndL ws l j)).2 = 0) : cstV ws l j k = ((bkW k (bndL ws l j)).length : Int) := by
  unfold cstV; rw [if_pos h, bkC_len]
theorem sureE_facts {ws l : List Int} (h : sureE ws l = 0) : ws.all okV = true ∧ ws.length ≤ 128 ∧ sumV ws ws.length = l.length ∧ quantB l = true := by
  unfold sureE at h
  split at h
  · rename_i h1
    split at h
    · rename_i h2
      exact ⟨h1.1, h1.2.1, h1.2.2, h2⟩
    · omega
  · omega
theorem Ways.bound {ws l : List Int} (hok : ws.all okV = true) (h128 : ws.length ≤ 128) {i : Nat} {s : List (Int × Int)} {c : Int} (h : Ways ws.length (cstV ws l) gamN i s c) : i ≤ ws.length ∧ c ≤ 14000 * ((ws.length - i : Nat) : Int) := by
  induction h with
  | nil => exact ⟨Nat.le_refl _, by omega⟩
  | @cons i k m s c h0 h8 h1 hn hf hd hs ih =>
    have hk : ∀ q, q ≤ m → sumK (cstV ws l) i k q ≤ 13312 * (q : Int) := by
      intro q
      induction q with
      | zero => intro _; simp [sumK]
      | succ q ih2 =>
        intro hq
        have h3 := ih2 (by omega)
        obtain ⟨_, h4⟩ := cstV_ok (hf q (by omega))
        have h5 := bkW_len k (bndL ws l (i + q))
        have h6 := bndL_le ws l (i + q)
        obtain ⟨_, _, h7⟩ := okV_at hok (i + q) (by omega)
        simp only [sumK]
        omega
    have h2 := hk m (Nat.le_refl _)
    have h3 := gamN_le m (by omega)
    refine ⟨by omega, ?_⟩
    have := ih.2
    omega
/-- Books of sections, from a list of books on. -/
theorem bks_ways {ws l : List Int} (h128 : ws.length ≤ 128) {i : Nat} {s : List (Int × Int)} {c : Int} (h : Ways ws.length (cstV ws l) gamN i s c) : ∀ o : List Int, o.length = i → s.foldl bksS (some o) = some (o ++ bksO s) ∧ (bksO s).length = ws.length - i := by
  induction h with
  | nil => intro o ho; exact ⟨by simp [bksO], by simp [bksO]⟩
  | @cons i k m s c h0 h8 h1 hn hf hd hs ih =>
    intro o ho
    have e : bksS (some o) (k, (m : Int)) = some (o ++ List.replicate m k) := by
      show (if k < 0 ∨ 8 ≤ k ∨ (m : Int) < 1 ∨ 128 - (o.length : Int) < (m : Int) then none else some (o ++ List.replicate (m : Int).toNat k)) = _
      rw [if_neg (by omega), Int.toNat_natCast]
    obtain ⟨h2, h3⟩ := ih (o ++ List.replicate m k) (by rw [List.length_append, List.length_replicate, ho])
    refine ⟨?_, ?_⟩
    · rw [List.foldl_cons, e, h2]; simp [bksO]
    · show (List.replicate (m : Int).toNat k ++ bksO s).length = _
      rw [List.length_append, List.length_replicate, h3, Int.toNat_natCast]; omega
theorem ways_books {ws l : List Int} (h128 : ws.length ≤ 128) {s : List (Int × Int)} {c : Int} (h : Ways ws.length (cstV ws l) gamN 0 s c) : booksE s = 0 ∧ booksL s = bksO s ∧ (booksL s).length = ws.length := by
  obtain ⟨h1, h2⟩ := bks_ways h128 h [] rfl
  have h3 : bksP s = some (bksO s) := h1
  refine ⟨by unfold booksE; rw [h3]; rfl, by unfold booksL; rw [h3]; rfl, ?_⟩
  unfold booksL
  rw [h3]
  show (bksO s).length = _
  omega
/-- Right sections from a band on, of which cost counts so much. -/
theorem cost_ways {ws l : List Int} {s : List (Int × Int)} (h : (costV ws l s).2 = true) : ∀ q, q ≤ s.length → ∃ c, Ways ws.length (cstV ws l) gamN (secA s (s.length - q)) (s.drop (s.length - q)) c ∧ c + (hdN s (s.length - q) : Int) + (bdN ws l (booksL s) (secA s (s.length - q)) : Int) = (costV ws l s).1
  | 0, _ => by
    obtain ⟨h1, h2, h3, h4, h5, h6⟩ := costV_ok h
    refine ⟨0, ?_, ?_⟩
    · rw [Nat.sub_zero, List.drop_length, h5]; exact .nil
    · rw [Nat.sub_zero, h6, secP_len h1 s.length (Nat.le_refl _)]; simp
  | q + 1, hq => by
    obtain ⟨h1, h2, h3, h4, h5, h6⟩ := costV_ok h
    obtain ⟨c, hw, hc⟩ := cost_ways h q (by omega)
    obtain ⟨p, hp⟩ : ∃ p, s.length - (q + 1) = p := ⟨_, rfl⟩
    rw [show s.length - q = p + 1 by omega] at hw hc
    rw [hp]
    have hpl : p < s.length := by omega
    obtain ⟨sh1, sh2⟩ := bks_shape h1
    obtain ⟨b0, b8, b1, _⟩ := sh2 p hpl
    obtain ⟨o, ho, hol, hon⟩ := bks_at h1 s.length (Nat.le_refl _)
    rw [List.take_length] at ho
    have hbo : booksL s = o := by unfold booksL; rw [ho]; rfl
    obtain ⟨x1, hx1⟩ : ∃ x1, (nth (0, 0) s p).1 = x1 := ⟨_, rfl⟩
    obtain ⟨m, hm⟩ : ∃ m : Nat, (nth (0, 0) s p).2 = (m : Int) := ⟨(nth (0, 0) s p).2.toNat, by omega⟩
    have hsec : secA s (p + 1) = secA s p + m := by rw [secA_succ, hm, Int.toNat_natCast]
    have hle : secA s p + m ≤ ws.length := by
      have := secA_mono s (p + 1) (s.length - (p + 1))
      rw [show p + 1 + (s.length - (p + 1)) = s.length by omega, h5] at this
      omega
    have hbk : ∀ t, t < m → nth 0 (booksL s) (secA s p + t) = x1 := fun t ht => by rw [hbo, hon p hpl t (by rw [hm, Int.toNat_natCast]; exact ht), hx1]
    have hfit : ∀ t, t < m → (bkC x1 (bndL ws l (secA s p + t))).2 = 0 := fun t ht => by
      have h7 := List.all_eq_true.1 h4 (secA s p + t) (List.mem_range.2 (by omega))
      have h8 : (bdC ws l (booksL s) (secA s p + t)).2 = 0 := of_decide_eq_true h7
      unfold bdC at h8
      rwa [hbk t ht] at h8
    have hsum : ∀ t, t ≤ m → sumK (cstV ws l) (secA s p) x1 t + (bdN ws l (booksL s) (secA s p) : Int) = (bdN ws l (booksL s) (secA s p + t) : Int) := by
      intro t
      induction t with
      | zero => intro _; simp [sumK]
      | succ t ih =>
        intro ht
        have h9 := ih (by omega)
        rw [← Nat.add_assoc, bdN_succ, hbk t (by omega)]
        simp only [sumK]
        rw [cstV_fit (hfit t (by omega))]
        omega
    have hdr : s.drop p = (x1, (m : Int)) :: s.drop (p + 1) := by
      rw [List.drop_eq_getElem_cons hpl, ← nth_eq (0, 0) s p hpl, ← hx1, ← hm]
    have hsm := hsum m (Nat.le_refl _)
    rw [hsec] at hw hc
    refine ⟨3 + (gamN m : Int) + sumK (cstV ws l) (secA s p) x1 m + c, ?_, ?_⟩
    · rw [hdr]
      refine Ways.cons (by omega) (by omega) (by omega) hle (fun t ht => by rw [cstV_fit (hfit t ht)]; omega) (fun y hy => ?_) hw
      have hpl2 : p + 1 < s.length := by
        rcases Nat.lt_or_ge (p + 1) s.length with h7 | h7
        · exact h7
        · rw [List.drop_of_length_le h7] at hy; simp at hy
      rw [List.drop_eq_getElem_cons hpl2, ← nth_eq (0, 0) s (p + 1) hpl2] at hy
      cases hy
      have h7 := List.all_eq_true.1 h3 (p + 1) (List.mem_range.2 hpl2)
      simp at h7
      rw [← hx1]; exact h7
    · rw [hdN_succ, hm, Int.toNat_natCast] at hc
      omega
theorem ways_of_cost {ws l : List Int} {s : List (Int × Int)} (h : (costV ws l s).2 = true) : Ways ws.length (cstV ws l) gamN 0 s (costV ws l s).1 := by
  obtain ⟨c, h1, h2⟩ := cost_ways h s.length (Nat.le_refl _)
  rw [Nat.sub_self, List.drop_zero] at h1
  rw [Nat.sub_self] at h2
  have h3 : hdN s 0 = 0 := rfl
  have h4 : secA s 0 = 0 := rfl
  rw [h4] at h1 h2
  have h5 : bdN ws l (booksL s) 0 = 0 := rfl
  rw [h3, h5] at h2
  have : c = (costV ws l s).1 := by omega
  rwa [this] at h1
/-- The sections of the books are the sections. -/
theorem ways_runs {n : Nat} {cst : Nat → Int → Int} {gam : Nat → Nat} {i : Nat} {s : List (Int × Int)} {c : Int} (h : Ways n cst gam i s c) : ∀ t : List (Int × Int), (∀ y, s.head? = some y → 0 < t.length → (nth (0, 0) t (t.length - 1)).1 ≠ y.1) → (bksO s).foldl rnS t = t ++ s := by
  induction h with
  | nil => intro t _; simp [bksO]
  | @cons i k m s c h0 h8 h1 hn hf hd hs ih =>
    intro t ht
    have e : bksO ((k, (m : Int)) :: s) = List.replicate m k ++ bksO s := by simp [bksO]
    have hone : ∀ q, (List.replicate (q + 1) k).foldl rnS t = t ++ [(k, ((q + 1 : Nat) : Int))] := by
      intro q
      induction q with
      | zero =>
        show rnS t k = _
        unfold rnS
        rw [if_neg (fun hc => ht _ rfl hc.1 hc.2)]; rfl
      | succ q ih2 =>
        rw [show List.replicate (q + 1 + 1) k = List.replicate (q + 1) k ++ [k] from List.replicate_succ', List.foldl_append, ih2]
        show rnS (t ++ [(k, ((q + 1 : Nat) : Int))]) k = _
        have hl : (t ++ [(k, ((q + 1 : Nat) : Int))]).length - 1 = t.length := by simp
        have hn2 : nth (0, 0) (t ++ [(k, ((q + 1 : Nat) : Int))]) t.length = (k, ((q + 1 : Nat) : Int)) := by rw [nth_append_right _ _ _ _ (Nat.le_refl _), Nat.sub_self]; rfl
        unfold rnS
        rw [hl, hn2, if_pos ⟨by simp, rfl⟩]
        simp
    obtain ⟨q, rfl⟩ : ∃ q, m = q + 1 := ⟨m - 1, by omega⟩
    rw [e, List.foldl_append, hone q, ih _ (fun y hy _ => ?_)]
    · simp
    · have hl : (t ++ [(k, ((q + 1 : Nat) : Int))]).length - 1 = t.length := by simp
      rw [hl, nth_append_right _ _ _ _ (Nat.le_refl _), Nat.sub_self]
      exact (hd y hy).symm
theorem ways_rnK {n : Nat} {cst : Nat → Int → Int} {gam : Nat → Nat} {i : Nat} {s : List (Int × Int)} {c : Int} (h : Ways n cst gam i s c) : rnK (bksO s) = s := by
  have := ways_runs h [] (fun y _ h => by simp at h)
  simpa [rnK] using this
end Go.Proofs.YtmcdgmiheklbeaaGreatDoor

namespace Go.Proofs.YtmcdgmiheklbeaaGreatDoor
open Go.RowKit
attribute [local go_sem] Oper.semAt_some

/-- The writer's blocks as they are: what is not one of them is kept. -/
theorem Wr.exactly {o : Nat → Prop} {W W' : World} {g : Nat} {bits : List Bool} (h : Wr o W g bits) (hb : Below W.heap.size W W') :
    ∃ of_ : Nat → Prop, (∀ b, of_ b → o b ∧ b < W.heap.size) ∧ BwI of_ W' g bits W' ∧ ∀ W2, Upd of_ W' W2 → KeepsOthers W' W2 := by
  obtain ⟨vv, hw⟩ := h
  have hx := show WrF (foot g vv) W g vv bits from hw.exact
  refine ⟨foot g vv, fun b hf => hw.foot_in b hf, ⟨?_, Upd.refl _ _⟩, fun W2 hu => (hx.below hb).others hu⟩
  exact ((show Wr (foot g vv) W g bits from ⟨vv, hx⟩).below hb).weak fun b _ h => .inl h
theorem secB_mono (ws l : List Int) (b : Int) (a n : Nat) : ∀ j, (secB ws l b a n).length ≤ (secB ws l b a (n + j)).length
  | 0 => Nat.le_refl _
  | j + 1 => by
    have h1 := secB_mono ws l b a n j
    rw [← Nat.add_assoc, secB_succ, List.length_append]; omega
theorem leaves_marks2 {F : Fence} {n : Nat} {P : Program} {fn : Func} {tmps : Array Value} {R : Ending → World → Prop} {J : World → Prop} {M : Nat → Prop} (hJ : ∀ W D, M D → J W → W.heap[D]? = some (.deferred (some [])) → J (W.putObj D (.deferred none))) (hR : ∀ W, J W → LeavesInM F n P fn tmps R [] .returning W) :
    ∀ (Ds : List Nat) (W : World), Ds.Nodup → (∀ D ∈ Ds, M D ∧ W.heap[D]? = some (.deferred (some []))) → J W → LeavesInM F n P fn tmps R (Ds.map fun D => { target := .collected D, args := #[] }) .returning W
  | [], W, _, _, h => hR W h
  | D :: Ds, W, hn, hd, h => by
    obtain ⟨h0, h1⟩ := hd D (List.mem_cons_self ..)
    refine ⟨by simp, .inl ⟨D, _, rfl, run_takeDeferred h1, leaves_marks2 hJ hR Ds _ (List.nodup_cons.1 hn).2 (fun D' h' => ?_) (hJ W D h0 h h1)⟩⟩
    obtain ⟨h4, h2⟩ := hd D' (List.mem_cons_of_mem _ h')
    have h3 : D' ≠ D := fun e => (List.nodup_cons.1 hn).1 (e ▸ h')
    exact ⟨h4, ((Keep.of_grown (grownBy_putObj' W D _)).blk D' (Array.getElem?_eq_some_iff.1 h2).1 (fun e => h3 (Option.some.inj e))).trans h2⟩
theorem secP_mono (ws l : List Int) (s : List (Int × Int)) (k : Nat) : ∀ j, (secP ws l s k).length ≤ (secP ws l s (k + j)).length
  | 0 => Nat.le_refl _
  | j + 1 => by
    have h1 := secP_mono ws l s k j
    show _ ≤ (secP ws l s (k + j) ++ _).length
    rw [List.length_append]; omega
/-- What lies in memory between two sections. -/
structure WqI (o : Nat → Prop) (W0 : World) (g g4 g11 : Nat) (bits : List Bool) (n : Nat) (Ds : List Nat) (W : World) : Prop where
  wr : Wr (fun b => o b ∨ W0.heap.size ≤ b) W g bits
  upd : Upd (fun b => o b ∨ b = g11) W0 W
  pc : Blk W g4 #[.pointer (some ⟨g, 0, none⟩)] 34
  cnt : Blk W g11 #[.int .i64 (n : Int)] 3
  nd : Ds.Nodup
  ds : ∀ D ∈ Ds, W0.heap.size ≤ D ∧ W.heap[D]? = some (.deferred (some []))

set_option maxHeartbeats 8000000 in
set_option maxRecDepth 100000 in
theorem sWrite_go (o : Nat → Prop) (g : Nat) (A B D : Option Addr) (c d e0 : Nat) (ws l : List Int) (s : List (Int × Int)) (bs : List Bool) (w : World) (N : Nat) (ho : ∀ b, o b → b < w.heap.size) (h : Wr o w g bs) (hS : Sl (kInt .i64) (fun b => ¬ o b) w A c ws) (hT : Sl (kInt .i64) (fun b => ¬ o b) w B d l) (hR : Sl kSe (fun b => ¬ o b) w D e0 s) (hG : GF w) (hGT : GT w) (ng : ¬ o 0) (nt : ¬ o 1) (hw : ws.length ≤ 100000) (hE : costQ ws l s = ((N : Int), 0)) (hl : bs.length + N ≤ 1048576) :
    Calls Tryz.prog 12 #[.pointer (some ⟨g, 0, none⟩), .slice A ws.length c, .slice B l.length d, .slice D s.length e0] w fun e w' => e = .returned (.int .i64 0) ∧ Wr (fun b => o b ∨ w.heap.size ≤ b) w' g (bs ++ secP ws l s s.length) ∧ Upd o w w' := by
  obtain ⟨hsu, hco, hcq⟩ := costQ_ok (show (costQ ws l s).2 = 0 by rw [hE])
  obtain ⟨ck1, ck2, ck3, ck4, ck5, ck6⟩ := costV_ok hco
  have hNl : N = (secP ws l s s.length).length := by rw [hcq] at hE; have := congrArg Prod.fst hE; simp at this; omega
  have hba := below_alloc (Below.refl w.heap.size w) (.cells #[.pointer (some ⟨g, 0, none⟩)] 34)
  have B4 : Blk (w.alloc (.cells #[.pointer (some ⟨g, 0, none⟩)] 34)) w.heap.size #[.pointer (some ⟨g, 0, none⟩)] 34 := heap_alloc_new w _
  obtain ⟨g4, hg4⟩ : ∃ g4, w.heap.size = g4 := ⟨_, rfl⟩
  obtain ⟨W1, hW1⟩ : ∃ W1, w.alloc (.cells #[.pointer (some ⟨g, 0, none⟩)] 34) = W1 := ⟨_, rfl⟩
  rw [hW1] at hba B4
  rw [hg4] at B4
  have HC := Lib.hid (sCost_any A B D c d e0 ws l s _ (hS.any.below hba) (hT.any.below hba) (hR.any.below hba) (hG.below hba) (hGT.below hba) hw)
  rw [hE] at HC
  have hd : decide ((1048576 : Int) < (bs.length : Int) + (N : Int)) = false := decide_eq_false (by omega)
  have hwp : IntKind.i64.wrap ((bs.length : Int) + (N : Int)) = (bs.length : Int) + (N : Int) := IntWalk.i64_in _ (by omega)
  have k40 := B4.cell 0 rfl
  have HBA := Lib.hid hba
  have H := Lib.hid h
  have HB4 := Lib.hid B4
  have HS := Lib.hid hS
  have HT := Lib.hid hT
  have HR := Lib.hid hR
  have HGG := Lib.hid (And.intro hG hGT)
  have HO := Lib.hid ho
  have HL := Lib.hid hl
  have HN := Lib.hid hNl
  have HCK := Lib.hid (And.intro ck1 ck5)
  have HSU := Lib.hid hsu
  have HG4 := Lib.hid hg4
  clear h hS hT hR hG hGT hw hE hba hl B4 ho hsu hco hcq ck1 ck2 ck3 ck4 ck5 ck6 hNl
  refine (callsIn_wide (n := 9)).1 ?_
  refine callsIn_of_wp_marks Tryz.func12 rfl trivial ?_ rfl
  simp only [Tryz.ntmps12, List.size_toArray, List.length_cons, List.length_nil, Nat.reduceAdd, Nat.reduceSub, Array.replicate_succ, Array.replicate_zero, List.push_toArray, List.append_toArray, List.nil_append, List.cons_append]
  gi_wp2_with (first
    | (refine ⟨trivial, ?_⟩; (try simp only [hW1, hg4]); gi_at_call 8; refine (callsIn_wide.2 HC.out).mono ?_; rintro e w2 ⟨rfl, b2⟩; have hw2 := H.out.below (below2 HBA.out b2); have k4 := (HB4.out.below b2).cell 0 rfl; have HB2 := Lib.hid b2)
    | (refine ⟨trivial, ?_⟩; gi_at_call 23; refine (callsIn_wide.2 (wlen_any o g bs _ hw2)).mono ?_; rintro e w3 ⟨rfl, rfl⟩))
  obtain ⟨g11, hg11⟩ : ∃ g11, w2.heap.size = g11 := ⟨_, rfl⟩
  have hb11 := below_alloc (Below.refl w2.heap.size w2) (.cells #[.int .i64 0] 3)
  have B11 : Blk (w2.alloc (.cells #[.int .i64 0] 3)) g11 #[.int .i64 0] 3 := by rw [← hg11]; exact heap_alloc_new w2 _
  obtain ⟨W0, hW0⟩ : ∃ W0, w2.alloc (.cells #[.int .i64 0] 3) = W0 := ⟨_, rfl⟩
  have hz11 : W0.heap.size = g11 + 1 := by rw [← hW0, World.size_alloc, hg11]
  rw [hW0] at hb11 B11
  simp only [hg11, hW0]
  have hb1 : Below W1.heap.size W1 W0 := below2 HB2.out hb11
  have hlow : Below w.heap.size w W0 := HBA.out.trans (hb1.mono HBA.out.size)
  have HORD := Lib.hid (show w.heap.size = g4 ∧ g4 < g11 ∧ g11 < W0.heap.size from ⟨HG4.out, by have := HB4.out.lt; have := HB2.out.size; omega, by omega⟩)
  have HLOW := Lib.hid hlow
  have HI0 : Hid (WqI o W0 g g4 g11 (bs ++ secP ws l s 0) (secA s 0) [] W0) := Lib.hid ⟨(by show Wr _ W0 g (bs ++ []); rw [List.append_nil]; exact (H.out.below hlow).weak fun b _ h => .inl h), Upd.refl _ _, HB4.out.below hb1, B11, List.nodup_nil, fun D h => by simp at h⟩
  have HNG := Lib.hid (And.intro ng nt)
  obtain ⟨hok, h128, hsum, hqu⟩ := sureE_facts HSU.out
  have HOKA := Lib.hid hok
  have HSUM := Lib.hid hsum
  have HLL := Lib.hid (show l.length ≤ 16384 by rw [← hsum]; have := sumV_le (ws := ws) ws.length (Nat.le_refl _) (by rw [List.take_length]; exact hok); omega)
  have HLS := Lib.hid (bks_shape HCK.out.1)
  clear hb11 B11 hb1 hlow hw2 k4 k40 hd hwp hW0 hz11 hg11 hok hsum hqu HB2 HB4 HBA HC H
  have hls : s.length ≤ 128 := HLS.out.1
  refine wpIn_loop (fun a' w' => ∃ (u13 u14 u35 u36 u37 u38 u39 u40 u41 u42 u43 u44 u45 u46 u47 u48 u49 u50 u51 u52 u53 u54 u55 u56 u57 u58 u59 u60 u61 u62 u63 u64 u65 u66 u67 u68 u69 u70 u71 u72 u73 : Value) (k : Nat) (Ds : List Nat), k ≤ s.length ∧ Hid (WqI o W0 g g4 g11 (bs ++ secP ws l s k) (secA s k) Ds w') ∧ a' = { tmps := (.pointer (some ⟨g, 0, none⟩) :: .slice A ws.length c :: .slice B l.length d :: .slice D s.length e0 :: .pointer (some ⟨g4, 0, none⟩) :: undef :: undef :: undef :: .int .i64 0 :: .int .i64 (N : Int) :: .int .i64 0 :: .pointer (some ⟨g11, 0, none⟩) :: undef :: u13 :: u14 :: .pointer (some ⟨g, 0, none⟩) :: .bool false :: .tuple #[.int .i64 (N : Int), .int .i64 0] :: .slice A ws.length c :: .slice B l.length d :: .slice D s.length e0 :: .tuple #[.int .i64 (N : Int), .int .i64 0] :: .int .i64 (N : Int) :: .int .i64 0 :: .int .i64 0 :: .bool false :: undef :: .pointer (some ⟨g, 0, none⟩) :: .int .i64 (bs.length : Int) :: .int .i64 (N : Int) :: .int .i64 ((bs.length : Int) + (N : Int)) :: .bool false :: .slice D s.length e0 :: .int .i64 (s.length : Int) :: .int .i64 (k : Int) :: u35 :: u36 :: u37 :: u38 :: u39 :: u40 :: u41 :: u42 :: u43 :: u44 :: u45 :: u46 :: u47 :: u48 :: u49 :: u50 :: u51 :: u52 :: u53 :: u54 :: u55 :: u56 :: u57 :: u58 :: u59 :: u60 :: u61 :: u62 :: u63 :: u64 :: u65 :: u66 :: u67 :: u68 :: u69 :: u70 :: u71 :: u72 :: u73 :: []).toArray, defers := Ds.map fun D => { target := .collected D, args := #[] } }) (fun a' _ => s.length - (intOf (a'.tmps.getD 34 undef)).toNat) ?start ?round
  case start => exact ⟨_, _, _, _, _, _, _, _, _, _, _, _, _, _, _, _, _, _, _, _, _, _, _, _, _, _, _, _, _, _, _, _, _, _, _, _, _, _, _, _, _, 0, [], Nat.zero_le _, HI0, rfl⟩
  case round =>
    rintro a' wr ⟨u13, u14, u35, u36, u37, u38, u39, u40, u41, u42, u43, u44, u45, u46, u47, u48, u49, u50, u51, u52, u53, u54, u55, u56, u57, u58, u59, u60, u61, u62, u63, u64, u65, u66, u67, u68, u69, u70, u71, u72, u73, k, Ds, hk, HI, rfl⟩
    clear HI0
    by_cases hlt : k < s.length
    · have hli : (k : Int) < (s.length : Int) := by omega
      have hk1 : IntKind.i64.wrap ((k : Int) + 1) = ((k + 1 : Nat) : Int) := by rw [IntWalk.i64_in _ (by omega)]; omega
      have hsh := HLS.out.2 k hlt
      have HUW := Lib.hid (show Upd o w wr from (Upd.of_below HLOW.out o).trans HI.out.upd fun b hb h => h.elim id fun e => by have := HORD.out; omega)
      have hkp := HUW.out.keep (ok := fun b => ¬ o b) fun b h => h
      obtain ⟨ad, hAD, _, k0, k1⟩ := rd_se (HR.out.keep hkp) k hlt
      subst hAD
      obtain ⟨x1, hx1⟩ : ∃ x1 : Nat, (nth (0, 0) s k).1 = (x1 : Int) := ⟨(nth (0, 0) s k).1.toNat, by omega⟩
      obtain ⟨m, hm⟩ : ∃ m : Nat, (nth (0, 0) s k).2 = (m : Int) := ⟨(nth (0, 0) s k).2.toNat, by omega⟩
      have HP := Lib.hid (show secP ws l s (k + 1) = secP ws l s k ++ (numB x1 3 ++ gamB m ++ secB ws l (x1 : Int) (secA s k) m) by
        show secP ws l s k ++ _ = _
        rw [hx1, hm, Int.toNat_natCast, Int.toNat_natCast])
      have HA := Lib.hid (show secA s (k + 1) = secA s k + m by rw [secA_succ, hm, Int.toNat_natCast])
      have HPL := Lib.hid (show bs.length + (secP ws l s (k + 1)).length ≤ 1048576 by
        have := secP_mono ws l s (k + 1) (s.length - (k + 1))
        rw [show k + 1 + (s.length - (k + 1)) = s.length by omega, ← HN.out] at this
        have := HL.out
        omega)
      have HAM := Lib.hid (show secA s k + m ≤ ws.length by
        have := secA_mono s (k + 1) (s.length - (k + 1))
        rw [show k + 1 + (s.length - (k + 1)) = s.length by omega, HCK.out.2, HA.out] at this
        exact this)
      rw [hx1] at k0
      rw [hm] at k1
      have HMB := Lib.hid (show x1 < 8 ∧ 1 ≤ m ∧ m ≤ 128 by omega)
      clear hx1 hm hsh hkp
      obtain ⟨n0, hn0⟩ : ∃ n0, secA s k = n0 := ⟨_, rfl⟩
      obtain ⟨bits0, hb0⟩ : ∃ bits0, bs ++ secP ws l s k = bits0 := ⟨_, rfl⟩
      rw [hn0] at HI HP HA HAM
      rw [hb0] at HI
      have HBT := Lib.hid (show bs ++ secP ws l s (k + 1) = bits0 ++ numB x1 3 ++ gamB m ++ secB ws l (x1 : Int) n0 m by rw [HP.out, ← hb0]; simp)
      have HBL := Lib.hid (show (bits0 ++ numB x1 3 ++ gamB m ++ secB ws l (x1 : Int) n0 m).length ≤ 1048576 by rw [← HBT.out, List.length_append]; exact HPL.out)
      clear hb0 HP HPL hn0
      obtain ⟨g13, hg13⟩ : ∃ g13, wr.heap.size = g13 := ⟨_, rfl⟩
      have hb13 := below_alloc (Below.refl wr.heap.size wr) (.cells #[.int .i64 (x1 : Int), .int .i64 (m : Int)] 47)
      have B13 : Blk (wr.alloc (.cells #[.int .i64 (x1 : Int), .int .i64 (m : Int)] 47)) g13 #[.int .i64 (x1 : Int), .int .i64 (m : Int)] 47 := by rw [← hg13]; exact heap_alloc_new wr _
      obtain ⟨w3, hw3⟩ : ∃ w3, wr.alloc (.cells #[.int .i64 (x1 : Int), .int .i64 (m : Int)] 47) = w3 := ⟨_, rfl⟩
      have hz13 : w3.heap.size = g13 + 1 := by rw [← hw3, World.size_alloc, hg13]
      rw [hw3] at hb13 B13
      obtain ⟨of1, hf1, hq1, ho1⟩ := HI.out.wr.exactly hb13
      have hwz := HI.out.upd.size
      have HOR := Lib.hid (show g11 < g13 ∧ W0.heap.size ≤ g13 ∧ w3.heap.size = g13 + 1 from ⟨by have := HORD.out; omega, by omega, hz13⟩)
      have HF1 := Lib.hid (show ¬ of1 g4 ∧ ¬ of1 g11 ∧ ¬ of1 g13 from
        ⟨fun h => by rcases (hf1 _ h).1 with h | h
                     · have := HO.out _ h; have := HORD.out; omega
                     · have := HORD.out; omega,
         fun h => by rcases (hf1 _ h).1 with h | h
                     · have := HO.out _ h; have := HORD.out; omega
                     · have := HORD.out; omega,
         fun h => by have := (hf1 _ h).2; omega⟩)
      have HFI := Lib.hid (fun b (h : of1 b) => (hf1 b h).1)
      have HO1 := Lib.hid ho1
      have HC3 := Lib.hid (show Blk w3 g4 #[.pointer (some ⟨g, 0, none⟩)] 34 ∧ Blk w3 g11 #[.int .i64 (n0 : Int)] 3 ∧ Blk w3 g13 #[.int .i64 (x1 : Int), .int .i64 (m : Int)] 47 from ⟨HI.out.pc.below hb13, HI.out.cnt.below hb13, B13⟩)
      have HB13 := Lib.hid hb13
      have HG13 := Lib.hid hg13
      have HPUT := Lib.hid (hq1.put (Below.refl _ _) x1 3 (by decide) (by have := HMB.out; omega) (by have := HBL.out; simp only [List.length_append, numB_length] at this; omega))
      have j4 := HC3.out.1.cell 0 rfl
      have j13 := HC3.out.2.2.cell 0 rfl
      have HQ1 := Lib.hid hq1
      clear hb13 B13 hf1 hq1 ho1 hwz hz13
      gi_wp2_with (first
        | (refine ⟨trivial, ?_⟩; (try simp only [hw3, hg13]); gi_at_call 31; refine (callsIn_wide.2 HPUT.out).mono ?_; rintro e w4 ⟨⟨E4, rfl⟩, _, hk4, hq4⟩; have HC4 := Lib.hid (show Blk w4 g4 #[.pointer (some ⟨g, 0, none⟩)] 34 ∧ Blk w4 g13 #[.int .i64 (x1 : Int), .int .i64 (m : Int)] 47 from ⟨HC3.out.1.keep hk4 ⟨HF1.out.1, HC3.out.1.lt⟩, HC3.out.2.2.keep hk4 ⟨HF1.out.2.2, HC3.out.2.2.lt⟩⟩); have i4 := HC4.out.1.cell 0 rfl; have i13 := HC4.out.2.cell 1 rfl; have HQ4 := Lib.hid hq4; have HGA := Lib.hid (hq4.gamma (Below.refl _ _) m HMB.out.2.1 (by have := HMB.out; omega) (by have := HBL.out; simp only [List.length_append, numB_length] at this ⊢; omega)); clear hk4 hq4)
        | (refine ⟨trivial, ?_⟩; gi_at_call 32; refine (callsIn_wide.2 HGA.out).mono ?_; rintro e w5 ⟨⟨E5, rfl⟩, _, _, hq5⟩; have HQ5 := Lib.hid hq5; clear hq5)
        | (refine ⟨trivial, ?_⟩; gi_at_call 33; refine (callsIn_wide.2 (bands_any A B ws.length c l.length d _)).mono ?_; rintro e W6 ⟨h1, h2, rfl, e1, e2, e3, bF, bS, b6⟩))
      have he1 := e1.out
      have he2 := e2.out
      have he3 := e3.out
      have U35 : Upd of1 w3 W6 := HQ5.out.upd.trans (Upd.of_below b6 (fun _ => False)) fun _ _ h => h.elim
      have K36 := U35.keep (ok := fun b => ¬ of1 b) fun b h => h
      obtain ⟨of6, hf6, hq6, ho6⟩ := HQ5.out.wr.exactly b6
      have hz35 := HQ5.out.upd.size
      have hz3 := HOR.out
      have hz0 := HORD.out
      have HC6 := Lib.hid (show Blk W6 g4 #[.pointer (some ⟨g, 0, none⟩)] 34 ∧ Blk W6 g11 #[.int .i64 (n0 : Int)] 3 ∧ Blk W6 g13 #[.int .i64 (x1 : Int), .int .i64 (m : Int)] 47 from ⟨HC3.out.1.keep K36 HF1.out.1, HC3.out.2.1.keep K36 HF1.out.2.1, HC3.out.2.2.keep K36 HF1.out.2.2⟩)
      have HF6 := Lib.hid (show ¬ of6 g4 ∧ ¬ of6 g11 ∧ ¬ of6 g13 ∧ ¬ of6 h1 ∧ ¬ of6 h2 from
        ⟨fun h => by rcases (hf6 _ h).1 with h | h
                     · exact HF1.out.1 h
                     · omega,
         fun h => by rcases (hf6 _ h).1 with h | h
                     · exact HF1.out.2.1 h
                     · omega,
         fun h => by rcases (hf6 _ h).1 with h | h
                     · exact HF1.out.2.2 h
                     · omega,
         fun h => by have := (hf6 _ h).2; omega, fun h => by have := (hf6 _ h).2; omega⟩)
      have HFJ := Lib.hid (show ∀ b, of6 b → o b ∨ W0.heap.size ≤ b from fun b h => by
        rcases (hf6 b h).1 with h | h
        · exact HFI.out b h
        · exact .inr (by omega))
      have HU06 := Lib.hid (show Upd (fun b => o b ∨ b = g11) W0 W6 from (HI.out.upd.trans (Upd.of_below HB13.out (fun _ => False)) fun _ _ h => h.elim).trans U35 fun b hb h => by
        rcases HFI.out b h with h | h
        · exact .inl h
        · omega)
      have HUW6 := Lib.hid (show Upd o w W6 from (Upd.of_below HLOW.out o).trans HU06.out fun b hb h => h.elim id fun e => by omega)
      have HO6 := Lib.hid ho6
      have HKD := Lib.hid (show ∀ D o, wr.heap[D]? = some o → o.isCells = false → W6.heap[D]? = some o from fun D o h h2 =>
        (b6.block D (Array.getElem?_eq_some_iff.1 ((HO1.out _ HQ5.out.upd).same D o ((HB13.out.block D (Array.getElem?_eq_some_iff.1 h).1).trans h) h2)).1).trans ((HO1.out _ HQ5.out.upd).same D o ((HB13.out.block D (Array.getElem?_eq_some_iff.1 h).1).trans h) h2))
      have HZ6 := Lib.hid (show g4 < g11 ∧ g11 < g13 ∧ g13 < h1 ∧ h1 + 1 = h2 ∧ W6.heap.size = h2 + 1 ∧ w.heap.size = g4 ∧ wr.heap.size = g13 from ⟨by omega, by omega, by omega, by omega, by omega, by omega, HG13.out⟩)
      have hkw6 := HUW6.out.keep (ok := fun b => ¬ o b) fun b h => h
      have hS6 := HS.out.keep hkw6
      have hT6 := HT.out.keep hkw6
      have hokA : Sl (kInt .i64) (fun x => x = h1 ∨ x = h2 ∨ (x < w.heap.size ∧ ¬ o x)) W6 A c ws :=
        ((HS.out.weak (ok' := fun b => ¬ o b ∧ b < w.heap.size) fun b hb h => ⟨h, hb⟩).keep (hkw6.weak fun b h => h.1)).weak fun b _ h => .inr (.inr ⟨h.2, h.1⟩)
      obtain ⟨bits3, hb3⟩ : ∃ bits3, bits0 ++ numB x1 3 ++ gamB m = bits3 := ⟨_, rfl⟩
      rw [hb3] at hq6
      have HB3 := Lib.hid hb3
      have HBM := Lib.hid (show ∀ q, q ≤ m → (bits3 ++ secB ws l (x1 : Int) n0 q).length ≤ 1048576 from fun q hq => by
        have h := HBL.out
        have h2 := secB_mono ws l (x1 : Int) n0 q (m - q)
        rw [show q + (m - q) = m by omega] at h2
        rw [hb3] at h
        rw [List.length_append] at h ⊢
        omega)
      have hHO := HO.out
      have hq0 : w.heap.size ≤ W6.heap.size := HUW6.out.size
      clear he1 he2 he3 e1 e2 e3 U35 K36 hf6 ho6 hz35 hz3 hkw6 hb3 b6
      refine range_next rfl (by decide) (gf := 59) (lb := #[.pointer (some ⟨h1, 0, none⟩), .pointer (some ⟨h2, 0, none⟩)]) rfl trivial (enters_of Tryz.func59 (by kernel_rfl) rfl)
        (bands1_yields h1 h2 A B c d ws l W6 (fun x => x = h1 ∨ x = h2 ∨ (x < w.heap.size ∧ ¬ o x)) hS6.any hT6.any bF bS (.inl rfl) (.inr (.inl rfl)) hokA 8 (by decide) HOKA.out HSUM.out h128) (fun r h => h.elim) (fun r h => by have := HZ6.out; omega) (Below.refl _ _) (fun _ => rfl)
        (fun pre W => BwI of6 W6 g (bits3 ++ secB ws l (x1 : Int) n0 (min (pre.length - n0) m)) W) (fun _ _ _ => False) ?hI (fun _ _ _ _ _ h _ _ => h) (by rw [show min (([] : List Nat).length - n0) m = 0 by simp, show secB ws l (x1 : Int) n0 0 = [] from rfl, List.append_nil]; exact hq6)
        (fun x a' W => ∃ g14, Blk W g14 #[.int .i64 (x : Int), bandV B ws x] 73 ∧ a' = { tmps := (.pointer (some ⟨g, 0, none⟩) :: .slice A ws.length c :: .slice B l.length d :: .slice (some ad) s.length e0 :: .pointer (some ⟨g4, 0, none⟩) :: undef :: undef :: undef :: .int .i64 0 :: .int .i64 (N : Int) :: .int .i64 0 :: .pointer (some ⟨g11, 0, none⟩) :: undef :: .pointer (some ⟨g13, 0, none⟩) :: .pointer (some ⟨g14, 0, none⟩) :: .pointer (some ⟨g, 0, none⟩) :: .bool false :: .tuple #[.int .i64 (N : Int), .int .i64 0] :: .slice A ws.length c :: .slice B l.length d :: .slice (some ad) s.length e0 :: .tuple #[.int .i64 (N : Int), .int .i64 0] :: .int .i64 (N : Int) :: .int .i64 0 :: .int .i64 0 :: .bool false :: undef :: .pointer (some ⟨g, 0, none⟩) :: .int .i64 (bs.length : Int) :: .int .i64 (N : Int) :: .int .i64 ((bs.length : Int) + (N : Int)) :: .bool false :: .slice (some ad) s.length e0 :: .int .i64 (s.length : Int) :: .int .i64 (k : Int) :: .bool true :: .pointer (some (ad.add (k * 2))) :: .agg #[.int .i64 (x1 : Int), .int .i64 (m : Int)] :: .pointer (some ⟨g, 0, none⟩) :: .pointer (some ⟨g13, 0, none⟩) :: .int .i64 (x1 : Int) :: .int .i64 E4 :: .pointer (some ⟨g, 0, none⟩) :: .pointer (some ⟨g13, 1, none⟩) :: .int .i64 (m : Int) :: .int .i64 E5 :: .slice A ws.length c :: .slice B l.length d :: .func (.func 59) #[] #[.pointer (some ⟨h1, 0, none⟩), .pointer (some ⟨h2, 0, none⟩)] :: .agg #[.int .i64 (x : Int), bandV B ws x] :: u50 :: u51 :: u52 :: u53 :: u54 :: u55 :: u56 :: u57 :: u58 :: u59 :: u60 :: u61 :: u62 :: u63 :: u64 :: u65 :: u66 :: u67 :: u68 :: u69 :: u70 :: u71 :: u72 :: u73 :: []).toArray, defers := [] })
        ?hAx ?assign ?body ?done ?stop
      case hI =>
        rintro pre X Y row hs hg hr
        have hO : Other X row := fun r e => by
          rcases hr r e with h | ⟨_, x, hx, hc⟩
          · exact h.elim
          · exact ⟨x, hx, hc⟩
        exact ⟨hs.wr.firm hg hO, hs.upd.trans (Upd.of_grown (o := fun b => W6.heap.size ≤ b) hg fun r e => by
          rcases hr r e with h | ⟨h, _⟩
          · exact h.elim
          · exact h) fun b hb h => by omega⟩
      case hAx =>
        rintro x a' _ X Y row ⟨g14, h2, h3⟩ hg hr
        have hO : Other X row := fun r e => by
          rcases hr r e with h | ⟨_, x, hx, hc⟩
          · exact h.elim
          · exact ⟨x, hx, hc⟩
        exact ⟨g14, h2.firm hg hO, h3⟩
      case assign =>
        intro r pre x W K hi _ hK
        simp only [bandV]
        gi_wp2
        have hb := below_alloc (Below.refl W.heap.size W) (.cells #[.int .i64 (x : Int), bandV B ws x] 73)
        exact hK _ _ (keepsL hb) ⟨hb.size, fun i hi _ => hb.block i hi⟩ (hi.below hb) ⟨_, heap_alloc_new W _, rfl⟩
      case stop =>
        rintro D2 cd xs W hD _ h hK
        exact h.elim
      case done =>
        rintro D2 xs W hD rfl hs hK
        rw [List.length_range, show min (ws.length - n0) m = m by have := HAM.out; omega] at hs
        have KC := hs.upd.keep (ok := fun b => ¬ of6 b) fun b h => h
        have Z11 := HC6.out.2.1.keep KC HF6.out.2.1
        have HZZ := Lib.hid (And.intro (HC6.out.1.keep KC HF6.out.1) Z11)
        have k11 := Z11.cell 0 rfl
        have f11 := Z11.free 0
        have k13 := (HC6.out.2.2.keep KC HF6.out.2.2.1).cell 1 rfl
        obtain ⟨n1, hn1⟩ : ∃ n1, n0 + m = n1 := ⟨_, rfl⟩
        have hwa : IntKind.i64.wrap ((n0 : Int) + (m : Int)) = (n1 : Int) := by rw [IntWalk.i64_in _ (by have := HAM.out; omega)]; omega
        have HN1 := Lib.hid (show secA s (k + 1) = n1 from HA.out.trans hn1)
        have HS2 := Lib.hid hs
        have HK := Lib.hid hK
        have HD := Lib.hid hD
        have HNEW : Hid (WqI o W0 g g4 g11 (bs ++ secP ws l s (k + 1)) (secA s (k + 1)) (D2 :: Ds) (W.setCell ⟨g11, 0, none⟩ (.int .i64 (n1 : Int)))) := by
          have hz6 := HZ6.out
          have hu11 : Upd (fun b => b = g11) W (W.setCell ⟨g11, 0, none⟩ (.int .i64 (n1 : Int))) := Upd.setCell _ W g11 0 _ rfl
          have hk11 := hu11.keep (ok := fun b => b ≠ g11) fun b h => h
          have hz06 := HU06.out.size
          rw [HN1.out, HBT.out, HB3.out]
          refine Lib.hid ⟨?_, ?_, HZZ.out.1.keep hk11 (by omega), HZZ.out.2.set 0 _, List.nodup_cons.2 ⟨fun hm => ?_, HI.out.nd⟩, fun D hDm => ?_⟩
          · refine (hs.wr.weak (o' := fun b => o b ∨ W0.heap.size ≤ b) fun b hb h => ?_).upd hu11 fun b hb h e => ?_
            · rcases h with h | h
              · exact HFJ.out b h
              · exact .inr (by omega)
            · rcases h with h | h
              · have := hHO b h; omega
              · omega
          · refine (HU06.out.trans hs.upd fun b hb h => ?_).trans hu11 fun b hb h => .inr h
            rcases HFJ.out b h with h | h
            · exact .inl h
            · omega
          · have := (Array.getElem?_eq_some_iff.1 (HI.out.ds D2 hm).2).1
            omega
          · have key : ∀ D : Nat, W.heap[D]? = some (Obj.deferred (some [])) → (W.setCell ⟨g11, 0, none⟩ (.int .i64 (n1 : Int))).heap[D]? = some (Obj.deferred (some [])) := fun D h => (hu11.blk D (Array.getElem?_eq_some_iff.1 h).1 (fun e => by
              subst e
              rw [show W.heap[D]? = _ from HZZ.out.2] at h; cases h)).trans h
            rcases List.mem_cons.1 hDm with e | h
            · subst e
              exact ⟨by omega, key D hK⟩
            · obtain ⟨q1, q2⟩ := HI.out.ds D h
              exact ⟨q1, key D ((HO6.out W hs.upd).same D _ (HKD.out D _ q2 rfl) rfl)⟩
        clear hs hK Z11 KC hn1 hD bF bS hq6 hS6 hT6 hokA
        gi_wp2
        exact ⟨⟨_, _, _, _, _, _, _, _, _, _, _, _, _, _, _, _, _, _, _, _, _, _, _, _, _, _, _, _, _, _, _, _, _, _, _, _, _, _, _, _, _, k + 1, D2 :: Ds, by omega, HNEW, rfl⟩, by simp [intOf]; omega⟩
      case body =>
        rintro r pre j a' W hs ⟨g14, B14, rfl⟩ ⟨hj, hpre⟩
        have hpl : pre.length = j := by rw [hpre, List.length_range]
        have hpl2 : (pre ++ [j]).length = j + 1 := by rw [List.length_append, hpl]; rfl
        rw [hpl] at hs
        obtain ⟨hwn, hw1, hw128⟩ := okV_at HOKA.out j hj
        have hle2 := sumV_all HSUM.out j hj
        obtain ⟨bd, hBD, _⟩ := rd_int hT6.any 0 (by omega)
        subst hBD
        have hbl : (bndL ws l j).length = widV ws j := by unfold bndL; rw [List.length_take, List.length_drop]; omega
        have hUW : Upd o w W := HUW6.out.trans hs.upd fun b hb h => by
          rcases HFJ.out b h with h | h
          · exact h
          · have := HLOW.out.size; omega
        have hKW := hUW.keep (ok := fun b => ¬ o b) fun b h => h
        have hTW : Sl (kInt .i64) (fun b => ¬ of6 b ∧ b < W6.heap.size) W (some (bd.add (sumV ws j))) (widV ws j) (bndL ws l j) := by
          have h1 := ((HT.out.weak (ok' := fun b => ¬ o b ∧ b < w.heap.size) fun b hb h => ⟨h, hb⟩).keep (hKW.weak fun b h => h.1)).weak (ok' := fun b => ¬ of6 b ∧ b < W6.heap.size) fun b _ h => ⟨fun h6 => by
            rcases HFJ.out b h6 with h7 | h7
            · exact h.1 h7
            · have := HLOW.out.size; omega, by omega⟩
          have h2 := grp_sl h1 (sumV ws j) (widV ws j) hle2
          rw [show sumV ws j * (kInt .i64).size = sumV ws j from Nat.mul_one _] at h2
          have e : (l.take (sumV ws j + widV ws j)).drop (sumV ws j) = bndL ws l j := by unfold bndL; rw [List.drop_take]; congr 1; omega
          rwa [e] at h2
        have hGW := HGG.out.1.keep hKW HNG.out.1
        have hTW2 := HGG.out.2.keep hKW HNG.out.2
        have HBK := Lib.hid (fun q (h1 : min (j - n0) m = q) (h2 : n0 + q = j) (h3 : q + 1 ≤ m) => by
          have hs2 := hs
          rw [h1] at hs2
          have := hs2.book (Below.refl _ _) (some (bd.add (sumV ws j))) (widV ws j) (x1 : Int) (bndL ws l j) hTW hGW hTW2 (by rw [hbl]; omega) (by
            have h4 := HBM.out (q + 1) h3
            rw [secB_succ, h2] at h4
            rw [List.length_append] at h4 ⊢
            rw [List.length_append] at h4
            omega)
          rw [hbl] at this
          rw [List.append_assoc, ← h2, ← secB_succ] at this
          rw [h2] at this
          exact this)
        have KC := hs.upd.keep (ok := fun b => ¬ of6 b) fun b h => h
        have k4 := (HC6.out.1.keep KC HF6.out.1).cell 0 rfl
        have k11 := (HC6.out.2.1.keep KC HF6.out.2.1).cell 0 rfl
        have k13 := (HC6.out.2.2.keep KC HF6.out.2.2.1).cell 0 rfl
        have k13b := (HC6.out.2.2.keep KC HF6.out.2.2.1).cell 1 rfl
        have k14 := B14.cell 0 rfl
        have k14b := B14.cell 1 rfl
        have hbv : bandV (some bd) ws j = .slice (some (bd.add (sumV ws j))) (widV ws j) (widV ws j) := rfl
        rw [hbv] at k14b
        simp only [hbv]
        obtain ⟨n1, hn1⟩ : ∃ n1, n0 + m = n1 := ⟨_, rfl⟩
        have hwa : IntKind.i64.wrap ((n0 : Int) + (m : Int)) = (n1 : Int) := by rw [IntWalk.i64_in _ (by have := HAM.out; omega)]; omega
        have HN1 := Lib.hid hn1
        have HW := Lib.hid hs
        have HPL := Lib.hid hpl2
        clear hs hTW hGW hTW2 hKW hUW KC hbl hwn hw1 hw128 hle2 hpl hpl2 hpre bF bS hq6 hS6 hT6 hokA hbv B14 hn1
        by_cases c1 : n0 ≤ j
        · by_cases c2 : j < n1
          · have d1 : decide ((n0 : Int) ≤ (j : Int)) = true := decide_eq_true (by omega)
            have d2 : decide ((j : Int) < (n1 : Int)) = true := decide_eq_true (by omega)
            have HB := Lib.hid (HBK.out (j - n0) (by have := HN1.out; omega) (by omega) (by have := HN1.out; omega))
            have HE := Lib.hid (show min ((pre ++ [j]).length - n0) m = j - n0 + 1 by rw [HPL.out]; have := HN1.out; omega)
            gi_wp2_with (refine ⟨trivial, ?_⟩; gi_at_call 34; refine (CallsIn.inRound r (callsIn_wide.2 HB.out)).mono ?_; rintro e w7 ⟨⟨E7, rfl⟩, hk7, hp7, hq7⟩)
            refine ⟨hk7, ?_, ?_⟩
            · exact hp7.weak fun i hi => by
                have hz6 := HZ6.out
                have hz0 := HORD.out
                have hl6 := HLOW.out.size
                rcases hi with rfl | rfl | hi
                · exact ⟨HF6.out.2.2.2.1, by omega⟩
                · exact ⟨HF6.out.2.2.2.2, by omega⟩
                · exact ⟨fun h6 => by
                    rcases HFJ.out i h6 with h7 | h7
                    · exact hi.2 h7
                    · omega, by omega⟩
            · show BwI of6 W6 g _ w7
              rw [HE.out]
              exact hq7
          · have d1 : decide ((n0 : Int) ≤ (j : Int)) = true := decide_eq_true (by omega)
            have d2 : decide ((j : Int) < (n1 : Int)) = false := decide_eq_false (by omega)
            have HE := Lib.hid (show min ((pre ++ [j]).length - n0) m = min (j - n0) m by rw [HPL.out]; have := HN1.out; omega)
            gi_wp2_with fail
            refine ⟨keepsL (Below.refl _ _), Keep.refl _ _, ?_⟩
            show BwI of6 W6 g _ W
            rw [HE.out]
            exact HW.out
        · have d1 : decide ((n0 : Int) ≤ (j : Int)) = false := decide_eq_false (by omega)
          have HE := Lib.hid (show min ((pre ++ [j]).length - n0) m = min (j - n0) m by rw [HPL.out]; omega)
          gi_wp2_with fail
          refine ⟨keepsL (Below.refl _ _), Keep.refl _ _, ?_⟩
          show BwI of6 W6 g _ W
          rw [HE.out]
          exact HW.out
    · obtain rfl : k = s.length := by omega
      have hnl : ¬ (s.length : Int) < (s.length : Int) := by omega
      gi_wp2
      have hz0 := HORD.out
      have hl := HLOW.out.size
      have hg4' := HG4.out
      refine leaves_marks2 (J := fun W => Wr (fun b => o b ∨ g4 ≤ b) W g (bs ++ secP ws l s s.length) ∧ Upd o w W) (M := fun D => w.heap.size ≤ D) (fun W D hD h h2 => ?_) (fun W h => ⟨.int .i64 0, by simp [results, Tryz.f12, go_sem], rfl, h⟩) Ds wr HI.out.nd (fun D hD => ⟨by have := (HI.out.ds D hD).1; omega, (HI.out.ds D hD).2⟩) ⟨HI.out.wr.weak (fun b _ h => ?_), ?_⟩
      · have hg := grownBy_putObj' W D (Obj.deferred none)
        exact ⟨h.1.firm hg fun r e => by cases e; exact ⟨_, h2, rfl⟩, h.2.trans (Upd.of_grown (o := fun b => w.heap.size ≤ b) hg fun r e => by cases e; exact hD) fun b hb h => by omega⟩
      · rcases h with h | h
        · exact .inl h
        · exact .inr (by omega)
      · exact (Upd.of_below HLOW.out o).trans HI.out.upd fun b hb h => h.elim id fun e => by omega
end Go.Proofs.YtmcdgmiheklbeaaGreatDoor

namespace Go.Proofs.YtmcdgmiheklbeaaGreatDoor
open Go.RowKit

/-- The error of Write, behind so many bits. -/
def wrS (ws l : List Int) (s : List (Int × Int)) (n : Nat) : Int := if (costQ ws l s).2 ≠ 0 then (costQ ws l s).2 else if 1048576 < (n : Int) + (costQ ws l s).1 then 2 else 0
/-- The bits behind Write. -/
def wrB (ws l : List Int) (s : List (Int × Int)) (bs : List Bool) : List Bool := if wrS ws l s bs.length = 0 then bs ++ secP ws l s s.length else bs
theorem costQ_le (ws l : List Int) (s : List (Int × Int)) (N : Nat) (h : costQ ws l s = ((N : Int), 0)) : N ≤ 100000000 := by
  obtain ⟨hsu, hco, hcq⟩ := costQ_ok (show (costQ ws l s).2 = 0 by rw [h])
  obtain ⟨hok, h128, hsum, _⟩ := sureE_facts hsu
  have h1 := (ways_of_cost hco).bound hok h128
  obtain ⟨_, _, _, _, _, h6⟩ := costV_ok hco
  have h2 : costQ ws l s = ((costV ws l s).1, 0) := by rw [hcq, h6]
  rw [h2] at h
  have h3 := congrArg Prod.fst h
  simp only at h3
  rw [h3] at h1
  have := h1.2
  omega
theorem sWrite_any (o : Nat → Prop) (g : Nat) (A B D : Option Addr) (c d e0 : Nat) (ws l : List Int) (s : List (Int × Int)) (bs : List Bool) (w : World) (ho : ∀ b, o b → b < w.heap.size) (h : Wr o w g bs) (hS : Sl (kInt .i64) (fun b => ¬ o b) w A c ws) (hT : Sl (kInt .i64) (fun b => ¬ o b) w B d l) (hR : Sl kSe (fun b => ¬ o b) w D e0 s) (hG : GF w) (hGT : GT w) (ng : ¬ o 0) (nt : ¬ o 1) (hw : ws.length ≤ 100000) (hl : bs.length ≤ 1048576) :
    Calls Tryz.prog 12 #[.pointer (some ⟨g, 0, none⟩), .slice A ws.length c, .slice B l.length d, .slice D s.length e0] w fun e w' => e = .returned (.int .i64 (wrS ws l s bs.length)) ∧ Wr (fun b => o b ∨ w.heap.size ≤ b) w' g (wrB ws l s bs) ∧ Upd o w w' := by
  by_cases he : (costQ ws l s).2 = 0
  · obtain ⟨hsu, hco, hcq⟩ := costQ_ok he
    obtain ⟨N, hN⟩ : ∃ N : Nat, (secP ws l s s.length).length = N := ⟨_, rfl⟩
    rw [hN] at hcq
    have hNb := costQ_le ws l s N hcq
    by_cases hf : bs.length + N ≤ 1048576
    · have e1 : wrS ws l s bs.length = 0 := by unfold wrS; rw [if_neg (by simp [he]), hcq, if_neg (by show ¬ (1048576 : Int) < (bs.length : Int) + (N : Int); omega)]
      unfold wrB
      rw [e1, if_pos rfl]
      exact sWrite_go o g A B D c d e0 ws l s bs w N ho h hS hT hR hG hGT ng nt hw hcq hf
    · have e1 : wrS ws l s bs.length = 2 := by unfold wrS; rw [if_neg (by simp [he]), hcq, if_pos (by show (1048576 : Int) < (bs.length : Int) + (N : Int); omega)]
      unfold wrB
      rw [e1, if_neg (by decide)]
      exact (sWrite_full o g A B D c d e0 ws l s bs w N h hS.any hT.any hR.any hG hGT hw hcq hNb hl (by omega)).mono fun _ _ ⟨q1, q2⟩ => ⟨q1, (h.below q2).weak (fun _ _ x => .inl x), Upd.of_below q2 o⟩
  · have e1 : wrS ws l s bs.length = (costQ ws l s).2 := by unfold wrS; rw [if_pos he]
    unfold wrB
    rw [e1, if_neg he]
    exact (sWrite_err o g A B D c d e0 ws l s bs w h hS.any hT.any hR.any hG hGT hw he).mono fun _ _ ⟨q1, q2⟩ => ⟨q1, (h.below q2).weak (fun _ _ x => .inl x), Upd.of_below q2 o⟩
end Go.Proofs.YtmcdgmiheklbeaaGreatDoor

namespace Go.Proofs.YtmcdgmiheklbeaaGreatDoor
open Go.RowKit

set_option maxHeartbeats 2000000 in
set_option maxRecDepth 100000 in
theorem tbits_any (A : Option Addr) (c : Nat) (b : List Int) (n : Nat) (w : World) (hS : RY w A c b) (hb : ∀ x ∈ b, 0 ≤ x ∧ x < 256) (h8 : n ≤ 8 * b.length) (hm : b.length ≤ 10000000) :
    Calls Tryz.prog 30 #[.slice A b.length c, .int .i64 (n : Int)] w fun e w' => ∃ x, e = .returned x ∧ OwnI 5 .u8 w.heap.size w' x (bitsI (ofB b n)) ∧ Below w.heap.size w w' := by
  have hw8 : IntKind.i64.wrap (8 * (b.length : Int)) = 8 * (b.length : Int) := IntWalk.i64_in _ (by omega)
  have HX := Lib.hid hb
  have HL := Lib.hid (ofB_length b n)
  have HS := Lib.hid hS
  clear hb hS
  go_enter Tryz.func30, Tryz.ntmps30
  go_wp2
  go_loopw [5, 6] (fun v i wr => ∃ k : Nat, k ≤ n ∧ i = .int .i64 (k : Int) ∧ Hid (OwnI 5 .u8 w.heap.size wr v (bitsI ((ofB b n).take k))) ∧ Hid (Below w.heap.size w wr)) (fun _ i _ => n - (intOf i).toNat)
  case atStart => exact ⟨0, Nat.zero_le _, rfl, Lib.hid (OwnI.nil _ _ _ _), Lib.hid (Below.refl _ _)⟩
  case round =>
    obtain ⟨k, hk, rfl, hO, hB⟩ := hrel
    by_cases hlt : k < n
    · obtain ⟨ad, rfl, hc⟩ := rd_int (HS.out.below hB.out) (k / 8) (by omega)
      have hxb := HX.out _ (nth_mem 0 b (k / 8) (by omega))
      have hx := bitB_and8 b k hxb.1 hxb.2
      have HTK := Lib.hid (show bitsI ((ofB b n).take (k + 1)) = bitsI ((ofB b n).take k) ++ [b2i (bitB b k)] by
        rw [take_succ_nth false _ k (by rw [HL.out]; exact hlt), ofB_nth _ _ _ hlt]; simp [bitsI])
      have hlen : (bitsI ((ofB b n).take k)).length ≤ 100000000 := by rw [bitsI_length, List.length_take]; omega
      obtain ⟨q, hq⟩ : ∃ q, k / 8 = q := ⟨_, rfl⟩
      obtain ⟨t, ht⟩ : ∃ t, 7 - k % 8 = t := ⟨_, rfl⟩
      rw [hq, ht] at hx
      rw [hq] at hc
      have hql : q < b.length := by omega
      have hqli : (q : Int) < (b.length : Int) := by omega
      have hqd : (k : Int) / 8 = (q : Int) := by omega
      have htd : 7 - (k : Int) % 8 = (t : Int) := by omega
      have ht7 : t ≤ 7 := by omega
      have hd1 : decide ((k : Int) < (n : Int)) = true := decide_eq_true (by omega)
      have hd2 : decide ((k : Int) < 8 * (b.length : Int)) = true := decide_eq_true (by omega)
      have hd1N : decide (k < n) = true := decide_eq_true hlt
      have hd2N : decide (k < 8 * b.length) = true := decide_eq_true (by omega)
      generalize b2i (bitB b k) = y at hx HTK
      have HLT := Lib.hid hlt
      clear hxb hq ht hlt
      go_wp2_with (at_builtin; (refine append_one (w0 := w) w.heap.size rfl (.tmp 19) (.tmp 30) 35 5 .u8 1 rfl Tryz.underlying35 infoY (by decide) u5 (bitsI ((ofB b n).take k)) y rfl rfl hO.out hB.out hB.out.size (by omega) ?_); intro v1 w4 hO4 hB4 _ _; have HO4 := Lib.hid hO4; have HB4 := Lib.hid hB4; clear hO4 hB4)
      go_roundw
      case rel => exact ⟨k + 1, HLT.out, by go_num, by rw [HTK.out]; exact HO4, HB4⟩
      case measure => have := HLT.out; simp [intOf]; omega
    · obtain rfl : k = n := by omega
      have hd1 : decide ((k : Int) < (k : Int)) = false := decide_eq_false (by omega)
      have HT := Lib.hid (show (ofB b k).take k = ofB b k from List.take_of_length_le (by rw [HL.out]; exact Nat.le_refl _))
      go_wp2
      go_ret
      exact ⟨_, rfl, by rw [← HT.out]; exact hO.out, hB.out⟩
end Go.Proofs.YtmcdgmiheklbeaaGreatDoor
