/- The reference's books: Add: what it returns, and that it writes its own row alone. · The document's sections: written: what it returns. · The document's sections: written: the walk. · The document's sections: Row, Cost, Write: what they return. · What the arguments of a law read as: []bool, the statements' Bytes and Room. · What the arguments of a law read as: []api.Section, the statements' Cut. · The laws of section: the two variables that the rows list. -/
import Derived.Test.YtmcdgmiheklbeaaGreatDoorKj
import Derived.Test.YtmcdgmiheklbeaaGreatDoorKm
import Derived.Test.YtmcdgmiheklbeaaGreatDoorKl
import Derived.Test.YtmcdgmiheklbeaaGreatDoorKe
import Derived.Deep.Grids
import Derived.Test.YtmcdgmiheklbeaaGreatDoorKc
import Derived.Test.YtmcdgmiheklbeaaGreatDoorRows
import Derived.OpenShut
import Derived.MakeChecks
namespace Go.Proofs.YtmcdgmiheklbeaaGreatDoor
open Go.RowKit

/-- A row that is being written. -/
structure AdJ (u0 : Value) (w : World) (base g3 : Nat) (bk : Array Value) (bits : List Bool) (u : Value) (W : World) : Prop where
  own : OwnI 5 .u8 base W u (bitsI bits)
  ne : u.ownBlock ≠ some g3
  blk : Blk W g3 bk 127
  upd : Upd (fun x => u0.ownBlock = some x) w W
  new : ∀ x, u.ownBlock = some x → u0.ownBlock = some x ∨ w.heap.size ≤ x
  bas : ∀ x, u0.ownBlock = some x → base ≤ x
theorem AdJ.low {u0 : Value} {w W : World} {base g3 : Nat} {bk : Array Value} {bits : List Bool} {u : Value} (h : AdJ u0 w base g3 bk bits u W) (hz : base ≤ w.heap.size) : Below base w W := h.upd.below hz fun x _ e => h.bas x e
theorem AdJ.below {u0 : Value} {w W W' : World} {base g3 : Nat} {bk : Array Value} {bits : List Bool} {u : Value} (h : AdJ u0 w base g3 bk bits u W) (hb : Below W.heap.size W W') (_ : base ≤ w.heap.size) : AdJ u0 w base g3 bk bits u W' :=
  ⟨h.own.below hb, h.ne, h.blk.below hb, h.upd.trans (Upd.of_below hb (fun _ => False)) (fun _ _ e => e.elim), h.new, h.bas⟩
theorem AdJ.run {u0 : Value} {w W W' : World} {base g3 : Nat} {bk : Array Value} {bits more : List Bool} {u : Value} {f : Nat} {args : Array Value} (h : AdJ u0 w base g3 bk bits u W) (hb : Below W.heap.size W W') (hz : base ≤ w.heap.size)
    (hc : OwnI 5 .u8 base W' u (bitsI bits) → base ≤ W'.heap.size → Calls Tryz.prog f args W' fun e w' => ∃ u', e = .returned u' ∧ OwnI 5 .u8 base w' u' (bitsI (bits ++ more)) ∧ Upd (fun b => u.ownBlock = some b) W' w' ∧ (u'.ownBlock = u.ownBlock ∨ ∃ b, u'.ownBlock = some b ∧ W'.heap.size ≤ b)) :
    Calls Tryz.prog f args W' fun e w' => ∃ u', e = .returned u' ∧ AdJ u0 w base g3 bk (bits ++ more) u' w' := by
  have h2 := h.below hb hz
  have hz2 := Nat.le_trans hz h2.upd.size
  refine (hc h2.own hz2).mono ?_
  rintro e w' ⟨u', rfl, hO, hu, ha⟩
  refine ⟨u', rfl, hO, ?_, h2.blk.keep (hu.keep (ok := fun x => u.ownBlock ≠ some x) fun x hx e => hx e) h.ne, h2.upd.trans hu (fun x hx e => (h2.new x e).resolve_right (by omega)), ?_, h.bas⟩
  · rcases ha with ha | ⟨x, ha, hx⟩
    · rw [ha]; exact h.ne
    · rw [ha]; intro e; have := Option.some.inj e; have := h2.blk.lt; omega
  · intro x e
    rcases ha with ha | ⟨y, ha, hy⟩
    · rw [ha] at e; exact h.new x e
    · rw [ha] at e
      have := Option.some.inj e
      have := h2.upd.size
      exact .inr (by omega)
theorem AdJ.put {u0 : Value} {w W W' : World} {base g3 : Nat} {bk : Array Value} {bits : List Bool} {u : Value} (h : AdJ u0 w base g3 bk bits u W) (hb : Below W.heap.size W W') (hz : base ≤ w.heap.size) (v n : Nat) (hl : bits.length + n ≤ 100000000) (h64 : n ≤ 64) (hv : v ≤ 4611686018427387904) :
    Calls Tryz.prog 78 #[u, .int .i64 (v : Int), .int .i64 (n : Int)] W' fun e w' => ∃ u', e = .returned u' ∧ AdJ u0 w base g3 bk (bits ++ numB v n) u' w' :=
  h.run hb hz fun hO hz2 => putrow_any base u bits v n W' hO hz2 hl h64 hv
theorem AdJ.gamma {u0 : Value} {w W W' : World} {base g3 : Nat} {bk : Array Value} {bits : List Bool} {u : Value} (h : AdJ u0 w base g3 bk bits u W) (hb : Below W.heap.size W W') (hz : base ≤ w.heap.size) (v : Nat) (hl : bits.length ≤ 10000000) (h1 : 1 ≤ v) (hv : v < 2097152) :
    Calls Tryz.prog 77 #[u, .int .i64 (v : Int)] W' fun e w' => ∃ u', e = .returned u' ∧ AdJ u0 w base g3 bk (bits ++ gamB v) u' w' :=
  h.run hb hz fun hO hz2 => rgamma_any base u bits v W' hO hz2 hl h1 hv
set_option maxHeartbeats 8000000 in
set_option maxRecDepth 100000 in
theorem radd2_any (base : Nat) (u : Value) (bs : List Bool) (b : Nat) (A1 : Option Addr) (c1 : Nat) (A2 : Option Addr) (c2 : Nat) (A : Option Addr) (c : Nat) (l : List Int) (w : World) (hO : OwnI 5 .u8 base w u (bitsI bs)) (hb : base ≤ w.heap.size)
    (hS : Sl (kInt .i64) (fun x => x < base) w A c l) (h1 : Sl (kInt .i64) (fun x => x < base) w A1 c1 (tabKI b)) (h2 : Sl (kInt .i64) (fun x => x < base) w A2 c2 (codesL (tabKI b))) (h8 : b < 8) (hq : quantB l = true) (hf : l.length % dimB b = 0) (hlm : l.length ≤ 10000) (hbl : bs.length ≤ 8000000) :
    Calls Tryz.prog 79 #[.agg (bookM b A1 c1 A2 c2), u, .slice A l.length c] w fun e w' => ∃ u', e = .returned u' ∧ OwnI 5 .u8 base w' u' (bitsI (bs ++ rowK b l)) ∧ Upd (fun x => u.ownBlock = some x) w w' ∧ (∀ x, u'.ownBlock = some x → u.ownBlock = some x ∨ w.heap.size ≤ x) := by
  obtain ⟨n, hn⟩ : ∃ n, (tabKI b).length = n := ⟨_, rfl⟩
  have HNN := Lib.hid hn
  have hn' := hS.len
  obtain ⟨MM, hMM⟩ : ∃ MM, mostB b = MM := ⟨_, rfl⟩
  obtain ⟨EE, hEE⟩ : ∃ EE, escB b = EE := ⟨_, rfl⟩
  have HMM := Lib.hid hMM
  have HEE := Lib.hid hEE
  unfold bookM bookC
  rw [hn, hMM, hEE]
  have hba := below_alloc (Below.refl w.heap.size w) (.cells (#[.int .i64 (dimB b), .int .i64 (MM : Nat), .int .i64 (fallB b), .bool EE, .slice A1 n c1, .slice A2 n c2]) 127)
  obtain ⟨g3, hg3⟩ : ∃ g3, w.heap.size = g3 := ⟨_, rfl⟩
  have hI0 : AdJ u w base g3 (#[.int .i64 (dimB b), .int .i64 (MM : Nat), .int .i64 (fallB b), .bool EE, .slice A1 n c1, .slice A2 n c2]) bs u (w.alloc (.cells (#[.int .i64 (dimB b), .int .i64 (MM : Nat), .int .i64 (fallB b), .bool EE, .slice A1 n c1, .slice A2 n c2]) 127)) :=
    ⟨hO.below hba, fun e => by have := (hO.lt g3 e).2; omega, by rw [← hg3]; exact heap_alloc_new w _, Upd.of_below hba _, fun x e => .inl e, fun x e => hO.base_le x e⟩
  obtain ⟨q, hqd⟩ : ∃ q, l.length / dimB b = q := ⟨_, rfl⟩
  have hlq : l.length = q * dimB b := by rw [← hqd]; have := Nat.div_add_mod l.length (dimB b); rw [hf, Nat.mul_comm] at this; omega
  have HRK := Lib.hid (show rowK b l = lstB b l q by unfold rowK; rw [hqd])
  have HLS := Lib.hid (lstB_succ b l)
  have HLL := Lib.hid (lstB_len b l h8 hq)
  have HLQ := Lib.hid hlq
  have HQ := Lib.hid hq
  have H8 := Lib.hid h8
  have HS := Lib.hid hS
  have HT := Lib.hid (And.intro h1 h2)
  have hd := dimB_pos b
  have hm : MM ≤ 31 := by rw [← hMM]; exact mostB_le b
  have HZ := Lib.hid hb
  have HBS := Lib.hid hbl
  have hqn : q ≤ 10000 := by rw [← hqd]; have := Nat.div_le_self l.length (dimB b); omega
  have H0 := Lib.hid hI0
  have HG3 := Lib.hid hg3
  clear hMM hEE hO h1 h2 h8 hq hf hqd hlq hI0 hba hS hb hbl
  go_enter Tryz.func79, Tryz.ntmps79
  go_wp2

  clear hg3
  go_loopw [1, 7, 8, 9, 11] (fun rv iv gv sv xv wr => ∃ j : Nat, j ≤ q ∧ iv = .int .i64 ((j * dimB b : Nat) : Int) ∧ Hid (AdJ u w base g3 (#[.int .i64 (dimB b), .int .i64 (MM : Nat), .int .i64 (fallB b), .bool EE, .slice A1 n c1, .slice A2 n c2]) (bs ++ lstB b l j) rv wr)) (fun _ iv _ _ _ _ => l.length + 4 - (intOf iv).toNat)
  case atStart => exact ⟨0, Nat.zero_le _, by simp, Lib.hid (by simpa [lstB] using H0.out)⟩
  case round =>
    clear H0
    obtain ⟨j, hj, rfl, hI⟩ := hrel
    have k0 := hI.out.blk.cell 0 rfl
    have k1 := hI.out.blk.cell 1 rfl
    have k2 := hI.out.blk.cell 2 rfl
    have k3 := hI.out.blk.cell 3 rfl
    have k4 := hI.out.blk.cell 4 rfl
    have k5 := hI.out.blk.cell 5 rfl
    have HM : Hid ((j + 1) * dimB b = j * dimB b + dimB b) := Lib.hid (by rw [Nat.add_mul, Nat.one_mul])
    by_cases hlt : j < q
    · have hle : j * dimB b + dimB b ≤ l.length := by rw [HLQ.out, ← HM.out]; exact Nat.mul_le_mul_right _ hlt
      obtain ⟨ad, rfl, _⟩ := rd_int HS.out (j * dimB b) (by omega)
      have HG := Lib.hid (grp_slC HS.out (dimB b) j hle)
      have HJ := Lib.hid (show bs ++ lstB b l (j + 1) = (bs ++ lstB b l j ++ wrdB b (grpK (dimB b) l j)) ++ (grpK (dimB b) l j).flatMap (besB b) by rw [HLS.out]; unfold grpB; simp only [List.append_assoc])
      have HGL := Lib.hid (grpK_length (dimB b) l j hle)
      have HQG := Lib.hid (grpK_quant HQ.out (dimB b) j)
      have HTOT := Lib.hid (show (bs ++ lstB b l j).length ≤ 9500000 by rw [List.length_append]; have := HLL.out j; have := HBS.out; omega)
      have HCAP := Lib.hid HS.out.cap
      generalize grpK (dimB b) l j = G at HG HJ HGL HQG
      obtain ⟨P0, hP0⟩ : ∃ P0, bs ++ lstB b l j = P0 := ⟨_, rfl⟩
      rw [hP0] at hI HJ HTOT
      obtain ⟨p, hp⟩ : ∃ p, j * dimB b = p := ⟨_, rfl⟩
      rw [hp] at hle HM HG ⊢
      have hle2 := HS.out.le
      have hcut := fun W => cut_mid2 p (dimB b) l.length c ad hd.1 hle hle2 W
      have hwp : IntKind.i64.wrap ((p : Int) + (dimB b : Int)) = ((p + dimB b : Nat) : Int) := by rw [Int.natCast_add]; exact IntWalk.i64_in _ (by omega)
      obtain ⟨s2, hs2⟩ : ∃ s2, p + dimB b = s2 := ⟨_, rfl⟩
      have hpl : (p : Int) < (l.length : Int) := by omega
      rw [hs2] at hcut hwp hle HM
      have HS2 := Lib.hid hs2
      have HLE := Lib.hid hle
      clear hP0 hp hs2 hle hle2
      go_upto_if 29 with fail
      go_cut [1, 9] from 29 to 44 (fun s1 s9 wx => Hid (AdJ u w base g3 (#[.int .i64 (dimB b), .int .i64 (MM : Nat), .int .i64 (fallB b), .bool EE, .slice A1 n c1, .slice A2 n c2]) (P0 ++ wrdB b G) s1 wx))
      case first =>
        by_cases hb0 : b = 0
        · have hnb : ¬ 0 < MM := by rw [← HMM.out, hb0]; decide
          have hd0 : decide (0 < MM) = false := decide_eq_false hnb
          have HWR := Lib.hid (show P0 ++ wrdB b G = P0 by unfold wrdB; rw [if_pos hb0]; simp)
          clear hb0
          go_wp2_with fail
          go_meet
          rw [HWR.out]
          exact hI
        · have hpb : 0 < MM := by rw [← HMM.out]; exact most_pos b (by omega) H8.out
          have hd0 : decide (0 < MM) = true := decide_eq_true hpb
          have hG4 : G.length ≤ 4 := by have := HGL.out; omega
          have hsy := sym_in b G HGL.out
          have htl := tabKI_length b (by omega) H8.out
          have HWR := Lib.hid (show wrdB b G = numB (codeN (tabKI b) (symG b G)) (lenOf (tabKI b) (symG b G)) by unfold wrdB; rw [if_neg hb0])
          have hlo := tabK_lenOf b (by omega) H8.out hsy
          have HSY := Lib.hid (rsymbol_any (some (ad.add p)) A1 A2 (c - p) n c1 n c2 b G wr (HG.out.keep (Keep.of_below (hI.out.low HZ.out))).any (fun v hv => HQG.out v hv) hG4)
          unfold bookC at HSY
          rw [HGL.out, HMM.out, HEE.out] at HSY
          have hkp := Keep.of_below (hI.out.low HZ.out)
          obtain ⟨ad1, e1, hc1⟩ := rd_int (HT.out.1.keep hkp) (symG b G) (by rw [htl]; exact hsy)
          obtain ⟨ad2, e2, hc2⟩ := rd_int (HT.out.2.keep hkp) (symG b G) (by rw [codesL_length, htl]; exact hsy)
          rw [codesL_nth _ _ (by rw [htl]; exact hsy)] at hc2
          rw [tabKI_nth b _ (by rw [tabK_length b (by omega) H8.out]; exact hsy), ← hlo] at hc1
          have hn16 := tabK_len16 b (by omega) H8.out (symG b G)
          have hcl := tabK_code_lt b (by omega) H8.out hsy
          have hC16 : (2 : Nat) ^ lenOf (tabKI b) (symG b G) ≤ 2 ^ 16 := Nat.pow_le_pow_right (by decide) hn16
          have h16 : (2 : Nat) ^ 16 = 65536 := by decide
          have hsn : (symG b G : Int) < (n : Int) := by have := HNN.out; omega
          have hsnn : symG b G < n := by have := HNN.out; omega
          generalize symG b G = s at *
          obtain ⟨C, hC⟩ : ∃ C, codeN (tabKI b) s = C := ⟨_, rfl⟩
          obtain ⟨N, hN⟩ : ∃ N, lenOf (tabKI b) s = N := ⟨_, rfl⟩
          rw [hC, hN] at hcl HWR
          rw [hC] at hc2
          rw [hN] at hc1 hn16 hC16
          have HPT := Lib.hid (fun W' (hb : Below wr.heap.size wr W') => hI.out.put hb HZ.out C N (by have := HTOT.out; omega) (by omega) (by omega))
          cases e1
          cases e2
          clear hb0 hsy htl hlo hkp hC hN hcl hn16 hC16 h16
          go_upto_region 7 with (go_at_call 107; refine HSY.out.mono ?_; rintro e w9 ⟨rfl, b9⟩)
          have q0 := cell_below b9 k0
          have q4 := cell_below b9 k4
          have q5 := cell_below b9 k5
          have qc1 := cell_below b9 hc1
          have qc2 := cell_below b9 hc2
          have hb10 := b9.trans ((Below.refl w9.heap.size w9).drew.mono b9.size)
          clear k0 k1 k2 k3 k4 k5 hc1 hc2 HSY
          go_still_tail 11, (by kernel_rfl)
          change wpList _ _ _ _ _ (World.drew _)
          go_wp2_with (go_at_call 78; refine (HPT.out _ hb10).mono ?_; rintro e w10 ⟨u10, rfl, hI10⟩)
          go_meet
          rw [HWR.out]
          exact Lib.hid hI10
      case rest =>
        obtain ⟨P1, hP1⟩ : ∃ P1, P0 ++ wrdB b G = P1 := ⟨_, rfl⟩
        have HT1 := Lib.hid (show P1.length ≤ 9500016 by rw [← hP1, List.length_append]; have := HTOT.out; have := wrdB_len b G H8.out; omega)
        rw [hP1] at hcut HJ
        have HSUC := Lib.hid (show ∀ k, k < G.length → P1 ++ (G.take (k + 1)).flatMap (besB b) = P1 ++ (G.take k).flatMap (besB b) ++ besB b (nth 0 G k) from fun k h => by rw [take_succ_nth 0 G k h, List.flatMap_append, List.append_assoc]; simp)
        have HTK := Lib.hid (show ∀ k, (P1 ++ (G.take k).flatMap (besB b)).length ≤ 9600000 from fun k => by
          have h1 := bes_len b (G.take k) (fun v hv => HQG.out v (List.mem_of_mem_take hv))
          have h2 : (G.take k).length ≤ G.length := by rw [List.length_take]; omega
          have h3 := HGL.out
          have h5 := HT1.out
          rw [List.length_append]
          omega)
        have HTL := Lib.hid (show ∀ k, k < G.length → -1023 ≤ nth 0 G k ∧ nth 0 G k ≤ 1023 from fun k h => HQG.out _ (nth_mem 0 G k h))
        have HFULL := Lib.hid (show G.take (dimB b) = G from List.take_of_length_le (by have := HGL.out; omega))
        clear hP1 k0 k1 k2 k3 k4 k5
        go_wp2
        go_loopw [1, 11, 47] (fun rv xv iv W2 => ∃ k : Nat, k ≤ dimB b ∧ iv = .int .i64 (k : Int) ∧ Hid (AdJ u w base g3 (#[.int .i64 (dimB b), .int .i64 (MM : Nat), .int .i64 (fallB b), .bool EE, .slice A1 n c1, .slice A2 n c2]) (P1 ++ (G.take k).flatMap (besB b)) rv W2)) (fun _ _ iv _ => dimB b - (intOf iv).toNat)
        case atStart => exact ⟨0, Nat.zero_le _, rfl, Lib.hid (by simpa using hcut.out)⟩
        case round =>
          clear hcut
          obtain ⟨k, hk, rfl, hC⟩ := hrel
          have k0 := hC.out.blk.cell 0 rfl
          have k1 := hC.out.blk.cell 1 rfl
          have k3 := hC.out.blk.cell 3 rfl
          by_cases hlk : k < dimB b
          · obtain ⟨ad3, e3, hc⟩ := rd_int (HG.out.keep (Keep.of_below (hC.out.low HZ.out))) k (by have := HGL.out; omega)
            cases e3
            have hki : (k : Int) < (dimB b : Int) := by omega
            have hwk : IntKind.i64.wrap ((k : Int) + 1) = (k : Int) + 1 := IntWalk.i64_in _ (by omega)
            have HSU := Lib.hid (HSUC.out k (by have := HGL.out; omega))
            have HBD := Lib.hid (HTK.out k)
            have HQX := Lib.hid (HTL.out k (by have := HGL.out; omega))
            generalize nth 0 G k = x at hc HSU HQX
            have HBS0 := Lib.hid (show besB b x = if x = 0 then [] else decide (x < 0) :: if escpB b x then gamB (x.natAbs - MM + 1) else [] from by rw [← HMM.out]; rfl)
            have HEP := Lib.hid (show escpB b x = (EE && decide (MM ≤ x.natAbs)) from by rw [← HMM.out, ← HEE.out]; rfl)
            by_cases hx0 : x = 0
            · have HBX := Lib.hid (show besB b x = [] by rw [HBS0.out, if_pos hx0])
              subst hx0
              go_upto_region 15 with fail
              have hdd := (Below.refl wr.heap.size wr).drew
              clear k0 k1 k3
              refine wp_region_G 12 (fun _ => True) (by kernel_rfl) trivial (fun hHeld => ?_)
              refine wpAnyG_takeL (i := 0) (.int .i64 0) [1, 2, 4, 9, 12] rfl (by kernel_rfl) (fun _ _ _ h => h) hHeld (by rfl) ?_ ?_
              · (intro W' hSw; (try dsimp only at hSw); go_simp)
              try simp only [Act.put, List.setIfInBounds_toArray, List.set_cons_zero, List.set_cons_succ]
              refine wpAnyG_takeL (i := 1) (.bool false) [2, 4, 9, 12] rfl (by kernel_rfl) (fun _ _ _ h => h) hHeld (by rfl) ?_ ?_
              · (intro W' hSw; (try dsimp only at hSw); go_simp)
              try simp only [Act.put, List.setIfInBounds_toArray, List.set_cons_zero, List.set_cons_succ]
              refine wpAnyG_takeL (i := 2) (.bool false) [4, 9, 12] rfl (by kernel_rfl) (fun _ _ _ h => h) hHeld (by rfl) ?_ ?_
              · (intro W' hSw; (try dsimp only at hSw); go_simp)
              try simp only [Act.put, List.setIfInBounds_toArray, List.set_cons_zero, List.set_cons_succ]
              refine wpAnyG_dropL (i := 3) [4, 9, 12] rfl (by kernel_rfl) (fun _ _ _ h => h) hHeld (by rfl) ?_
              try simp only [Act.put, List.setIfInBounds_toArray, List.set_cons_zero, List.set_cons_succ]
              refine wpAnyG_dropL (i := 5) [6, 7, 8, 9, 12] rfl (by kernel_rfl) (fun _ _ _ h => h) hHeld (by rfl) ?_
              try simp only [Act.put, List.setIfInBounds_toArray, List.set_cons_zero, List.set_cons_succ]
              refine wpAnyG_dropL (i := 6) [7, 8, 9, 12] rfl (by kernel_rfl) (fun _ _ _ h => h) hHeld (by rfl) ?_
              try simp only [Act.put, List.setIfInBounds_toArray, List.set_cons_zero, List.set_cons_succ]
              clear hHeld
              refine wpAnyG_oneL (i := 4) (by kernel_rfl) rfl (fun K hK => ?_)
              refine hK.out _ _ (fun _ => trivial) ?_
              clear hK K
              try simp only [Act.put, List.setIfInBounds_toArray, List.set_cons_zero, List.set_cons_succ]
              refine wpAnyG_oneL (i := 7) (by kernel_rfl) rfl (fun K hK => ?_)
              refine hK.out _ _ (fun _ => trivial) ?_
              clear hK K
              try simp only [Act.put, List.setIfInBounds_toArray, List.set_cons_zero, List.set_cons_succ]
              refine wpAnyG_oneL (i := 8) (by kernel_rfl) rfl (fun K hK => ?_)
              go_simp
              refine hK.out _ _ (fun _ => trivial) ?_
              clear hK K
              try simp only [Act.put, List.setIfInBounds_toArray, List.set_cons_zero, List.set_cons_succ]
              refine wpAnyG_oneL (i := 9) (by kernel_rfl) rfl (fun K hK => ?_)
              go_simp
              refine hK.out _ _ (fun _ => trivial) ?_
              clear hK K
              try simp only [Act.put, List.setIfInBounds_toArray, List.set_cons_zero, List.set_cons_succ]
              refine wpAnyG_oneL (i := 10) (by kernel_rfl) rfl (fun K hK => ?_)
              refine hK.out _ _ (fun _ => trivial) ?_
              clear hK K
              try simp only [Act.put, List.setIfInBounds_toArray, List.set_cons_zero, List.set_cons_succ]
              refine wpAnyG_oneL (i := 11) (by kernel_rfl) rfl (fun K hK => ?_)
              refine hK.out _ _ (fun _ => trivial) ?_
              clear hK K
              try simp only [Act.put, List.setIfInBounds_toArray, List.set_cons_zero, List.set_cons_succ]
              refine wpAnyG_oneL (i := 12) (by kernel_rfl) rfl (fun K hK => ?_)
              go_simp
              refine hK.out _ _ (fun h => Bool.noConfusion (show true = false from h)) ?_
              clear hK K
              refine wpAnyG_done (by kernel_rfl) ?_ _
              go_wp2
              go_roundw
              case rel => exact ⟨k + 1, by omega, by go_num, Lib.hid (by rw [HSU.out, HBX.out, List.append_nil]; exact hC.out.below hdd HZ.out)⟩
              case measure => simp [intOf]; omega
            · have HBS := Lib.hid (HBS0.out.trans (if_neg hx0))
              have hd0 : (x == 0) = false := by simp [hx0]
              have hdn0 : (x != 0) = true := by simp [hx0]
              clear HBS0
              by_cases hneg : x < 0
              · have HD0 := Lib.hid (show decide (x < 0) = true from decide_eq_true hneg)
                have hdx : decide (x < 0) = true := decide_eq_true hneg
                have hdy : decide (0 < x) = false := decide_eq_false (by omega)
                clear hneg hx0
                have HNB := Lib.hid (show numB 1 1 = [decide (x < 0)] by rw [HD0.out]; rfl)
                have HPT := Lib.hid (fun W' (hb : Below wr.heap.size wr W') => hC.out.put hb HZ.out 1 1 (by have := HBD.out; omega) (by decide) (by decide))
                rw [show ((1 : Nat) : Int) = 1 from rfl] at HPT
                go_upto_region 15 with (go_at_call 78; refine (HPT.out _ (Below.refl _ _)).mono ?_; rintro e w3 ⟨u3, rfl, hI3⟩)
                have HI3 := Lib.hid hI3
                have HZX := Lib.hid (fun W => rabs_any x W (by have := HQX.out; omega))
                have hdd := (Below.refl w3.heap.size w3).drew
                
                
                have HF3 := Lib.hid (show ∀ W', Below w3.heap.size w3 W' → (W'.cell? ⟨g3, 1, none⟩ = some (.int .i64 (MM : Nat)) ∧ W'.cell? ⟨g3, 3, none⟩ = some (.bool EE)) from fun W' hb => ⟨(HI3.out.blk.below hb).cell 1 rfl, (HI3.out.blk.below hb).cell 3 rfl⟩)
                have hzb : x.natAbs ≤ 1023 := by have := HQX.out; omega
                clear hI3 HPT k0 k1 k3 hc
                generalize hz : x.natAbs = z at HZX HEP HBS hzb
                by_cases hge : MM ≤ z
                · have hdz : decide ((MM : Int) ≤ (z : Int)) = true := decide_eq_true (by omega)
                  have hdn : decide (MM ≤ z) = true := decide_eq_true hge
                  refine wp_region_G 12 (fun W' => W'.cell? ⟨g3, 1, none⟩ = some (.int .i64 (MM : Nat)) ∧ W'.cell? ⟨g3, 3, none⟩ = some (.bool EE)) (by kernel_rfl) (HF3.out _ hdd) (fun hHeld => ?_)
                  refine wpAnyG_takeL (i := 0) (.int .i64 x) [1, 2, 4, 9, 12] rfl (by kernel_rfl) (fun _ _ _ h => h) hHeld (by rfl) ?_ ?_
                  · (intro W' hSw; (try dsimp only at hSw); go_simp)
                  try simp only [Act.put, List.setIfInBounds_toArray, List.set_cons_zero, List.set_cons_succ]
                  refine wpAnyG_takeL (i := 1) (.bool true) [2, 4, 9, 12] rfl (by kernel_rfl) (fun _ _ _ h => h) hHeld (by rfl) ?_ ?_
                  · (intro W' hSw; (try dsimp only at hSw); go_simp)
                  try simp only [Act.put, List.setIfInBounds_toArray, List.set_cons_zero, List.set_cons_succ]
                  refine wpAnyG_takeL (i := 2) (.bool true) [4, 9, 12] rfl (by kernel_rfl) (fun _ _ _ h => h) hHeld (by rfl) ?_ ?_
                  · (intro W' hSw; (try dsimp only at hSw); go_simp)
                  try simp only [Act.put, List.setIfInBounds_toArray, List.set_cons_zero, List.set_cons_succ]
                  refine wpAnyG_takeL (i := 3) (.int .i64 x) [4, 9, 12] rfl (by kernel_rfl) (fun _ _ _ h => h) hHeld (by rfl) ?_ ?_
                  · (intro W' hSw; (try dsimp only at hSw); go_simp)
                  try simp only [Act.put, List.setIfInBounds_toArray, List.set_cons_zero, List.set_cons_succ]
                  refine wpAnyG_takeL (i := 5) (.pointer (some ⟨g3, 1, none⟩)) [6, 7, 8, 9, 12] rfl (by kernel_rfl) (fun _ _ _ h => h) hHeld (by rfl) ?_ ?_
                  · (intro W' hSw; (try dsimp only at hSw); go_simp)
                  try simp only [Act.put, List.setIfInBounds_toArray, List.set_cons_zero, List.set_cons_succ]
                  refine wpAnyG_takeL (i := 6) (.int .i64 (MM : Nat)) [7, 8, 9, 12] rfl (by kernel_rfl) (fun _ _ _ h => h) hHeld (by rfl) ?_ ?_
                  · (intro W' hSw; (try dsimp only at hSw); go_simp)
                  try simp only [Act.put, List.setIfInBounds_toArray, List.set_cons_zero, List.set_cons_succ]
                  clear hHeld
                  refine wpAnyG_oneL (i := 4) (by kernel_rfl) rfl (fun K hK => ?_)
                  (go_simp; go_at_call 108; refine (HZX.out _).mono ?_; rintro e w9 ⟨rfl, rfl⟩)
                  refine hK.out _ _ (fun _ => (HF3.out _ hdd)) ?_
                  clear hK K
                  try simp only [Act.put, List.setIfInBounds_toArray, List.set_cons_zero, List.set_cons_succ]
                  have hHeld := HF3.out _ hdd
                  refine wpAnyG_takeL (i := 7) (.bool true) [8, 9, 12] rfl (by kernel_rfl) (fun _ _ _ h => h) hHeld (by rfl) ?_ ?_
                  · (intro W' hSw; (try dsimp only at hSw); go_simp)
                  try simp only [Act.put, List.setIfInBounds_toArray, List.set_cons_zero, List.set_cons_succ]
                  refine wpAnyG_takeL (i := 8) (.bool true) [9, 12] rfl (by kernel_rfl) (fun _ _ _ h => h) hHeld (by rfl) ?_ ?_
                  · (intro W' hSw; (try dsimp only at hSw); go_simp)
                  try simp only [Act.put, List.setIfInBounds_toArray, List.set_cons_zero, List.set_cons_succ]
                  refine wpAnyG_takeL (i := 9) (.bool true) [12] rfl (by kernel_rfl) (fun _ _ _ h => h) hHeld (by rfl) ?_ ?_
                  · (intro W' hSw; (try dsimp only at hSw); go_simp)
                  try simp only [Act.put, List.setIfInBounds_toArray, List.set_cons_zero, List.set_cons_succ]
                  refine wpAnyG_takeL (i := 10) (.pointer (some ⟨g3, 3, none⟩)) [11, 12] rfl (by kernel_rfl) (fun _ _ _ h => h) hHeld (by rfl) ?_ ?_
                  · (intro W' hSw; (try dsimp only at hSw); go_simp)
                  try simp only [Act.put, List.setIfInBounds_toArray, List.set_cons_zero, List.set_cons_succ]
                  refine wpAnyG_takeL (i := 11) (.bool EE) [12] rfl (by kernel_rfl) (fun _ _ _ h => h) hHeld (by rfl) ?_ ?_
                  · (intro W' hSw; (try dsimp only at hSw); go_simp)
                  try simp only [Act.put, List.setIfInBounds_toArray, List.set_cons_zero, List.set_cons_succ]
                  clear hHeld
                  refine wpAnyG_oneL (i := 12) (by kernel_rfl) rfl (fun K hK => ?_)
                  go_simp
                  refine hK.out _ _ (fun h => Bool.noConfusion (show true = false from h)) ?_
                  clear hK K
                  refine wpAnyG_done (by kernel_rfl) ?_ _
                  cases EE
                  · have HBX := Lib.hid (show besB b x = [decide (x < 0)] by rw [HBS.out, HEP.out]; rfl)
                    go_wp2
                    go_roundw
                    case rel => exact ⟨k + 1, by omega, by go_num, Lib.hid (by rw [HSU.out, HBX.out, ← HNB.out]; exact HI3.out.below hdd HZ.out)⟩
                    case measure => simp [intOf]; omega
                  · have HBX := Lib.hid (show besB b x = [decide (x < 0)] ++ gamB (z - MM + 1) by rw [HBS.out, HEP.out, hdn]; rfl)
                    have HPG := Lib.hid (fun W' (hb : Below w3.heap.size w3 W') => HI3.out.gamma hb HZ.out (z - MM + 1) (by rw [HNB.out, List.length_append]; have := HBD.out; show _ + 1 ≤ 10000000; omega) (by omega) (by omega))
                    have hwa : IntKind.i64.wrap ((z : Int) - (MM : Int)) = ((z - MM : Nat) : Int) := by rw [Int.ofNat_sub hge]; exact IntWalk.i64_in _ (by omega)
                    obtain ⟨qq, hqq⟩ : ∃ qq, z - MM = qq := ⟨_, rfl⟩
                    have HQQ := Lib.hid hqq
                    rw [hqq] at HPG hwa
                    have hwb : IntKind.i64.wrap ((qq : Int) + 1) = ((qq + 1 : Nat) : Int) := by rw [Int.natCast_succ]; exact IntWalk.i64_in _ (by omega)
                    have hd2 := hdd.trans (((Below.refl w3.drew.heap.size w3.drew).drew).mono (show w3.heap.size ≤ w3.drew.heap.size from Nat.le_refl _))
                    clear hge hqq
                    go_wp2
                    refine wp_region_G 8 (fun W' => W'.cell? ⟨g3, 1, none⟩ = some (.int .i64 (MM : Nat)) ∧ W'.cell? ⟨g3, 3, none⟩ = some (.bool true)) (by kernel_rfl) (HF3.out _ hd2) (fun hHeld => ?_)
                    refine wpAnyG_takeL (i := 0) (u3) [8] rfl (by kernel_rfl) (fun _ _ _ h => h) hHeld (by rfl) ?_ ?_
                    · (intro W' hSw; (try dsimp only at hSw); go_simp)
                    try simp only [Act.put, List.setIfInBounds_toArray, List.set_cons_zero, List.set_cons_succ]
                    refine wpAnyG_takeL (i := 1) (.int .i64 x) [8] rfl (by kernel_rfl) (fun _ _ _ h => h) hHeld (by rfl) ?_ ?_
                    · (intro W' hSw; (try dsimp only at hSw); go_simp)
                    try simp only [Act.put, List.setIfInBounds_toArray, List.set_cons_zero, List.set_cons_succ]
                    refine wpAnyG_takeL (i := 3) (.pointer (some ⟨g3, 1, none⟩)) [8] rfl (by kernel_rfl) (fun _ _ _ h => h) hHeld (by rfl) ?_ ?_
                    · (intro W' hSw; (try dsimp only at hSw); go_simp)
                    try simp only [Act.put, List.setIfInBounds_toArray, List.set_cons_zero, List.set_cons_succ]
                    refine wpAnyG_takeL (i := 4) (.int .i64 (MM : Nat)) [8] rfl (by kernel_rfl) (fun _ _ _ h => h) hHeld (by rfl) ?_ ?_
                    · (intro W' hSw; (try dsimp only at hSw); go_simp)
                    try simp only [Act.put, List.setIfInBounds_toArray, List.set_cons_zero, List.set_cons_succ]
                    clear hHeld
                    refine wpAnyG_oneL (i := 2) (by kernel_rfl) rfl (fun K hK => ?_)
                    (go_simp; go_at_call 108; refine (HZX.out _).mono ?_; rintro e w9 ⟨rfl, rfl⟩)
                    refine hK.out _ _ (fun _ => (HF3.out _ hd2)) ?_
                    clear hK K
                    try simp only [Act.put, List.setIfInBounds_toArray, List.set_cons_zero, List.set_cons_succ]
                    refine wpAnyG_oneL (i := 5) (by kernel_rfl) rfl (fun K hK => ?_)
                    go_simp
                    refine hK.out _ _ (fun _ => (HF3.out _ hd2)) ?_
                    clear hK K
                    try simp only [Act.put, List.setIfInBounds_toArray, List.set_cons_zero, List.set_cons_succ]
                    refine wpAnyG_oneL (i := 6) (by kernel_rfl) rfl (fun K hK => ?_)
                    go_simp
                    refine hK.out _ _ (fun _ => (HF3.out _ hd2)) ?_
                    clear hK K
                    try simp only [Act.put, List.setIfInBounds_toArray, List.set_cons_zero, List.set_cons_succ]
                    refine wpAnyG_oneL (i := 7) (by kernel_rfl) rfl (fun K hK => ?_)
                    (go_simp; go_at_call 77; refine (HPG.out _ hd2).mono ?_; rintro e w9 ⟨u9, rfl, hI9⟩)
                    refine hK.out _ _ (fun _ => (show w9.cell? ⟨g3, 1, none⟩ = some (.int .i64 (MM : Nat)) ∧ w9.cell? ⟨g3, 3, none⟩ = some (.bool true) from ⟨hI9.blk.cell 1 rfl, hI9.blk.cell 3 rfl⟩)) ?_
                    clear hK K
                    try simp only [Act.put, List.setIfInBounds_toArray, List.set_cons_zero, List.set_cons_succ]
                    refine wpAnyG_oneL (i := 8) (by kernel_rfl) rfl (fun K hK => ?_)
                    go_simp
                    refine hK.out _ _ (fun h => Bool.noConfusion (show true = false from h)) ?_
                    clear hK K
                    refine wpAnyG_done (by kernel_rfl) ?_ _
                    go_wp2
                    go_roundw
                    case rel => exact ⟨k + 1, by omega, by go_num, Lib.hid (by rw [HSU.out, HBX.out, HQQ.out, ← HNB.out, ← List.append_assoc]; exact hI9)⟩
                    case measure => simp [intOf]; omega
                · have hdz : decide ((MM : Int) ≤ (z : Int)) = false := decide_eq_false (by omega)
                  have hdn : decide (MM ≤ z) = false := decide_eq_false hge
                  have HBX := Lib.hid (show besB b x = [decide (x < 0)] by rw [HBS.out, HEP.out, hdn, Bool.and_false]; rfl)
                  clear hge
                  refine wp_region_G 12 (fun W' => W'.cell? ⟨g3, 1, none⟩ = some (.int .i64 (MM : Nat)) ∧ W'.cell? ⟨g3, 3, none⟩ = some (.bool EE)) (by kernel_rfl) (HF3.out _ hdd) (fun hHeld => ?_)
                  refine wpAnyG_takeL (i := 0) (.int .i64 x) [1, 2, 4, 9, 12] rfl (by kernel_rfl) (fun _ _ _ h => h) hHeld (by rfl) ?_ ?_
                  · (intro W' hSw; (try dsimp only at hSw); go_simp)
                  try simp only [Act.put, List.setIfInBounds_toArray, List.set_cons_zero, List.set_cons_succ]
                  refine wpAnyG_takeL (i := 1) (.bool true) [2, 4, 9, 12] rfl (by kernel_rfl) (fun _ _ _ h => h) hHeld (by rfl) ?_ ?_
                  · (intro W' hSw; (try dsimp only at hSw); go_simp)
                  try simp only [Act.put, List.setIfInBounds_toArray, List.set_cons_zero, List.set_cons_succ]
                  refine wpAnyG_takeL (i := 2) (.bool true) [4, 9, 12] rfl (by kernel_rfl) (fun _ _ _ h => h) hHeld (by rfl) ?_ ?_
                  · (intro W' hSw; (try dsimp only at hSw); go_simp)
                  try simp only [Act.put, List.setIfInBounds_toArray, List.set_cons_zero, List.set_cons_succ]
                  refine wpAnyG_takeL (i := 3) (.int .i64 x) [4, 9, 12] rfl (by kernel_rfl) (fun _ _ _ h => h) hHeld (by rfl) ?_ ?_
                  · (intro W' hSw; (try dsimp only at hSw); go_simp)
                  try simp only [Act.put, List.setIfInBounds_toArray, List.set_cons_zero, List.set_cons_succ]
                  refine wpAnyG_takeL (i := 5) (.pointer (some ⟨g3, 1, none⟩)) [6, 7, 8, 9, 12] rfl (by kernel_rfl) (fun _ _ _ h => h) hHeld (by rfl) ?_ ?_
                  · (intro W' hSw; (try dsimp only at hSw); go_simp)
                  try simp only [Act.put, List.setIfInBounds_toArray, List.set_cons_zero, List.set_cons_succ]
                  refine wpAnyG_takeL (i := 6) (.int .i64 (MM : Nat)) [7, 8, 9, 12] rfl (by kernel_rfl) (fun _ _ _ h => h) hHeld (by rfl) ?_ ?_
                  · (intro W' hSw; (try dsimp only at hSw); go_simp)
                  try simp only [Act.put, List.setIfInBounds_toArray, List.set_cons_zero, List.set_cons_succ]
                  clear hHeld
                  refine wpAnyG_oneL (i := 4) (by kernel_rfl) rfl (fun K hK => ?_)
                  (go_simp; go_at_call 108; refine (HZX.out _).mono ?_; rintro e w9 ⟨rfl, rfl⟩)
                  refine hK.out _ _ (fun _ => (HF3.out _ hdd)) ?_
                  clear hK K
                  try simp only [Act.put, List.setIfInBounds_toArray, List.set_cons_zero, List.set_cons_succ]
                  have hHeld := HF3.out _ hdd
                  refine wpAnyG_takeL (i := 7) (.bool false) [8, 9, 12] rfl (by kernel_rfl) (fun _ _ _ h => h) hHeld (by rfl) ?_ ?_
                  · (intro W' hSw; (try dsimp only at hSw); go_simp)
                  try simp only [Act.put, List.setIfInBounds_toArray, List.set_cons_zero, List.set_cons_succ]
                  refine wpAnyG_takeL (i := 8) (.bool false) [9, 12] rfl (by kernel_rfl) (fun _ _ _ h => h) hHeld (by rfl) ?_ ?_
                  · (intro W' hSw; (try dsimp only at hSw); go_simp)
                  try simp only [Act.put, List.setIfInBounds_toArray, List.set_cons_zero, List.set_cons_succ]
                  refine wpAnyG_takeL (i := 9) (.bool false) [12] rfl (by kernel_rfl) (fun _ _ _ h => h) hHeld (by rfl) ?_ ?_
                  · (intro W' hSw; (try dsimp only at hSw); go_simp)
                  try simp only [Act.put, List.setIfInBounds_toArray, List.set_cons_zero, List.set_cons_succ]
                  refine wpAnyG_dropL (i := 10) [11, 12] rfl (by kernel_rfl) (fun _ _ _ h => h) hHeld (by rfl) ?_
                  try simp only [Act.put, List.setIfInBounds_toArray, List.set_cons_zero, List.set_cons_succ]
                  refine wpAnyG_dropL (i := 11) [12] rfl (by kernel_rfl) (fun _ _ _ h => h) hHeld (by rfl) ?_
                  try simp only [Act.put, List.setIfInBounds_toArray, List.set_cons_zero, List.set_cons_succ]
                  clear hHeld
                  refine wpAnyG_oneL (i := 12) (by kernel_rfl) rfl (fun K hK => ?_)
                  go_simp
                  refine hK.out _ _ (fun h => Bool.noConfusion (show true = false from h)) ?_
                  clear hK K
                  refine wpAnyG_done (by kernel_rfl) ?_ _
                  go_wp2
                  go_roundw
                  case rel => exact ⟨k + 1, by omega, by go_num, Lib.hid (by rw [HSU.out, HBX.out, ← HNB.out]; exact HI3.out.below hdd HZ.out)⟩
                  case measure => simp [intOf]; omega
              · have HD0 := Lib.hid (show decide (x < 0) = false from decide_eq_false hneg)
                have hdx : decide (x < 0) = false := decide_eq_false hneg
                have hdy : decide (0 < x) = true := decide_eq_true (by omega)
                clear hneg hx0
                have HNB := Lib.hid (show numB 0 1 = [decide (x < 0)] by rw [HD0.out]; rfl)
                have HPT := Lib.hid (fun W' (hb : Below wr.heap.size wr W') => hC.out.put hb HZ.out 0 1 (by have := HBD.out; omega) (by decide) (by decide))
                rw [show ((0 : Nat) : Int) = 0 from rfl, show ((1 : Nat) : Int) = 1 from rfl] at HPT
                go_upto_region 15 with (go_at_call 78; refine (HPT.out _ (Below.refl _ _)).mono ?_; rintro e w3 ⟨u3, rfl, hI3⟩)
                have HI3 := Lib.hid hI3
                have HZX := Lib.hid (fun W => rabs_any x W (by have := HQX.out; omega))
                have hdd := (Below.refl w3.heap.size w3).drew
                
                
                have HF3 := Lib.hid (show ∀ W', Below w3.heap.size w3 W' → (W'.cell? ⟨g3, 1, none⟩ = some (.int .i64 (MM : Nat)) ∧ W'.cell? ⟨g3, 3, none⟩ = some (.bool EE)) from fun W' hb => ⟨(HI3.out.blk.below hb).cell 1 rfl, (HI3.out.blk.below hb).cell 3 rfl⟩)
                have hzb : x.natAbs ≤ 1023 := by have := HQX.out; omega
                clear hI3 HPT k0 k1 k3 hc
                generalize hz : x.natAbs = z at HZX HEP HBS hzb
                by_cases hge : MM ≤ z
                · have hdz : decide ((MM : Int) ≤ (z : Int)) = true := decide_eq_true (by omega)
                  have hdn : decide (MM ≤ z) = true := decide_eq_true hge
                  refine wp_region_G 12 (fun W' => W'.cell? ⟨g3, 1, none⟩ = some (.int .i64 (MM : Nat)) ∧ W'.cell? ⟨g3, 3, none⟩ = some (.bool EE)) (by kernel_rfl) (HF3.out _ hdd) (fun hHeld => ?_)
                  refine wpAnyG_takeL (i := 0) (.int .i64 x) [1, 2, 4, 9, 12] rfl (by kernel_rfl) (fun _ _ _ h => h) hHeld (by rfl) ?_ ?_
                  · (intro W' hSw; (try dsimp only at hSw); go_simp)
                  try simp only [Act.put, List.setIfInBounds_toArray, List.set_cons_zero, List.set_cons_succ]
                  refine wpAnyG_takeL (i := 1) (.bool true) [2, 4, 9, 12] rfl (by kernel_rfl) (fun _ _ _ h => h) hHeld (by rfl) ?_ ?_
                  · (intro W' hSw; (try dsimp only at hSw); go_simp)
                  try simp only [Act.put, List.setIfInBounds_toArray, List.set_cons_zero, List.set_cons_succ]
                  refine wpAnyG_takeL (i := 2) (.bool true) [4, 9, 12] rfl (by kernel_rfl) (fun _ _ _ h => h) hHeld (by rfl) ?_ ?_
                  · (intro W' hSw; (try dsimp only at hSw); go_simp)
                  try simp only [Act.put, List.setIfInBounds_toArray, List.set_cons_zero, List.set_cons_succ]
                  refine wpAnyG_takeL (i := 3) (.int .i64 x) [4, 9, 12] rfl (by kernel_rfl) (fun _ _ _ h => h) hHeld (by rfl) ?_ ?_
                  · (intro W' hSw; (try dsimp only at hSw); go_simp)
                  try simp only [Act.put, List.setIfInBounds_toArray, List.set_cons_zero, List.set_cons_succ]
                  refine wpAnyG_takeL (i := 5) (.pointer (some ⟨g3, 1, none⟩)) [6, 7, 8, 9, 12] rfl (by kernel_rfl) (fun _ _ _ h => h) hHeld (by rfl) ?_ ?_
                  · (intro W' hSw; (try dsimp only at hSw); go_simp)
                  try simp only [Act.put, List.setIfInBounds_toArray, List.set_cons_zero, List.set_cons_succ]
                  refine wpAnyG_takeL (i := 6) (.int .i64 (MM : Nat)) [7, 8, 9, 12] rfl (by kernel_rfl) (fun _ _ _ h => h) hHeld (by rfl) ?_ ?_
                  · (intro W' hSw; (try dsimp only at hSw); go_simp)
                  try simp only [Act.put, List.setIfInBounds_toArray, List.set_cons_zero, List.set_cons_succ]
                  clear hHeld
                  refine wpAnyG_oneL (i := 4) (by kernel_rfl) rfl (fun K hK => ?_)
                  (go_simp; go_at_call 108; refine (HZX.out _).mono ?_; rintro e w9 ⟨rfl, rfl⟩)
                  refine hK.out _ _ (fun _ => (HF3.out _ hdd)) ?_
                  clear hK K
                  try simp only [Act.put, List.setIfInBounds_toArray, List.set_cons_zero, List.set_cons_succ]
                  have hHeld := HF3.out _ hdd
                  refine wpAnyG_takeL (i := 7) (.bool true) [8, 9, 12] rfl (by kernel_rfl) (fun _ _ _ h => h) hHeld (by rfl) ?_ ?_
                  · (intro W' hSw; (try dsimp only at hSw); go_simp)
                  try simp only [Act.put, List.setIfInBounds_toArray, List.set_cons_zero, List.set_cons_succ]
                  refine wpAnyG_takeL (i := 8) (.bool true) [9, 12] rfl (by kernel_rfl) (fun _ _ _ h => h) hHeld (by rfl) ?_ ?_
                  · (intro W' hSw; (try dsimp only at hSw); go_simp)
                  try simp only [Act.put, List.setIfInBounds_toArray, List.set_cons_zero, List.set_cons_succ]
                  refine wpAnyG_takeL (i := 9) (.bool true) [12] rfl (by kernel_rfl) (fun _ _ _ h => h) hHeld (by rfl) ?_ ?_
                  · (intro W' hSw; (try dsimp only at hSw); go_simp)
                  try simp only [Act.put, List.setIfInBounds_toArray, List.set_cons_zero, List.set_cons_succ]
                  refine wpAnyG_takeL (i := 10) (.pointer (some ⟨g3, 3, none⟩)) [11, 12] rfl (by kernel_rfl) (fun _ _ _ h => h) hHeld (by rfl) ?_ ?_
                  · (intro W' hSw; (try dsimp only at hSw); go_simp)
                  try simp only [Act.put, List.setIfInBounds_toArray, List.set_cons_zero, List.set_cons_succ]
                  refine wpAnyG_takeL (i := 11) (.bool EE) [12] rfl (by kernel_rfl) (fun _ _ _ h => h) hHeld (by rfl) ?_ ?_
                  · (intro W' hSw; (try dsimp only at hSw); go_simp)
                  try simp only [Act.put, List.setIfInBounds_toArray, List.set_cons_zero, List.set_cons_succ]
                  clear hHeld
                  refine wpAnyG_oneL (i := 12) (by kernel_rfl) rfl (fun K hK => ?_)
                  go_simp
                  refine hK.out _ _ (fun h => Bool.noConfusion (show true = false from h)) ?_
                  clear hK K
                  refine wpAnyG_done (by kernel_rfl) ?_ _
                  cases EE
                  · have HBX := Lib.hid (show besB b x = [decide (x < 0)] by rw [HBS.out, HEP.out]; rfl)
                    go_wp2
                    go_roundw
                    case rel => exact ⟨k + 1, by omega, by go_num, Lib.hid (by rw [HSU.out, HBX.out, ← HNB.out]; exact HI3.out.below hdd HZ.out)⟩
                    case measure => simp [intOf]; omega
                  · have HBX := Lib.hid (show besB b x = [decide (x < 0)] ++ gamB (z - MM + 1) by rw [HBS.out, HEP.out, hdn]; rfl)
                    have HPG := Lib.hid (fun W' (hb : Below w3.heap.size w3 W') => HI3.out.gamma hb HZ.out (z - MM + 1) (by rw [HNB.out, List.length_append]; have := HBD.out; show _ + 1 ≤ 10000000; omega) (by omega) (by omega))
                    have hwa : IntKind.i64.wrap ((z : Int) - (MM : Int)) = ((z - MM : Nat) : Int) := by rw [Int.ofNat_sub hge]; exact IntWalk.i64_in _ (by omega)
                    obtain ⟨qq, hqq⟩ : ∃ qq, z - MM = qq := ⟨_, rfl⟩
                    have HQQ := Lib.hid hqq
                    rw [hqq] at HPG hwa
                    have hwb : IntKind.i64.wrap ((qq : Int) + 1) = ((qq + 1 : Nat) : Int) := by rw [Int.natCast_succ]; exact IntWalk.i64_in _ (by omega)
                    have hd2 := hdd.trans (((Below.refl w3.drew.heap.size w3.drew).drew).mono (show w3.heap.size ≤ w3.drew.heap.size from Nat.le_refl _))
                    clear hge hqq
                    go_wp2
                    refine wp_region_G 8 (fun W' => W'.cell? ⟨g3, 1, none⟩ = some (.int .i64 (MM : Nat)) ∧ W'.cell? ⟨g3, 3, none⟩ = some (.bool true)) (by kernel_rfl) (HF3.out _ hd2) (fun hHeld => ?_)
                    refine wpAnyG_takeL (i := 0) (u3) [8] rfl (by kernel_rfl) (fun _ _ _ h => h) hHeld (by rfl) ?_ ?_
                    · (intro W' hSw; (try dsimp only at hSw); go_simp)
                    try simp only [Act.put, List.setIfInBounds_toArray, List.set_cons_zero, List.set_cons_succ]
                    refine wpAnyG_takeL (i := 1) (.int .i64 x) [8] rfl (by kernel_rfl) (fun _ _ _ h => h) hHeld (by rfl) ?_ ?_
                    · (intro W' hSw; (try dsimp only at hSw); go_simp)
                    try simp only [Act.put, List.setIfInBounds_toArray, List.set_cons_zero, List.set_cons_succ]
                    refine wpAnyG_takeL (i := 3) (.pointer (some ⟨g3, 1, none⟩)) [8] rfl (by kernel_rfl) (fun _ _ _ h => h) hHeld (by rfl) ?_ ?_
                    · (intro W' hSw; (try dsimp only at hSw); go_simp)
                    try simp only [Act.put, List.setIfInBounds_toArray, List.set_cons_zero, List.set_cons_succ]
                    refine wpAnyG_takeL (i := 4) (.int .i64 (MM : Nat)) [8] rfl (by kernel_rfl) (fun _ _ _ h => h) hHeld (by rfl) ?_ ?_
                    · (intro W' hSw; (try dsimp only at hSw); go_simp)
                    try simp only [Act.put, List.setIfInBounds_toArray, List.set_cons_zero, List.set_cons_succ]
                    clear hHeld
                    refine wpAnyG_oneL (i := 2) (by kernel_rfl) rfl (fun K hK => ?_)
                    (go_simp; go_at_call 108; refine (HZX.out _).mono ?_; rintro e w9 ⟨rfl, rfl⟩)
                    refine hK.out _ _ (fun _ => (HF3.out _ hd2)) ?_
                    clear hK K
                    try simp only [Act.put, List.setIfInBounds_toArray, List.set_cons_zero, List.set_cons_succ]
                    refine wpAnyG_oneL (i := 5) (by kernel_rfl) rfl (fun K hK => ?_)
                    go_simp
                    refine hK.out _ _ (fun _ => (HF3.out _ hd2)) ?_
                    clear hK K
                    try simp only [Act.put, List.setIfInBounds_toArray, List.set_cons_zero, List.set_cons_succ]
                    refine wpAnyG_oneL (i := 6) (by kernel_rfl) rfl (fun K hK => ?_)
                    go_simp
                    refine hK.out _ _ (fun _ => (HF3.out _ hd2)) ?_
                    clear hK K
                    try simp only [Act.put, List.setIfInBounds_toArray, List.set_cons_zero, List.set_cons_succ]
                    refine wpAnyG_oneL (i := 7) (by kernel_rfl) rfl (fun K hK => ?_)
                    (go_simp; go_at_call 77; refine (HPG.out _ hd2).mono ?_; rintro e w9 ⟨u9, rfl, hI9⟩)
                    refine hK.out _ _ (fun _ => (show w9.cell? ⟨g3, 1, none⟩ = some (.int .i64 (MM : Nat)) ∧ w9.cell? ⟨g3, 3, none⟩ = some (.bool true) from ⟨hI9.blk.cell 1 rfl, hI9.blk.cell 3 rfl⟩)) ?_
                    clear hK K
                    try simp only [Act.put, List.setIfInBounds_toArray, List.set_cons_zero, List.set_cons_succ]
                    refine wpAnyG_oneL (i := 8) (by kernel_rfl) rfl (fun K hK => ?_)
                    go_simp
                    refine hK.out _ _ (fun h => Bool.noConfusion (show true = false from h)) ?_
                    clear hK K
                    refine wpAnyG_done (by kernel_rfl) ?_ _
                    go_wp2
                    go_roundw
                    case rel => exact ⟨k + 1, by omega, by go_num, Lib.hid (by rw [HSU.out, HBX.out, HQQ.out, ← HNB.out, ← List.append_assoc]; exact hI9)⟩
                    case measure => simp [intOf]; omega
                · have hdz : decide ((MM : Int) ≤ (z : Int)) = false := decide_eq_false (by omega)
                  have hdn : decide (MM ≤ z) = false := decide_eq_false hge
                  have HBX := Lib.hid (show besB b x = [decide (x < 0)] by rw [HBS.out, HEP.out, hdn, Bool.and_false]; rfl)
                  clear hge
                  refine wp_region_G 12 (fun W' => W'.cell? ⟨g3, 1, none⟩ = some (.int .i64 (MM : Nat)) ∧ W'.cell? ⟨g3, 3, none⟩ = some (.bool EE)) (by kernel_rfl) (HF3.out _ hdd) (fun hHeld => ?_)
                  refine wpAnyG_takeL (i := 0) (.int .i64 x) [1, 2, 4, 9, 12] rfl (by kernel_rfl) (fun _ _ _ h => h) hHeld (by rfl) ?_ ?_
                  · (intro W' hSw; (try dsimp only at hSw); go_simp)
                  try simp only [Act.put, List.setIfInBounds_toArray, List.set_cons_zero, List.set_cons_succ]
                  refine wpAnyG_takeL (i := 1) (.bool true) [2, 4, 9, 12] rfl (by kernel_rfl) (fun _ _ _ h => h) hHeld (by rfl) ?_ ?_
                  · (intro W' hSw; (try dsimp only at hSw); go_simp)
                  try simp only [Act.put, List.setIfInBounds_toArray, List.set_cons_zero, List.set_cons_succ]
                  refine wpAnyG_takeL (i := 2) (.bool true) [4, 9, 12] rfl (by kernel_rfl) (fun _ _ _ h => h) hHeld (by rfl) ?_ ?_
                  · (intro W' hSw; (try dsimp only at hSw); go_simp)
                  try simp only [Act.put, List.setIfInBounds_toArray, List.set_cons_zero, List.set_cons_succ]
                  refine wpAnyG_takeL (i := 3) (.int .i64 x) [4, 9, 12] rfl (by kernel_rfl) (fun _ _ _ h => h) hHeld (by rfl) ?_ ?_
                  · (intro W' hSw; (try dsimp only at hSw); go_simp)
                  try simp only [Act.put, List.setIfInBounds_toArray, List.set_cons_zero, List.set_cons_succ]
                  refine wpAnyG_takeL (i := 5) (.pointer (some ⟨g3, 1, none⟩)) [6, 7, 8, 9, 12] rfl (by kernel_rfl) (fun _ _ _ h => h) hHeld (by rfl) ?_ ?_
                  · (intro W' hSw; (try dsimp only at hSw); go_simp)
                  try simp only [Act.put, List.setIfInBounds_toArray, List.set_cons_zero, List.set_cons_succ]
                  refine wpAnyG_takeL (i := 6) (.int .i64 (MM : Nat)) [7, 8, 9, 12] rfl (by kernel_rfl) (fun _ _ _ h => h) hHeld (by rfl) ?_ ?_
                  · (intro W' hSw; (try dsimp only at hSw); go_simp)
                  try simp only [Act.put, List.setIfInBounds_toArray, List.set_cons_zero, List.set_cons_succ]
                  clear hHeld
                  refine wpAnyG_oneL (i := 4) (by kernel_rfl) rfl (fun K hK => ?_)
                  (go_simp; go_at_call 108; refine (HZX.out _).mono ?_; rintro e w9 ⟨rfl, rfl⟩)
                  refine hK.out _ _ (fun _ => (HF3.out _ hdd)) ?_
                  clear hK K
                  try simp only [Act.put, List.setIfInBounds_toArray, List.set_cons_zero, List.set_cons_succ]
                  have hHeld := HF3.out _ hdd
                  refine wpAnyG_takeL (i := 7) (.bool false) [8, 9, 12] rfl (by kernel_rfl) (fun _ _ _ h => h) hHeld (by rfl) ?_ ?_
                  · (intro W' hSw; (try dsimp only at hSw); go_simp)
                  try simp only [Act.put, List.setIfInBounds_toArray, List.set_cons_zero, List.set_cons_succ]
                  refine wpAnyG_takeL (i := 8) (.bool false) [9, 12] rfl (by kernel_rfl) (fun _ _ _ h => h) hHeld (by rfl) ?_ ?_
                  · (intro W' hSw; (try dsimp only at hSw); go_simp)
                  try simp only [Act.put, List.setIfInBounds_toArray, List.set_cons_zero, List.set_cons_succ]
                  refine wpAnyG_takeL (i := 9) (.bool false) [12] rfl (by kernel_rfl) (fun _ _ _ h => h) hHeld (by rfl) ?_ ?_
                  · (intro W' hSw; (try dsimp only at hSw); go_simp)
                  try simp only [Act.put, List.setIfInBounds_toArray, List.set_cons_zero, List.set_cons_succ]
                  refine wpAnyG_dropL (i := 10) [11, 12] rfl (by kernel_rfl) (fun _ _ _ h => h) hHeld (by rfl) ?_
                  try simp only [Act.put, List.setIfInBounds_toArray, List.set_cons_zero, List.set_cons_succ]
                  refine wpAnyG_dropL (i := 11) [12] rfl (by kernel_rfl) (fun _ _ _ h => h) hHeld (by rfl) ?_
                  try simp only [Act.put, List.setIfInBounds_toArray, List.set_cons_zero, List.set_cons_succ]
                  clear hHeld
                  refine wpAnyG_oneL (i := 12) (by kernel_rfl) rfl (fun K hK => ?_)
                  go_simp
                  refine hK.out _ _ (fun h => Bool.noConfusion (show true = false from h)) ?_
                  clear hK K
                  refine wpAnyG_done (by kernel_rfl) ?_ _
                  go_wp2
                  go_roundw
                  case rel => exact ⟨k + 1, by omega, by go_num, Lib.hid (by rw [HSU.out, HBX.out, ← HNB.out]; exact HI3.out.below hdd HZ.out)⟩
                  case measure => simp [intOf]; omega
          · obtain rfl : k = dimB b := by omega
            rw [HFULL.out] at hC
            have HCJ := Lib.hid (show AdJ u w base g3 (#[.int .i64 (dimB b), .int .i64 (MM : Nat), .int .i64 (fallB b), .bool EE, .slice A1 n c1, .slice A2 n c2]) (bs ++ lstB b l (j + 1)) u1 wr by rw [HJ.out]; exact hC.out)
            go_wp2
            go_roundw
            case rel => exact ⟨j + 1, hlt, by rw [HM.out], HCJ⟩
            case measure => have := HS2.out; have := HLE.out; simp [intOf]; omega
    · obtain rfl : j = q := by omega
      have hpl : ¬ ((j * dimB b : Nat) : Int) < (l.length : Int) := by rw [HLQ.out]; omega
      have hpn : ¬ j * dimB b < l.length := by rw [HLQ.out]; omega
      go_wp2
      go_ret
      exact ⟨_, rfl, by rw [HRK.out]; exact hI.out.own, hI.out.upd, hI.out.new⟩
end Go.Proofs.YtmcdgmiheklbeaaGreatDoor

namespace Go.Proofs.YtmcdgmiheklbeaaGreatDoor
open Go.RowKit

/-- A row that is being written beside a section's cells. -/
structure WtJ (w : World) (g : Nat) (cs : Array Value) (bits : List Bool) (u : Value) (W : World) : Prop where
  own : OwnI 5 .u8 w.heap.size W u (bitsI bits)
  ne : u.ownBlock ≠ some g
  blk : Blk W g cs 47
  low : Below w.heap.size w W
theorem WtJ.below {w W W' : World} {g : Nat} {cs : Array Value} {bits : List Bool} {u : Value} (h : WtJ w g cs bits u W) (hb : Below W.heap.size W W') : WtJ w g cs bits u W' :=
  ⟨h.own.below hb, h.ne, h.blk.below hb, below2 h.low hb⟩
theorem WtJ.step {w W W' : World} {g : Nat} {cs : Array Value} {bits more : List Bool} {u u' : Value} (h : WtJ w g cs bits u W) (hO : OwnI 5 .u8 w.heap.size W' u' (bitsI more)) (hu : Upd (fun x => u.ownBlock = some x) W W') (hn : ∀ x, u'.ownBlock = some x → u.ownBlock = some x ∨ W.heap.size ≤ x) : WtJ w g cs more u' W' :=
  ⟨hO, fun e => by
    rcases hn g e with h1 | h1
    · exact h.ne h1
    · have := h.blk.lt; omega, h.blk.keep (hu.keep (ok := fun x => u.ownBlock ≠ some x) fun x hx e => hx e) h.ne, h.low.trans (hu.below h.low.size fun x _ e => h.own.base_le x e)⟩
theorem new_of {u u' : Value} {n : Nat} (h : u'.ownBlock = u.ownBlock ∨ ∃ b, u'.ownBlock = some b ∧ n ≤ b) : ∀ x, u'.ownBlock = some x → u.ownBlock = some x ∨ n ≤ x := fun x e => by
  rcases h with h | ⟨b, h, hb⟩
  · rw [h] at e; exact .inl e
  · rw [h] at e; have := Option.some.inj e; exact .inr (by omega)
theorem WtJ.put {w W W' : World} {g : Nat} {cs : Array Value} {bits : List Bool} {u : Value} (h : WtJ w g cs bits u W) (hb : Below W.heap.size W W') (v n : Nat) (hl : bits.length + n ≤ 100000000) (h64 : n ≤ 64) (hv : v ≤ 4611686018427387904) :
    Calls Tryz.prog 78 #[u, .int .i64 (v : Int), .int .i64 (n : Int)] W' fun e w' => ∃ u', e = .returned u' ∧ WtJ w g cs (bits ++ numB v n) u' w' := by
  have h2 := h.below hb
  refine (putrow_any w.heap.size u bits v n W' h2.own h2.low.size hl h64 hv).mono ?_
  rintro e w' ⟨u', rfl, hO, hu, ha⟩
  exact ⟨u', rfl, h2.step hO hu (new_of ha)⟩
theorem WtJ.gamma {w W W' : World} {g : Nat} {cs : Array Value} {bits : List Bool} {u : Value} (h : WtJ w g cs bits u W) (hb : Below W.heap.size W W') (v : Nat) (hl : bits.length ≤ 10000000) (h1 : 1 ≤ v) (hv : v < 2097152) :
    Calls Tryz.prog 77 #[u, .int .i64 (v : Int)] W' fun e w' => ∃ u', e = .returned u' ∧ WtJ w g cs (bits ++ gamB v) u' w' := by
  have h2 := h.below hb
  refine (rgamma_any w.heap.size u bits v W' h2.own h2.low.size hl h1 hv).mono ?_
  rintro e w' ⟨u', rfl, hO, hu, ha⟩
  exact ⟨u', rfl, h2.step hO hu (new_of ha)⟩
theorem WtJ.add {w W W' : World} {g : Nat} {cs : Array Value} {bits : List Bool} {u : Value} (h : WtJ w g cs bits u W) (hb : Below W.heap.size W W') (b : Nat) (A1 : Option Addr) (c1 : Nat) (A2 : Option Addr) (c2 : Nat) (A : Option Addr) (c : Nat) (l : List Int)
    (hS : Sl (kInt .i64) (fun x => x < w.heap.size) W A c l) (h1 : Sl (kInt .i64) (fun x => x < w.heap.size) W A1 c1 (tabKI b)) (h2 : Sl (kInt .i64) (fun x => x < w.heap.size) W A2 c2 (codesL (tabKI b))) (h8 : b < 8) (hq : quantB l = true) (hf : l.length % dimB b = 0) (hlm : l.length ≤ 10000) (hbl : bits.length ≤ 8000000) :
    Calls Tryz.prog 79 #[.agg (bookM b A1 c1 A2 c2), u, .slice A l.length c] W' fun e w' => ∃ u', e = .returned u' ∧ WtJ w g cs (bits ++ rowK b l) u' w' := by
  have h0 := h.below hb
  refine (radd2_any w.heap.size u bits b A1 c1 A2 c2 A c l W' h0.own h0.low.size (hS.below hb) (h1.below hb) (h2.below hb) h8 hq hf hlm hbl).mono ?_
  rintro e w' ⟨u', rfl, hO, hu, ha⟩
  exact ⟨u', rfl, h0.step hO hu ha⟩
theorem bkW_fit {b : Nat} {l : List Int} (h8 : b < 8) (h : (bkC (b : Int) l).2 = 0) : bkW (b : Int) l = rowK b l ∧ fitB b l = true ∧ quantB l = true := by
  obtain ⟨b', e, _, hq, hf, _⟩ := bkC_ok h
  obtain rfl : b' = b := by omega
  refine ⟨?_, hf, hq⟩
  unfold bkW
  rw [if_neg (by simp [h])]; rfl
/-- The bits of sections, as they grow. -/
theorem secP_facts {ws l : List Int} {s : List (Int × Int)} (hc : (costV ws l s).2 = true) (hok : ws.all okV = true) (h128 : ws.length ≤ 128) :
    s.length ≤ 128 ∧ secA s s.length = ws.length ∧ (∀ q, q < s.length → ∃ b m : Nat, nth (0, 0) s q = ((b : Int), (m : Int)) ∧ b < 8 ∧ 1 ≤ m ∧ m ≤ 128 ∧ secA s (q + 1) = secA s q + m ∧ secP ws l s (q + 1) = secP ws l s q ++ (numB b 3 ++ gamB m ++ secB ws l (b : Int) (secA s q) m)
      ∧ ∀ t, t < m → secA s q + t < ws.length ∧ (bkC (b : Int) (bndL ws l (secA s q + t))).2 = 0) ∧ ∀ q, q ≤ s.length → (secP ws l s q).length ≤ 1800000 := by
  obtain ⟨h1, h2, h3, h4, h5, h6⟩ := costV_ok hc
  have hsh := bks_shape h1
  obtain ⟨o, ho, hl, hn⟩ := bks_at h1 s.length (Nat.le_refl _)
  rw [List.take_length] at ho
  have hb : booksL s = o := by unfold booksL; rw [ho]; rfl
  refine ⟨hsh.1, h5, fun q hq => ?_, fun q hq => ?_⟩
  · obtain ⟨g0, g1, g2, g3⟩ := hsh.2 q hq
    have hm := secA_mono s (q + 1) (s.length - (q + 1))
    rw [show q + 1 + (s.length - (q + 1)) = s.length by omega, h5] at hm
    refine ⟨(nth (0, 0) s q).1.toNat, (nth (0, 0) s q).2.toNat, Prod.ext (by simp; omega) (by simp; omega), by omega, by omega, by omega, secA_succ s q, ?_, fun t ht => ?_⟩
    · show secP ws l s q ++ _ = _
      rw [show (((nth (0, 0) s q).1.toNat : Nat) : Int) = (nth (0, 0) s q).1 by omega]
    · have ha : secA s q + t < ws.length := by rw [secA_succ] at hm; omega
      refine ⟨ha, ?_⟩
      have h7 := List.all_eq_true.1 h4 _ (List.mem_range.2 ha)
      have h8 : (bdC ws l (booksL s) (secA s q + t)).2 = 0 := of_decide_eq_true h7
      unfold bdC at h8
      rw [hb, hn q hq t ht] at h8
      rw [show (((nth (0, 0) s q).1.toNat : Nat) : Int) = (nth (0, 0) s q).1 by omega]
      exact h8
  · rw [secP_len h1 q hq]
    have q1 := hdN_le hsh q hq
    have q2 := bdN_le ws l (booksL s) (secA s q)
    have q3 := secA_mono s q (s.length - q)
    rw [show q + (s.length - q) = s.length by omega, h5] at q3
    have q4 := sumV_le (ws := ws) (secA s q) q3 (by rw [List.all_eq_true] at hok ⊢; exact fun x hx => hok x (List.mem_of_mem_take hx))
    have := hsh.1
    omega
end Go.Proofs.YtmcdgmiheklbeaaGreatDoor

namespace Go.Proofs.YtmcdgmiheklbeaaGreatDoor
open Go.RowKit

theorem secB_leX (ws l : List Int) (b : Int) (a : Nat) (t : Nat) : ∀ d, (secB ws l b a t).length ≤ (secB ws l b a (t + d)).length
  | 0 => Nat.le_refl _
  | d + 1 => by
    have := secB_leX ws l b a t d
    rw [← Nat.add_assoc, secB_succ, List.length_append]; omega
set_option maxHeartbeats 8000000 in
set_option maxRecDepth 100000 in
theorem rwritten18_any (B0 B1 D : Option Addr) (d0 c1 e0 : Nat) (ws l : List Int) (s : List (Int × Int)) (w : World) (hA : Sl kBk AnyB w B0 d0 allK) (hB : R2 w B1 c1 ((List.range ws.length).map (bndL ws l))) (hS : RS w D e0 s) (hc : (costV ws l s).2 = true) (hok : ws.all okV = true) (h128 : ws.length ≤ 128) :
    Calls Tryz.prog 47 #[.slice B0 8 d0, .slice B1 ws.length c1, .slice D s.length e0] w fun e w' => ∃ v, e = .returned v ∧ OwnI 5 .u8 w.heap.size w' v (bitsI (secP ws l s s.length)) ∧ Below w.heap.size w w' := by
  have HF := Lib.hid (secP_facts hc hok h128)
  have HAL := Lib.hid (fun W (hb : Below w.heap.size w W) b (h8 : b < 8) => rd_all ((hA.weak (ok' := fun x => x < w.heap.size) fun _ h _ => h).below hb) b h8)
  have HSL := Lib.hid (fun W (hb : Below w.heap.size w W) j (hj : j < ws.length) => show ∃ ad A' c', B1 = some ad ∧ W.cell? (ad.add j) = some (.slice A' (bndL ws l j).length c') ∧ Sl (kInt .i64) (fun x => x < w.heap.size) W A' c' (bndL ws l j) from by
    obtain ⟨ad, A', c', h1, h2, h3⟩ := rd_sl ((hB.weak (ok' := fun x => x < w.heap.size) fun _ h _ => h).below hb) j (by simp; exact hj)
    have e : nth [] ((List.range ws.length).map (bndL ws l)) j = bndL ws l j := by rw [nth_eq _ _ j (by simp; exact hj)]; simp
    rw [e] at h2 h3
    exact ⟨ad, A', c', h1, h2, h3⟩)
  have HSE := Lib.hid (fun W (hb : Below w.heap.size w W) j (hj : j < s.length) => rd_se (hS.below hb) j hj)
  have HBL := Lib.hid (fun j (hj : j < ws.length) => show (bndL ws l j).length ≤ 128 from by have := bndL_le ws l j; have := (okV_at hok j hj).2.2; omega)
  obtain ⟨n, hn⟩ : ∃ n, ws.length = n := ⟨_, rfl⟩
  rw [hn] at HF HSL HBL ⊢
  have HN := Lib.hid (show n ≤ 128 by omega)
  clear hA hB hS hc hok h128 hn
  go_enter Tryz.func47, Tryz.ntmps47
  go_wp2
  go_loopw [7, 8, 13] (fun rv av kv wr => ∃ q : Nat, q ≤ s.length ∧ kv = .int .i64 (q : Int) ∧ av = .int .i64 (secA s q : Int) ∧ Hid (OwnI 5 .u8 w.heap.size wr rv (bitsI (secP ws l s q))) ∧ Hid (Below w.heap.size w wr)) (fun _ _ kv _ => s.length - (intOf kv).toNat)
  case atStart => exact ⟨0, Nat.zero_le _, rfl, rfl, Lib.hid (by simpa [bitsI, secP] using OwnI.nil 5 .u8 w.heap.size w), Lib.hid (Below.refl _ _)⟩
  case round =>
    obtain ⟨q, hq, rfl, rfl, HO, HB⟩ := hrel
    by_cases hlt : q < s.length
    · obtain ⟨b, m, hx, hb8, hm1, hm128, hA2, hP2, hT⟩ := HF.out.2.2.1 q hlt
      obtain ⟨ad, rfl, _, z0, z1⟩ := HSE.out wr HB.out q hlt
      rw [hx] at z0 z1
      have hs128 := HF.out.1
      have hpl := HF.out.2.2.2 q hq
      have hpl2 := HF.out.2.2.2 (q + 1) hlt
      have HLQ := Lib.hid hlt
      obtain ⟨a, hae⟩ : ∃ a, secA s q = a := ⟨_, rfl⟩
      rw [hae] at hA2 hP2 hT ⊢
      obtain ⟨P0, hP0⟩ : ∃ P0, secP ws l s q = P0 := ⟨_, rfl⟩
      rw [hP0] at hP2 HO hpl
      have HT := Lib.hid hT
      have HA2 := Lib.hid hA2
      have HP2 := Lib.hid hP2
      rw [hP2, List.length_append, List.length_append, List.length_append] at hpl2
      have HPL := Lib.hid (And.intro hpl hpl2)
      have hqi : (q : Int) < (s.length : Int) := by omega
      have hqd : decide ((q : Int) < (s.length : Int)) = true := decide_eq_true hqi
      have hq0 : (0 : Int) ≤ (q : Int) := by omega
      have hwq : IntKind.i64.wrap ((q : Int) + 1) = ((q + 1 : Nat) : Int) := by rw [IntWalk.i64_in _ (by omega)]; omega
      have HBM := Lib.hid (show b < 8 ∧ 1 ≤ m ∧ m ≤ 128 from ⟨hb8, hm1, hm128⟩)
      clear hT hA2 hP2 hpl hpl2 hae hP0 hx hlt hq hb8 hm1 hm128 hs128
      go_upto_region 6 with fail
      have hba := below_alloc (Below.refl wr.heap.size wr) (.cells #[.int .i64 (b : Int), .int .i64 (m : Int)] 47)
      obtain ⟨g10, hg10⟩ : ∃ g10, wr.heap.size = g10 := ⟨_, rfl⟩
      have B10 : Blk (wr.alloc (.cells #[.int .i64 (b : Int), .int .i64 (m : Int)] 47)) g10 #[.int .i64 (b : Int), .int .i64 (m : Int)] 47 := by rw [← hg10]; exact heap_alloc_new wr _
      have HJ := Lib.hid (show WtJ w g10 #[.int .i64 (b : Int), .int .i64 (m : Int)] P0 u7 (wr.alloc (.cells #[.int .i64 (b : Int), .int .i64 (m : Int)] 47)) from ⟨HO.out.below hba, fun e => by have := (HO.out.lt g10 e).2; omega, B10, below2 HB.out hba⟩)
      obtain ⟨W10, hW10⟩ : ∃ W10, wr.alloc (.cells #[.int .i64 (b : Int), .int .i64 (m : Int)] 47) = W10 := ⟨_, rfl⟩
      rw [hW10] at HJ
      try simp only [hW10, hg10]
      clear hW10 hg10 B10 hba HO HB z0 z1
      have hd := (Below.refl W10.heap.size W10).drew
      have HPT := Lib.hid (HJ.out.put hd b 3 (by have := HPL.out.1; omega) (by decide) (by have := HBM.out; omega))
      have hb0 := (HJ.out.blk.below hd).cell 0 rfl
      have hb1 := (HJ.out.blk.below hd).cell 1 rfl
      refine wp_region_G 6 (fun W' => W'.cell? ⟨g10, 0, none⟩ = some (.int .i64 (b : Int)) ∧ W'.cell? ⟨g10, 1, none⟩ = some (.int .i64 (m : Int))) (by kernel_rfl) ⟨hb0, hb1⟩ (fun hHeld => ?_)
      refine wpAnyG_takeL (i := 0) (u7) [3, 6] rfl (by kernel_rfl) (fun _ _ _ h => h) hHeld (by rfl) ?_ ?_
      · (intro W' hSw; (try dsimp only at hSw); go_simp)
      try simp only [Act.put, List.setIfInBounds_toArray, List.set_cons_zero, List.set_cons_succ]
      refine wpAnyG_takeL (i := 1) (.pointer (some ⟨g10, 0, none⟩)) [2, 3, 6] rfl (by kernel_rfl) (fun _ _ _ h => h) hHeld (by rfl) ?_ ?_
      · (intro W' hSw; (try dsimp only at hSw); go_simp)
      try simp only [Act.put, List.setIfInBounds_toArray, List.set_cons_zero, List.set_cons_succ]
      refine wpAnyG_takeL (i := 2) (.int .i64 (b : Int)) [3, 6] rfl (by kernel_rfl) (fun _ _ _ h => h) hHeld (by rfl) ?_ ?_
      · (intro W' hSw; (try dsimp only at hSw); go_simp)
      try simp only [Act.put, List.setIfInBounds_toArray, List.set_cons_zero, List.set_cons_succ]
      refine wpAnyG_takeL (i := 4) (.pointer (some ⟨g10, 1, none⟩)) [5, 6] rfl (by kernel_rfl) (fun _ _ _ h => h) hHeld (by rfl) ?_ ?_
      · (intro W' hSw; (try dsimp only at hSw); go_simp)
      try simp only [Act.put, List.setIfInBounds_toArray, List.set_cons_zero, List.set_cons_succ]
      refine wpAnyG_takeL (i := 5) (.int .i64 (m : Int)) [6] rfl (by kernel_rfl) (fun _ _ _ h => h) hHeld (by rfl) ?_ ?_
      · (intro W' hSw; (try dsimp only at hSw); go_simp)
      try simp only [Act.put, List.setIfInBounds_toArray, List.set_cons_zero, List.set_cons_succ]
      clear hHeld
      refine wpAnyG_oneL (i := 3) (by kernel_rfl) rfl (fun K hK => ?_)
      (go_simp; go_at_call 78; refine HPT.out.mono ?_; rintro e W7 ⟨v20, rfl, hJ7⟩)
      refine hK.out _ _ (fun _ => ⟨hJ7.blk.cell 0 rfl, hJ7.blk.cell 1 rfl⟩) ?_
      clear hK K
      try simp only [Act.put, List.setIfInBounds_toArray, List.set_cons_zero, List.set_cons_succ]
      have HG7 := Lib.hid (hJ7.gamma (Below.refl _ _) m (by rw [List.length_append, numB_length]; have := HPL.out.1; omega) (by have := HBM.out; omega) (by have := HBM.out; omega))
      refine wpAnyG_oneL (i := 6) (by kernel_rfl) rfl (fun K hK => ?_)
      (go_simp; go_at_call 77; refine HG7.out.mono ?_; rintro e W8 ⟨v23, rfl, hJ8⟩)
      refine hK.out _ _ (fun h => Bool.noConfusion (show true = false from h)) ?_
      clear hK K
      refine wpAnyG_oneL (i := 7) (by kernel_rfl) rfl (fun K hK => ?_)
      (go_simp)
      refine hK.out _ _ (fun h => Bool.noConfusion (show true = false from h)) ?_
      clear hK K
      refine wpAnyG_done (by kernel_rfl) ?_ _
      have HJ8 := Lib.hid hJ8
      have k1 : W8.cell? ⟨g10, 1, none⟩ = some (.int .i64 (m : Int)) := hJ8.blk.cell 1 rfl
      clear hJ7 hJ8 hb0 hb1 hd HJ HPT HG7
      obtain ⟨P1, hP1⟩ : ∃ P1, P0 ++ numB b 3 ++ gamB m = P1 := ⟨_, rfl⟩
      rw [hP1] at HJ8
      have HP1 := Lib.hid hP1
      clear hP1
      go_wp2
      clear k1
      go_loopw [7, 8, 26] (fun rv av tv wx => ∃ t : Nat, t ≤ m ∧ tv = .int .i64 (t : Int) ∧ av = .int .i64 ((a + t : Nat) : Int) ∧ Hid (WtJ w g10 #[.int .i64 (b : Int), .int .i64 (m : Int)] (P1 ++ secB ws l (b : Int) a t) rv wx)) (fun _ _ tv _ => m - (intOf tv).toNat)
      case atStart => exact ⟨0, Nat.zero_le _, rfl, rfl, Lib.hid (by have := HJ8.out; simpa [secB] using this)⟩
      case round =>
        clear HJ8
        obtain ⟨t, ht, rfl, rfl, HJ⟩ := hrel
        obtain ⟨a2, ha2⟩ : ∃ a2, a + t = a2 := ⟨_, rfl⟩
        rw [ha2]
        by_cases htm : t < m
        · obtain ⟨han, hbc⟩ := HT.out t htm
          rw [ha2] at han hbc
          obtain ⟨hbw, hbf, hbq⟩ := bkW_fit HBM.out.1 hbc
          obtain ⟨ad3, T1, t1, T2, t2, rfl, ht1, ht2, k0, k1, k2, k3, k4, k5⟩ := HAL.out wr HJ.out.low b HBM.out.1
          obtain ⟨ad4, Ab, cb, rfl, y0, y1⟩ := HSL.out wr HJ.out.low a2 han
          have hbl := HBL.out a2 han
          have HSU := Lib.hid (show P1 ++ secB ws l (b : Int) a (t + 1) = (P1 ++ secB ws l (b : Int) a t) ++ rowK b (bndL ws l a2) by rw [secB_succ, ha2, hbw, List.append_assoc])
          have hlen : (P1 ++ secB ws l (b : Int) a t).length ≤ 1800000 := by
            have h1 := secB_leX ws l (b : Int) a t (m - t)
            rw [show t + (m - t) = m by omega] at h1
            have h2 := HPL.out.2
            rw [← HP1.out, List.length_append, List.length_append, List.length_append]
            omega
          have HAD := Lib.hid (fun W' (hb : Below wr.heap.size wr W') => HJ.out.add hb b T1 t1 T2 t2 Ab cb (bndL ws l a2) y1 ht1 ht2 HBM.out.1 hbq (fitB_mod hbf) (by omega) (by omega))
          unfold bookM bookC at HAD
          obtain ⟨bd, hbd⟩ : ∃ bd, bndL ws l a2 = bd := ⟨_, rfl⟩
          rw [hbd] at HAD HSU y0
          obtain ⟨nt, hnt⟩ : ∃ nt, (tabKI b).length = nt := ⟨_, rfl⟩
          rw [hnt] at k4 k5 HAD
          have hd := (Below.refl wr.heap.size wr).drew
          have HH := Lib.hid (show ∀ W' : World, Below wr.heap.size wr W' → W'.cell? ⟨g10, 0, none⟩ = some (.int .i64 (b : Int)) ∧ W'.cell? (ad3.add (b * 6)) = some (.int .i64 (dimB b)) ∧ W'.cell? ⟨(ad3.add (b * 6)).block, (ad3.add (b * 6)).off + 1, none⟩ = some (.int .i64 (mostB b)) ∧ W'.cell? ⟨(ad3.add (b * 6)).block, (ad3.add (b * 6)).off + 2, none⟩ = some (.int .i64 (fallB b)) ∧ W'.cell? ⟨(ad3.add (b * 6)).block, (ad3.add (b * 6)).off + 3, none⟩ = some (.bool (escB b)) ∧ W'.cell? ⟨(ad3.add (b * 6)).block, (ad3.add (b * 6)).off + 4, none⟩ = some (.slice T1 nt t1) ∧ W'.cell? ⟨(ad3.add (b * 6)).block, (ad3.add (b * 6)).off + 5, none⟩ = some (.slice T2 nt t2) ∧ W'.cell? (ad4.add a2) = some (.slice Ab bd.length cb) from
            fun W' hb => ⟨(HJ.out.blk.below hb).cell 0 rfl, cell_below hb k0, cell_below hb k1, cell_below hb k2, cell_below hb k3, cell_below hb k4, cell_below hb k5, cell_below hb y0⟩)
          have hbi : (b : Int) < 8 := by have := HBM.out; omega
          have hb0 : (0 : Int) ≤ (b : Int) := by omega
          have hai : (a2 : Int) < (n : Int) := by omega
          have ha0 : (0 : Int) ≤ (a2 : Int) := by omega
          have hN := HN.out
          have hM := HBM.out.2.2
          have hwt : IntKind.i64.wrap ((t : Int) + 1) = ((t + 1 : Nat) : Int) := by rw [IntWalk.i64_in _ (by omega)]; omega
          have hwa : IntKind.i64.wrap ((a2 : Int) + 1) = ((a2 + 1 : Nat) : Int) := by rw [IntWalk.i64_in _ (by omega)]; omega
          have hti : (t : Int) < (m : Int) := by omega
          have htd : decide ((t : Int) < (m : Int)) = true := decide_eq_true hti
          have HTM := Lib.hid (And.intro htm ha2)
          clear hbc hbw hbf hbq ht1 ht2 k0 k1 k2 k3 k4 k5 y0 y1 hbl hlen hbd hnt hN hM htm han ht ha2
          go_upto_region 9 with fail
          refine wp_region_G 10 (fun W' => W'.cell? ⟨g10, 0, none⟩ = some (.int .i64 (b : Int)) ∧ W'.cell? (ad3.add (b * 6)) = some (.int .i64 (dimB b)) ∧ W'.cell? ⟨(ad3.add (b * 6)).block, (ad3.add (b * 6)).off + 1, none⟩ = some (.int .i64 (mostB b)) ∧ W'.cell? ⟨(ad3.add (b * 6)).block, (ad3.add (b * 6)).off + 2, none⟩ = some (.int .i64 (fallB b)) ∧ W'.cell? ⟨(ad3.add (b * 6)).block, (ad3.add (b * 6)).off + 3, none⟩ = some (.bool (escB b)) ∧ W'.cell? ⟨(ad3.add (b * 6)).block, (ad3.add (b * 6)).off + 4, none⟩ = some (.slice T1 nt t1) ∧ W'.cell? ⟨(ad3.add (b * 6)).block, (ad3.add (b * 6)).off + 5, none⟩ = some (.slice T2 nt t2) ∧ W'.cell? (ad4.add a2) = some (.slice Ab bd.length cb)) (by kernel_rfl) (HH.out _ hd) (fun hHeld => ?_)
          refine wpAnyG_takeL (i := 0) (.slice (some ad3) 8 d0) [3, 4, 10] rfl (by kernel_rfl) (fun _ _ _ h => h) hHeld (by rfl) ?_ ?_
          · (intro W' hSw; (try dsimp only at hSw); go_simp)
          try simp only [Act.put, List.setIfInBounds_toArray, List.set_cons_zero, List.set_cons_succ]
          refine wpAnyG_takeL (i := 1) (.pointer (some ⟨g10, 0, none⟩)) [2, 3, 4, 10] rfl (by kernel_rfl) (fun _ _ _ h => h) hHeld (by rfl) ?_ ?_
          · (intro W' hSw; (try dsimp only at hSw); go_simp)
          try simp only [Act.put, List.setIfInBounds_toArray, List.set_cons_zero, List.set_cons_succ]
          refine wpAnyG_takeL (i := 2) (.int .i64 (b : Int)) [3, 4, 10] rfl (by kernel_rfl) (fun _ _ _ h => h) hHeld (by rfl) ?_ ?_
          · (intro W' hSw; (try dsimp only at hSw); go_simp)
          try simp only [Act.put, List.setIfInBounds_toArray, List.set_cons_zero, List.set_cons_succ]
          refine wpAnyG_takeL (i := 3) (.pointer (some (ad3.add (b * 6)))) [4, 10] rfl (by kernel_rfl) (fun _ _ _ h => h) hHeld (by rfl) ?_ ?_
          · (intro W' hSw; (try dsimp only at hSw); go_simp)
          try simp only [Act.put, List.setIfInBounds_toArray, List.set_cons_zero, List.set_cons_succ]
          refine wpAnyG_takeL (i := 4) (.agg #[.int .i64 (dimB b), .int .i64 (mostB b), .int .i64 (fallB b), .bool (escB b), .slice T1 nt t1, .slice T2 nt t2]) [10] rfl (by kernel_rfl) (fun _ _ _ h => h) hHeld (by rfl) ?_ ?_
          · (intro W' hSw; (try dsimp only at hSw); go_simp)
          try simp only [Act.put, List.setIfInBounds_toArray, List.set_cons_zero, List.set_cons_succ]
          refine wpAnyG_takeL (i := 5) (u7) [10] rfl (by kernel_rfl) (fun _ _ _ h => h) hHeld (by rfl) ?_ ?_
          · (intro W' hSw; (try dsimp only at hSw); go_simp)
          try simp only [Act.put, List.setIfInBounds_toArray, List.set_cons_zero, List.set_cons_succ]
          refine wpAnyG_takeL (i := 6) (.slice (some ad4) n c1) [8, 9, 10] rfl (by kernel_rfl) (fun _ _ _ h => h) hHeld (by rfl) ?_ ?_
          · (intro W' hSw; (try dsimp only at hSw); go_simp)
          try simp only [Act.put, List.setIfInBounds_toArray, List.set_cons_zero, List.set_cons_succ]
          refine wpAnyG_takeL (i := 7) (.int .i64 (a2 : Int)) [8, 9, 10] rfl (by kernel_rfl) (fun _ _ _ h => h) hHeld (by rfl) ?_ ?_
          · (intro W' hSw; (try dsimp only at hSw); go_simp)
          try simp only [Act.put, List.setIfInBounds_toArray, List.set_cons_zero, List.set_cons_succ]
          refine wpAnyG_takeL (i := 8) (.pointer (some (ad4.add a2))) [9, 10] rfl (by kernel_rfl) (fun _ _ _ h => h) hHeld (by rfl) ?_ ?_
          · (intro W' hSw; (try dsimp only at hSw); go_simp)
          try simp only [Act.put, List.setIfInBounds_toArray, List.set_cons_zero, List.set_cons_succ]
          refine wpAnyG_takeL (i := 9) (.slice Ab bd.length cb) [10] rfl (by kernel_rfl) (fun _ _ _ h => h) hHeld (by rfl) ?_ ?_
          · (intro W' hSw; (try dsimp only at hSw); go_simp)
          try simp only [Act.put, List.setIfInBounds_toArray, List.set_cons_zero, List.set_cons_succ]
          clear hHeld
          refine wpAnyG_oneL (i := 10) (by kernel_rfl) rfl (fun K hK => ?_)
          (go_simp; go_at_call 79; refine (HAD.out _ hd).mono ?_; rintro e W11 ⟨v38, rfl, hJ11⟩)
          refine hK.out _ _ (fun h => Bool.noConfusion (show true = false from h)) ?_
          clear hK K
          refine wpAnyG_oneL (i := 11) (by kernel_rfl) rfl (fun K hK => ?_)
          (go_simp)
          refine hK.out _ _ (fun h => Bool.noConfusion (show true = false from h)) ?_
          clear hK K
          refine wpAnyG_done (by kernel_rfl) ?_ _
          have HJ11 := Lib.hid hJ11
          clear hJ11 hd HAD HH
          go_wp2
          exact ⟨⟨t + 1, HTM.out.1, rfl, by rw [show a + (t + 1) = a2 + 1 by have := HTM.out.2; omega]; rfl, Lib.hid (by rw [HSU.out]; exact HJ11.out)⟩, by
            show m - (((t + 1 : Nat) : Int)).toNat < m - ((t : Int)).toNat
            rw [Int.toNat_natCast, Int.toNat_natCast]; have := HTM.out; omega⟩
        · have hte : t = m := by omega
          have htd : decide ((t : Int) < (m : Int)) = false := decide_eq_false (by omega)
          have htdn : decide (t < m) = false := decide_eq_false (by omega)
          have HE := Lib.hid (show a2 = secA s (q + 1) by rw [HA2.out, ← ha2, hte])
          have HE2 := Lib.hid (show P1 ++ secB ws l (b : Int) a t = secP ws l s (q + 1) by rw [HP2.out, ← HP1.out, hte]; simp only [List.append_assoc])
          clear ht htm hte ha2
          go_wp2
          exact ⟨⟨q + 1, HLQ.out, rfl, by rw [HE.out], Lib.hid (by rw [← HE2.out]; exact HJ.out.own), Lib.hid HJ.out.low⟩, by
            show s.length - (((q + 1 : Nat) : Int)).toNat < s.length - ((q : Int)).toNat
            rw [Int.toNat_natCast, Int.toNat_natCast]; have := HLQ.out; omega⟩
    · have hqe : q = s.length := by omega
      have hqd : decide ((q : Int) < (s.length : Int)) = false := decide_eq_false (by omega)
      have hqdn : decide (q < s.length) = false := decide_eq_false (by omega)
      have HQ := Lib.hid hqe
      clear hq hlt hqe
      go_wp2
      go_ret
      exact ⟨_, rfl, by rw [← HQ.out]; exact HO.out, HB.out⟩
end Go.Proofs.YtmcdgmiheklbeaaGreatDoor

namespace Go.Proofs.YtmcdgmiheklbeaaGreatDoor
open Go.RowKit

/-- The bits of values in sections; none, if they are not right. -/
def rowQ (ws l : List Int) (s : List (Int × Int)) : List Bool := if (costQ ws l s).2 = 0 then secP ws l s s.length else []
theorem rowQ_cost (ws l : List Int) (s : List (Int × Int)) : (costQ ws l s).1 = ((rowQ ws l s).length : Int) := by
  unfold rowQ
  by_cases h : (costQ ws l s).2 = 0
  · rw [if_pos h, (costQ_ok h).2.2]
  · rw [if_neg h]
    unfold costQ at h ⊢
    split
    · rfl
    · rename_i h1
      rw [if_neg h1] at h
      split
      · rfl
      · rename_i h2
        rw [if_neg h2] at h
        exact absurd rfl h
theorem rowQ_len (ws l : List Int) (s : List (Int × Int)) : (rowQ ws l s).length ≤ 1800000 := by
  unfold rowQ
  by_cases h : (costQ ws l s).2 = 0
  · rw [if_pos h]
    obtain ⟨h1, h2, _⟩ := costQ_ok h
    obtain ⟨hok, h128, _, _⟩ := sureE_facts h1
    exact (secP_facts h2 hok h128).2.2.2 s.length (Nat.le_refl _)
  · rw [if_neg h]; exact Nat.zero_le _
set_option maxHeartbeats 2000000 in
set_option maxRecDepth 100000 in
theorem rRow18_any (A B D : Option Addr) (c d e0 : Nat) (ws l : List Int) (s : List (Int × Int)) (w : World) (hS : RI w A c ws) (hT : RI w B d l) (hR : RS w D e0 s) (hw : ws.length ≤ 100000) :
    Calls Tryz.prog 28 #[.slice A ws.length c, .slice B l.length d, .slice D s.length e0] w fun e w' => ∃ v, e = .returned (.tuple #[v, .int .i64 (costQ ws l s).2]) ∧ OwnI 5 .u8 w.heap.size w' v (bitsI (rowQ ws l s)) ∧ Below w.heap.size w w' := by
  have HSU := Lib.hid (rsure_any A B c d ws l w hS hT hw)
  by_cases hs : sureE ws l = 0
  · obtain ⟨hok, h128, hsum, hq⟩ := sureE_facts hs
    have HCU := Lib.hid (rcut_any A B c d ws l w hS hT hok hsum h128)
    have HRT := Lib.hid (fun (g : Nat) (B1 : Option Addr) (c1 : Nat) W (hb : Below w.heap.size w W) (h1 : Sl kBk AnyB W (some ⟨g, 0, none⟩) 8 allK) (h2 : R2 W B1 c1 ((List.range ws.length).map (bndL ws l))) => rright_any (some ⟨g, 0, none⟩) B1 D 8 c1 e0 ws l s W h1 h2 (hR.below hb) hq h128)
    have HWT := Lib.hid (fun (hc : (costV ws l s).2 = true) (g : Nat) (B1 : Option Addr) (c1 : Nat) W (hb : Below w.heap.size w W) (h1 : Sl kBk AnyB W (some ⟨g, 0, none⟩) 8 allK) (h2 : R2 W B1 c1 ((List.range ws.length).map (bndL ws l))) => rwritten18_any (some ⟨g, 0, none⟩) B1 D 8 c1 e0 ws l s W h1 h2 (hR.below hb) hc hok h128)
    rw [hs] at HSU
    generalize (List.range ws.length).map (bndL ws l) = bl at HCU HRT HWT
    cases hc : (costV ws l s).2
    · rw [hc] at HRT
      have HE := Lib.hid (show (costQ ws l s).2 = 4 by unfold costQ; rw [if_neg (by simp [hs]), if_pos hc])
      have HRQ := Lib.hid (show rowQ ws l s = [] by unfold rowQ; rw [if_neg (by rw [HE.out]; decide)])
      rw [HE.out, HRQ.out]
      clear hS hT hR hs hok h128 hsum hq hc HE HRQ HWT
      go_enter Tryz.func28, Tryz.ntmps28
      go_wp2_with (first
        | (go_at_call 43; refine HSU.out.mono ?_; rintro e w2 ⟨rfl, rfl⟩)
        | (go_at_call 45; refine HCU.out.mono ?_; rintro e w3 ⟨B1, c1, rfl, h3, b3⟩; have H3 := Lib.hid h3; have HB3 := Lib.hid b3; clear h3 b3)
        | (go_at_call 44; refine (rall_any _).mono ?_; rintro e w4 ⟨g4, rfl, h4, b4⟩; have H4 := Lib.hid h4.any; have HB4 := Lib.hid b4; clear h4 b4)
        | (go_at_call 55; refine (HRT.out _ _ _ _ (below2 HB3.out HB4.out) H4.out (H3.out.below HB4.out)).mono ?_; rintro e w5 ⟨rfl, b5⟩))
      go_ret2
      exact ⟨_, ret_two rfl rfl, OwnI.nil _ _ _ _, below2 (below2 HB3.out HB4.out) b5⟩
    · have HE := Lib.hid (show (costQ ws l s).2 = 0 by unfold costQ; rw [if_neg (by simp [hs]), if_neg (by simp [hc])])
      have HRQ := Lib.hid (show rowQ ws l s = secP ws l s s.length by unfold rowQ; rw [if_pos HE.out])
      rw [HE.out, HRQ.out]
      rw [hc] at HRT
      have HWT2 := Lib.hid (HWT.out hc)
      generalize secP ws l s s.length = P at *
      clear hS hT hR hs hok h128 hsum hq hc HE HRQ HWT
      go_enter Tryz.func28, Tryz.ntmps28
      go_wp2_with (first
        | (go_at_call 43; refine HSU.out.mono ?_; rintro e w2 ⟨rfl, rfl⟩)
        | (go_at_call 45; refine HCU.out.mono ?_; rintro e w3 ⟨B1, c1, rfl, h3, b3⟩; have H3 := Lib.hid h3; have HB3 := Lib.hid b3; clear h3 b3)
        | (go_at_call 44; refine (rall_any _).mono ?_; rintro e w4 ⟨g4, rfl, h4, b4⟩; have H4 := Lib.hid h4.any; have HB4 := Lib.hid b4; clear h4 b4)
        | (go_at_call 47; refine (HWT2.out _ _ _ _ (below2 (below2 HB3.out HB4.out) HB5.out) (H4.out.below HB5.out) ((H3.out.below HB4.out).below HB5.out)).mono ?_; rintro e w6 ⟨v6, rfl, hO6, b6⟩; have HO6 := Lib.hid hO6; have HB6 := Lib.hid b6; clear hO6 b6)
        | (go_at_call 55; refine (HRT.out _ _ _ _ (below2 HB3.out HB4.out) H4.out (H3.out.below HB4.out)).mono ?_; rintro e w5 ⟨rfl, b5⟩; have HB5 := Lib.hid b5; clear b5))
      go_ret2
      exact ⟨_, ret_two rfl rfl, HO6.out.mono (below2 (below2 HB3.out HB4.out) HB5.out).size, below2 (below2 (below2 HB3.out HB4.out) HB5.out) HB6.out⟩
  · have HE := Lib.hid (show (costQ ws l s).2 = sureE ws l by unfold costQ; rw [if_pos hs])
    have HRQ := Lib.hid (show rowQ ws l s = [] by unfold rowQ; rw [if_neg (by rw [HE.out]; exact hs)])
    rw [HE.out, HRQ.out]
    clear HE HRQ
    have hEb : (sureE ws l != 0) = true := by simp [hs]
    generalize sureE ws l = E at *
    clear hS hT hR hs
    go_enter Tryz.func28, Tryz.ntmps28
    go_wp2_with (go_at_call 43; refine HSU.out.mono ?_; rintro e w2 ⟨rfl, rfl⟩)
    go_ret2
    exact ⟨_, ret_two rfl rfl, OwnI.nil _ _ _ _, Below.refl _ _⟩
set_option maxHeartbeats 1000000 in
theorem rCost18_any (A B D : Option Addr) (c d e0 : Nat) (ws l : List Int) (s : List (Int × Int)) (w : World) (hS : RI w A c ws) (hT : RI w B d l) (hR : RS w D e0 s) (hw : ws.length ≤ 100000) :
    Calls Tryz.prog 9 #[.slice A ws.length c, .slice B l.length d, .slice D s.length e0] w fun e w' => e = .returned (.tuple #[.int .i64 (costQ ws l s).1, .int .i64 (costQ ws l s).2]) ∧ Below w.heap.size w w' := by
  have HC := Lib.hid (rRow18_any A B D c d e0 ws l s w hS hT hR hw)
  have HL := Lib.hid (rowQ_cost ws l s)
  have HB := Lib.hid (bitsI_len (rowQ ws l s))
  generalize rowQ ws l s = R at *
  generalize costQ ws l s = Z at *
  clear hS hT hR
  go_enter Tryz.func9, Tryz.ntmps9
  go_wp2_with (go_at_call 28; refine HC.out.mono ?_; rintro e w2 ⟨v, rfl, hO, b2⟩; obtain ⟨A2, c2, rfl⟩ := hO.slice; rw [HB.out])
  go_ret2
  exact ⟨by rw [HL.out]; rfl, b2⟩
end Go.Proofs.YtmcdgmiheklbeaaGreatDoor

namespace Go.Proofs.YtmcdgmiheklbeaaGreatDoor
open Go.ChangeShapes Go.WideShapes Go.ChangeAt Go.WideMaps Go.WideElems Go.RowKit Go.Deep

section
variable {H : Type} {enc : TypeId × Value → H} {W : World}
set_option maxRecDepth 100000 in
/-- What a writer begins with. -/
theorem open_M {r : Reach} {b0 : Nat} {v : Value} {d : DataW H} {p : List MemPlace} (hv : Value.okWide Tryz.prog W r b0 33 v) (h : DataW.Trod enc Tryz.prog W 0 (fun _ => true) true 33 v d p) :
    ∃ (A : Option Addr) (c : Nat) (b : List Int) (L : Int), v = .agg #[.slice A b.length c, .int .i64 L] ∧ RY W A c b ∧ ∀ x ∈ b, 0 ≤ x ∧ x < 256 := by
  obtain ⟨v0, v1, y0, y1, n, rfl, rfl, rfl, h0, h1⟩ := Joins.open_agg2 (P := Tryz.prog) Tryz.underlying33 (by kernel_rfl) (by kernel_rfl) hv h
  obtain ⟨A, c, s, rfl, h3, h4, _⟩ := open_Y h0
  obtain ⟨k1, e1, _⟩ := DataW.trod_int (P := Tryz.prog) Tryz.underlying3 h1
  injection e1 with e1 _
  subst e1
  exact ⟨A, c, s, k1, rfl, h3, h4⟩
end
end Go.Proofs.YtmcdgmiheklbeaaGreatDoor

namespace Go.Proofs.YtmcdgmiheklbeaaGreatDoor
open Go.ChangeShapes Go.WideShapes Go.ChangeAt Go.WideMaps Go.WideElems Go.RowKit Go.Deep

section
variable {H : Type} {enc : TypeId × Value → H} {W : World}
set_option maxRecDepth 100000 in
theorem section_read {m : Nat} {cs : List Value} {x : DataW H × List MemPlace} (h : DataW.trod enc Tryz.prog W 0 (fun _ => true) true m 47 cs = some x) :
    ∃ n1 n2 : Int, cs = [.int .i64 n1, .int .i64 n2] := by
  obtain ⟨zs, n, _, rfl, hl, hlen, hf⟩ := DataW.trod_struct Tryz.underlying47 h
  rw [show Tryz.prog.cellsOf 47 = 2 by kernel_rfl] at hl
  match zs, hlen with
  | [y0, y1], _ =>
    have h0 : DataW.trod enc Tryz.prog W 0 (fun _ => true) true n 3 ((cs.drop 0).take (Tryz.prog.cellsOf 3)) = some y0 := hf 0 _ rfl
    have h1 : DataW.trod enc Tryz.prog W 0 (fun _ => true) true n 3 ((cs.drop 1).take (Tryz.prog.cellsOf 3)) = some y1 := hf 1 _ rfl
    rw [show Tryz.prog.cellsOf 3 = 1 by kernel_rfl] at h0 h1
    obtain ⟨n1, e1, _⟩ := DataW.trod_int (P := Tryz.prog) Tryz.underlying3 h0
    obtain ⟨n2, e2, _⟩ := DataW.trod_int (P := Tryz.prog) Tryz.underlying3 h1
    match cs, hl with
    | [c0, c1], _ =>
      replace e1 : [c0] = [.int .i64 n1] := e1
      replace e2 : [c1] = [.int .i64 n2] := e2
      injection e1 with e1 _
      injection e2 with e2 _
      exact ⟨n1, n2, by rw [e1, e2]⟩
set_option maxRecDepth 100000 in
/-- A []api.Section. -/
theorem open_S {fuel : Nat} {v : Value} {x : DataW H × List MemPlace} (h : DataW.trod enc Tryz.prog W 0 (fun _ => true) true fuel 23 [v] = some x) :
    ∃ A c xs, v = .slice A xs.length c ∧ RS W A c xs := by
  rcases DataW.trod_slice Tryz.underlying23 h with ⟨hcs, _⟩ | ⟨a, len, cap, elems, rest, n, _, hcs, _, _, hl, hm, hel, hi, _⟩
  · injection hcs with hv _
    exact ⟨none, 0, [], hv, ⟨Nat.le_refl _, by omega, Kd.Rd.nil _ _ _ _⟩⟩
  · injection hcs with hv _
    rw [show Tryz.prog.cellsOf 47 = 2 by kernel_rfl] at hi
    have key : ∀ i, ∃ p : Int × Int, i < len → W.cell? (a.add (i * 2)) = some (.int .i64 p.1) ∧ W.cell? (a.add (i * 2 + 1)) = some (.int .i64 p.2) := fun i => by
      by_cases hlt : i < len
      · have h1 := hi i hlt
        rw [List.getElem?_eq_getElem (by omega)] at h1
        obtain ⟨cs, hc, ht⟩ := Option.bind_eq_some_iff.1 h1
        obtain ⟨n1, n2, rfl⟩ := section_read ht
        obtain ⟨_, hlc, hg⟩ := World.cells?_some hc
        refine ⟨(n1, n2), fun _ => ⟨?_, ?_⟩⟩
        · have := hg 0 (by omega)
          rw [add_add, Nat.add_zero] at this
          exact this
        · have := hg 1 (by omega)
          rw [add_add] at this
          exact this
      · exact ⟨(0, 0), fun h => absurd h hlt⟩
    have hx : ∃ f : Nat → Int × Int, ∀ i, i < len → W.cell? (a.add (i * 2)) = some (.int .i64 (f i).1) ∧ W.cell? (a.add (i * 2 + 1)) = some (.int .i64 (f i).2) := ⟨fun i => Classical.choose (key i), fun i h => Classical.choose_spec (key i) h⟩
    obtain ⟨f, hf⟩ := hx
    have hlen : ((List.range len).map f).length = len := by simp
    have hn : ∀ i, i < len → nth (0, 0) ((List.range len).map f) i = f i := fun i h => by rw [nth_eq _ _ i (by rw [hlen]; exact h)]; simp
    refine ⟨some a, cap, (List.range len).map f, by rw [hlen]; exact hv, by rw [hlen]; exact hl, by simpa [maxLen] using hm, fun j hj => ?_⟩
    rw [hlen] at hj
    obtain ⟨q0, q1⟩ := hf j hj
    refine ⟨a, [.int .i64 (f j).1, .int .i64 (f j).2], rfl, trivial, by have := World.block_lt_of_cell? W _ q0; rwa [add_block] at this, by show _ = [Value.int .i64 (nth (0, 0) _ j).1, .int .i64 (nth (0, 0) _ j).2]; rw [hn j hj], fun i v hv => ?_⟩
    match i, hv with
    | 0, hv => injection hv with hv; rw [← hv]; exact q0
    | 1, hv => injection hv with hv; rw [← hv]; exact q1
set_option maxRecDepth 100000 in
/-- Widths, values and sections. -/
theorem open_C {r : Reach} {b0 : Nat} {v : Value} {d : DataW H} {p : List MemPlace} (hv : Value.okWide Tryz.prog W r b0 25 v) (h : DataW.Trod enc Tryz.prog W 0 (fun _ => true) true 25 v d p) :
    ∃ (A : Option Addr) (c : Nat) (a : List Int) (B : Option Addr) (c1 : Nat) (b : List Int) (D : Option Addr) (c2 : Nat) (s : List (Int × Int)), v = .agg #[.slice A a.length c, .slice B b.length c1, .slice D s.length c2] ∧ RI W A c a ∧ RI W B c1 b ∧ RS W D c2 s := by
  obtain ⟨v0, v1, v2, y0, y1, y2, n, rfl, rfl, rfl, h0, h1, h2⟩ := Joins.open_agg3 (P := Tryz.prog) Tryz.underlying25 (by kernel_rfl) (by kernel_rfl) hv h
  obtain ⟨A, c, a, rfl, h3, _⟩ := open_I h0
  obtain ⟨B, c1, b, rfl, h4, _⟩ := open_I h1
  obtain ⟨D, c2, s, rfl, h5⟩ := open_S h2
  exact ⟨A, c, a, B, c1, b, D, c2, s, rfl, h3, h4, h5⟩
end
end Go.Proofs.YtmcdgmiheklbeaaGreatDoor

namespace Go.Proofs.YtmcdgmiheklbeaaGreatDoor
open Go.ChangeShapes Go.WideShapes Go.ChangeAt Go.WideMaps Go.WideElems Go.RowKit Go.Deep

/-- What the rows list. -/
abbrev laidBk : List (String × DataW Unit) := [("shawm/book.forms", Rows.laid_shawm_book_forms), ("shawm/book.tables", Rows.laid_shawm_book_tables)]
theorem ownBk : ownKnob Tryz.prog.godebug = none := by kernel_rfl
theorem gForms : Tryz.prog.globalNamed "shawm/book.forms" = some 0 := by kernel_rfl
theorem tForms : (Tryz.prog.globals[0]?).map (·.type) = some 114 := by kernel_rfl
theorem gTabs : Tryz.prog.globalNamed "shawm/book.tables" = some 1 := by kernel_rfl
theorem tTabs : (Tryz.prog.globals[1]?).map (·.type) = some 148 := by kernel_rfl
theorem door_bk (os : Os) (args : Array Value) : laidMetH Tryz.prog laidBk ((World.doorLaid Tryz.prog 400 os).forCall (fun _ _ => 0) ⟨#[], args, []⟩).memory :=
  laidMetH_of_parts3 (fuel := 8) (laidMet_of_run' 8 (by kernel_rfl) (by kernel_rfl)) (by kernel_rfl) (by kernel_rfl)
theorem drop_cell {l : List Value} {a n j : Nat} {v : Value} (h : (((l.drop a).take n).drop j).take 1 = [v]) : l[a + j]? = some v := by
  have h1 := congrArg (fun x : List Value => x[0]?) h
  simp only [List.getElem?_take, List.getElem?_drop, List.getElem?_cons_zero, Nat.add_zero, Nat.zero_lt_one, if_true] at h1
  split at h1
  · exact h1
  · cases h1
theorem drop_cell1 {l : List Value} {a : Nat} {v : Value} (h : (l.drop a).take 1 = [v]) : l[a]? = some v := by
  have h1 := congrArg (fun x : List Value => x[0]?) h
  simpa only [List.getElem?_take, List.getElem?_drop, List.getElem?_cons_zero, Nat.add_zero, Nat.zero_lt_one, if_true] using h1
theorem agg_at {H : Type} {xs : List (DataW H × List MemPlace)} {ys : List (DataW H)} (h : xs.map (·.1) = ys) {i : Nat} {x : DataW H × List MemPlace} (hx : xs[i]? = some x) : ys[i]? = some x.1 := by
  rw [← h, List.getElem?_map, hx]; rfl
theorem form_read {H : Type} {enc : TypeId × Value → H} {w : World} {held : Nat → Bool} {m : Nat} {cs : List Value} {x : DataW H × List MemPlace} (h : DataW.trod enc Tryz.prog w 0 held false m 113 cs = some x) :
    ∃ n1 n2 b, (cs.drop 0).take 1 = [.int .i64 n1] ∧ (cs.drop 1).take 1 = [.int .i64 n2] ∧ (cs.drop 2).take 1 = [.bool b] ∧ x.1 = .agg [.lit (.int .i64 n1), .lit (.int .i64 n2), .lit (.bool b)] := by
  obtain ⟨zs, n, _, rfl, hl, hlen, hf⟩ := DataW.trod_struct Tryz.underlying113 h
  match zs, hlen with
  | [y0, y1, y2], _ =>
    have h0 : DataW.trod enc Tryz.prog w 0 held false n 3 ((cs.drop 0).take (Tryz.prog.cellsOf 3)) = some y0 := hf 0 _ rfl
    have h1 : DataW.trod enc Tryz.prog w 0 held false n 3 ((cs.drop 1).take (Tryz.prog.cellsOf 3)) = some y1 := hf 1 _ rfl
    have h2 : DataW.trod enc Tryz.prog w 0 held false n 4 ((cs.drop 2).take (Tryz.prog.cellsOf 4)) = some y2 := hf 2 _ rfl
    rw [show Tryz.prog.cellsOf 3 = 1 by kernel_rfl] at h0 h1
    rw [show Tryz.prog.cellsOf 4 = 1 by kernel_rfl] at h2
    obtain ⟨n1, e1, f1, _⟩ := DataW.trod_int (P := Tryz.prog) Tryz.underlying3 h0
    obtain ⟨n2, e2, f2, _⟩ := DataW.trod_int (P := Tryz.prog) Tryz.underlying3 h1
    obtain ⟨b, e3, f3⟩ := DataW.trod_bool (P := Tryz.prog) Tryz.underlying4 h2
    subst f1 f2 f3
    exact ⟨n1, n2, b, e1, e2, e3, rfl⟩
/-- The lines of the first table, as data. -/
def formsD : List (DataW Unit) := (List.range 8).map fun b => .agg [.lit (.int .i64 (dimB b)), .lit (.int .i64 (mostB b)), .lit (.bool (escB b))]
def tabsD : List (DataW Unit) := (List.range 8).map fun b => .lit (.string (txtK b).data.toList)
theorem forms_eq : (Rows.laid_shawm_book_forms : DataW Unit) = .agg formsD := by kernel_rfl
theorem tabs_eq : (Rows.laid_shawm_book_tables : DataW Unit) = .agg tabsD := by kernel_rfl
theorem formsD_at {b : Nat} (h : b < 8) : formsD[b]? = some (.agg [.lit (.int .i64 (dimB b)), .lit (.int .i64 (mostB b)), .lit (.bool (escB b))]) := by
  unfold formsD; rw [List.getElem?_map, List.getElem?_range h]; rfl
theorem tabsD_at {b : Nat} (h : b < 8) : tabsD[b]? = some (.lit (.string (txtK b).data.toList)) := by
  unfold tabsD; rw [List.getElem?_map, List.getElem?_range h]; rfl
theorem gf_of_laid {W : World} (h : laidMetH Tryz.prog laidBk W) : GF W ∧ GT W := by
  rw [MakeChecks.laidMetH_plain _ _ _ (by kernel_rfl)] at h
  obtain ⟨ps, ⟨g0, t0, cs0, f0, p0, q0, hg0, ht0, hv0, hd0, ⟨g1, t1, cs1, f1, p1, q1, hg1, ht1, hv1, hd1, _⟩, _⟩, _, _⟩ := h
  obtain rfl := Option.some.inj (gForms.symm.trans hg0)
  obtain rfl := Option.some.inj (tForms.symm.trans ht0)
  obtain rfl := Option.some.inj (gTabs.symm.trans hg1)
  obtain rfl := Option.some.inj (tTabs.symm.trans ht1)
  obtain ⟨xs, m1, rfl, hx1, _, hn3, hel⟩ := DataW.trod_array Tryz.underlying114 hd0
  obtain ⟨ys, m2, rfl, hy1, _, hn4, hem⟩ := DataW.trod_array Tryz.underlying148 hd1
  have ex : xs.map (·.1) = formsD := by
    have := congrArg Prod.fst hx1
    rw [forms_eq] at this
    exact (DataW.agg.inj this).symm
  have ey : ys.map (·.1) = tabsD := by
    have := congrArg Prod.fst hy1
    rw [tabs_eq] at this
    exact (DataW.agg.inj this).symm
  have cf : Tryz.prog.cellsOf 113 = 3 := by kernel_rfl
  have ct : Tryz.prog.cellsOf 9 = 1 := by kernel_rfl
  have kf : ∀ b, b < 8 → cs0[b * 3]? = some (.int .i64 (dimB b)) ∧ cs0[b * 3 + 1]? = some (.int .i64 (mostB b)) ∧ cs0[b * 3 + 2]? = some (.bool (escB b)) := fun b h8 => by
    have h1 := hel b h8
    have hb : b < xs.length := by omega
    rw [cf, List.getElem?_eq_getElem hb] at h1
    obtain ⟨n1, n2, q, e1, e2, e3, e4⟩ := form_read h1
    have h2 := agg_at ex (List.getElem?_eq_getElem hb)
    rw [formsD_at h8, e4] at h2
    injection h2 with h2
    injection h2 with h2
    injection h2 with a1 h2
    injection h2 with a2 h2
    injection h2 with a3 h2
    injection a1 with a1; injection a1 with _ a1
    injection a2 with a2; injection a2 with _ a2
    injection a3 with a3; injection a3 with a3
    rw [a1, a2, a3]
    simp only [← Array.getElem?_toList]
    exact ⟨drop_cell (a := b * 3) (n := 3) (j := 0) e1, drop_cell e2, drop_cell e3⟩
  have kt : ∀ b, b < 8 → cs1[b]? = some (.string (txtK b)) := fun b h8 => by
    have h1 := hem b h8
    have hb : b < ys.length := by omega
    rw [ct, Nat.mul_one, List.getElem?_eq_getElem hb] at h1
    obtain ⟨t, e1, e2, _⟩ := DataW.trod_string (P := Tryz.prog) Tryz.underlying9 h1
    have h2 := agg_at ey (List.getElem?_eq_getElem hb)
    rw [tabsD_at h8, e2] at h2
    replace h2 := Lit.string.inj (DataW.lit.inj (Option.some.inj h2))
    have h3 : txtK b = t := ByteArray.ext (Array.toList_inj.1 h2)
    rw [h3]
    simp only [← Array.getElem?_toList]
    exact drop_cell1 e1
  refine ⟨⟨fun b h8 => ?_, fun b h8 => ?_, fun b h8 => ?_⟩, ⟨fun b h8 => ?_⟩⟩
  · rw [World.var?_cell hg0 hv0]; exact (kf b h8).1
  · rw [World.var?_cell hg0 hv0]; exact (kf b h8).2.1
  · rw [World.var?_cell hg0 hv0]; exact (kf b h8).2.2
  · rw [World.var?_cell hg1 hv1]; exact kt b h8
end Go.Proofs.YtmcdgmiheklbeaaGreatDoor
