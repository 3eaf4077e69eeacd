/- The reference's books: Add: what it returns. · The reference's books: written, Cost, Write: what each call returns. · The reference's books: Least, Best: what each call returns. · The reference's tape: Get and Gamma, with an error or without: what each call returns. -/
import Derived.Test.YtciknejchglmoaaDoorKl
import Derived.StillTailTactics
namespace Go.Proofs.YtciknejchglmoaaDoor
open Go.RowKit

/-- 'xs[lo:hi]' of a part that is not empty, with its address. -/
theorem cut_mid2 (lo d n c : Nat) (ad : Addr) (hd : 1 ≤ d) (h2 : lo + d ≤ n) (hnc : n ≤ c) (W : World) :
    (Instr.slice 25 (.slice (some ad) n c) (some (.int .i64 (lo : Int))) (some (.int .i64 ((lo + d : Nat) : Int))) none).run Tryd.prog W = .ok (.slice (some (ad.add lo)) d (c - lo)) W := by
  obtain ⟨i, hi, hz⟩ := Option.map_eq_some_iff.1 infoI
  have hel : Tryd.prog.elem 25 = 3 := by simp [Program.elem, Tryd.underlying25]
  have hu : Tryd.prog.underlying 25 = some (.slice (Tryd.prog.elem 25)) := by rw [hel]; exact Tryd.underlying25
  have h1 : i.size = 1 := by simp at hz; exact hz.2.1
  rw [run_slice_lh W 25 (some ad) n c hu .i64 .i64 (lo : Int) ((lo + d : Nat) : Int) (Int.natCast_nonneg _) (by omega) (by omega), hel]
  have e1 : ¬ (c = lo) := by omega
  have e2 : lo + d - lo = d := by omega
  simp [sizeOf, typeInfo, hi, sliced, Result.andThen, h1]
  omega
theorem grp_slC {ok : Nat → Prop} {w : World} {ad : Addr} {c : Nat} {l : List Int} (h : Sl (kInt .i64) ok w (some ad) c l) (d j : Nat) (h2 : j * d + d ≤ l.length) : Sl (kInt .i64) ok w (some (ad.add (j * d))) (c - j * d) (grpK d l j) := by
  have h3 := grp_slK h d j h2
  have h4 := h.le
  have h5 := h.cap
  refine ⟨?_, by omega, h3.rd⟩
  rw [grpK_length d l j h2]; omega
/-- A row that is being written. -/
structure AdI (w : World) (base g3 : Nat) (bk : Array Value) (bits : List Bool) (u : Value) (W : World) : Prop where
  own : OwnI 5 .u8 base W u (bitsI bits)
  ne : u.ownBlock ≠ some g3
  blk : Blk W g3 bk 74
  low : Below base w W
theorem AdI.below {w W W' : World} {base g3 : Nat} {bk : Array Value} {bits : List Bool} {u : Value} (h : AdI w base g3 bk bits u W) (hb : Below W.heap.size W W') (hz : base ≤ w.heap.size) : AdI w base g3 bk bits u W' :=
  ⟨h.own.below hb, h.ne, h.blk.below hb, h.low.trans (hb.mono (Nat.le_trans hz h.low.size))⟩
theorem AdI.run {w W W' : World} {base g3 : Nat} {bk : Array Value} {bits more : List Bool} {u : Value} {f : Nat} {args : Array Value} (h : AdI w base g3 bk bits u W) (hb : Below W.heap.size W W') (hz : base ≤ w.heap.size)
    (hc : OwnI 5 .u8 base W' u (bitsI bits) → base ≤ W'.heap.size → Calls Tryd.prog f args W' fun e w' => ∃ u', e = .returned u' ∧ OwnI 5 .u8 base w' u' (bitsI (bits ++ more)) ∧ Upd (fun b => u.ownBlock = some b) W' w' ∧ (u'.ownBlock = u.ownBlock ∨ ∃ b, u'.ownBlock = some b ∧ W'.heap.size ≤ b)) :
    Calls Tryd.prog f args W' fun e w' => ∃ u', e = .returned u' ∧ AdI w base g3 bk (bits ++ more) u' w' := by
  have h2 := h.below hb hz
  have hz2 := Nat.le_trans hz h2.low.size
  refine (hc h2.own hz2).mono ?_
  rintro e w' ⟨u', rfl, hO, hu, ha⟩
  refine ⟨u', rfl, hO, ?_, h2.blk.keep (hu.keep (ok := fun x => u.ownBlock ≠ some x) fun x hx e => hx e) h.ne, h2.low.trans (hu.below hz2 fun x _ e => h2.own.base_le x e)⟩
  rcases ha with ha | ⟨x, ha, hx⟩
  · rw [ha]; exact h.ne
  · rw [ha]; intro e; have := Option.some.inj e; have := h2.blk.lt; omega
theorem AdI.put {w W W' : World} {base g3 : Nat} {bk : Array Value} {bits : List Bool} {u : Value} (h : AdI w base g3 bk bits u W) (hb : Below W.heap.size W W') (hz : base ≤ w.heap.size) (v n : Nat) (hl : bits.length + n ≤ 100000000) (h64 : n ≤ 64) (hv : v ≤ 4611686018427387904) :
    Calls Tryd.prog 95 #[u, .int .i64 (v : Int), .int .i64 (n : Int)] W' fun e w' => ∃ u', e = .returned u' ∧ AdI w base g3 bk (bits ++ numB v n) u' w' :=
  h.run hb hz fun hO hz2 => putrow_any base u bits v n W' hO hz2 hl h64 hv
theorem AdI.gamma {w W W' : World} {base g3 : Nat} {bk : Array Value} {bits : List Bool} {u : Value} (h : AdI w base g3 bk bits u W) (hb : Below W.heap.size W W') (hz : base ≤ w.heap.size) (v : Nat) (hl : bits.length ≤ 10000000) (h1 : 1 ≤ v) (hv : v < 2097152) :
    Calls Tryd.prog 96 #[u, .int .i64 (v : Int)] W' fun e w' => ∃ u', e = .returned u' ∧ AdI w base g3 bk (bits ++ gamB v) u' w' :=
  h.run hb hz fun hO hz2 => rgamma_any base u bits v W' hO hz2 hl h1 hv
theorem most_pos (b : Nat) (h1 : 1 ≤ b) (h8 : b < 8) : 1 ≤ mostB b := by
  have : b = 1 ∨ b = 2 ∨ b = 3 ∨ b = 4 ∨ b = 5 ∨ b = 6 ∨ b = 7 := by omega
  rcases this with rfl | rfl | rfl | rfl | rfl | rfl | rfl <;> decide

set_option maxHeartbeats 8000000 in
set_option maxRecDepth 100000 in
theorem radd_any (base : Nat) (u : Value) (bs : List Bool) (b : Nat) (A1 : Option Addr) (c1 : Nat) (A2 : Option Addr) (c2 : Nat) (A : Option Addr) (c : Nat) (l : List Int) (w : World) (hO : OwnI 5 .u8 base w u (bitsI bs)) (hb : base ≤ w.heap.size)
    (hS : Sl (kInt .i64) (fun x => x < base) w A c l) (h1 : Sl (kInt .i64) (fun x => x < base) w A1 c1 (tabKI b)) (h2 : Sl (kInt .i64) (fun x => x < base) w A2 c2 (codesL (tabKI b))) (h8 : b < 8) (hq : quantB l = true) (hf : l.length % dimB b = 0) (hlm : l.length ≤ 10000) (hbl : bs.length ≤ 8000000) :
    Calls Tryd.prog 74 #[.agg (bookM b A1 c1 A2 c2), u, .slice A l.length c] w fun e w' => ∃ u', e = .returned u' ∧ OwnI 5 .u8 base w' u' (bitsI (bs ++ rowK b l)) ∧ Below base w w' := by
  obtain ⟨n, hn⟩ : ∃ n, (tabKI b).length = n := ⟨_, rfl⟩
  have HNN := Lib.hid hn
  have hn' := hS.len
  obtain ⟨MM, hMM⟩ : ∃ MM, mostB b = MM := ⟨_, rfl⟩
  obtain ⟨EE, hEE⟩ : ∃ EE, escB b = EE := ⟨_, rfl⟩
  have HMM := Lib.hid hMM
  have HEE := Lib.hid hEE
  unfold bookM bookC
  rw [hn, hMM, hEE]
  have hba := below_alloc (Below.refl w.heap.size w) (.cells (#[.int .i64 (dimB b), .int .i64 (MM : Nat), .int .i64 (fallB b), .bool EE, .slice A1 n c1, .slice A2 n c2]) 74)
  obtain ⟨g3, hg3⟩ : ∃ g3, w.heap.size = g3 := ⟨_, rfl⟩
  have hI0 : AdI w base g3 (#[.int .i64 (dimB b), .int .i64 (MM : Nat), .int .i64 (fallB b), .bool EE, .slice A1 n c1, .slice A2 n c2]) bs u (w.alloc (.cells (#[.int .i64 (dimB b), .int .i64 (MM : Nat), .int .i64 (fallB b), .bool EE, .slice A1 n c1, .slice A2 n c2]) 74)) :=
    ⟨hO.below hba, fun e => by have := (hO.lt g3 e).2; omega, by rw [← hg3]; exact heap_alloc_new w _, hba.mono hb⟩
  obtain ⟨q, hqd⟩ : ∃ q, l.length / dimB b = q := ⟨_, rfl⟩
  have hlq : l.length = q * dimB b := by rw [← hqd]; have := Nat.div_add_mod l.length (dimB b); rw [hf, Nat.mul_comm] at this; omega
  have HRK := Lib.hid (show rowK b l = lstB b l q by unfold rowK; rw [hqd])
  have HLS := Lib.hid (lstB_succ b l)
  have HLL := Lib.hid (lstB_len b l h8 hq)
  have HLQ := Lib.hid hlq
  have HQ := Lib.hid hq
  have H8 := Lib.hid h8
  have HS := Lib.hid hS
  have HT := Lib.hid (And.intro h1 h2)
  have hd := dimB_pos b
  have hm : MM ≤ 31 := by rw [← hMM]; exact mostB_le b
  have HZ := Lib.hid hb
  have HBS := Lib.hid hbl
  have hqn : q ≤ 10000 := by rw [← hqd]; have := Nat.div_le_self l.length (dimB b); omega
  have H0 := Lib.hid hI0
  have HG3 := Lib.hid hg3
  clear hMM hEE hO h1 h2 h8 hq hf hqd hlq hI0 hba hS hb hbl
  go_enter Tryd.func74, Tryd.ntmps74
  go_wp2

  clear hg3
  go_loopw [1, 7, 8, 9, 11] (fun rv iv gv sv xv wr => ∃ j : Nat, j ≤ q ∧ iv = .int .i64 ((j * dimB b : Nat) : Int) ∧ Hid (AdI w base g3 (#[.int .i64 (dimB b), .int .i64 (MM : Nat), .int .i64 (fallB b), .bool EE, .slice A1 n c1, .slice A2 n c2]) (bs ++ lstB b l j) rv wr)) (fun _ iv _ _ _ _ => l.length + 4 - (intOf iv).toNat)
  case atStart => exact ⟨0, Nat.zero_le _, by simp, Lib.hid (by simpa [lstB] using H0.out)⟩
  case round =>
    clear H0
    obtain ⟨j, hj, rfl, hI⟩ := hrel
    have k0 := hI.out.blk.cell 0 rfl
    have k1 := hI.out.blk.cell 1 rfl
    have k2 := hI.out.blk.cell 2 rfl
    have k3 := hI.out.blk.cell 3 rfl
    have k4 := hI.out.blk.cell 4 rfl
    have k5 := hI.out.blk.cell 5 rfl
    have HM : Hid ((j + 1) * dimB b = j * dimB b + dimB b) := Lib.hid (by rw [Nat.add_mul, Nat.one_mul])
    by_cases hlt : j < q
    · have hle : j * dimB b + dimB b ≤ l.length := by rw [HLQ.out, ← HM.out]; exact Nat.mul_le_mul_right _ hlt
      obtain ⟨ad, rfl, _⟩ := rd_int HS.out (j * dimB b) (by omega)
      have HG := Lib.hid (grp_slC HS.out (dimB b) j hle)
      have HJ := Lib.hid (show bs ++ lstB b l (j + 1) = (bs ++ lstB b l j ++ wrdB b (grpK (dimB b) l j)) ++ (grpK (dimB b) l j).flatMap (besB b) by rw [HLS.out]; unfold grpB; simp only [List.append_assoc])
      have HGL := Lib.hid (grpK_length (dimB b) l j hle)
      have HQG := Lib.hid (grpK_quant HQ.out (dimB b) j)
      have HTOT := Lib.hid (show (bs ++ lstB b l j).length ≤ 9500000 by rw [List.length_append]; have := HLL.out j; have := HBS.out; omega)
      have HCAP := Lib.hid HS.out.cap
      generalize grpK (dimB b) l j = G at HG HJ HGL HQG
      obtain ⟨P0, hP0⟩ : ∃ P0, bs ++ lstB b l j = P0 := ⟨_, rfl⟩
      rw [hP0] at hI HJ HTOT
      obtain ⟨p, hp⟩ : ∃ p, j * dimB b = p := ⟨_, rfl⟩
      rw [hp] at hle HM HG ⊢
      have hle2 := HS.out.le
      have hcut := fun W => cut_mid2 p (dimB b) l.length c ad hd.1 hle hle2 W
      have hwp : IntKind.i64.wrap ((p : Int) + (dimB b : Int)) = ((p + dimB b : Nat) : Int) := by rw [Int.natCast_add]; exact IntWalk.i64_in _ (by omega)
      obtain ⟨s2, hs2⟩ : ∃ s2, p + dimB b = s2 := ⟨_, rfl⟩
      have hpl : (p : Int) < (l.length : Int) := by omega
      rw [hs2] at hcut hwp hle HM
      have HS2 := Lib.hid hs2
      have HLE := Lib.hid hle
      clear hP0 hp hs2 hle hle2
      go_upto_if 29 with fail
      go_cut [1, 9] from 29 to 44 (fun s1 s9 wx => Hid (AdI w base g3 (#[.int .i64 (dimB b), .int .i64 (MM : Nat), .int .i64 (fallB b), .bool EE, .slice A1 n c1, .slice A2 n c2]) (P0 ++ wrdB b G) s1 wx))
      case first =>
        by_cases hb0 : b = 0
        · have hnb : ¬ 0 < MM := by rw [← HMM.out, hb0]; decide
          have hd0 : decide (0 < MM) = false := decide_eq_false hnb
          have HWR := Lib.hid (show P0 ++ wrdB b G = P0 by unfold wrdB; rw [if_pos hb0]; simp)
          clear hb0
          go_wp2_with fail
          go_meet
          rw [HWR.out]
          exact hI
        · have hpb : 0 < MM := by rw [← HMM.out]; exact most_pos b (by omega) H8.out
          have hd0 : decide (0 < MM) = true := decide_eq_true hpb
          have hG4 : G.length ≤ 4 := by have := HGL.out; omega
          have hsy := sym_in b G HGL.out
          have htl := tabKI_length b (by omega) H8.out
          have HWR := Lib.hid (show wrdB b G = numB (codeN (tabKI b) (symG b G)) (lenOf (tabKI b) (symG b G)) by unfold wrdB; rw [if_neg hb0])
          have hlo := tabK_lenOf b (by omega) H8.out hsy
          have HSY := Lib.hid (rsymbol_any (some (ad.add p)) A1 A2 (c - p) n c1 n c2 b G wr (HG.out.keep (Keep.of_below hI.out.low)).any (fun v hv => HQG.out v hv) hG4)
          unfold bookC at HSY
          rw [HGL.out, HMM.out, HEE.out] at HSY
          have hkp := Keep.of_below hI.out.low
          obtain ⟨ad1, e1, hc1⟩ := rd_int (HT.out.1.keep hkp) (symG b G) (by rw [htl]; exact hsy)
          obtain ⟨ad2, e2, hc2⟩ := rd_int (HT.out.2.keep hkp) (symG b G) (by rw [codesL_length, htl]; exact hsy)
          rw [codesL_nth _ _ (by rw [htl]; exact hsy)] at hc2
          rw [tabKI_nth b _ (by rw [tabK_length b (by omega) H8.out]; exact hsy), ← hlo] at hc1
          have hn16 := tabK_len16 b (by omega) H8.out (symG b G)
          have hcl := tabK_code_lt b (by omega) H8.out hsy
          have hC16 : (2 : Nat) ^ lenOf (tabKI b) (symG b G) ≤ 2 ^ 16 := Nat.pow_le_pow_right (by decide) hn16
          have h16 : (2 : Nat) ^ 16 = 65536 := by decide
          have hsn : (symG b G : Int) < (n : Int) := by have := HNN.out; omega
          have hsnn : symG b G < n := by have := HNN.out; omega
          generalize symG b G = s at *
          obtain ⟨C, hC⟩ : ∃ C, codeN (tabKI b) s = C := ⟨_, rfl⟩
          obtain ⟨N, hN⟩ : ∃ N, lenOf (tabKI b) s = N := ⟨_, rfl⟩
          rw [hC, hN] at hcl HWR
          rw [hC] at hc2
          rw [hN] at hc1 hn16 hC16
          have HPT := Lib.hid (fun W' (hb : Below wr.heap.size wr W') => hI.out.put hb HZ.out C N (by have := HTOT.out; omega) (by omega) (by omega))
          cases e1
          cases e2
          clear hb0 hsy htl hlo hkp hC hN hcl hn16 hC16 h16
          go_upto_region 7 with (go_at_call 94; refine HSY.out.mono ?_; rintro e w9 ⟨rfl, b9⟩)
          have q0 := cell_below b9 k0
          have q4 := cell_below b9 k4
          have q5 := cell_below b9 k5
          have qc1 := cell_below b9 hc1
          have qc2 := cell_below b9 hc2
          have hb10 := b9.trans ((Below.refl w9.heap.size w9).drew.mono b9.size)
          clear k0 k1 k2 k3 k4 k5 hc1 hc2 HSY
          go_still_tail 11, (by kernel_rfl)
          change wpList _ _ _ _ _ (World.drew _)
          go_wp2_with (go_at_call 95; refine (HPT.out _ hb10).mono ?_; rintro e w10 ⟨u10, rfl, hI10⟩)
          go_meet
          rw [HWR.out]
          exact Lib.hid hI10
      case rest =>
        obtain ⟨P1, hP1⟩ : ∃ P1, P0 ++ wrdB b G = P1 := ⟨_, rfl⟩
        have HT1 := Lib.hid (show P1.length ≤ 9500016 by rw [← hP1, List.length_append]; have := HTOT.out; have := wrdB_len b G H8.out; omega)
        rw [hP1] at hcut HJ
        have HSUC := Lib.hid (show ∀ k, k < G.length → P1 ++ (G.take (k + 1)).flatMap (besB b) = P1 ++ (G.take k).flatMap (besB b) ++ besB b (nth 0 G k) from fun k h => by rw [take_succ_nth 0 G k h, List.flatMap_append, List.append_assoc]; simp)
        have HTK := Lib.hid (show ∀ k, (P1 ++ (G.take k).flatMap (besB b)).length ≤ 9600000 from fun k => by
          have h1 := bes_len b (G.take k) (fun v hv => HQG.out v (List.mem_of_mem_take hv))
          have h2 : (G.take k).length ≤ G.length := by rw [List.length_take]; omega
          have h3 := HGL.out
          have h5 := HT1.out
          rw [List.length_append]
          omega)
        have HTL := Lib.hid (show ∀ k, k < G.length → -1023 ≤ nth 0 G k ∧ nth 0 G k ≤ 1023 from fun k h => HQG.out _ (nth_mem 0 G k h))
        have HFULL := Lib.hid (show G.take (dimB b) = G from List.take_of_length_le (by have := HGL.out; omega))
        clear hP1 k0 k1 k2 k3 k4 k5
        go_wp2
        go_loopw [1, 11, 47] (fun rv xv iv W2 => ∃ k : Nat, k ≤ dimB b ∧ iv = .int .i64 (k : Int) ∧ Hid (AdI w base g3 (#[.int .i64 (dimB b), .int .i64 (MM : Nat), .int .i64 (fallB b), .bool EE, .slice A1 n c1, .slice A2 n c2]) (P1 ++ (G.take k).flatMap (besB b)) rv W2)) (fun _ _ iv _ => dimB b - (intOf iv).toNat)
        case atStart => exact ⟨0, Nat.zero_le _, rfl, Lib.hid (by simpa using hcut.out)⟩
        case round =>
          clear hcut
          obtain ⟨k, hk, rfl, hC⟩ := hrel
          have k0 := hC.out.blk.cell 0 rfl
          have k1 := hC.out.blk.cell 1 rfl
          have k3 := hC.out.blk.cell 3 rfl
          by_cases hlk : k < dimB b
          · obtain ⟨ad3, e3, hc⟩ := rd_int (HG.out.keep (Keep.of_below hC.out.low)) k (by have := HGL.out; omega)
            cases e3
            have hki : (k : Int) < (dimB b : Int) := by omega
            have hwk : IntKind.i64.wrap ((k : Int) + 1) = (k : Int) + 1 := IntWalk.i64_in _ (by omega)
            have HSU := Lib.hid (HSUC.out k (by have := HGL.out; omega))
            have HBD := Lib.hid (HTK.out k)
            have HQX := Lib.hid (HTL.out k (by have := HGL.out; omega))
            generalize nth 0 G k = x at hc HSU HQX
            have HBS0 := Lib.hid (show besB b x = if x = 0 then [] else decide (x < 0) :: if escpB b x then gamB (x.natAbs - MM + 1) else [] from by rw [← HMM.out]; rfl)
            have HEP := Lib.hid (show escpB b x = (EE && decide (MM ≤ x.natAbs)) from by rw [← HMM.out, ← HEE.out]; rfl)
            by_cases hx0 : x = 0
            · have HBX := Lib.hid (show besB b x = [] by rw [HBS0.out, if_pos hx0])
              subst hx0
              go_upto_region 15 with fail
              have hdd := (Below.refl wr.heap.size wr).drew
              clear k0 k1 k3
              refine wp_region_G 12 (fun _ => True) (by kernel_rfl) trivial (fun hHeld => ?_)
              refine wpAnyG_takeL (i := 0) (.int .i64 0) [1, 2, 4, 9, 12] rfl (by kernel_rfl) (fun _ _ _ h => h) hHeld (by rfl) ?_ ?_
              · (intro W' hSw; (try dsimp only at hSw); go_simp)
              try simp only [Act.put, List.setIfInBounds_toArray, List.set_cons_zero, List.set_cons_succ]
              refine wpAnyG_takeL (i := 1) (.bool false) [2, 4, 9, 12] rfl (by kernel_rfl) (fun _ _ _ h => h) hHeld (by rfl) ?_ ?_
              · (intro W' hSw; (try dsimp only at hSw); go_simp)
              try simp only [Act.put, List.setIfInBounds_toArray, List.set_cons_zero, List.set_cons_succ]
              refine wpAnyG_takeL (i := 2) (.bool false) [4, 9, 12] rfl (by kernel_rfl) (fun _ _ _ h => h) hHeld (by rfl) ?_ ?_
              · (intro W' hSw; (try dsimp only at hSw); go_simp)
              try simp only [Act.put, List.setIfInBounds_toArray, List.set_cons_zero, List.set_cons_succ]
              refine wpAnyG_dropL (i := 3) [4, 9, 12] rfl (by kernel_rfl) (fun _ _ _ h => h) hHeld (by rfl) ?_
              try simp only [Act.put, List.setIfInBounds_toArray, List.set_cons_zero, List.set_cons_succ]
              refine wpAnyG_dropL (i := 5) [6, 7, 8, 9, 12] rfl (by kernel_rfl) (fun _ _ _ h => h) hHeld (by rfl) ?_
              try simp only [Act.put, List.setIfInBounds_toArray, List.set_cons_zero, List.set_cons_succ]
              refine wpAnyG_dropL (i := 6) [7, 8, 9, 12] rfl (by kernel_rfl) (fun _ _ _ h => h) hHeld (by rfl) ?_
              try simp only [Act.put, List.setIfInBounds_toArray, List.set_cons_zero, List.set_cons_succ]
              clear hHeld
              refine wpAnyG_oneL (i := 4) (by kernel_rfl) rfl (fun K hK => ?_)
              refine hK.out _ _ (fun _ => trivial) ?_
              clear hK K
              try simp only [Act.put, List.setIfInBounds_toArray, List.set_cons_zero, List.set_cons_succ]
              refine wpAnyG_oneL (i := 7) (by kernel_rfl) rfl (fun K hK => ?_)
              refine hK.out _ _ (fun _ => trivial) ?_
              clear hK K
              try simp only [Act.put, List.setIfInBounds_toArray, List.set_cons_zero, List.set_cons_succ]
              refine wpAnyG_oneL (i := 8) (by kernel_rfl) rfl (fun K hK => ?_)
              go_simp
              refine hK.out _ _ (fun _ => trivial) ?_
              clear hK K
              try simp only [Act.put, List.setIfInBounds_toArray, List.set_cons_zero, List.set_cons_succ]
              refine wpAnyG_oneL (i := 9) (by kernel_rfl) rfl (fun K hK => ?_)
              go_simp
              refine hK.out _ _ (fun _ => trivial) ?_
              clear hK K
              try simp only [Act.put, List.setIfInBounds_toArray, List.set_cons_zero, List.set_cons_succ]
              refine wpAnyG_oneL (i := 10) (by kernel_rfl) rfl (fun K hK => ?_)
              refine hK.out _ _ (fun _ => trivial) ?_
              clear hK K
              try simp only [Act.put, List.setIfInBounds_toArray, List.set_cons_zero, List.set_cons_succ]
              refine wpAnyG_oneL (i := 11) (by kernel_rfl) rfl (fun K hK => ?_)
              refine hK.out _ _ (fun _ => trivial) ?_
              clear hK K
              try simp only [Act.put, List.setIfInBounds_toArray, List.set_cons_zero, List.set_cons_succ]
              refine wpAnyG_oneL (i := 12) (by kernel_rfl) rfl (fun K hK => ?_)
              go_simp
              refine hK.out _ _ (fun h => Bool.noConfusion (show true = false from h)) ?_
              clear hK K
              refine wpAnyG_done (by kernel_rfl) ?_ _
              go_wp2
              go_roundw
              case rel => exact ⟨k + 1, by omega, by go_num, Lib.hid (by rw [HSU.out, HBX.out, List.append_nil]; exact hC.out.below hdd HZ.out)⟩
              case measure => simp [intOf]; omega
            · have HBS := Lib.hid (HBS0.out.trans (if_neg hx0))
              have hd0 : (x == 0) = false := by simp [hx0]
              have hdn0 : (x != 0) = true := by simp [hx0]
              clear HBS0
              by_cases hneg : x < 0
              · have HD0 := Lib.hid (show decide (x < 0) = true from decide_eq_true hneg)
                have hdx : decide (x < 0) = true := decide_eq_true hneg
                have hdy : decide (0 < x) = false := decide_eq_false (by omega)
                clear hneg hx0
                have HNB := Lib.hid (show numB 1 1 = [decide (x < 0)] by rw [HD0.out]; rfl)
                have HPT := Lib.hid (fun W' (hb : Below wr.heap.size wr W') => hC.out.put hb HZ.out 1 1 (by have := HBD.out; omega) (by decide) (by decide))
                rw [show ((1 : Nat) : Int) = 1 from rfl] at HPT
                go_upto_region 15 with (go_at_call 95; refine (HPT.out _ (Below.refl _ _)).mono ?_; rintro e w3 ⟨u3, rfl, hI3⟩)
                have HI3 := Lib.hid hI3
                have HZX := Lib.hid (fun W => rabs_any x W (by have := HQX.out; omega))
                have hdd := (Below.refl w3.heap.size w3).drew
                
                
                have HF3 := Lib.hid (show ∀ W', Below w3.heap.size w3 W' → (W'.cell? ⟨g3, 1, none⟩ = some (.int .i64 (MM : Nat)) ∧ W'.cell? ⟨g3, 3, none⟩ = some (.bool EE)) from fun W' hb => ⟨(HI3.out.blk.below hb).cell 1 rfl, (HI3.out.blk.below hb).cell 3 rfl⟩)
                have hzb : x.natAbs ≤ 1023 := by have := HQX.out; omega
                clear hI3 HPT k0 k1 k3 hc
                generalize hz : x.natAbs = z at HZX HEP HBS hzb
                by_cases hge : MM ≤ z
                · have hdz : decide ((MM : Int) ≤ (z : Int)) = true := decide_eq_true (by omega)
                  have hdn : decide (MM ≤ z) = true := decide_eq_true hge
                  refine wp_region_G 12 (fun W' => W'.cell? ⟨g3, 1, none⟩ = some (.int .i64 (MM : Nat)) ∧ W'.cell? ⟨g3, 3, none⟩ = some (.bool EE)) (by kernel_rfl) (HF3.out _ hdd) (fun hHeld => ?_)
                  refine wpAnyG_takeL (i := 0) (.int .i64 x) [1, 2, 4, 9, 12] rfl (by kernel_rfl) (fun _ _ _ h => h) hHeld (by rfl) ?_ ?_
                  · (intro W' hSw; (try dsimp only at hSw); go_simp)
                  try simp only [Act.put, List.setIfInBounds_toArray, List.set_cons_zero, List.set_cons_succ]
                  refine wpAnyG_takeL (i := 1) (.bool true) [2, 4, 9, 12] rfl (by kernel_rfl) (fun _ _ _ h => h) hHeld (by rfl) ?_ ?_
                  · (intro W' hSw; (try dsimp only at hSw); go_simp)
                  try simp only [Act.put, List.setIfInBounds_toArray, List.set_cons_zero, List.set_cons_succ]
                  refine wpAnyG_takeL (i := 2) (.bool true) [4, 9, 12] rfl (by kernel_rfl) (fun _ _ _ h => h) hHeld (by rfl) ?_ ?_
                  · (intro W' hSw; (try dsimp only at hSw); go_simp)
                  try simp only [Act.put, List.setIfInBounds_toArray, List.set_cons_zero, List.set_cons_succ]
                  refine wpAnyG_takeL (i := 3) (.int .i64 x) [4, 9, 12] rfl (by kernel_rfl) (fun _ _ _ h => h) hHeld (by rfl) ?_ ?_
                  · (intro W' hSw; (try dsimp only at hSw); go_simp)
                  try simp only [Act.put, List.setIfInBounds_toArray, List.set_cons_zero, List.set_cons_succ]
                  refine wpAnyG_takeL (i := 5) (.pointer (some ⟨g3, 1, none⟩)) [6, 7, 8, 9, 12] rfl (by kernel_rfl) (fun _ _ _ h => h) hHeld (by rfl) ?_ ?_
                  · (intro W' hSw; (try dsimp only at hSw); go_simp)
                  try simp only [Act.put, List.setIfInBounds_toArray, List.set_cons_zero, List.set_cons_succ]
                  refine wpAnyG_takeL (i := 6) (.int .i64 (MM : Nat)) [7, 8, 9, 12] rfl (by kernel_rfl) (fun _ _ _ h => h) hHeld (by rfl) ?_ ?_
                  · (intro W' hSw; (try dsimp only at hSw); go_simp)
                  try simp only [Act.put, List.setIfInBounds_toArray, List.set_cons_zero, List.set_cons_succ]
                  clear hHeld
                  refine wpAnyG_oneL (i := 4) (by kernel_rfl) rfl (fun K hK => ?_)
                  (go_simp; go_at_call 72; refine (HZX.out _).mono ?_; rintro e w9 ⟨rfl, rfl⟩)
                  refine hK.out _ _ (fun _ => (HF3.out _ hdd)) ?_
                  clear hK K
                  try simp only [Act.put, List.setIfInBounds_toArray, List.set_cons_zero, List.set_cons_succ]
                  have hHeld := HF3.out _ hdd
                  refine wpAnyG_takeL (i := 7) (.bool true) [8, 9, 12] rfl (by kernel_rfl) (fun _ _ _ h => h) hHeld (by rfl) ?_ ?_
                  · (intro W' hSw; (try dsimp only at hSw); go_simp)
                  try simp only [Act.put, List.setIfInBounds_toArray, List.set_cons_zero, List.set_cons_succ]
                  refine wpAnyG_takeL (i := 8) (.bool true) [9, 12] rfl (by kernel_rfl) (fun _ _ _ h => h) hHeld (by rfl) ?_ ?_
                  · (intro W' hSw; (try dsimp only at hSw); go_simp)
                  try simp only [Act.put, List.setIfInBounds_toArray, List.set_cons_zero, List.set_cons_succ]
                  refine wpAnyG_takeL (i := 9) (.bool true) [12] rfl (by kernel_rfl) (fun _ _ _ h => h) hHeld (by rfl) ?_ ?_
                  · (intro W' hSw; (try dsimp only at hSw); go_simp)
                  try simp only [Act.put, List.setIfInBounds_toArray, List.set_cons_zero, List.set_cons_succ]
                  refine wpAnyG_takeL (i := 10) (.pointer (some ⟨g3, 3, none⟩)) [11, 12] rfl (by kernel_rfl) (fun _ _ _ h => h) hHeld (by rfl) ?_ ?_
                  · (intro W' hSw; (try dsimp only at hSw); go_simp)
                  try simp only [Act.put, List.setIfInBounds_toArray, List.set_cons_zero, List.set_cons_succ]
                  refine wpAnyG_takeL (i := 11) (.bool EE) [12] rfl (by kernel_rfl) (fun _ _ _ h => h) hHeld (by rfl) ?_ ?_
                  · (intro W' hSw; (try dsimp only at hSw); go_simp)
                  try simp only [Act.put, List.setIfInBounds_toArray, List.set_cons_zero, List.set_cons_succ]
                  clear hHeld
                  refine wpAnyG_oneL (i := 12) (by kernel_rfl) rfl (fun K hK => ?_)
                  go_simp
                  refine hK.out _ _ (fun h => Bool.noConfusion (show true = false from h)) ?_
                  clear hK K
                  refine wpAnyG_done (by kernel_rfl) ?_ _
                  cases EE
                  · have HBX := Lib.hid (show besB b x = [decide (x < 0)] by rw [HBS.out, HEP.out]; rfl)
                    go_wp2
                    go_roundw
                    case rel => exact ⟨k + 1, by omega, by go_num, Lib.hid (by rw [HSU.out, HBX.out, ← HNB.out]; exact HI3.out.below hdd HZ.out)⟩
                    case measure => simp [intOf]; omega
                  · have HBX := Lib.hid (show besB b x = [decide (x < 0)] ++ gamB (z - MM + 1) by rw [HBS.out, HEP.out, hdn]; rfl)
                    have HPG := Lib.hid (fun W' (hb : Below w3.heap.size w3 W') => HI3.out.gamma hb HZ.out (z - MM + 1) (by rw [HNB.out, List.length_append]; have := HBD.out; show _ + 1 ≤ 10000000; omega) (by omega) (by omega))
                    have hwa : IntKind.i64.wrap ((z : Int) - (MM : Int)) = ((z - MM : Nat) : Int) := by rw [Int.ofNat_sub hge]; exact IntWalk.i64_in _ (by omega)
                    obtain ⟨qq, hqq⟩ : ∃ qq, z - MM = qq := ⟨_, rfl⟩
                    have HQQ := Lib.hid hqq
                    rw [hqq] at HPG hwa
                    have hwb : IntKind.i64.wrap ((qq : Int) + 1) = ((qq + 1 : Nat) : Int) := by rw [Int.natCast_succ]; exact IntWalk.i64_in _ (by omega)
                    have hd2 := hdd.trans (((Below.refl w3.drew.heap.size w3.drew).drew).mono (show w3.heap.size ≤ w3.drew.heap.size from Nat.le_refl _))
                    clear hge hqq
                    go_wp2
                    refine wp_region_G 8 (fun W' => W'.cell? ⟨g3, 1, none⟩ = some (.int .i64 (MM : Nat)) ∧ W'.cell? ⟨g3, 3, none⟩ = some (.bool true)) (by kernel_rfl) (HF3.out _ hd2) (fun hHeld => ?_)
                    refine wpAnyG_takeL (i := 0) (u3) [8] rfl (by kernel_rfl) (fun _ _ _ h => h) hHeld (by rfl) ?_ ?_
                    · (intro W' hSw; (try dsimp only at hSw); go_simp)
                    try simp only [Act.put, List.setIfInBounds_toArray, List.set_cons_zero, List.set_cons_succ]
                    refine wpAnyG_takeL (i := 1) (.int .i64 x) [8] rfl (by kernel_rfl) (fun _ _ _ h => h) hHeld (by rfl) ?_ ?_
                    · (intro W' hSw; (try dsimp only at hSw); go_simp)
                    try simp only [Act.put, List.setIfInBounds_toArray, List.set_cons_zero, List.set_cons_succ]
                    refine wpAnyG_takeL (i := 3) (.pointer (some ⟨g3, 1, none⟩)) [8] rfl (by kernel_rfl) (fun _ _ _ h => h) hHeld (by rfl) ?_ ?_
                    · (intro W' hSw; (try dsimp only at hSw); go_simp)
                    try simp only [Act.put, List.setIfInBounds_toArray, List.set_cons_zero, List.set_cons_succ]
                    refine wpAnyG_takeL (i := 4) (.int .i64 (MM : Nat)) [8] rfl (by kernel_rfl) (fun _ _ _ h => h) hHeld (by rfl) ?_ ?_
                    · (intro W' hSw; (try dsimp only at hSw); go_simp)
                    try simp only [Act.put, List.setIfInBounds_toArray, List.set_cons_zero, List.set_cons_succ]
                    clear hHeld
                    refine wpAnyG_oneL (i := 2) (by kernel_rfl) rfl (fun K hK => ?_)
                    (go_simp; go_at_call 72; refine (HZX.out _).mono ?_; rintro e w9 ⟨rfl, rfl⟩)
                    refine hK.out _ _ (fun _ => (HF3.out _ hd2)) ?_
                    clear hK K
                    try simp only [Act.put, List.setIfInBounds_toArray, List.set_cons_zero, List.set_cons_succ]
                    refine wpAnyG_oneL (i := 5) (by kernel_rfl) rfl (fun K hK => ?_)
                    go_simp
                    refine hK.out _ _ (fun _ => (HF3.out _ hd2)) ?_
                    clear hK K
                    try simp only [Act.put, List.setIfInBounds_toArray, List.set_cons_zero, List.set_cons_succ]
                    refine wpAnyG_oneL (i := 6) (by kernel_rfl) rfl (fun K hK => ?_)
                    go_simp
                    refine hK.out _ _ (fun _ => (HF3.out _ hd2)) ?_
                    clear hK K
                    try simp only [Act.put, List.setIfInBounds_toArray, List.set_cons_zero, List.set_cons_succ]
                    refine wpAnyG_oneL (i := 7) (by kernel_rfl) rfl (fun K hK => ?_)
                    (go_simp; go_at_call 96; refine (HPG.out _ hd2).mono ?_; rintro e w9 ⟨u9, rfl, hI9⟩)
                    refine hK.out _ _ (fun _ => (show w9.cell? ⟨g3, 1, none⟩ = some (.int .i64 (MM : Nat)) ∧ w9.cell? ⟨g3, 3, none⟩ = some (.bool true) from ⟨hI9.blk.cell 1 rfl, hI9.blk.cell 3 rfl⟩)) ?_
                    clear hK K
                    try simp only [Act.put, List.setIfInBounds_toArray, List.set_cons_zero, List.set_cons_succ]
                    refine wpAnyG_oneL (i := 8) (by kernel_rfl) rfl (fun K hK => ?_)
                    go_simp
                    refine hK.out _ _ (fun h => Bool.noConfusion (show true = false from h)) ?_
                    clear hK K
                    refine wpAnyG_done (by kernel_rfl) ?_ _
                    go_wp2
                    go_roundw
                    case rel => exact ⟨k + 1, by omega, by go_num, Lib.hid (by rw [HSU.out, HBX.out, HQQ.out, ← HNB.out, ← List.append_assoc]; exact hI9)⟩
                    case measure => simp [intOf]; omega
                · have hdz : decide ((MM : Int) ≤ (z : Int)) = false := decide_eq_false (by omega)
                  have hdn : decide (MM ≤ z) = false := decide_eq_false hge
                  have HBX := Lib.hid (show besB b x = [decide (x < 0)] by rw [HBS.out, HEP.out, hdn, Bool.and_false]; rfl)
                  clear hge
                  refine wp_region_G 12 (fun W' => W'.cell? ⟨g3, 1, none⟩ = some (.int .i64 (MM : Nat)) ∧ W'.cell? ⟨g3, 3, none⟩ = some (.bool EE)) (by kernel_rfl) (HF3.out _ hdd) (fun hHeld => ?_)
                  refine wpAnyG_takeL (i := 0) (.int .i64 x) [1, 2, 4, 9, 12] rfl (by kernel_rfl) (fun _ _ _ h => h) hHeld (by rfl) ?_ ?_
                  · (intro W' hSw; (try dsimp only at hSw); go_simp)
                  try simp only [Act.put, List.setIfInBounds_toArray, List.set_cons_zero, List.set_cons_succ]
                  refine wpAnyG_takeL (i := 1) (.bool true) [2, 4, 9, 12] rfl (by kernel_rfl) (fun _ _ _ h => h) hHeld (by rfl) ?_ ?_
                  · (intro W' hSw; (try dsimp only at hSw); go_simp)
                  try simp only [Act.put, List.setIfInBounds_toArray, List.set_cons_zero, List.set_cons_succ]
                  refine wpAnyG_takeL (i := 2) (.bool true) [4, 9, 12] rfl (by kernel_rfl) (fun _ _ _ h => h) hHeld (by rfl) ?_ ?_
                  · (intro W' hSw; (try dsimp only at hSw); go_simp)
                  try simp only [Act.put, List.setIfInBounds_toArray, List.set_cons_zero, List.set_cons_succ]
                  refine wpAnyG_takeL (i := 3) (.int .i64 x) [4, 9, 12] rfl (by kernel_rfl) (fun _ _ _ h => h) hHeld (by rfl) ?_ ?_
                  · (intro W' hSw; (try dsimp only at hSw); go_simp)
                  try simp only [Act.put, List.setIfInBounds_toArray, List.set_cons_zero, List.set_cons_succ]
                  refine wpAnyG_takeL (i := 5) (.pointer (some ⟨g3, 1, none⟩)) [6, 7, 8, 9, 12] rfl (by kernel_rfl) (fun _ _ _ h => h) hHeld (by rfl) ?_ ?_
                  · (intro W' hSw; (try dsimp only at hSw); go_simp)
                  try simp only [Act.put, List.setIfInBounds_toArray, List.set_cons_zero, List.set_cons_succ]
                  refine wpAnyG_takeL (i := 6) (.int .i64 (MM : Nat)) [7, 8, 9, 12] rfl (by kernel_rfl) (fun _ _ _ h => h) hHeld (by rfl) ?_ ?_
                  · (intro W' hSw; (try dsimp only at hSw); go_simp)
                  try simp only [Act.put, List.setIfInBounds_toArray, List.set_cons_zero, List.set_cons_succ]
                  clear hHeld
                  refine wpAnyG_oneL (i := 4) (by kernel_rfl) rfl (fun K hK => ?_)
                  (go_simp; go_at_call 72; refine (HZX.out _).mono ?_; rintro e w9 ⟨rfl, rfl⟩)
                  refine hK.out _ _ (fun _ => (HF3.out _ hdd)) ?_
                  clear hK K
                  try simp only [Act.put, List.setIfInBounds_toArray, List.set_cons_zero, List.set_cons_succ]
                  have hHeld := HF3.out _ hdd
                  refine wpAnyG_takeL (i := 7) (.bool false) [8, 9, 12] rfl (by kernel_rfl) (fun _ _ _ h => h) hHeld (by rfl) ?_ ?_
                  · (intro W' hSw; (try dsimp only at hSw); go_simp)
                  try simp only [Act.put, List.setIfInBounds_toArray, List.set_cons_zero, List.set_cons_succ]
                  refine wpAnyG_takeL (i := 8) (.bool false) [9, 12] rfl (by kernel_rfl) (fun _ _ _ h => h) hHeld (by rfl) ?_ ?_
                  · (intro W' hSw; (try dsimp only at hSw); go_simp)
                  try simp only [Act.put, List.setIfInBounds_toArray, List.set_cons_zero, List.set_cons_succ]
                  refine wpAnyG_takeL (i := 9) (.bool false) [12] rfl (by kernel_rfl) (fun _ _ _ h => h) hHeld (by rfl) ?_ ?_
                  · (intro W' hSw; (try dsimp only at hSw); go_simp)
                  try simp only [Act.put, List.setIfInBounds_toArray, List.set_cons_zero, List.set_cons_succ]
                  refine wpAnyG_dropL (i := 10) [11, 12] rfl (by kernel_rfl) (fun _ _ _ h => h) hHeld (by rfl) ?_
                  try simp only [Act.put, List.setIfInBounds_toArray, List.set_cons_zero, List.set_cons_succ]
                  refine wpAnyG_dropL (i := 11) [12] rfl (by kernel_rfl) (fun _ _ _ h => h) hHeld (by rfl) ?_
                  try simp only [Act.put, List.setIfInBounds_toArray, List.set_cons_zero, List.set_cons_succ]
                  clear hHeld
                  refine wpAnyG_oneL (i := 12) (by kernel_rfl) rfl (fun K hK => ?_)
                  go_simp
                  refine hK.out _ _ (fun h => Bool.noConfusion (show true = false from h)) ?_
                  clear hK K
                  refine wpAnyG_done (by kernel_rfl) ?_ _
                  go_wp2
                  go_roundw
                  case rel => exact ⟨k + 1, by omega, by go_num, Lib.hid (by rw [HSU.out, HBX.out, ← HNB.out]; exact HI3.out.below hdd HZ.out)⟩
                  case measure => simp [intOf]; omega
              · have HD0 := Lib.hid (show decide (x < 0) = false from decide_eq_false hneg)
                have hdx : decide (x < 0) = false := decide_eq_false hneg
                have hdy : decide (0 < x) = true := decide_eq_true (by omega)
                clear hneg hx0
                have HNB := Lib.hid (show numB 0 1 = [decide (x < 0)] by rw [HD0.out]; rfl)
                have HPT := Lib.hid (fun W' (hb : Below wr.heap.size wr W') => hC.out.put hb HZ.out 0 1 (by have := HBD.out; omega) (by decide) (by decide))
                rw [show ((0 : Nat) : Int) = 0 from rfl, show ((1 : Nat) : Int) = 1 from rfl] at HPT
                go_upto_region 15 with (go_at_call 95; refine (HPT.out _ (Below.refl _ _)).mono ?_; rintro e w3 ⟨u3, rfl, hI3⟩)
                have HI3 := Lib.hid hI3
                have HZX := Lib.hid (fun W => rabs_any x W (by have := HQX.out; omega))
                have hdd := (Below.refl w3.heap.size w3).drew
                
                
                have HF3 := Lib.hid (show ∀ W', Below w3.heap.size w3 W' → (W'.cell? ⟨g3, 1, none⟩ = some (.int .i64 (MM : Nat)) ∧ W'.cell? ⟨g3, 3, none⟩ = some (.bool EE)) from fun W' hb => ⟨(HI3.out.blk.below hb).cell 1 rfl, (HI3.out.blk.below hb).cell 3 rfl⟩)
                have hzb : x.natAbs ≤ 1023 := by have := HQX.out; omega
                clear hI3 HPT k0 k1 k3 hc
                generalize hz : x.natAbs = z at HZX HEP HBS hzb
                by_cases hge : MM ≤ z
                · have hdz : decide ((MM : Int) ≤ (z : Int)) = true := decide_eq_true (by omega)
                  have hdn : decide (MM ≤ z) = true := decide_eq_true hge
                  refine wp_region_G 12 (fun W' => W'.cell? ⟨g3, 1, none⟩ = some (.int .i64 (MM : Nat)) ∧ W'.cell? ⟨g3, 3, none⟩ = some (.bool EE)) (by kernel_rfl) (HF3.out _ hdd) (fun hHeld => ?_)
                  refine wpAnyG_takeL (i := 0) (.int .i64 x) [1, 2, 4, 9, 12] rfl (by kernel_rfl) (fun _ _ _ h => h) hHeld (by rfl) ?_ ?_
                  · (intro W' hSw; (try dsimp only at hSw); go_simp)
                  try simp only [Act.put, List.setIfInBounds_toArray, List.set_cons_zero, List.set_cons_succ]
                  refine wpAnyG_takeL (i := 1) (.bool true) [2, 4, 9, 12] rfl (by kernel_rfl) (fun _ _ _ h => h) hHeld (by rfl) ?_ ?_
                  · (intro W' hSw; (try dsimp only at hSw); go_simp)
                  try simp only [Act.put, List.setIfInBounds_toArray, List.set_cons_zero, List.set_cons_succ]
                  refine wpAnyG_takeL (i := 2) (.bool true) [4, 9, 12] rfl (by kernel_rfl) (fun _ _ _ h => h) hHeld (by rfl) ?_ ?_
                  · (intro W' hSw; (try dsimp only at hSw); go_simp)
                  try simp only [Act.put, List.setIfInBounds_toArray, List.set_cons_zero, List.set_cons_succ]
                  refine wpAnyG_takeL (i := 3) (.int .i64 x) [4, 9, 12] rfl (by kernel_rfl) (fun _ _ _ h => h) hHeld (by rfl) ?_ ?_
                  · (intro W' hSw; (try dsimp only at hSw); go_simp)
                  try simp only [Act.put, List.setIfInBounds_toArray, List.set_cons_zero, List.set_cons_succ]
                  refine wpAnyG_takeL (i := 5) (.pointer (some ⟨g3, 1, none⟩)) [6, 7, 8, 9, 12] rfl (by kernel_rfl) (fun _ _ _ h => h) hHeld (by rfl) ?_ ?_
                  · (intro W' hSw; (try dsimp only at hSw); go_simp)
                  try simp only [Act.put, List.setIfInBounds_toArray, List.set_cons_zero, List.set_cons_succ]
                  refine wpAnyG_takeL (i := 6) (.int .i64 (MM : Nat)) [7, 8, 9, 12] rfl (by kernel_rfl) (fun _ _ _ h => h) hHeld (by rfl) ?_ ?_
                  · (intro W' hSw; (try dsimp only at hSw); go_simp)
                  try simp only [Act.put, List.setIfInBounds_toArray, List.set_cons_zero, List.set_cons_succ]
                  clear hHeld
                  refine wpAnyG_oneL (i := 4) (by kernel_rfl) rfl (fun K hK => ?_)
                  (go_simp; go_at_call 72; refine (HZX.out _).mono ?_; rintro e w9 ⟨rfl, rfl⟩)
                  refine hK.out _ _ (fun _ => (HF3.out _ hdd)) ?_
                  clear hK K
                  try simp only [Act.put, List.setIfInBounds_toArray, List.set_cons_zero, List.set_cons_succ]
                  have hHeld := HF3.out _ hdd
                  refine wpAnyG_takeL (i := 7) (.bool true) [8, 9, 12] rfl (by kernel_rfl) (fun _ _ _ h => h) hHeld (by rfl) ?_ ?_
                  · (intro W' hSw; (try dsimp only at hSw); go_simp)
                  try simp only [Act.put, List.setIfInBounds_toArray, List.set_cons_zero, List.set_cons_succ]
                  refine wpAnyG_takeL (i := 8) (.bool true) [9, 12] rfl (by kernel_rfl) (fun _ _ _ h => h) hHeld (by rfl) ?_ ?_
                  · (intro W' hSw; (try dsimp only at hSw); go_simp)
                  try simp only [Act.put, List.setIfInBounds_toArray, List.set_cons_zero, List.set_cons_succ]
                  refine wpAnyG_takeL (i := 9) (.bool true) [12] rfl (by kernel_rfl) (fun _ _ _ h => h) hHeld (by rfl) ?_ ?_
                  · (intro W' hSw; (try dsimp only at hSw); go_simp)
                  try simp only [Act.put, List.setIfInBounds_toArray, List.set_cons_zero, List.set_cons_succ]
                  refine wpAnyG_takeL (i := 10) (.pointer (some ⟨g3, 3, none⟩)) [11, 12] rfl (by kernel_rfl) (fun _ _ _ h => h) hHeld (by rfl) ?_ ?_
                  · (intro W' hSw; (try dsimp only at hSw); go_simp)
                  try simp only [Act.put, List.setIfInBounds_toArray, List.set_cons_zero, List.set_cons_succ]
                  refine wpAnyG_takeL (i := 11) (.bool EE) [12] rfl (by kernel_rfl) (fun _ _ _ h => h) hHeld (by rfl) ?_ ?_
                  · (intro W' hSw; (try dsimp only at hSw); go_simp)
                  try simp only [Act.put, List.setIfInBounds_toArray, List.set_cons_zero, List.set_cons_succ]
                  clear hHeld
                  refine wpAnyG_oneL (i := 12) (by kernel_rfl) rfl (fun K hK => ?_)
                  go_simp
                  refine hK.out _ _ (fun h => Bool.noConfusion (show true = false from h)) ?_
                  clear hK K
                  refine wpAnyG_done (by kernel_rfl) ?_ _
                  cases EE
                  · have HBX := Lib.hid (show besB b x = [decide (x < 0)] by rw [HBS.out, HEP.out]; rfl)
                    go_wp2
                    go_roundw
                    case rel => exact ⟨k + 1, by omega, by go_num, Lib.hid (by rw [HSU.out, HBX.out, ← HNB.out]; exact HI3.out.below hdd HZ.out)⟩
                    case measure => simp [intOf]; omega
                  · have HBX := Lib.hid (show besB b x = [decide (x < 0)] ++ gamB (z - MM + 1) by rw [HBS.out, HEP.out, hdn]; rfl)
                    have HPG := Lib.hid (fun W' (hb : Below w3.heap.size w3 W') => HI3.out.gamma hb HZ.out (z - MM + 1) (by rw [HNB.out, List.length_append]; have := HBD.out; show _ + 1 ≤ 10000000; omega) (by omega) (by omega))
                    have hwa : IntKind.i64.wrap ((z : Int) - (MM : Int)) = ((z - MM : Nat) : Int) := by rw [Int.ofNat_sub hge]; exact IntWalk.i64_in _ (by omega)
                    obtain ⟨qq, hqq⟩ : ∃ qq, z - MM = qq := ⟨_, rfl⟩
                    have HQQ := Lib.hid hqq
                    rw [hqq] at HPG hwa
                    have hwb : IntKind.i64.wrap ((qq : Int) + 1) = ((qq + 1 : Nat) : Int) := by rw [Int.natCast_succ]; exact IntWalk.i64_in _ (by omega)
                    have hd2 := hdd.trans (((Below.refl w3.drew.heap.size w3.drew).drew).mono (show w3.heap.size ≤ w3.drew.heap.size from Nat.le_refl _))
                    clear hge hqq
                    go_wp2
                    refine wp_region_G 8 (fun W' => W'.cell? ⟨g3, 1, none⟩ = some (.int .i64 (MM : Nat)) ∧ W'.cell? ⟨g3, 3, none⟩ = some (.bool true)) (by kernel_rfl) (HF3.out _ hd2) (fun hHeld => ?_)
                    refine wpAnyG_takeL (i := 0) (u3) [8] rfl (by kernel_rfl) (fun _ _ _ h => h) hHeld (by rfl) ?_ ?_
                    · (intro W' hSw; (try dsimp only at hSw); go_simp)
                    try simp only [Act.put, List.setIfInBounds_toArray, List.set_cons_zero, List.set_cons_succ]
                    refine wpAnyG_takeL (i := 1) (.int .i64 x) [8] rfl (by kernel_rfl) (fun _ _ _ h => h) hHeld (by rfl) ?_ ?_
                    · (intro W' hSw; (try dsimp only at hSw); go_simp)
                    try simp only [Act.put, List.setIfInBounds_toArray, List.set_cons_zero, List.set_cons_succ]
                    refine wpAnyG_takeL (i := 3) (.pointer (some ⟨g3, 1, none⟩)) [8] rfl (by kernel_rfl) (fun _ _ _ h => h) hHeld (by rfl) ?_ ?_
                    · (intro W' hSw; (try dsimp only at hSw); go_simp)
                    try simp only [Act.put, List.setIfInBounds_toArray, List.set_cons_zero, List.set_cons_succ]
                    refine wpAnyG_takeL (i := 4) (.int .i64 (MM : Nat)) [8] rfl (by kernel_rfl) (fun _ _ _ h => h) hHeld (by rfl) ?_ ?_
                    · (intro W' hSw; (try dsimp only at hSw); go_simp)
                    try simp only [Act.put, List.setIfInBounds_toArray, List.set_cons_zero, List.set_cons_succ]
                    clear hHeld
                    refine wpAnyG_oneL (i := 2) (by kernel_rfl) rfl (fun K hK => ?_)
                    (go_simp; go_at_call 72; refine (HZX.out _).mono ?_; rintro e w9 ⟨rfl, rfl⟩)
                    refine hK.out _ _ (fun _ => (HF3.out _ hd2)) ?_
                    clear hK K
                    try simp only [Act.put, List.setIfInBounds_toArray, List.set_cons_zero, List.set_cons_succ]
                    refine wpAnyG_oneL (i := 5) (by kernel_rfl) rfl (fun K hK => ?_)
                    go_simp
                    refine hK.out _ _ (fun _ => (HF3.out _ hd2)) ?_
                    clear hK K
                    try simp only [Act.put, List.setIfInBounds_toArray, List.set_cons_zero, List.set_cons_succ]
                    refine wpAnyG_oneL (i := 6) (by kernel_rfl) rfl (fun K hK => ?_)
                    go_simp
                    refine hK.out _ _ (fun _ => (HF3.out _ hd2)) ?_
                    clear hK K
                    try simp only [Act.put, List.setIfInBounds_toArray, List.set_cons_zero, List.set_cons_succ]
                    refine wpAnyG_oneL (i := 7) (by kernel_rfl) rfl (fun K hK => ?_)
                    (go_simp; go_at_call 96; refine (HPG.out _ hd2).mono ?_; rintro e w9 ⟨u9, rfl, hI9⟩)
                    refine hK.out _ _ (fun _ => (show w9.cell? ⟨g3, 1, none⟩ = some (.int .i64 (MM : Nat)) ∧ w9.cell? ⟨g3, 3, none⟩ = some (.bool true) from ⟨hI9.blk.cell 1 rfl, hI9.blk.cell 3 rfl⟩)) ?_
                    clear hK K
                    try simp only [Act.put, List.setIfInBounds_toArray, List.set_cons_zero, List.set_cons_succ]
                    refine wpAnyG_oneL (i := 8) (by kernel_rfl) rfl (fun K hK => ?_)
                    go_simp
                    refine hK.out _ _ (fun h => Bool.noConfusion (show true = false from h)) ?_
                    clear hK K
                    refine wpAnyG_done (by kernel_rfl) ?_ _
                    go_wp2
                    go_roundw
                    case rel => exact ⟨k + 1, by omega, by go_num, Lib.hid (by rw [HSU.out, HBX.out, HQQ.out, ← HNB.out, ← List.append_assoc]; exact hI9)⟩
                    case measure => simp [intOf]; omega
                · have hdz : decide ((MM : Int) ≤ (z : Int)) = false := decide_eq_false (by omega)
                  have hdn : decide (MM ≤ z) = false := decide_eq_false hge
                  have HBX := Lib.hid (show besB b x = [decide (x < 0)] by rw [HBS.out, HEP.out, hdn, Bool.and_false]; rfl)
                  clear hge
                  refine wp_region_G 12 (fun W' => W'.cell? ⟨g3, 1, none⟩ = some (.int .i64 (MM : Nat)) ∧ W'.cell? ⟨g3, 3, none⟩ = some (.bool EE)) (by kernel_rfl) (HF3.out _ hdd) (fun hHeld => ?_)
                  refine wpAnyG_takeL (i := 0) (.int .i64 x) [1, 2, 4, 9, 12] rfl (by kernel_rfl) (fun _ _ _ h => h) hHeld (by rfl) ?_ ?_
                  · (intro W' hSw; (try dsimp only at hSw); go_simp)
                  try simp only [Act.put, List.setIfInBounds_toArray, List.set_cons_zero, List.set_cons_succ]
                  refine wpAnyG_takeL (i := 1) (.bool true) [2, 4, 9, 12] rfl (by kernel_rfl) (fun _ _ _ h => h) hHeld (by rfl) ?_ ?_
                  · (intro W' hSw; (try dsimp only at hSw); go_simp)
                  try simp only [Act.put, List.setIfInBounds_toArray, List.set_cons_zero, List.set_cons_succ]
                  refine wpAnyG_takeL (i := 2) (.bool true) [4, 9, 12] rfl (by kernel_rfl) (fun _ _ _ h => h) hHeld (by rfl) ?_ ?_
                  · (intro W' hSw; (try dsimp only at hSw); go_simp)
                  try simp only [Act.put, List.setIfInBounds_toArray, List.set_cons_zero, List.set_cons_succ]
                  refine wpAnyG_takeL (i := 3) (.int .i64 x) [4, 9, 12] rfl (by kernel_rfl) (fun _ _ _ h => h) hHeld (by rfl) ?_ ?_
                  · (intro W' hSw; (try dsimp only at hSw); go_simp)
                  try simp only [Act.put, List.setIfInBounds_toArray, List.set_cons_zero, List.set_cons_succ]
                  refine wpAnyG_takeL (i := 5) (.pointer (some ⟨g3, 1, none⟩)) [6, 7, 8, 9, 12] rfl (by kernel_rfl) (fun _ _ _ h => h) hHeld (by rfl) ?_ ?_
                  · (intro W' hSw; (try dsimp only at hSw); go_simp)
                  try simp only [Act.put, List.setIfInBounds_toArray, List.set_cons_zero, List.set_cons_succ]
                  refine wpAnyG_takeL (i := 6) (.int .i64 (MM : Nat)) [7, 8, 9, 12] rfl (by kernel_rfl) (fun _ _ _ h => h) hHeld (by rfl) ?_ ?_
                  · (intro W' hSw; (try dsimp only at hSw); go_simp)
                  try simp only [Act.put, List.setIfInBounds_toArray, List.set_cons_zero, List.set_cons_succ]
                  clear hHeld
                  refine wpAnyG_oneL (i := 4) (by kernel_rfl) rfl (fun K hK => ?_)
                  (go_simp; go_at_call 72; refine (HZX.out _).mono ?_; rintro e w9 ⟨rfl, rfl⟩)
                  refine hK.out _ _ (fun _ => (HF3.out _ hdd)) ?_
                  clear hK K
                  try simp only [Act.put, List.setIfInBounds_toArray, List.set_cons_zero, List.set_cons_succ]
                  have hHeld := HF3.out _ hdd
                  refine wpAnyG_takeL (i := 7) (.bool false) [8, 9, 12] rfl (by kernel_rfl) (fun _ _ _ h => h) hHeld (by rfl) ?_ ?_
                  · (intro W' hSw; (try dsimp only at hSw); go_simp)
                  try simp only [Act.put, List.setIfInBounds_toArray, List.set_cons_zero, List.set_cons_succ]
                  refine wpAnyG_takeL (i := 8) (.bool false) [9, 12] rfl (by kernel_rfl) (fun _ _ _ h => h) hHeld (by rfl) ?_ ?_
                  · (intro W' hSw; (try dsimp only at hSw); go_simp)
                  try simp only [Act.put, List.setIfInBounds_toArray, List.set_cons_zero, List.set_cons_succ]
                  refine wpAnyG_takeL (i := 9) (.bool false) [12] rfl (by kernel_rfl) (fun _ _ _ h => h) hHeld (by rfl) ?_ ?_
                  · (intro W' hSw; (try dsimp only at hSw); go_simp)
                  try simp only [Act.put, List.setIfInBounds_toArray, List.set_cons_zero, List.set_cons_succ]
                  refine wpAnyG_dropL (i := 10) [11, 12] rfl (by kernel_rfl) (fun _ _ _ h => h) hHeld (by rfl) ?_
                  try simp only [Act.put, List.setIfInBounds_toArray, List.set_cons_zero, List.set_cons_succ]
                  refine wpAnyG_dropL (i := 11) [12] rfl (by kernel_rfl) (fun _ _ _ h => h) hHeld (by rfl) ?_
                  try simp only [Act.put, List.setIfInBounds_toArray, List.set_cons_zero, List.set_cons_succ]
                  clear hHeld
                  refine wpAnyG_oneL (i := 12) (by kernel_rfl) rfl (fun K hK => ?_)
                  go_simp
                  refine hK.out _ _ (fun h => Bool.noConfusion (show true = false from h)) ?_
                  clear hK K
                  refine wpAnyG_done (by kernel_rfl) ?_ _
                  go_wp2
                  go_roundw
                  case rel => exact ⟨k + 1, by omega, by go_num, Lib.hid (by rw [HSU.out, HBX.out, ← HNB.out]; exact HI3.out.below hdd HZ.out)⟩
                  case measure => simp [intOf]; omega
          · obtain rfl : k = dimB b := by omega
            rw [HFULL.out] at hC
            have HCJ := Lib.hid (show AdI w base g3 (#[.int .i64 (dimB b), .int .i64 (MM : Nat), .int .i64 (fallB b), .bool EE, .slice A1 n c1, .slice A2 n c2]) (bs ++ lstB b l (j + 1)) u1 wr by rw [HJ.out]; exact hC.out)
            go_wp2
            go_roundw
            case rel => exact ⟨j + 1, hlt, by rw [HM.out], HCJ⟩
            case measure => have := HS2.out; have := HLE.out; simp [intOf]; omega
    · obtain rfl : j = q := by omega
      have hpl : ¬ ((j * dimB b : Nat) : Int) < (l.length : Int) := by rw [HLQ.out]; omega
      have hpn : ¬ j * dimB b < l.length := by rw [HLQ.out]; omega
      go_wp2
      go_ret
      exact ⟨_, rfl, by rw [HRK.out]; exact hI.out.own, hI.out.low⟩
end Go.Proofs.YtciknejchglmoaaDoor

namespace Go.Proofs.YtciknejchglmoaaDoor
open Go.RowKit

theorem bitsI_len (l : List Bool) : (bitsI l).length = l.length := by simp [bitsI]
theorem bkC_len (n : Int) (l : List Int) : (bkC n l).1 = ((bkW n l).length : Int) := by
  unfold bkW
  by_cases h : (bkC n l).2 = 0
  · rw [if_neg (by simp [h])]
    obtain ⟨b, rfl, _, _, _, e⟩ := bkC_ok h
    rw [e]; rfl
  · rw [if_pos h]
    unfold bkC at h ⊢
    by_cases h1 : checkedK n l ≠ 0
    · rw [if_pos h1]; rfl
    · rw [if_neg h1] at h ⊢
      by_cases h2 : fitB n.toNat l = false
      · rw [if_pos h2]; rfl
      · rw [if_neg h2] at h; exact absurd rfl h
theorem bkW_len (n : Int) (l : List Int) : (bkW n l).length ≤ 104 * l.length := by
  unfold bkW
  by_cases h : (bkC n l).2 = 0
  · rw [if_neg (by simp [h])]
    obtain ⟨b, rfl, h8, hq, _, _⟩ := bkC_ok h
    exact rowK_len b l h8 hq
  · rw [if_pos h]; exact Nat.zero_le _
theorem sl_old {ok : Nat → Prop} {w : World} {A : Option Addr} {c : Nat} {l : List Int} (h : Sl (kInt .i64) ok w A c l) : Sl (kInt .i64) (fun x => x < w.heap.size) w A c l := h.weak fun _ h _ => h

set_option maxHeartbeats 1000000 in
set_option maxRecDepth 100000 in
theorem rwritten_any (A : Option Addr) (c : Nat) (n : Int) (l : List Int) (w : World) (hS : RI w A c l) (hlm : l.length ≤ 10000) :
    Calls Tryd.prog 51 #[.int .i64 n, .slice A l.length c] w fun e w' => ∃ v, e = .returned (.tuple #[v, .int .i64 (bkC n l).2]) ∧ OwnI 5 .u8 w.heap.size w' v (bitsI (bkW n l)) ∧ Below w.heap.size w w' := by
  have HF := Lib.hid (rfits_any A c n l w hS)
  by_cases hc : checkedK n l = 0
  · obtain ⟨b, rfl, h8, hq⟩ := checkedK_ok hc
    have hv : fitsV (b : Int) l = fitB b l := by unfold fitsV; rw [if_neg (by rw [hc]; decide)]; rfl
    rw [hc, hv] at HF
    have he : bkC (b : Int) l = if fitB b l = false then ((0 : Int), (4 : Int)) else (((rowK b l).length : Int), 0) := by unfold bkC; rw [if_neg (by simp [hc])]; rfl
    cases hf : fitB b l
    · have HE := Lib.hid (show (bkC (b : Int) l).2 = 4 by rw [he, if_pos hf])
      have HW := Lib.hid (show bkW (b : Int) l = [] by unfold bkW; rw [if_pos (by rw [HE.out]; decide)])
      rw [hf] at HF
      clear hc hv he hf hq h8
      go_enter Tryd.func51, Tryd.ntmps51
      go_wp2_with (go_at_call 18; refine HF.out.mono ?_; rintro e w2 ⟨rfl, b2⟩)
      go_ret2
      exact ⟨_, ret_two rfl (by rw [HE.out]; rfl), by rw [HW.out]; exact OwnI.nil _ _ _ _, b2⟩
    · have HE := Lib.hid (show (bkC (b : Int) l).2 = 0 by rw [he, if_neg (by rw [hf]; decide)])
      have HW := Lib.hid (show bkW (b : Int) l = rowK b l by unfold bkW; rw [if_neg (by rw [HE.out]; decide)]; rfl)
      rw [hf] at HF
      have HO := Lib.hid (fun W => rone_any b W h8)
      have HA := Lib.hid (fun A1 c1 A2 c2 W (hb : Below w.heap.size w W) (h1 : Sl (kInt .i64) AnyB W A1 c1 (tabKI b)) (h2 : Sl (kInt .i64) AnyB W A2 c2 (codesL (tabKI b))) => radd_any W.heap.size (.slice none 0 0) [] b A1 c1 A2 c2 A c l W (by simpa [bitsI] using OwnI.nil 5 .u8 W.heap.size W) (Nat.le_refl _) (sl_old (hS.below hb)) (sl_old h1) (sl_old h2) h8 hq (fitB_mod hf) hlm (by simp))
      clear hc hv he hf hq h8
      go_enter Tryd.func51, Tryd.ntmps51
      go_wp2_with (first
        | (go_at_call 18; refine HF.out.mono ?_; rintro e w2 ⟨rfl, b2⟩)
        | (go_at_call 44; refine (HO.out _).mono ?_; rintro e w3 ⟨A1, c1, A2, c2, rfl, hs1, hs2, b3⟩; have HS1 := Lib.hid hs1.any; have HS2 := Lib.hid hs2.any; clear hs1 hs2)
        | (go_at_call 74; refine (HA.out _ _ _ _ _ (below2 b2 b3) HS1.out HS2.out).mono ?_; rintro e w4 ⟨v4, rfl, hO4, b4⟩))
      go_ret2
      exact ⟨_, ret_two rfl (by rw [HE.out]; rfl), by rw [HW.out]; exact (show OwnI _ _ _ _ _ (bitsI (rowK b l)) from hO4).mono (below2 b2 b3).size, below2 (below2 b2 b3) b4⟩
  · have HE := Lib.hid (show (bkC n l).2 = checkedK n l by unfold bkC; rw [if_pos hc])
    have HW := Lib.hid (show bkW n l = [] by unfold bkW; rw [if_pos (by rw [HE.out]; exact hc)])
    have hEb : (checkedK n l != 0) = true := by simp [hc]
    generalize checkedK n l = E at *
    clear hc
    go_enter Tryd.func51, Tryd.ntmps51
    go_wp2_with (go_at_call 18; refine HF.out.mono ?_; rintro e w2 ⟨rfl, b2⟩)
    go_ret2
    exact ⟨_, ret_two rfl (by rw [HE.out]; rfl), by rw [HW.out]; exact OwnI.nil _ _ _ _, b2⟩
set_option maxHeartbeats 1000000 in
theorem rCost_any (A : Option Addr) (c : Nat) (n : Int) (l : List Int) (w : World) (hS : RI w A c l) (hlm : l.length ≤ 10000) :
    Calls Tryd.prog 20 #[.int .i64 n, .slice A l.length c] w fun e w' => e = .returned (.tuple #[.int .i64 (bkC n l).1, .int .i64 (bkC n l).2]) ∧ Below w.heap.size w w' := by
  have HC := Lib.hid (rwritten_any A c n l w hS hlm)
  have HL := Lib.hid (bkC_len n l)
  have HB := Lib.hid (bitsI_len (bkW n l))
  generalize bkW n l = R at *
  generalize bkC n l = Z at *
  go_enter Tryd.func20, Tryd.ntmps20
  go_wp2_with (go_at_call 51; refine HC.out.mono ?_; rintro e w2 ⟨v, rfl, hO, b2⟩; obtain ⟨A2, c2, rfl⟩ := hO.slice; rw [HB.out])
  go_ret2
  exact ⟨by rw [HL.out]; rfl, b2⟩
set_option maxHeartbeats 2000000 in
set_option maxRecDepth 100000 in
theorem rWrite_any (A R : Option Addr) (c e0 : Nat) (n : Int) (bs : List Bool) (l : List Int) (w : World) (hR : RY w R e0 (bitsI bs)) (hbl : bs.length ≤ 1048576) (hS : RI w A c l) (hlm : l.length ≤ 10000) :
    Calls Tryd.prog 33 #[.slice R bs.length e0, .int .i64 n, .slice A l.length c] w
      fun e w' => ∃ A2 c2, e = .returned (.tuple #[.slice A2 (fullB bs (bkW n l)).length c2, .int .i64 (writeK n l bs.length)]) ∧ RY w' A2 c2 (bitsI (fullB bs (bkW n l))) ∧ Below w.heap.size w w' := by
  have HC := Lib.hid (rwritten_any A c n l w hS hlm)
  have HLN := Lib.hid bitsI_len
  have HR := Lib.hid hR
  have hml := bkW_len n l
  have hX0 : writeK n l bs.length = if (bkC n l).2 ≠ 0 then (bkC n l).2 else fullE bs.length (bkW n l).length := by
    unfold writeK
    by_cases h : (bkC n l).2 ≠ 0
    · rw [if_pos h, if_pos h]
    · rw [if_neg h, if_neg h]; unfold bkW; rw [if_neg h]
  have hW0 : (bkC n l).2 ≠ 0 → bkW n l = [] := fun h => by unfold bkW; rw [if_pos h]
  clear hS hR
  generalize writeK n l bs.length = X at *
  generalize bkW n l = M at *
  generalize bkC n l = Z at *
  by_cases hE : Z.2 = 0
  · have HX := Lib.hid (hX0.trans (if_neg (by simp [hE])))
    rw [hE] at HC
    have hwa : IntKind.i64.wrap ((bs.length : Int) + (M.length : Int)) = (bs.length : Int) + (M.length : Int) := IntWalk.i64_in _ (by omega)
    by_cases hf : 1048576 < bs.length + M.length
    · have hd : decide (1048576 < (bs.length : Int) + (M.length : Int)) = true := decide_eq_true (by omega)
      have HF := Lib.hid (show fullE bs.length M.length = 2 ∧ fullB bs M = bs from ⟨by unfold fullE; rw [if_pos hf], by unfold fullB; rw [if_pos hf]⟩)
      clear hE hf hX0 hW0
      go_enter Tryd.func33, Tryd.ntmps33
      go_wp2_with (go_at_call 51; refine HC.out.mono ?_; rintro e W2 ⟨v2, rfl, hO2, b2⟩; obtain ⟨A2, c2, rfl⟩ := hO2.slice; rw [HLN.out])
      go_ret2
      exact ⟨R, e0, ret_two (by rw [HF.out.2]; rfl) (by rw [HX.out, HF.out.1]; rfl), by rw [HF.out.2]; exact HR.out.below b2, b2⟩
    · have hd : decide (1048576 < (bs.length : Int) + (M.length : Int)) = false := decide_eq_false (by omega)
      have HF := Lib.hid (show fullE bs.length M.length = 0 ∧ fullB bs M = bs ++ M from ⟨by unfold fullE; rw [if_neg hf], by unfold fullB; rw [if_neg hf]⟩)
      have HL1 := Lib.hid (HLN.out bs).symm
      have HL2 := Lib.hid (HLN.out M).symm
      clear hE hf hX0 hW0
      go_enter Tryd.func33, Tryd.ntmps33
      go_wp2_with (first
        | (go_at_call 51; refine HC.out.mono ?_; rintro e W2 ⟨v2, rfl, hO2, b2⟩; obtain ⟨A2, c2, rfl, hL2⟩ := own_ri hO2; rw [HLN.out]; have HL9 := Lib.hid hL2; clear hO2 hL2)
        | (at_builtin; (refine append_row (w0 := W2) W2.heap.size rfl (.tmp 29) (.tmp 30) 48 5 .u8 1 rfl Tryd.underlying48 infoY (by decide) _ [] (bitsI bs) R e0 rfl (by rw [← HL1.out]; rfl) (own_lit W2 5 .u8 [] (by decide)) ((HR.out.below b2).below (below_alloc (Below.refl _ _) _)) (below_alloc (Below.refl _ _) _) (by simp) (by simp [bitsI]; omega) ?_); intro v1 w4 hO4 hB4 _ _; have HO4 := Lib.hid hO4; have HB4 := Lib.hid hB4; clear hO4 hB4)
        | (at_builtin; (refine append_row (w0 := W2) W2.heap.size rfl (.tmp 31) (.tmp 32) 48 5 .u8 1 rfl Tryd.underlying48 infoY (by decide) v1 ([] ++ bitsI bs) (bitsI M) A2 c2 rfl (by rw [← HL2.out]; rfl) HO4.out (HL9.out.below HB4.out) HB4.out HB4.out.size (by simp [bitsI]; omega) ?_); intro v5 w5 hO5 hB5 _ _; have HO5 := Lib.hid hO5; have HB5 := Lib.hid hB5; clear hO5 hB5))
      have HO6 := Lib.hid (show OwnI 5 .u8 W2.heap.size w5 v5 (bitsI (bs ++ M)) by have := HO5.out; rwa [List.nil_append, show bitsI bs ++ bitsI M = bitsI (bs ++ M) by simp [bitsI]] at this)
      obtain ⟨A6, c6, rfl, hL6⟩ := own_ri HO6.out
      go_ret2
      refine ⟨A6, c6, ret_two (by rw [HF.out.2, HLN.out]; rfl) (by rw [HX.out, HF.out.1]; rfl), by rw [HF.out.2]; exact hL6, below2 b2 HB5.out⟩
  · have hEb : (Z.2 != 0) = true := by simp [hE]
    have HX := Lib.hid (hX0.trans (if_pos hE))
    have HF := Lib.hid (show fullB bs M = bs by rw [hW0 hE]; exact fullB_nil bs hbl)
    clear hE hX0 hW0
    go_enter Tryd.func33, Tryd.ntmps33
    go_wp2_with (go_at_call 51; refine HC.out.mono ?_; rintro e W2 ⟨v2, rfl, hO2, b2⟩; obtain ⟨A2, c2, rfl⟩ := hO2.slice)
    go_ret2
    exact ⟨R, e0, ret_two (by rw [HF.out]; rfl) (by rw [HX.out]; rfl), by rw [HF.out]; exact HR.out.below b2, b2⟩
end Go.Proofs.YtciknejchglmoaaDoor

namespace Go.Proofs.YtciknejchglmoaaDoor
open Go.RowKit

/-- The first one of the books that a list fits with the least cost. -/
def lstK (l : List Int) : Nat → Int × Int
  | 0 => (-1, 0)
  | k + 1 => if fitB k l = true then (if (lstK l k).1 < 0 ∨ ((rowK k l).length : Int) < (lstK l k).2 then ((k : Int), ((rowK k l).length : Int)) else lstK l k) else lstK l k
theorem bestP_snoc (xs : List (Int × Int)) (x : Int × Int) (h : 0 < xs.length) : bestP (xs ++ [x]) = bestS (bestP xs) x := by
  unfold bestP
  rw [nth_append_left _ _ _ _ h, List.foldl_append]; rfl
theorem bestP_one (x : Int × Int) : bestP [x] = x := by
  show bestS x x = x
  unfold bestS; rw [if_neg (Int.lt_irrefl _)]
theorem bestP_mem : ∀ (xs : List (Int × Int)) (o : Int × Int), xs.foldl bestS o = o ∨ xs.foldl bestS o ∈ xs
  | [], _ => .inl rfl
  | x :: xs, o => by
    rw [List.foldl_cons]
    rcases bestP_mem xs (bestS o x) with h | h
    · rw [h]
      unfold bestS
      split
      · exact .inr List.mem_cons_self
      · exact .inl rfl
    · exact .inr (List.mem_cons_of_mem _ h)
theorem bestP_in (xs : List (Int × Int)) (h : 0 < xs.length) : bestP xs ∈ xs := by
  rcases bestP_mem xs (nth (0, 0) xs 0) with h2 | h2
  · unfold bestP; rw [h2]; exact nth_mem _ _ _ h
  · exact h2
theorem chL_book {l : List Int} {k : Nat} {x : Int × Int} (h : x ∈ chL l k) : ∃ b : Nat, b < k ∧ fitB b l = true ∧ x = ((b : Int), ((rowK b l).length : Int)) := by
  unfold chL at h
  obtain ⟨b, hb, rfl⟩ := List.mem_map.1 h
  obtain ⟨h1, h2⟩ := List.mem_filter.1 hb
  exact ⟨b, List.mem_range.1 h1, h2, rfl⟩
theorem lstK_best (l : List Int) : ∀ k, lstK l k = if (chL l k).length = 0 then (-1, 0) else bestP (chL l k)
  | 0 => rfl
  | k + 1 => by
    have ih := lstK_best l k
    show (if fitB k l = true then _ else _) = _
    by_cases hf : fitB k l = true
    · rw [if_pos hf, chL_succ, if_pos hf]
      rw [if_neg (show ¬ (chL l k ++ [((k : Int), ((rowK k l).length : Int))]).length = 0 by simp)]
      by_cases h0 : (chL l k).length = 0
      · rw [if_pos h0] at ih
        rw [ih, if_pos (.inl (by decide)), List.eq_nil_of_length_eq_zero h0, List.nil_append, bestP_one]
      · rw [if_neg h0] at ih
        rw [ih, bestP_snoc _ _ (by omega)]
        obtain ⟨b, _, _, e⟩ := chL_book (bestP_in (chL l k) (by omega))
        have hn : ¬ (bestP (chL l k)).1 < 0 := by rw [e]; show ¬ (b : Int) < 0; omega
        unfold bestS
        by_cases h1 : ((rowK k l).length : Int) < (bestP (chL l k)).2
        · rw [if_pos (.inr h1), if_pos h1]
        · rw [if_neg (fun h => h.elim hn h1), if_neg h1]
    · rw [if_neg hf, chL_succ, if_neg hf, List.append_nil, ih]
theorem lstK_8 (l : List Int) : lstK l 8 = bestP (chL l 8) := by
  rw [lstK_best, if_neg (by have := chL_pos l; omega)]
theorem allK_length : allK.length = 8 := by decide
theorem allK_nth (j : Nat) (h : j < 8) : nth (0, false) allK j = (j, true) := by
  rw [nth_eq _ _ j (by rw [allK_length]; exact h)]; simp [allK]
/-- A book of all, at rest. -/
theorem rd_all {ok : Nat → Prop} {w : World} {A : Option Addr} {c : Nat} (h : Sl kBk ok w A c allK) (j : Nat) (hj : j < 8) :
    ∃ ad A1 c1 A2 c2, A = some ad ∧ Sl (kInt .i64) ok w A1 c1 (tabKI j) ∧ Sl (kInt .i64) ok w A2 c2 (codesL (tabKI j)) ∧ w.cell? (ad.add (j * 6)) = some (.int .i64 (dimB j)) ∧
      w.cell? ⟨(ad.add (j * 6)).block, (ad.add (j * 6)).off + 1, none⟩ = some (.int .i64 (mostB j)) ∧ w.cell? ⟨(ad.add (j * 6)).block, (ad.add (j * 6)).off + 2, none⟩ = some (.int .i64 (fallB j)) ∧
      w.cell? ⟨(ad.add (j * 6)).block, (ad.add (j * 6)).off + 3, none⟩ = some (.bool (escB j)) ∧ w.cell? ⟨(ad.add (j * 6)).block, (ad.add (j * 6)).off + 4, none⟩ = some (.slice A1 (tabKI j).length c1) ∧
      w.cell? ⟨(ad.add (j * 6)).block, (ad.add (j * 6)).off + 5, none⟩ = some (.slice A2 (tabKI j).length c2) := by
  obtain ⟨ad, cs, e, _, hK, h0, hc⟩ := rd_bk h j (by rw [allK_length]; exact hj)
  rw [allK_nth j hj] at hK
  rcases hK with ⟨_, A1, c1, A2, c2, rfl, h1, h2⟩ | ⟨h, _⟩
  · exact ⟨ad, A1, c1, A2, c2, e, h1, h2, h0 _ rfl, hc 1 _ rfl, hc 2 _ rfl, hc 3 _ rfl, hc 4 _ rfl, hc 5 _ rfl⟩
  · cases h

set_option maxHeartbeats 2000000 in
set_option maxRecDepth 100000 in
theorem rleast_any (B : Option Addr) (d : Nat) (A : Option Addr) (c : Nat) (l : List Int) (w : World) (hA : Sl kBk AnyB w B d allK) (hS : RI w A c l) (hq : quantB l = true) (hlm : l.length ≤ 10000) :
    Calls Tryd.prog 55 #[.slice B 8 d, .slice A l.length c] w fun e w' => e = .returned (.tuple #[.int .i64 (bestP (chL l 8)).1, .int .i64 (bestP (chL l 8)).2]) ∧ Below w.heap.size w w' := by
  have HX := Lib.hid (lstK_8 l)
  generalize bestP (chL l 8) = R at HX
  have HST := Lib.hid (show ∀ k, lstK l (k + 1) = if fitB k l = true then (if (lstK l k).1 < 0 ∨ ((rowK k l).length : Int) < (lstK l k).2 then ((k : Int), ((rowK k l).length : Int)) else lstK l k) else lstK l k from fun _ => rfl)
  have HA := Lib.hid hA
  have HS := Lib.hid hS
  have HH := Lib.hid (fun b A1 n1 c1 A2 n2 c2 W (hb : Below w.heap.size w W) => rhas_any A A1 A2 c n1 c1 n2 c2 b l W (hS.below hb) hq)
  have HAD := Lib.hid (fun b A1 c1 A2 c2 W (hb : Below w.heap.size w W) (h8 : b < 8) (hf : fitB b l = true) (h1 : Sl (kInt .i64) AnyB W A1 c1 (tabKI b)) (h2 : Sl (kInt .i64) AnyB W A2 c2 (codesL (tabKI b))) => radd_any W.heap.size (.slice none 0 0) [] b A1 c1 A2 c2 A c l W (by simpa [bitsI] using OwnI.nil 5 .u8 W.heap.size W) (Nat.le_refl _) (sl_old (hS.below hb)) (sl_old h1) (sl_old h2) h8 hq (fitB_mod hf) hlm (by simp))
  have HBL := Lib.hid (fun b => bitsI_len (rowK b l))
  clear hA hS hq
  go_enter Tryd.func55, Tryd.ntmps55
  go_wp2
  go_loopw [4, 5, 6, 8, 11] (fun bv cv iv nv kv wr => ∃ k : Nat, kv = .int .i64 (k : Int) ∧ k ≤ 8 ∧ bv = .int .i64 (lstK l k).1 ∧ cv = .int .i64 (lstK l k).2 ∧ Hid (Below w.heap.size w wr)) (fun _ _ _ _ kv _ => 8 - (intOf kv).toNat)
  case atStart => exact ⟨0, rfl, by omega, rfl, rfl, Lib.hid (Below.refl _ _)⟩
  case round =>
    obtain ⟨k, rfl, hk, rfl, rfl, hB⟩ := hrel
    by_cases hlt : k < 8
    · obtain ⟨ad, A1, c1, A2, c2, rfl, h1, h2, k0, k1, k2, k3, k4, k5⟩ := rd_all (HA.out.below hB.out) k hlt
      obtain ⟨n, hn⟩ : ∃ n, (tabKI k).length = n := ⟨_, rfl⟩
      rw [hn] at k4 k5
      have hki : (k : Int) < 8 := by omega
      have hwk : IntKind.i64.wrap ((k : Int) + 1) = (k : Int) + 1 := IntWalk.i64_in _ (by omega)
      have hba := below_alloc (Below.refl wr.heap.size wr) (.cells (bookC k A1 n c1 A2 n c2) 74)
      obtain ⟨g7, hg7⟩ : ∃ g7, wr.heap.size = g7 := ⟨_, rfl⟩
      have B7 : Blk (wr.alloc (.cells (bookC k A1 n c1 A2 n c2) 74)) g7 (bookC k A1 n c1 A2 n c2) 74 := by rw [← hg7]; exact heap_alloc_new wr _
      have HB7 := Lib.hid B7
      have HBA := Lib.hid hba
      have H1 := Lib.hid h1
      have H2 := Lib.hid h2
      have HHC := Lib.hid (fun W hb => HH.out k A1 n c1 A2 n c2 W hb)
      have HNX := Lib.hid (HST.out k)
      have hlb : ∀ x, (lstK l k).1 = x → True := fun _ _ => trivial
      obtain ⟨bk, hbk⟩ : ∃ bk, (lstK l k).1 = bk := ⟨_, rfl⟩
      obtain ⟨ck, hck⟩ : ∃ ck, (lstK l k).2 = ck := ⟨_, rfl⟩
      have HP := Lib.hid (show lstK l k = (bk, ck) by rw [← hbk, ← hck])
      rw [hbk, hck] at HNX ⊢
      clear hbk hck hlb h1 h2
      cases hf : fitB k l
      · rw [hf] at HHC HNX
        have HNX2 := Lib.hid (show lstK l (k + 1) = (bk, ck) by rw [HNX.out, if_neg (by decide), HP.out])
        clear hf B7 hn
        go_wp2_with (go_at_call 49; refine (HHC.out _ (below2 hB.out HBA.out)).mono ?_; rintro e w3 ⟨rfl, b3⟩)
        go_roundw
        case rel => exact ⟨k + 1, by go_num, by omega, by rw [HNX2.out], by rw [HNX2.out], Lib.hid (below2 (below2 hB.out HBA.out) b3)⟩
        case measure => simp [intOf]; omega
      · have HADC := Lib.hid (fun W hb => HAD.out k A1 c1 A2 c2 W hb hlt hf)
        unfold bookM at HADC
        rw [hn] at HADC
        rw [hf] at HHC HNX
        have hbl := HBL.out k
        obtain ⟨M, hM⟩ : ∃ M, rowK k l = M := ⟨_, rfl⟩
        rw [hM] at HNX hbl
        have HMM := Lib.hid hM
        have HML := Lib.hid hbl
        clear hf B7 hn hM hbl
        by_cases h0 : bk < 0
        · have HNX2 := Lib.hid (show lstK l (k + 1) = ((k : Int), (M.length : Int)) by rw [HNX.out, if_pos rfl, if_pos (.inl h0)])
          have hd0 : decide (bk < 0) = true := decide_eq_true h0
          clear h0
          go_wp2_with (first
            | (go_at_call 49; refine (HHC.out _ (below2 hB.out HBA.out)).mono ?_; rintro e w3 ⟨rfl, b3⟩; have q := HB7.out.below b3; have q0 := q.cell 0 rfl; have q1 := q.cell 1 rfl; have q2 := q.cell 2 rfl; have q3 := q.cell 3 rfl; have q4 := q.cell 4 rfl; have q5 := q.cell 5 rfl; have HB3 := Lib.hid (below2 (below2 hB.out HBA.out) b3); have HS1 := Lib.hid ((H1.out.below HBA.out).below b3); have HS2 := Lib.hid ((H2.out.below HBA.out).below b3); clear q)
            | (go_at_call 74; refine (HADC.out _ HB3.out HS1.out HS2.out).mono ?_; rintro e w4 ⟨v4, rfl, hO4, b4⟩; rw [HMM.out, List.nil_append] at hO4; obtain ⟨A4, c4, rfl⟩ := hO4.slice; rw [HML.out]))
          go_roundw
          case rel => exact ⟨k + 1, by go_num, by omega, by rw [HNX2.out], by rw [HNX2.out], Lib.hid (below2 HB3.out b4)⟩
          case measure => simp [intOf]; omega
        · have hd0 : decide (bk < 0) = false := decide_eq_false h0
          by_cases h1 : (M.length : Int) < ck
          · have HNX2 := Lib.hid (show lstK l (k + 1) = ((k : Int), (M.length : Int)) by rw [HNX.out, if_pos rfl, if_pos (.inr h1)])
            have hd1 : decide ((M.length : Int) < ck) = true := decide_eq_true h1
            clear h0 h1
            go_wp2_with (first
              | (go_at_call 49; refine (HHC.out _ (below2 hB.out HBA.out)).mono ?_; rintro e w3 ⟨rfl, b3⟩; have q := HB7.out.below b3; have q0 := q.cell 0 rfl; have q1 := q.cell 1 rfl; have q2 := q.cell 2 rfl; have q3 := q.cell 3 rfl; have q4 := q.cell 4 rfl; have q5 := q.cell 5 rfl; have HB3 := Lib.hid (below2 (below2 hB.out HBA.out) b3); have HS1 := Lib.hid ((H1.out.below HBA.out).below b3); have HS2 := Lib.hid ((H2.out.below HBA.out).below b3); clear q)
              | (go_at_call 74; refine (HADC.out _ HB3.out HS1.out HS2.out).mono ?_; rintro e w4 ⟨v4, rfl, hO4, b4⟩; rw [HMM.out, List.nil_append] at hO4; obtain ⟨A4, c4, rfl⟩ := hO4.slice; rw [HML.out]))
            go_roundw
            case rel => exact ⟨k + 1, by go_num, by omega, by rw [HNX2.out], by rw [HNX2.out], Lib.hid (below2 HB3.out b4)⟩
            case measure => simp [intOf]; omega
          · have HNX2 := Lib.hid (show lstK l (k + 1) = (bk, ck) by rw [HNX.out, if_pos rfl, if_neg (fun h => h.elim h0 h1), HP.out])
            have hd1 : decide ((M.length : Int) < ck) = false := decide_eq_false h1
            clear h0 h1
            go_wp2_with (first
              | (go_at_call 49; refine (HHC.out _ (below2 hB.out HBA.out)).mono ?_; rintro e w3 ⟨rfl, b3⟩; have q := HB7.out.below b3; have q0 := q.cell 0 rfl; have q1 := q.cell 1 rfl; have q2 := q.cell 2 rfl; have q3 := q.cell 3 rfl; have q4 := q.cell 4 rfl; have q5 := q.cell 5 rfl; have HB3 := Lib.hid (below2 (below2 hB.out HBA.out) b3); have HS1 := Lib.hid ((H1.out.below HBA.out).below b3); have HS2 := Lib.hid ((H2.out.below HBA.out).below b3); clear q)
              | (go_at_call 74; refine (HADC.out _ HB3.out HS1.out HS2.out).mono ?_; rintro e w4 ⟨v4, rfl, hO4, b4⟩; rw [HMM.out, List.nil_append] at hO4; obtain ⟨A4, c4, rfl⟩ := hO4.slice; rw [HML.out]))
            go_roundw
            case rel => exact ⟨k + 1, by go_num, by omega, by rw [HNX2.out], by rw [HNX2.out], Lib.hid (below2 HB3.out b4)⟩
            case measure => simp [intOf]; omega
    · obtain rfl : k = 8 := by omega
      rw [HX.out]
      go_wp2
      go_ret2
      exact ⟨rfl, hB.out⟩
set_option maxHeartbeats 1000000 in
theorem rBest_any (A : Option Addr) (c : Nat) (l : List Int) (w : World) (hS : RI w A c l) (hlm : l.length ≤ 10000) :
    Calls Tryd.prog 22 #[.slice A l.length c] w fun e w' => e = .returned (.tuple #[.int .i64 (bestV l).1, .int .i64 (bestV l).2, .int .i64 (bestE l)]) ∧ Below w.heap.size w w' := by
  have HA := Lib.hid (rvalues_any A c l w hS)
  cases hq : quantB l
  · have HV := Lib.hid (show bestV l = (0, 0) ∧ bestE l = 6 by unfold bestV bestE; rw [if_pos hq, if_pos hq]; exact ⟨rfl, rfl⟩)
    rw [hq] at HA
    clear hq
    go_enter Tryd.func22, Tryd.ntmps22
    go_wp2_with (go_at_call 48; refine HA.out.mono ?_; rintro e w2 ⟨rfl, rfl⟩)
    go_ret3
    exact ⟨by rw [HV.out.1, HV.out.2]; rfl, Below.refl _ _⟩
  · have HV := Lib.hid (show bestV l = bestP (chL l 8) ∧ bestE l = 0 by unfold bestV bestE; rw [if_neg (by rw [hq]; decide), if_neg (by rw [hq]; decide)]; exact ⟨rfl, rfl⟩)
    have HL := Lib.hid (fun g W (hb : Below w.heap.size w W) (h : Sl kBk AnyB W (some ⟨g, 0, none⟩) 8 allK) => rleast_any (some ⟨g, 0, none⟩) 8 A c l W h (hS.below hb) hq hlm)
    rw [hq] at HA
    generalize bestP (chL l 8) = R at *
    clear hq
    go_enter Tryd.func22, Tryd.ntmps22
    go_wp2_with (first
      | (go_at_call 48; refine HA.out.mono ?_; rintro e w2 ⟨rfl, rfl⟩)
      | (go_at_call 56; refine (rall_any _).mono ?_; rintro e w3 ⟨g, rfl, hs3, b3⟩; have HS3 := Lib.hid hs3.any; clear hs3)
      | (go_at_call 55; refine (HL.out g _ b3 HS3.out).mono ?_; rintro e w4 ⟨rfl, b4⟩))
    go_ret3
    exact ⟨by rw [HV.out.1, HV.out.2]; rfl, below2 b3 b4⟩
end Go.Proofs.YtciknejchglmoaaDoor

namespace Go.Proofs.YtciknejchglmoaaDoor
open Go.RowKit

def ugV (l : List Bool) (j : Nat) (E : Int) : Nat := if E = 0 then getV l j 1 else 0
def ugE (l : List Bool) (j : Nat) (E : Int) : Int := if E = 0 then getE l j 1 else E
def ugI (l : List Bool) (j : Nat) (E : Int) : Nat := if E = 0 then getI l j 1 else j
def gaV (l : List Bool) (j : Nat) (E : Int) : Nat := if E = 0 then (gamF (l.drop j)).1 else 0
def gaE (l : List Bool) (j : Nat) (E : Int) : Int := if E = 0 then (gamF (l.drop j)).2.1 else E
theorem tget_u (o : Nat → Prop) (g j : Nat) (l : List Bool) (E : Int) (w : World) (h : Tr o w g l j E) :
    Calls Tryd.prog 99 #[.pointer (some ⟨g, 0, none⟩), .int .i64 1] w fun e w' => e = .returned (.int .i64 (ugV l j E : Nat)) ∧ Tr o w' g l (ugI l j E) (ugE l j E) ∧ Upd (fun b => b = g) w w' := by
  by_cases hE : E = 0
  · subst hE
    have h2 := tget_any o g j 1 l w h (by decide)
    rw [show ((1 : Nat) : Int) = 1 from rfl] at h2
    unfold ugV ugE ugI
    rw [if_pos rfl, if_pos rfl, if_pos rfl]
    exact h2
  · have h2 := tget_no o g j 1 l E w h hE
    rw [show ((1 : Nat) : Int) = 1 from rfl] at h2
    unfold ugV ugE ugI
    rw [if_neg hE, if_neg hE, if_neg hE]
    refine h2.mono ?_
    rintro e w' ⟨rfl, rfl⟩
    exact ⟨rfl, h, Upd.refl _ _⟩
theorem tunary_no (o : Nat → Prop) (g j : Nat) (l : List Bool) (E : Int) (w : World) (h : Tr o w g l j E) (hE : E ≠ 0) :
    Calls Tryd.prog 115 #[.pointer (some ⟨g, 0, none⟩), .int .i64 20] w fun e w' => e = .returned (.int .i64 0) ∧ w = w' := by
  have HK := Lib.hid (tok_any o g j l E w h)
  rw [show (E == 0) = false by simp [hE]] at HK
  clear h hE
  go_enter Tryd.func115, Tryd.ntmps115
  go_wp2
  go_loopw [5] (fun iv wr => iv = .int .i64 0 ∧ w = wr) (fun _ _ => 0)
  case atStart => exact ⟨rfl, rfl⟩
  case round =>
    obtain ⟨rfl, rfl⟩ := hrel
    go_wp2_with (go_at_call 61; refine HK.out.mono ?_; rintro e w2 ⟨rfl, rfl⟩)
    go_ret
    exact ⟨rfl, rfl⟩
theorem tgamma_no (o : Nat → Prop) (g j : Nat) (l : List Bool) (E : Int) (w : World) (h : Tr o w g l j E) (hE : E ≠ 0) :
    Calls Tryd.prog 101 #[.pointer (some ⟨g, 0, none⟩)] w fun e w' => e = .returned (.int .i64 0) ∧ w = w' := by
  have HK := Lib.hid (tok_any o g j l E w h)
  rw [show (E == 0) = false by simp [hE]] at HK
  have HU := Lib.hid (tunary_no o g j l E w h hE)
  have HG := Lib.hid (tget_no o g j 0 l E w h hE)
  rw [show ((0 : Nat) : Int) = 0 from rfl] at HG
  clear h hE
  go_enter Tryd.func101, Tryd.ntmps101
  go_wp2_with (first
    | (go_at_call 115; refine HU.out.mono ?_; rintro e w2 ⟨rfl, rfl⟩)
    | (go_at_call 99; refine HG.out.mono ?_; rintro e w2 ⟨rfl, rfl⟩)
    | (go_at_call 61; refine HK.out.mono ?_; rintro e w2 ⟨rfl, rfl⟩))
  go_ret
  exact ⟨rfl, rfl⟩
theorem tgamma_u (o : Nat → Prop) (g j : Nat) (l : List Bool) (E : Int) (w : World) (h : Tr o w g l j E) :
    Calls Tryd.prog 101 #[.pointer (some ⟨g, 0, none⟩)] w fun e w' => e = .returned (.int .i64 (gaV l j E : Nat)) ∧ (∃ j2, Tr o w' g l j2 (gaE l j E) ∧ (gaE l j E = 0 → j2 = j + (gamF (l.drop j)).2.2)) ∧ Upd (fun b => b = g) w w' := by
  by_cases hE : E = 0
  · subst hE
    unfold gaV gaE
    rw [if_pos rfl, if_pos rfl]
    exact tgamma_any o g j l w h
  · unfold gaV gaE
    rw [if_neg hE, if_neg hE]
    refine (tgamma_no o g j l E w h hE).mono ?_
    rintro e w' ⟨rfl, rfl⟩
    exact ⟨rfl, ⟨j, h, fun h9 => absurd h9 hE⟩, Upd.refl _ _⟩
theorem gamF_no (D : List Bool) (h : (gamF D).2.1 ≠ 0) : (gamF D).1 = 0 := by
  unfold gamF at h ⊢
  by_cases h1 : (zerF D 0).2 ≠ 0
  · rw [if_pos h1]
  · rw [if_neg h1] at h ⊢
    by_cases h2 : D.length < 2 * (zerF D 0).1 + 1
    · rw [if_pos h2]
    · rw [if_neg h2] at h; exact absurd rfl h
theorem gaV_le (l : List Bool) (j : Nat) (E : Int) : gaV l j E < 2097152 := by
  unfold gaV
  split
  · by_cases h : (gamF (l.drop j)).2.1 = 0
    · exact (gamF_ok _ h).2
    · rw [gamF_no _ h]; decide
  · decide
theorem ugV_le (l : List Bool) (j : Nat) (E : Int) : ugV l j E ≤ 1 := by
  unfold ugV
  split
  · unfold getV
    split
    · decide
    · have := valB_lt ((l.drop j).take 1)
      have h2 : (2 : Nat) ^ ((l.drop j).take 1).length ≤ 2 ^ 1 := Nat.pow_le_pow_right (by decide) (by rw [List.length_take]; omega)
      omega
  · decide
/-- One more value of a group: what the tape says is what the plain law says. -/
theorem val_same (b d : Nat) (l : List Bool) (i j j2 v : Nat) (E2 : Int) (P : List Int × Int × Nat) (hd : d ≠ 0) (hdm : d ≤ mostB b) (_ : i ≤ l.length) (hj : P.2.1 = 0 → j = i + P.2.2 ∧ j ≤ l.length)
    (hesc : (escB b = true ∧ d = mostB b ∧ v + 1 = mostB b + gaV l (ugI l j P.2.1) (ugE l j P.2.1) ∧ E2 = gaE l (ugI l j P.2.1) (ugE l j P.2.1) ∧ (E2 = 0 → j2 = ugI l j P.2.1 + (gamF (l.drop (ugI l j P.2.1))).2.2)) ∨ (¬ (escB b = true ∧ d = mostB b) ∧ v = d ∧ E2 = ugE l j P.2.1 ∧ j2 = ugI l j P.2.1)) :
    (valS b (l.drop i) P d).2.1 = (if 1023 < v then failE E2 6 else E2) ∧ ((if 1023 < v then failE E2 6 else E2) = 0 → (valS b (l.drop i) P d).1 = P.1 ++ [if ugV l j P.2.1 = 1 then -(v : Int) else (v : Int)] ∧ j2 = i + (valS b (l.drop i) P d).2.2) := by
  have hm := mostB_le b
  by_cases hE : P.2.1 = 0
  · obtain ⟨hj1, hjl⟩ := hj hE
    have hs : valS b (l.drop i) P d = if (valF b d (l.drop j)).2.1 ≠ 0 then (P.1, (valF b d (l.drop j)).2.1, P.2.2) else (P.1 ++ [(valF b d (l.drop j)).1], 0, P.2.2 + (valF b d (l.drop j)).2.2) := by
      unfold valS; rw [if_neg (by simp [hE]), List.drop_drop, ← hj1]
    have hv : valF b d (l.drop j) = if l.length - j = 0 then ((0 : Int), (3 : Int), (0 : Nat)) else if (escB b && decide (d = mostB b)) = true then
        if (gamF (l.drop (j + 1))).2.1 ≠ 0 then (0, (gamF (l.drop (j + 1))).2.1, 0) else if 1023 < mostB b + (gamF (l.drop (j + 1))).1 - 1 then (0, 6, 0)
        else ((if nth false l j = true then -1 else 1) * ((mostB b + (gamF (l.drop (j + 1))).1 - 1 : Nat) : Int), 0, 1 + (gamF (l.drop (j + 1))).2.2)
      else ((if nth false l j = true then -1 else 1) * (d : Int), 0, 1) := by
      unfold valF; rw [if_neg hd, List.length_drop, nth_drop, List.drop_drop]; rfl
    rw [hE] at hesc ⊢
    by_cases hsh : l.length - j = 0
    · have e1 : ugE l j 0 = 3 := by unfold ugE getE; rw [if_pos rfl, if_pos (by omega)]
      have e2 : ugI l j 0 = j := by unfold ugI getI; rw [if_pos rfl, if_pos (by omega)]
      have e3 : gaE l j 3 = 3 := by unfold gaE; rw [if_neg (by decide)]
      rw [e1, e2] at hesc
      have hE2 : E2 = 3 := by rcases hesc with ⟨_, _, _, h, _⟩ | ⟨_, _, h, _⟩ <;> simp_all
      subst hE2
      rw [hs, hv, if_pos hsh, if_pos (by simp)]
      have ef : (if 1023 < v then failE 3 6 else (3 : Int)) = 3 := by split <;> rfl
      rw [ef]
      exact ⟨rfl, fun h => by cases h⟩
    · have e1 : ugE l j 0 = 0 := by unfold ugE getE; rw [if_pos rfl, if_neg (by omega)]
      have e2 : ugI l j 0 = j + 1 := by unfold ugI getI; rw [if_pos rfl, if_neg (by omega)]
      have e3 : ugV l j 0 = (nth false l j).toNat := by
        unfold ugV getV; rw [if_pos rfl, if_neg (by omega), drop_nth false l j (by omega)]; simp [valB]
      rw [e1, e2] at hesc
      rw [e3]
      rw [hs, hv, if_neg hsh]
      rcases hesc with ⟨h1, h2, h3, h4, h5⟩ | ⟨h1, h2, h3, h4⟩
      · have ec : (escB b && decide (d = mostB b)) = true := by rw [h1, decide_eq_true h2]; rfl
        rw [if_pos ec]
        have g1 : gaV l (j + 1) 0 = (gamF (l.drop (j + 1))).1 := by unfold gaV; rw [if_pos rfl]
        have g2 : gaE l (j + 1) 0 = (gamF (l.drop (j + 1))).2.1 := by unfold gaE; rw [if_pos rfl]
        rw [g1] at h3
        rw [g2] at h4
        by_cases hg : (gamF (l.drop (j + 1))).2.1 ≠ 0
        · have hv31 : ¬ 1023 < v := by rw [gamF_no _ hg] at h3; omega
          rw [if_pos hg, if_neg hv31, if_pos hg, h4]
          exact ⟨rfl, fun h => absurd h hg⟩
        · rw [if_neg hg]
          have hE2 : E2 = 0 := by rw [h4]; simpa using hg
          subst hE2
          have hvv : mostB b + (gamF (l.drop (j + 1))).1 - 1 = v := by omega
          rw [hvv]
          by_cases h1023 : 1023 < v
          · rw [if_pos h1023, if_pos h1023, if_pos (by simp)]
            exact ⟨rfl, fun h => by cases h⟩
          · rw [if_neg h1023, if_neg h1023, if_neg (by simp)]
            refine ⟨rfl, fun _ => ⟨?_, ?_⟩⟩
            · show P.1 ++ [_] = _
              congr 2
              cases nth false l j
              · rw [if_neg (by simp)]; simp
              · rw [if_pos rfl]; simp
            · rw [h5 rfl]
              show j + 1 + _ = i + (P.2.2 + (1 + _))
              omega
      · have ec : (escB b && decide (d = mostB b)) ≠ true := fun h => by
          rw [Bool.and_eq_true] at h
          exact h1 ⟨h.1, of_decide_eq_true h.2⟩
        subst h2 h3 h4
        rw [if_neg ec, if_neg (by simp), if_neg (show ¬ 1023 < v by omega)]
        refine ⟨rfl, fun _ => ⟨?_, ?_⟩⟩
        · show P.1 ++ [_] = _
          congr 2
          cases nth false l j
          · rw [if_neg (by simp)]; simp
          · rw [if_pos rfl]; simp
        · show j + 1 = i + (P.2.2 + 1)
          omega
  · have e1 : ugE l j P.2.1 = P.2.1 := by unfold ugE; rw [if_neg hE]
    have e2 : gaE l (ugI l j P.2.1) P.2.1 = P.2.1 := by unfold gaE; rw [if_neg hE]
    rw [e1, e2] at hesc
    have hE2 : E2 = P.2.1 := by rcases hesc with ⟨_, _, _, h, _⟩ | ⟨_, _, h, _⟩ <;> exact h
    have ef : (if 1023 < v then failE E2 6 else E2) = P.2.1 := by
      rw [hE2]; split
      · unfold failE; rw [if_neg hE]
      · rfl
    have hs : valS b (l.drop i) P d = P := by unfold valS; rw [if_pos hE]
    rw [ef, hs]
    exact ⟨rfl, fun h => absurd h hE⟩
end Go.Proofs.YtciknejchglmoaaDoor
