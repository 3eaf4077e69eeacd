/- The reference's books: group: what it returns, and where the tape is then. · The document's tape of bits: Word: what it returns, for a complete code, and where the tape is then. · The reference's books: Take, Read: what each call returns, and where the tape is then. -/
import Derived.Test.YtciknejchglmoaaDoorKm
import Derived.Test.YtciknejchglmoaaDoorKh
import Derived.Test.YtciknejchglmoaaDoorKk
namespace Go.Proofs.YtciknejchglmoaaDoor
open Go.RowKit

/-- The tape behind something: at its end, if there is no error. -/
def AftT (o : Nat → Prop) (w' : World) (g i : Nat) (l : List Bool) (E : Int) (n : Nat) : Prop := ∃ j, Tr o w' g l j E ∧ (E = 0 → j = i + n)
theorem digN_zero (m : Nat) : ∀ k, ∀ d ∈ digN m k 0, d = 0
  | 0, _, h => by cases h
  | k + 1, d, h => by
    rcases List.mem_append.1 (show d ∈ digN m k (0 / (m + 1)) ++ [0 % (m + 1)] from h) with h | h
    · rw [Nat.zero_div] at h; exact digN_zero m k d h
    · rw [List.mem_singleton.1 h, Nat.zero_mod]
set_option maxHeartbeats 8000000 in
set_option maxRecDepth 100000 in
theorem rgroup_any (o : Nat → Prop) (g i b s : Nat) (A1 : Option Addr) (n1 c1 : Nat) (A2 : Option Addr) (n2 c2 : Nat) (l : List Bool) (E0 : Int) (w : World) (h : Tr o w g l i E0) (ho : ∀ x, o x → x < w.heap.size) (hE0 : E0 = 0 ∨ s = 0) (hsb : s ≤ 256) :
    Calls Tryd.prog 79 #[.agg (bookC b A1 n1 c1 A2 n2 c2), .pointer (some ⟨g, 0, none⟩), .int .i64 (s : Int)] w
      fun e w' => ∃ v L, e = .returned v ∧ OwnI 3 .i64 w.heap.size w' v L ∧ L.length = dimB b ∧
        (E0 = 0 → AftT o w' g i l (valP b (l.drop i) (digN (mostB b) (dimB b) s)).2.1 (valP b (l.drop i) (digN (mostB b) (dimB b) s)).2.2 ∧ ((valP b (l.drop i) (digN (mostB b) (dimB b) s)).2.1 = 0 → L = (valP b (l.drop i) (digN (mostB b) (dimB b) s)).1)) ∧
        (E0 ≠ 0 → Tr o w' g l i E0) ∧ Upd (fun x => x = g) w w' := by
  have hbX := below_alloc (Below.refl w.heap.size w) (.cells (bookC b A1 n1 c1 A2 n2 c2) 74)
  unfold bookC at hbX ⊢
  obtain ⟨MM, hMM⟩ : ∃ MM, mostB b = MM := ⟨_, rfl⟩
  obtain ⟨EE, hEE⟩ : ∃ EE, escB b = EE := ⟨_, rfl⟩
  rw [hMM, hEE] at hbX ⊢
  have HMM := Lib.hid hMM
  have HEE := Lib.hid hEE
  have hd := dimB_pos b
  have hm : MM ≤ 31 := by rw [← hMM]; exact mostB_le b
  have HDL := Lib.hid (digN_length MM (dimB b) s)
  have HDM := Lib.hid (digN_le MM (dimB b) s)
  obtain ⟨DS, hDS⟩ : ∃ DS, digN MM (dimB b) s = DS := ⟨_, rfl⟩
  rw [hDS] at HDL HDM ⊢
  have HDS := Lib.hid hDS
  have HB := Lib.hid hbX
  have HH := Lib.hid (h.below hbX)
  have hg := h.lt
  have hil := h.le
  obtain ⟨g3, hg3⟩ : ∃ g3, w.heap.size = g3 := ⟨_, rfl⟩
  have B3 : Blk (w.alloc (.cells #[.int .i64 (dimB b), .int .i64 (MM : Nat), .int .i64 (fallB b), .bool EE, .slice A1 n1 c1, .slice A2 n2 c2] 74)) g3 #[.int .i64 (dimB b), .int .i64 (MM : Nat), .int .i64 (fallB b), .bool EE, .slice A1 n1 c1, .slice A2 n2 c2] 74 := by rw [← hg3]; exact heap_alloc_new w _
  have HO := Lib.hid (show ∀ x, o x → x < g3 from fun x hx => by have := ho x hx; omega)
  have hg3g : g < g3 := by omega
  have hmk := make_row (P := Tryd.prog) 25 3 .i64 8 Tryd.underlying25 infoI (by decide) (dimB b) (by omega)
  have hdw : IntKind.i64.wrap ((dimB b : Int) - 1) = (dimB b : Int) - 1 := IntWalk.i64_in _ (by omega)
  have hd0 : (0 : Int) ≤ (dimB b : Int) := by omega
  have HZ0 := Lib.hid hE0
  have HIL := Lib.hid hil
  have HB3 := Lib.hid B3
  obtain ⟨gr, hgr⟩ : ∃ gr, g3 + 1 = gr := ⟨_, rfl⟩
  obtain ⟨W0, hW0⟩ : ∃ W0, w.alloc (.cells #[.int .i64 (dimB b), .int .i64 (MM : Nat), .int .i64 (fallB b), .bool EE, .slice A1 n1 c1, .slice A2 n2 c2] 74) = W0 := ⟨_, rfl⟩
  have hz0 : W0.heap.size = gr := by rw [← hW0, World.size_alloc, hg3, hgr]
  rw [hW0] at B3 HB HH HB3
  have k30 := B3.cell 0 rfl
  have hO0 := own_made W0 3 .i64 (dimB b) (by omega)
  have hbY := below_alloc (Below.refl W0.heap.size W0) (.cells (madeCells #[.int .i64 0] (dimB b)) 3)
  have B4 := B3.below hbY
  have k40 := B4.cell 0 rfl
  have HU1 := Lib.hid (show Upd (fun x => x = g) w (W0.alloc (.cells (madeCells #[.int .i64 0] (dimB b)) 3)) from Upd.of_below (below2 HB.out hbY) _)
  have HT1 := Lib.hid (HH.out.below hbY)
  have HB4 := Lib.hid B4
  have HN := Lib.hid (show g < g3 ∧ g3 < gr ∧ gr < (W0.alloc (.cells (madeCells #[.int .i64 0] (dimB b)) 3)).heap.size ∧ w.heap.size = g3 from ⟨hg3g, by omega, by rw [World.size_alloc]; omega, hg3⟩)
  obtain ⟨W1, hW1⟩ : ∃ W1, W0.alloc (.cells (madeCells #[.int .i64 0] (dimB b)) 3) = W1 := ⟨_, rfl⟩
  rw [hz0, hW1] at hO0
  rw [hW1] at k40 HU1 HT1 HB4 HN
  have HOO := Lib.hid hO0
  have HDP := Lib.hid hd
  clear hMM hEE hDS h ho hE0 hil hbX hbY B3 B4 hO0 HB HH HB3
  go_enter Tryd.func79, Tryd.ntmps79
  go_wp2
  have hO0 := HOO.out
  clear k30 k40 hmk hW0 hW1 hz0 hgr hg3
  go_loopw [2, 8] (fun sv iv wr => ∃ (j x : Nat) (z : Int) (tl : List Nat), iv = .int .i64 z ∧ z = (dimB b : Int) - 1 - (j : Int) ∧ j ≤ dimB b ∧ sv = .int .i64 (x : Int) ∧ x ≤ 256 ∧ Hid (DS = digN (MM) (dimB b - j) x ++ tl ∧ tl.length = j) ∧ Hid (OwnI 3 .i64 gr wr (.slice (some ⟨gr, 0, none⟩) (dimB b) (dimB b)) (List.replicate (dimB b - j) 0 ++ castN tl)) ∧ Hid (Upd (fun x => x = gr) W1 wr)) (fun _ iv _ => (intOf iv + 1).toNat)
  case atStart => exact ⟨0, s, _, [], rfl, by omega, Nat.zero_le _, rfl, by omega, Lib.hid ⟨by rw [HDS.out.symm]; simp, rfl⟩, Lib.hid (by simpa [castN] using hO0), Lib.hid (Upd.refl _ _)⟩
  case round =>
    clear hO0
    obtain ⟨j, x, z, tl, rfl, hz, hj, rfl, hx, hT, hO, hU⟩ := hrel
    have B3 := HB4.out.keep (hU.out.keep (ok := fun x => x ≠ gr) fun _ h => h) (by have := HN.out; omega)
    have k31 := B3.cell 1 rfl
    have k30 := B3.cell 0 rfl
    by_cases hlt : j < dimB b
    · obtain ⟨q, hq⟩ : ∃ q : Nat, dimB b - 1 - j = q := ⟨_, rfl⟩
      obtain rfl : z = (q : Int) := by omega
      have hqd : (q : Int) < (dimB b : Int) := by omega
      have hge : decide ((0 : Int) ≤ (q : Int)) = true := decide_eq_true (by omega)
      have hge2 : (0 : Int) ≤ (q : Int) := by omega
      obtain ⟨_, hfr⟩ := hO.out.at_ q (by rw [List.length_append, List.length_replicate, castN_length, hT.out.2]; omega)
      obtain ⟨hcq, _⟩ := hO.out.at_ q (by rw [List.length_append, List.length_replicate, castN_length, hT.out.2]; omega)
      obtain ⟨P, hP⟩ : ∃ P, MM + 1 = P := ⟨_, rfl⟩
      have hwP : IntKind.i64.wrap ((MM : Int) + 1) = (P : Int) := by rw [← hP, Int.natCast_succ]; exact IntWalk.i64_in _ (by omega)
      have hPn : ¬ P = 0 := by omega
      have hP0 : ((P : Int) == 0) = false := by simp [hPn]
      have hmq : x % P < P := Nat.mod_lt _ (by omega)
      have hxq : x / P ≤ x := Nat.div_le_self _ _
      have HTT := Lib.hid (show DS = digN (MM) (dimB b - (j + 1)) (x / P) ++ ((x % P) :: tl) by
        rw [hT.out.1, show dimB b - j = (dimB b - (j + 1)) + 1 by omega]
        show (digN (MM) (dimB b - (j + 1)) (x / (MM + 1)) ++ [x % (MM + 1)]) ++ tl = _
        rw [hP]; simp)
      have hrr0 : (x : Int).tmod (P : Int) = ((x % P : Nat) : Int) := by rw [Int.tmod_eq_emod_of_nonneg (by omega), ← Int.natCast_emod]
      have hmm : ((x : Int) % (P : Int)) = ((x % P : Nat) : Int) := by rw [← Int.natCast_emod]
      have hqq : ((x : Int).tdiv (P : Int)) = ((x / P : Nat) : Int) := by rw [Int.tdiv_eq_ediv_of_nonneg (by omega), ← Int.natCast_ediv]
      generalize x % P = xr at hmq HTT hrr0 hmm
      generalize x / P = xq at hxq HTT hqq
      have hrr : IntKind.i64.wrap ((x : Int).tmod (P : Int)) = (xr : Int) := by rw [hrr0]; exact IntWalk.i64_in _ (by omega)
      have hwq : IntKind.i64.wrap (xq : Int) = (xq : Int) := IntWalk.i64_in _ (by omega)
      have hwr : IntKind.i64.wrap (xr : Int) = (xr : Int) := IntWalk.i64_in _ (by omega)
      have hw1 : IntKind.i64.wrap ((q : Int) - 1) = (q : Int) - 1 := IntWalk.i64_in _ (by omega)
      obtain ⟨hset, hgs⟩ := hO.out.set q (xr : Int)
      have HST := Lib.hid (show OwnI 3 .i64 gr (wr.setCell ⟨gr, q, none⟩ (.int .i64 (xr : Int))) (.slice (some ⟨gr, 0, none⟩) (dimB b) (dimB b)) (List.replicate (dimB b - (j + 1)) 0 ++ castN (xr :: tl)) by
        have e : List.replicate (dimB b - j) (0 : Int) ++ castN tl = List.replicate (dimB b - (j + 1)) 0 ++ (0 :: castN tl) := by
          rw [show dimB b - j = (dimB b - (j + 1)) + 1 by omega, List.replicate_succ', List.append_assoc]; rfl
        rw [e, set_midK 0 _ _ _ _ (by rw [List.length_replicate]; omega) (by simp)] at hset
        rw [show castN (xr :: tl) = [(xr : Int)] ++ castN tl from rfl, ← List.append_assoc]
        exact hset)
      have HGS := Lib.hid (hU.out.trans (Upd.of_grown (o := fun x => x = gr) hgs (fun r e => by cases e; rfl)) fun _ _ h => h)
      have HZ := Lib.hid (show (q : Int) - 1 = (dimB b : Int) - 1 - ((j + 1 : Nat) : Int) by omega)
      have n3r : g3 ≠ gr := by have := HN.out; omega
      have hj1 : j + 1 ≤ dimB b := hlt
      clear hset hgs hz hq hP hlt hPn
      go_wp2
      go_roundw
      case rel => exact ⟨j + 1, xq, _, xr :: tl, rfl, HZ.out, by omega, rfl, by omega, Lib.hid ⟨HTT.out, by rw [List.length_cons, hT.out.2]⟩, HST, HGS⟩
      case measure => simp [intOf] <;> omega
    · obtain rfl : j = dimB b := by omega
      have hz0 : z = -1 := by omega
      subst hz0
      have hTL : tl = DS := by
        have h9 := hT.out.1
        rw [Nat.sub_self] at h9
        exact h9.symm
      subst hTL
      rw [Nat.sub_self] at hO
      have HO2 := Lib.hid (show OwnI 3 .i64 gr wr (.slice (some ⟨gr, 0, none⟩) (dimB b) (dimB b)) (castN tl) from hO.out)
      have HRW := Lib.hid (show Tr o wr g l i E0 from HT1.out.upd hU.out (fun x hx h9 e => by have := HO.out x h9; have := HN.out; omega))
      have HU2 := Lib.hid (hU.out)
      have HB5 := Lib.hid B3
      clear hO hU B3 k30 k31 hlt hz hx hT
      obtain ⟨W2, hW2⟩ : ∃ W2, wr = W2 := ⟨_, rfl⟩
      simp only [hW2] at HO2 HRW HU2 HB5 ⊢
      clear hW2
      go_wp2_with fail
      go_loopw [9, 10, 11, 37] (fun nv dv sv iv wr => ∃ (k j : Nat) (E : Int) (st : List Int), iv = .int .i64 (k : Int) ∧ k ≤ dimB b ∧ Hid (OwnI 3 .i64 gr wr (.slice (some ⟨gr, 0, none⟩) (dimB b) (dimB b)) (st ++ (castN tl).drop k)) ∧ Hid (st.length = k) ∧ Hid (Tr o wr g l j E) ∧ Hid ((E0 = 0 ∧ (valP b (l.drop i) (tl.take k)).2.1 = E ∧ (E = 0 → st = (valP b (l.drop i) (tl.take k)).1 ∧ j = i + (valP b (l.drop i) (tl.take k)).2.2)) ∨ (E0 ≠ 0 ∧ E = E0 ∧ j = i)) ∧ Hid (Upd (fun x => x = g ∨ x = gr) W2 wr)) (fun _ _ _ iv _ => dimB b - (intOf iv).toNat)
      case atStart =>
        refine ⟨0, i, E0, [], rfl, Nat.zero_le _, Lib.hid (by simpa using HO2.out), Lib.hid rfl, HRW, Lib.hid ?_, Lib.hid (Upd.refl _ _)⟩
        by_cases h9 : E0 = 0
        · exact .inl ⟨h9, h9.symm, fun _ => ⟨rfl, rfl⟩⟩
        · exact .inr ⟨h9, rfl, rfl⟩
      case round =>
        clear HO2 HRW
        obtain ⟨k, j, E, st, rfl, hk, hO, hL, hT, hI, hU⟩ := hrel
        have B5 := HB5.out.keep (hU.out.keep (ok := fun x => x ≠ g ∧ x ≠ gr) fun _ h h2 => by rcases h2 with h2 | h2; exact h.1 h2; exact h.2 h2) (by have := HN.out; omega)
        by_cases hlt : k < dimB b
        · have hkl : k < tl.length := by rw [HDL.out]; exact hlt
          have HKL := Lib.hid hkl
          have hki : (k : Int) < (dimB b : Int) := by omega
          have hwk : IntKind.i64.wrap ((k : Int) + 1) = (k : Int) + 1 := IntWalk.i64_in _ (by omega)
          have hlen : k < (st ++ (castN tl).drop k).length := by rw [List.length_append, List.length_drop, castN_length, hL.out]; omega
          have HLK := Lib.hid hlen
          obtain ⟨hck, hfk⟩ := hO.out.at_ k hlen
          have hnth : nth 0 (st ++ (castN tl).drop k) k = ((nth 0 tl k : Nat) : Int) := by
            rw [nth_append_right 0 _ _ _ (by rw [hL.out]; exact Nat.le_refl _), hL.out, Nat.sub_self, nth_drop, Nat.add_zero, castN_nth _ _ hkl]
          rw [hnth] at hck
          have hdm : nth 0 tl k ≤ MM := HDM.out _ (nth_mem 0 tl k hkl)
          have HVN := Lib.hid (show valP b (l.drop i) (tl.take (k + 1)) = valS b (l.drop i) (valP b (l.drop i) (tl.take k)) (nth 0 tl k) by rw [take_succ_nth 0 tl k hkl, valP_snoc])
          have HCD := Lib.hid (show (castN tl).drop k = ((nth 0 tl k : Nat) : Int) :: (castN tl).drop (k + 1) by rw [drop_nth 0 (castN tl) k (by rw [castN_length]; exact hkl), castN_nth _ _ hkl])
          have HZD := Lib.hid (show E0 ≠ 0 → nth 0 tl k = 0 from fun h9 => by
            have hs0 := HZ0.out.resolve_left h9
            have h8 := nth_mem 0 tl k hkl
            have h7 : tl = digN MM (dimB b) s := HDS.out.symm
            rw [h7, hs0] at h8
            rw [h7, hs0]
            exact digN_zero MM (dimB b) _ h8)
          obtain ⟨P, hP⟩ : ∃ P, valP b (l.drop i) (tl.take k) = P := ⟨_, rfl⟩
          rw [hP] at hI HVN
          have HOK := Lib.hid hO.out
          have hgr := HN.out
          generalize nth 0 tl k = d at hck hdm HVN HCD HZD
          clear hnth hlen hP
          by_cases hd9 : d = 0
          · have hdb : ((d : Int) == 0) = true := by simp [hd9]
            have HD0 := Lib.hid hd9
            clear hd9
            go_wp2
            go_roundw
            case rel =>
              refine ⟨k + 1, j, E, st ++ [0], by go_num, hlt, Lib.hid ?_, Lib.hid (by rw [List.length_append, hL.out]; rfl), hT, Lib.hid ?_, hU⟩
              · have h9 := hO.out
                rw [HCD.out, HD0.out] at h9
                rw [List.append_assoc]
                exact h9
              · rcases hI.out with ⟨h1, h2, h3⟩ | h1
                · refine .inl ⟨h1, ?_⟩
                  rw [HVN.out, HD0.out]
                  by_cases hE : P.2.1 = 0
                  · have hv : valF b 0 ((l.drop i).drop P.2.2) = (0, 0, 0) := by unfold valF; rw [if_pos rfl]
                    unfold valS
                    rw [if_neg (by simp [hE]), hv, if_neg (by simp)]
                    refine ⟨by rw [← h2, hE], fun h9 => ?_⟩
                    obtain ⟨h5, h6⟩ := h3 h9
                    exact ⟨by rw [h5], h6⟩
                  · unfold valS
                    rw [if_pos hE]
                    exact ⟨h2, fun h9 => absurd (h2.trans h9) hE⟩
                · exact .inr h1
            case measure => simp [intOf]; omega
          · have hdb : ((d : Int) == 0) = false := by simp [hd9]
            have hI2 : E0 = 0 ∧ P.2.1 = E ∧ (E = 0 → st = P.1 ∧ j = i + P.2.2) := by
              rcases hI.out with h1 | ⟨h1, _⟩
              · exact h1
              · exact absurd (HZD.out h1) hd9
            have HE0 := Lib.hid hI2.1
            obtain ⟨_, hPE, hPS⟩ := hI2
            subst hPE
            have HPS := Lib.hid hPS
            have HGT := Lib.hid (tget_u o g j l P.2.1 wr hT.out)
            have hjl := hT.out.le
            have HVA := Lib.hid (fun j2 v E2 => val_same b d l i j j2 v E2 P hd9 (by rw [HMM.out]; exact hdm) HIL.out (fun h9 => ⟨(hPS h9).2, hjl⟩))
            have HEZX := Lib.hid (show ugE l j P.2.1 = 0 → P.2.1 = 0 from fun h9 => by
              unfold ugE at h9; split at h9
              · assumption
              · exact h9)
            have HS01 := Lib.hid (show ugV l j P.2.1 = 1 ∨ ugV l j P.2.1 = 0 by have := ugV_le l j P.2.1; omega)
            rw [HMM.out, HEE.out] at HVA
            have HGA0 := Lib.hid (fun W (hh : Tr o W g l (ugI l j P.2.1) (ugE l j P.2.1)) => tgamma_u o g (ugI l j P.2.1) l (ugE l j P.2.1) W hh)
            have hgl := gaV_le l (ugI l j P.2.1) (ugE l j P.2.1)
            have HGZ := Lib.hid (show gaE l (ugI l j P.2.1) (ugE l j P.2.1) = 0 → ugE l j P.2.1 = 0 from fun h9 => by
              unfold gaE at h9; split at h9
              · assumption
              · exact h9)
            generalize gaV l (ugI l j P.2.1) (ugE l j P.2.1) = gm at HVA HGA0 hgl
            generalize gaE l (ugI l j P.2.1) (ugE l j P.2.1) = E2 at HVA HGA0 HGZ
            generalize ugV l j P.2.1 = s1 at HGT HVA HS01
            generalize ugE l j P.2.1 = E1 at HGT HVA HEZX HGA0 HGZ
            generalize ugI l j P.2.1 = j1 at HGT HVA HGA0
            clear hI hPS
            have hd31 : ¬ (1023 : Int) < (d : Int) := by omega
            have hdn31 : ¬ 1023 < d := by omega
            have HGA := HGA0
            clear HGA0
            by_cases hesc : EE = true ∧ d = MM
            · obtain ⟨rfl, rfl⟩ := hesc
              obtain ⟨v, hv⟩ : ∃ v : Nat, d - 1 + gm = v := ⟨_, rfl⟩
              have hw1 : IntKind.i64.wrap ((d : Int) - 1) = (d : Int) - 1 := IntWalk.i64_in _ (by omega)
              have hw2 : IntKind.i64.wrap ((d : Int) - 1 + (gm : Int)) = (v : Int) := by rw [IntWalk.i64_in _ (by omega)]; omega
              have hw3 : IntKind.i64.wrap (-(v : Int)) = -(v : Int) := IntWalk.i64_in _ (by omega)
              have HVSE := Lib.hid (show ∀ j2 E2', E2' = E2 → (E2 = 0 → j2 = j1 + (gamF (l.drop j1)).2.2) → _ from fun j2 E2' h9 h8 => by subst h9; exact HVA.out j2 v E2' (.inl ⟨rfl, rfl, by omega, rfl, h8⟩))
              have HEZ := Lib.hid (show E2 = 0 → P.2.1 = 0 from fun h9 => HEZX.out (HGZ.out h9))
              clear hd31 hdn31
              have hqe : ((d : Int) == (d : Int)) = true := by simp
              rcases HS01.out with hs1 | hs1
              · have HS1 := Lib.hid hs1
                have hsb : ((s1 : Int) == 1) = true := by simp [hs1]
                go_upto_region 13 with (go_at_call 99; refine HGT.out.mono ?_; rintro e w3 ⟨rfl, hT3, hu3⟩; have HO3 := Lib.hid (ownI_keep HOK.out (hu3.keep (ok := fun x => x ≠ g) fun _ h => h) (fun x e => by have h9 : gr = x := Option.some.inj e; omega)); have B6 := B5.keep (hu3.keep (ok := fun x => x ≠ g) fun _ h => h) (by omega); have k31 := B6.cell 1 rfl; have k33 := B6.cell 3 rfl; have HB6 := Lib.hid B6; obtain ⟨q3, f3⟩ := HO3.out.at_ k HLK.out; have HT3 := Lib.hid hT3; have HU3 := Lib.hid hu3; clear hT3 hu3 B6)
                have hdd := (Below.refl w3.heap.size w3).drew
                clear hs1 k31 k33 q3 f3
                refine wp_region_G 6 (fun W' => W'.cell? ⟨g3, 1, none⟩ = some (.int .i64 (d : Nat))) (by kernel_rfl) ((HB6.out.below hdd).cell 1 rfl) (fun hHeld => ?_)
                refine wpAnyG_takeL (i := 0) (.pointer (some ⟨g3, 1, none⟩)) [6] rfl (by kernel_rfl) (fun _ _ _ h => h) hHeld (by rfl) ?_ ?_
                · (intro W' hSw; (try dsimp only at hSw); go_simp)
                try simp only [Act.put, List.setIfInBounds_toArray, List.set_cons_zero, List.set_cons_succ]
                refine wpAnyG_takeL (i := 1) (.int .i64 (d : Nat)) [6] rfl (by kernel_rfl) (fun _ _ _ h => h) hHeld (by rfl) ?_ ?_
                · (intro W' hSw; (try dsimp only at hSw); go_simp)
                try simp only [Act.put, List.setIfInBounds_toArray, List.set_cons_zero, List.set_cons_succ]
                refine wpAnyG_takeL (i := 2) (.int .i64 ((d : Int) - 1)) [6] rfl (by kernel_rfl) (fun _ _ _ h => h) hHeld (by rfl) ?_ ?_
                · (intro W' hSw; (try dsimp only at hSw); go_simp)
                try simp only [Act.put, List.setIfInBounds_toArray, List.set_cons_zero, List.set_cons_succ]
                refine wpAnyG_takeL (i := 3) (.pointer (some ⟨g, 0, none⟩)) [6] rfl (by kernel_rfl) (fun _ _ _ h => h) hHeld (by rfl) ?_ ?_
                · (intro W' hSw; (try dsimp only at hSw); go_simp)
                try simp only [Act.put, List.setIfInBounds_toArray, List.set_cons_zero, List.set_cons_succ]
                clear hHeld
                refine wpAnyG_oneL (i := 4) (by kernel_rfl) rfl (fun K hK => ?_)
                (go_simp; go_at_call 101; refine (HGA.out _ (HT3.out.below hdd)).mono ?_; rintro e w4 ⟨rfl, ⟨j2, hT4, hj4⟩, hu4⟩)
                refine hK.out _ _ (fun _ => (((HB6.out.below hdd).keep (hu4.keep (ok := fun x => x ≠ g) fun _ h => h) (by omega)).cell 1 rfl)) ?_
                clear hK K
                try simp only [Act.put, List.setIfInBounds_toArray, List.set_cons_zero, List.set_cons_succ]
                refine wpAnyG_oneL (i := 5) (by kernel_rfl) rfl (fun K hK => ?_)
                go_simp
                refine hK.out _ _ (fun _ => (((HB6.out.below hdd).keep (hu4.keep (ok := fun x => x ≠ g) fun _ h => h) (by omega)).cell 1 rfl)) ?_
                clear hK K
                try simp only [Act.put, List.setIfInBounds_toArray, List.set_cons_zero, List.set_cons_succ]
                refine wpAnyG_oneL (i := 6) (by kernel_rfl) rfl (fun K hK => ?_)
                go_simp
                refine hK.out _ _ (fun h => Bool.noConfusion (show true = false from h)) ?_
                clear hK K
                refine wpAnyG_done (by kernel_rfl) ?_ _
                have HU4 := Lib.hid ((HU3.out.trans (Upd.of_below hdd (fun x => x = g)) fun _ _ h => h).trans hu4 fun _ _ h => h)
                have HO4 := Lib.hid (ownI_keep HOK.out (HU4.out.keep (ok := fun x => x ≠ g) fun _ h => h) (fun x e => by have h9 : gr = x := Option.some.inj e; omega))
                obtain ⟨q4, f4⟩ := HO4.out.at_ k HLK.out
                have HT4 := Lib.hid hT4
                have HVS := Lib.hid (HVSE.out j2 E2 rfl hj4)
                clear hT4 hj4 hu4 hdd
                by_cases hbig : 1023 < v
                · have HBIG := Lib.hid hbig
                  have hbi : (1023 : Int) < (v : Int) := by omega
                  have HEZ := Lib.hid (show failE E2 6 = 0 → P.2.1 = 0 from fun h9 => by
                    unfold failE at h9; split at h9
                    · cases h9
                    · exact absurd h9 ‹¬ E2 = 0›)
                  have HFL := Lib.hid (tfail_any o g j2 l E2 6 w4 HT4.out)
                  go_wp2_with (go_at_call 100; refine HFL.out.mono ?_; rintro e w5 ⟨rfl, hT5, hu5⟩; have HO5 := Lib.hid (ownI_keep HO4.out (hu5.keep (ok := fun x => x ≠ g) fun _ h => h) (fun x e => by have h9 : gr = x := Option.some.inj e; omega)); obtain ⟨q5, f5⟩ := HO5.out.at_ k HLK.out; have HT5 := Lib.hid hT5; have HU5 := Lib.hid (HU4.out.trans hu5 fun _ _ h => h); clear hT5 hu5)
                  rw [if_pos HBIG.out] at HVS
                  obtain ⟨hset0, hgs0⟩ := HO5.out.set k (v : Int)
                  obtain ⟨hset, hgs⟩ := hset0.set k (-(v : Int))
                  rw [List.set_set] at hset
                  have hub := (Upd.of_grown (o := fun x => x = gr) hgs0 (fun r e => by cases e; rfl)).trans (Upd.of_grown (o := fun x => x = gr) hgs (fun r e => by cases e; rfl)) fun _ _ h => h
                  go_roundw
                  case rel =>
                    refine ⟨k + 1, _, (failE E2 6), st ++ [-(v : Int)], by go_num, hlt, Lib.hid ?_, Lib.hid (by rw [List.length_append, hL.out]; rfl), Lib.hid ((HT5.out).upd hub (fun x _ h9 e => by have := HO.out x h9; omega)), Lib.hid (.inl ⟨HE0.out, ?_⟩), Lib.hid ((hU.out.trans (HU5.out.weak (o' := fun x => x = g ∨ x = gr) fun _ _ h => .inl h) fun _ _ h => h).trans (hub.weak (o' := fun x => x = g ∨ x = gr) fun _ _ h => .inr h) fun _ _ h => h)⟩
                    · rw [set_midK 0 _ _ _ _ hL.out (by rw [List.length_drop, castN_length]; have := HKL.out; omega), drop_one] at hset
                      exact hset
                    · rw [HVN.out]
                      exact ⟨HVS.out.1, fun h9 => by
                        have h8 := HVS.out.2 h9
                        rw [if_pos HS1.out] at h8
                        exact ⟨by rw [h8.1, (HPS.out (HEZ.out h9)).1], h8.2⟩⟩
                  case measure => simp [intOf]; omega
                · have HBIG := Lib.hid hbig
                  have hbi : ¬ (1023 : Int) < (v : Int) := by omega
                  go_wp2
                  rw [if_neg HBIG.out] at HVS
                  obtain ⟨hset0, hgs0⟩ := HO4.out.set k (v : Int)
                  obtain ⟨hset, hgs⟩ := hset0.set k (-(v : Int))
                  rw [List.set_set] at hset
                  have hub := (Upd.of_grown (o := fun x => x = gr) hgs0 (fun r e => by cases e; rfl)).trans (Upd.of_grown (o := fun x => x = gr) hgs (fun r e => by cases e; rfl)) fun _ _ h => h
                  go_roundw
                  case rel =>
                    refine ⟨k + 1, _, E2, st ++ [-(v : Int)], by go_num, hlt, Lib.hid ?_, Lib.hid (by rw [List.length_append, hL.out]; rfl), Lib.hid ((HT4.out).upd hub (fun x _ h9 e => by have := HO.out x h9; omega)), Lib.hid (.inl ⟨HE0.out, ?_⟩), Lib.hid ((hU.out.trans (HU4.out.weak (o' := fun x => x = g ∨ x = gr) fun _ _ h => .inl h) fun _ _ h => h).trans (hub.weak (o' := fun x => x = g ∨ x = gr) fun _ _ h => .inr h) fun _ _ h => h)⟩
                    · rw [set_midK 0 _ _ _ _ hL.out (by rw [List.length_drop, castN_length]; have := HKL.out; omega), drop_one] at hset
                      exact hset
                    · rw [HVN.out]
                      exact ⟨HVS.out.1, fun h9 => by
                        have h8 := HVS.out.2 h9
                        rw [if_pos HS1.out] at h8
                        exact ⟨by rw [h8.1, (HPS.out (HEZ.out h9)).1], h8.2⟩⟩
                  case measure => simp [intOf]; omega
              · have HS1 := Lib.hid hs1
                have hsb : ((s1 : Int) == 1) = false := by simp; omega
                go_upto_region 13 with (go_at_call 99; refine HGT.out.mono ?_; rintro e w3 ⟨rfl, hT3, hu3⟩; have HO3 := Lib.hid (ownI_keep HOK.out (hu3.keep (ok := fun x => x ≠ g) fun _ h => h) (fun x e => by have h9 : gr = x := Option.some.inj e; omega)); have B6 := B5.keep (hu3.keep (ok := fun x => x ≠ g) fun _ h => h) (by omega); have k31 := B6.cell 1 rfl; have k33 := B6.cell 3 rfl; have HB6 := Lib.hid B6; obtain ⟨q3, f3⟩ := HO3.out.at_ k HLK.out; have HT3 := Lib.hid hT3; have HU3 := Lib.hid hu3; clear hT3 hu3 B6)
                have hdd := (Below.refl w3.heap.size w3).drew
                clear hs1 k31 k33 q3 f3
                refine wp_region_G 6 (fun W' => W'.cell? ⟨g3, 1, none⟩ = some (.int .i64 (d : Nat))) (by kernel_rfl) ((HB6.out.below hdd).cell 1 rfl) (fun hHeld => ?_)
                refine wpAnyG_takeL (i := 0) (.pointer (some ⟨g3, 1, none⟩)) [6] rfl (by kernel_rfl) (fun _ _ _ h => h) hHeld (by rfl) ?_ ?_
                · (intro W' hSw; (try dsimp only at hSw); go_simp)
                try simp only [Act.put, List.setIfInBounds_toArray, List.set_cons_zero, List.set_cons_succ]
                refine wpAnyG_takeL (i := 1) (.int .i64 (d : Nat)) [6] rfl (by kernel_rfl) (fun _ _ _ h => h) hHeld (by rfl) ?_ ?_
                · (intro W' hSw; (try dsimp only at hSw); go_simp)
                try simp only [Act.put, List.setIfInBounds_toArray, List.set_cons_zero, List.set_cons_succ]
                refine wpAnyG_takeL (i := 2) (.int .i64 ((d : Int) - 1)) [6] rfl (by kernel_rfl) (fun _ _ _ h => h) hHeld (by rfl) ?_ ?_
                · (intro W' hSw; (try dsimp only at hSw); go_simp)
                try simp only [Act.put, List.setIfInBounds_toArray, List.set_cons_zero, List.set_cons_succ]
                refine wpAnyG_takeL (i := 3) (.pointer (some ⟨g, 0, none⟩)) [6] rfl (by kernel_rfl) (fun _ _ _ h => h) hHeld (by rfl) ?_ ?_
                · (intro W' hSw; (try dsimp only at hSw); go_simp)
                try simp only [Act.put, List.setIfInBounds_toArray, List.set_cons_zero, List.set_cons_succ]
                clear hHeld
                refine wpAnyG_oneL (i := 4) (by kernel_rfl) rfl (fun K hK => ?_)
                (go_simp; go_at_call 101; refine (HGA.out _ (HT3.out.below hdd)).mono ?_; rintro e w4 ⟨rfl, ⟨j2, hT4, hj4⟩, hu4⟩)
                refine hK.out _ _ (fun _ => (((HB6.out.below hdd).keep (hu4.keep (ok := fun x => x ≠ g) fun _ h => h) (by omega)).cell 1 rfl)) ?_
                clear hK K
                try simp only [Act.put, List.setIfInBounds_toArray, List.set_cons_zero, List.set_cons_succ]
                refine wpAnyG_oneL (i := 5) (by kernel_rfl) rfl (fun K hK => ?_)
                go_simp
                refine hK.out _ _ (fun _ => (((HB6.out.below hdd).keep (hu4.keep (ok := fun x => x ≠ g) fun _ h => h) (by omega)).cell 1 rfl)) ?_
                clear hK K
                try simp only [Act.put, List.setIfInBounds_toArray, List.set_cons_zero, List.set_cons_succ]
                refine wpAnyG_oneL (i := 6) (by kernel_rfl) rfl (fun K hK => ?_)
                go_simp
                refine hK.out _ _ (fun h => Bool.noConfusion (show true = false from h)) ?_
                clear hK K
                refine wpAnyG_done (by kernel_rfl) ?_ _
                have HU4 := Lib.hid ((HU3.out.trans (Upd.of_below hdd (fun x => x = g)) fun _ _ h => h).trans hu4 fun _ _ h => h)
                have HO4 := Lib.hid (ownI_keep HOK.out (HU4.out.keep (ok := fun x => x ≠ g) fun _ h => h) (fun x e => by have h9 : gr = x := Option.some.inj e; omega))
                obtain ⟨q4, f4⟩ := HO4.out.at_ k HLK.out
                have HT4 := Lib.hid hT4
                have HVS := Lib.hid (HVSE.out j2 E2 rfl hj4)
                clear hT4 hj4 hu4 hdd
                by_cases hbig : 1023 < v
                · have HBIG := Lib.hid hbig
                  have hbi : (1023 : Int) < (v : Int) := by omega
                  have HEZ := Lib.hid (show failE E2 6 = 0 → P.2.1 = 0 from fun h9 => by
                    unfold failE at h9; split at h9
                    · cases h9
                    · exact absurd h9 ‹¬ E2 = 0›)
                  have HFL := Lib.hid (tfail_any o g j2 l E2 6 w4 HT4.out)
                  go_wp2_with (go_at_call 100; refine HFL.out.mono ?_; rintro e w5 ⟨rfl, hT5, hu5⟩; have HO5 := Lib.hid (ownI_keep HO4.out (hu5.keep (ok := fun x => x ≠ g) fun _ h => h) (fun x e => by have h9 : gr = x := Option.some.inj e; omega)); obtain ⟨q5, f5⟩ := HO5.out.at_ k HLK.out; have HT5 := Lib.hid hT5; have HU5 := Lib.hid (HU4.out.trans hu5 fun _ _ h => h); clear hT5 hu5)
                  rw [if_pos HBIG.out] at HVS
                  obtain ⟨hset, hgs⟩ := HO5.out.set k (v : Int)
                  have hub := Upd.of_grown (o := fun x => x = gr) hgs (fun r e => by cases e; rfl)
                  go_roundw
                  case rel =>
                    refine ⟨k + 1, _, (failE E2 6), st ++ [(v : Int)], by go_num, hlt, Lib.hid ?_, Lib.hid (by rw [List.length_append, hL.out]; rfl), Lib.hid ((HT5.out).upd hub (fun x _ h9 e => by have := HO.out x h9; omega)), Lib.hid (.inl ⟨HE0.out, ?_⟩), Lib.hid ((hU.out.trans (HU5.out.weak (o' := fun x => x = g ∨ x = gr) fun _ _ h => .inl h) fun _ _ h => h).trans (hub.weak (o' := fun x => x = g ∨ x = gr) fun _ _ h => .inr h) fun _ _ h => h)⟩
                    · rw [set_midK 0 _ _ _ _ hL.out (by rw [List.length_drop, castN_length]; have := HKL.out; omega), drop_one] at hset
                      exact hset
                    · rw [HVN.out]
                      exact ⟨HVS.out.1, fun h9 => by
                        have h8 := HVS.out.2 h9
                        rw [if_neg (by have := HS1.out; omega)] at h8
                        exact ⟨by rw [h8.1, (HPS.out (HEZ.out h9)).1], h8.2⟩⟩
                  case measure => simp [intOf]; omega
                · have HBIG := Lib.hid hbig
                  have hbi : ¬ (1023 : Int) < (v : Int) := by omega
                  go_wp2
                  rw [if_neg HBIG.out] at HVS
                  obtain ⟨hset, hgs⟩ := HO4.out.set k (v : Int)
                  have hub := Upd.of_grown (o := fun x => x = gr) hgs (fun r e => by cases e; rfl)
                  go_roundw
                  case rel =>
                    refine ⟨k + 1, _, E2, st ++ [(v : Int)], by go_num, hlt, Lib.hid ?_, Lib.hid (by rw [List.length_append, hL.out]; rfl), Lib.hid ((HT4.out).upd hub (fun x _ h9 e => by have := HO.out x h9; omega)), Lib.hid (.inl ⟨HE0.out, ?_⟩), Lib.hid ((hU.out.trans (HU4.out.weak (o' := fun x => x = g ∨ x = gr) fun _ _ h => .inl h) fun _ _ h => h).trans (hub.weak (o' := fun x => x = g ∨ x = gr) fun _ _ h => .inr h) fun _ _ h => h)⟩
                    · rw [set_midK 0 _ _ _ _ hL.out (by rw [List.length_drop, castN_length]; have := HKL.out; omega), drop_one] at hset
                      exact hset
                    · rw [HVN.out]
                      exact ⟨HVS.out.1, fun h9 => by
                        have h8 := HVS.out.2 h9
                        rw [if_neg (by have := HS1.out; omega)] at h8
                        exact ⟨by rw [h8.1, (HPS.out (HEZ.out h9)).1], h8.2⟩⟩
                  case measure => simp [intOf]; omega
            · have hw3 : IntKind.i64.wrap (-(d : Int)) = -(d : Int) := IntWalk.i64_in _ (by omega)
              have HVS := Lib.hid (HVA.out j1 d E1 (.inr ⟨hesc, rfl, rfl, rfl⟩))
              rw [if_neg hdn31] at HVS
              have HEZ := HEZX
              by_cases hdM : d = MM
              · have hqe : ((d : Int) == (MM : Int)) = true := by simp [hdM]
                have hEf : EE = false := by
                  cases EE
                  · rfl
                  · exact absurd ⟨rfl, hdM⟩ hesc
                subst hEf
                clear hesc hdM
                rcases HS01.out with hs1 | hs1
                · have HS1 := Lib.hid hs1
                  have hsb : ((s1 : Int) == 1) = true := by simp [hs1]
                  clear hs1
                  go_wp2_with (go_at_call 99; refine HGT.out.mono ?_; rintro e w3 ⟨rfl, hT3, hu3⟩; have HO3 := Lib.hid (ownI_keep HOK.out (hu3.keep (ok := fun x => x ≠ g) fun _ h => h) (fun x e => by have h9 : gr = x := Option.some.inj e; omega)); have B6 := B5.keep (hu3.keep (ok := fun x => x ≠ g) fun _ h => h) (by omega); have k31 := B6.cell 1 rfl; have k33 := B6.cell 3 rfl; have HB6 := Lib.hid B6; obtain ⟨q3, f3⟩ := HO3.out.at_ k HLK.out; have HT3 := Lib.hid hT3; have HU3 := Lib.hid hu3; clear hT3 hu3 B6)
                  obtain ⟨hset0, hgs0⟩ := HO3.out.set k (d : Int)
                  obtain ⟨hset, hgs⟩ := hset0.set k (-(d : Int))
                  rw [List.set_set] at hset
                  have hub := (Upd.of_grown (o := fun x => x = gr) hgs0 (fun r e => by cases e; rfl)).trans (Upd.of_grown (o := fun x => x = gr) hgs (fun r e => by cases e; rfl)) fun _ _ h => h
                  go_roundw
                  case rel =>
                    refine ⟨k + 1, _, E1, st ++ [-(d : Int)], by go_num, hlt, Lib.hid ?_, Lib.hid (by rw [List.length_append, hL.out]; rfl), Lib.hid ((HT3.out).upd hub (fun x _ h9 e => by have := HO.out x h9; omega)), Lib.hid (.inl ⟨HE0.out, ?_⟩), Lib.hid ((hU.out.trans (HU3.out.weak (o' := fun x => x = g ∨ x = gr) fun _ _ h => .inl h) fun _ _ h => h).trans (hub.weak (o' := fun x => x = g ∨ x = gr) fun _ _ h => .inr h) fun _ _ h => h)⟩
                    · rw [set_midK 0 _ _ _ _ hL.out (by rw [List.length_drop, castN_length]; have := HKL.out; omega), drop_one] at hset
                      exact hset
                    · rw [HVN.out]
                      exact ⟨HVS.out.1, fun h9 => by
                        have h8 := HVS.out.2 h9
                        rw [if_pos HS1.out] at h8
                        exact ⟨by rw [h8.1, (HPS.out (HEZ.out h9)).1], h8.2⟩⟩
                  case measure => simp [intOf]; omega
                · have HS1 := Lib.hid hs1
                  have hsb : ((s1 : Int) == 1) = false := by simp; omega
                  clear hs1
                  go_wp2_with (go_at_call 99; refine HGT.out.mono ?_; rintro e w3 ⟨rfl, hT3, hu3⟩; have HO3 := Lib.hid (ownI_keep HOK.out (hu3.keep (ok := fun x => x ≠ g) fun _ h => h) (fun x e => by have h9 : gr = x := Option.some.inj e; omega)); have B6 := B5.keep (hu3.keep (ok := fun x => x ≠ g) fun _ h => h) (by omega); have k31 := B6.cell 1 rfl; have k33 := B6.cell 3 rfl; have HB6 := Lib.hid B6; obtain ⟨q3, f3⟩ := HO3.out.at_ k HLK.out; have HT3 := Lib.hid hT3; have HU3 := Lib.hid hu3; clear hT3 hu3 B6)
                  obtain ⟨hset, hgs⟩ := HO3.out.set k (d : Int)
                  have hub := Upd.of_grown (o := fun x => x = gr) hgs (fun r e => by cases e; rfl)
                  go_roundw
                  case rel =>
                    refine ⟨k + 1, _, E1, st ++ [(d : Int)], by go_num, hlt, Lib.hid ?_, Lib.hid (by rw [List.length_append, hL.out]; rfl), Lib.hid ((HT3.out).upd hub (fun x _ h9 e => by have := HO.out x h9; omega)), Lib.hid (.inl ⟨HE0.out, ?_⟩), Lib.hid ((hU.out.trans (HU3.out.weak (o' := fun x => x = g ∨ x = gr) fun _ _ h => .inl h) fun _ _ h => h).trans (hub.weak (o' := fun x => x = g ∨ x = gr) fun _ _ h => .inr h) fun _ _ h => h)⟩
                    · rw [set_midK 0 _ _ _ _ hL.out (by rw [List.length_drop, castN_length]; have := HKL.out; omega), drop_one] at hset
                      exact hset
                    · rw [HVN.out]
                      exact ⟨HVS.out.1, fun h9 => by
                        have h8 := HVS.out.2 h9
                        rw [if_neg (by have := HS1.out; omega)] at h8
                        exact ⟨by rw [h8.1, (HPS.out (HEZ.out h9)).1], h8.2⟩⟩
                  case measure => simp [intOf]; omega
              · have hqe : ((d : Int) == (MM : Int)) = false := by simp; omega
                clear hesc hdM
                rcases HS01.out with hs1 | hs1
                · have HS1 := Lib.hid hs1
                  have hsb : ((s1 : Int) == 1) = true := by simp [hs1]
                  clear hs1
                  go_wp2_with (go_at_call 99; refine HGT.out.mono ?_; rintro e w3 ⟨rfl, hT3, hu3⟩; have HO3 := Lib.hid (ownI_keep HOK.out (hu3.keep (ok := fun x => x ≠ g) fun _ h => h) (fun x e => by have h9 : gr = x := Option.some.inj e; omega)); have B6 := B5.keep (hu3.keep (ok := fun x => x ≠ g) fun _ h => h) (by omega); have k31 := B6.cell 1 rfl; have k33 := B6.cell 3 rfl; have HB6 := Lib.hid B6; obtain ⟨q3, f3⟩ := HO3.out.at_ k HLK.out; have HT3 := Lib.hid hT3; have HU3 := Lib.hid hu3; clear hT3 hu3 B6)
                  obtain ⟨hset0, hgs0⟩ := HO3.out.set k (d : Int)
                  obtain ⟨hset, hgs⟩ := hset0.set k (-(d : Int))
                  rw [List.set_set] at hset
                  have hub := (Upd.of_grown (o := fun x => x = gr) hgs0 (fun r e => by cases e; rfl)).trans (Upd.of_grown (o := fun x => x = gr) hgs (fun r e => by cases e; rfl)) fun _ _ h => h
                  go_roundw
                  case rel =>
                    refine ⟨k + 1, _, E1, st ++ [-(d : Int)], by go_num, hlt, Lib.hid ?_, Lib.hid (by rw [List.length_append, hL.out]; rfl), Lib.hid ((HT3.out).upd hub (fun x _ h9 e => by have := HO.out x h9; omega)), Lib.hid (.inl ⟨HE0.out, ?_⟩), Lib.hid ((hU.out.trans (HU3.out.weak (o' := fun x => x = g ∨ x = gr) fun _ _ h => .inl h) fun _ _ h => h).trans (hub.weak (o' := fun x => x = g ∨ x = gr) fun _ _ h => .inr h) fun _ _ h => h)⟩
                    · rw [set_midK 0 _ _ _ _ hL.out (by rw [List.length_drop, castN_length]; have := HKL.out; omega), drop_one] at hset
                      exact hset
                    · rw [HVN.out]
                      exact ⟨HVS.out.1, fun h9 => by
                        have h8 := HVS.out.2 h9
                        rw [if_pos HS1.out] at h8
                        exact ⟨by rw [h8.1, (HPS.out (HEZ.out h9)).1], h8.2⟩⟩
                  case measure => simp [intOf]; omega
                · have HS1 := Lib.hid hs1
                  have hsb : ((s1 : Int) == 1) = false := by simp; omega
                  clear hs1
                  go_wp2_with (go_at_call 99; refine HGT.out.mono ?_; rintro e w3 ⟨rfl, hT3, hu3⟩; have HO3 := Lib.hid (ownI_keep HOK.out (hu3.keep (ok := fun x => x ≠ g) fun _ h => h) (fun x e => by have h9 : gr = x := Option.some.inj e; omega)); have B6 := B5.keep (hu3.keep (ok := fun x => x ≠ g) fun _ h => h) (by omega); have k31 := B6.cell 1 rfl; have k33 := B6.cell 3 rfl; have HB6 := Lib.hid B6; obtain ⟨q3, f3⟩ := HO3.out.at_ k HLK.out; have HT3 := Lib.hid hT3; have HU3 := Lib.hid hu3; clear hT3 hu3 B6)
                  obtain ⟨hset, hgs⟩ := HO3.out.set k (d : Int)
                  have hub := Upd.of_grown (o := fun x => x = gr) hgs (fun r e => by cases e; rfl)
                  go_roundw
                  case rel =>
                    refine ⟨k + 1, _, E1, st ++ [(d : Int)], by go_num, hlt, Lib.hid ?_, Lib.hid (by rw [List.length_append, hL.out]; rfl), Lib.hid ((HT3.out).upd hub (fun x _ h9 e => by have := HO.out x h9; omega)), Lib.hid (.inl ⟨HE0.out, ?_⟩), Lib.hid ((hU.out.trans (HU3.out.weak (o' := fun x => x = g ∨ x = gr) fun _ _ h => .inl h) fun _ _ h => h).trans (hub.weak (o' := fun x => x = g ∨ x = gr) fun _ _ h => .inr h) fun _ _ h => h)⟩
                    · rw [set_midK 0 _ _ _ _ hL.out (by rw [List.length_drop, castN_length]; have := HKL.out; omega), drop_one] at hset
                      exact hset
                    · rw [HVN.out]
                      exact ⟨HVS.out.1, fun h9 => by
                        have h8 := HVS.out.2 h9
                        rw [if_neg (by have := HS1.out; omega)] at h8
                        exact ⟨by rw [h8.1, (HPS.out (HEZ.out h9)).1], h8.2⟩⟩
                  case measure => simp [intOf]; omega
        · obtain rfl : k = dimB b := by omega
          have HFIN := Lib.hid (show tl.take (dimB b) = tl from List.take_of_length_le (by rw [HDL.out]; exact Nat.le_refl _))
          have hgr := HN.out
          go_wp2
          go_ret
          have hO9 := hO.out
          rw [List.drop_of_length_le (by rw [castN_length, HDL.out]; exact Nat.le_refl _), List.append_nil] at hO9
          have hI9 := hI.out
          rw [HFIN.out] at hI9
          refine ⟨_, st, rfl, hO9.mono (by omega), hL.out, fun h9 => ?_, fun h9 => ?_, ?_⟩
          · rcases hI9 with ⟨_, h2, h3⟩ | ⟨h1, _⟩
            · rw [h2]
              exact ⟨⟨j, hT.out, fun h8 => (h3 h8).2⟩, fun h8 => (h3 h8).1⟩
            · exact absurd h9 h1
          · rcases hI9 with ⟨h1, _⟩ | ⟨_, h2, h3⟩
            · exact absurd h1 h9
            · have h4 := hT.out
              rw [h2, h3] at h4
              exact h4
          · exact HU1.out.trans ((HU2.out.weak (o' := fun x => x = g ∨ x = gr) fun _ _ h => .inr h).trans hU.out fun _ _ h => h) (fun x hx e => by rcases e with e | e; exact e; omega)
end Go.Proofs.YtciknejchglmoaaDoor

namespace Go.Proofs.YtciknejchglmoaaDoor
open Go.RowKit

/-- Some word of the first ones is longer than n, and begins with x. -/
def someK (ls : List Int) (n x k : Nat) : Bool := (List.range k).any fun s => decide (n < lenOf ls s) && (codeN ls s / 2 ^ (lenOf ls s - n) == x)
theorem someK_succ (ls : List Int) (n x k : Nat) : someK ls n x (k + 1) = (someK ls n x k || (decide (n < lenOf ls k) && (codeN ls k / 2 ^ (lenOf ls k - n) == x))) := by
  unfold someK; rw [List.range_succ, List.any_append]; simp
theorem someK_begs {ls : List Int} (hr : Right ls) (hf : filledN ls = 65536) {D : List Bool} {n : Nat} (hn : n ≤ 16) (hD : n ≤ D.length) (h : NoWord ls D n) : someK ls n (valB (D.take n)) ls.length = true := by
  obtain ⟨i, h1, h2, h3⟩ := begs hr hf hn hD h
  unfold someK
  rw [List.any_eq_true]
  exact ⟨i, List.mem_range.2 h1, by simp [h2, h3]⟩

/-- Where a word's reading is. -/
def WdI (ls : List Int) (l : List Bool) (i m x at_ : Nat) (E : Int) : Prop :=
  (E = 0 ∧ at_ = i + m ∧ x = valB ((l.drop i).take m) ∧ m ≤ 15 ∧ m ≤ (l.drop i).length ∧ NoWord ls (l.drop i) m ∧ wordR ls (l.drop i) = wordF ls (l.drop i) (16 - m) m) ∨
  (E = 3 ∧ m ≤ 16 ∧ i ≤ at_ ∧ wordR ls (l.drop i) = (0, 3, at_ - i))

set_option maxHeartbeats 4000000 in
set_option maxRecDepth 100000 in
theorem tword_any (o : Nat → Prop) (g i : Nat) (l : List Bool) (A1 A2 : Option Addr) (c1 c2 : Nat) (ls : List Int) (w : World) (h : Tr o w g l i 0) (hS : Sl (kInt .i64) (fun b => b ≠ g) w A1 c1 ls) (hC : Sl (kInt .i64) (fun b => b ≠ g) w A2 c2 (codesL ls)) (hr : Right ls) (hf : filledN ls = 65536) :
    Calls Tryd.prog 78 #[.pointer (some ⟨g, 0, none⟩), .slice A1 ls.length c1, .slice A2 ls.length c2] w
      fun e w' => e = .returned (.int .i64 ((wordR ls (l.drop i)).1 : Int)) ∧ Tr o w' g l (i + (wordR ls (l.drop i)).2.2) (wordR ls (l.drop i)).2.1 ∧ Upd (fun b => b = g) w w' := by
  have HK := Lib.hid (fun (j : Nat) (E : Int) W (h : Tr o W g l j E) => tok_any o g j l E W h)
  have HR := Lib.hid hr
  have HFD := Lib.hid hf
  have HS := Lib.hid hS
  have HC := Lib.hid hC
  have hn := hr.len
  have H0 := Lib.hid h
  have HIL := Lib.hid (show i ≤ l.length ∧ l.length ≤ 1048576 from ⟨h.le, h.bound⟩)
  clear hS hC hr hf h
  go_enter Tryd.func78, Tryd.ntmps78
  go_wp2
  go_loopw [7, 8] (fun xv nv wr => ∃ (m x at_ : Nat) (E : Int), nv = .int .i64 ((m : Int) + 1) ∧ xv = .int .i64 (x : Int) ∧ x ≤ 131072 ∧ m ≤ 16 ∧ Hid (WdI ls l i m x at_ E) ∧ Hid (Tr o wr g l at_ E) ∧ Hid (Upd (fun b => b = g) w wr)) (fun _ nv _ => 20 - (intOf nv).toNat)
  case atStart => exact ⟨0, 0, i, 0, rfl, rfl, by omega, by omega, Lib.hid (.inl ⟨rfl, rfl, rfl, by omega, Nat.zero_le _, fun m h1 h2 => by omega, rfl⟩), H0, Lib.hid (Upd.refl _ _)⟩
  case round =>
    clear H0
    obtain ⟨m, x, at_, E, rfl, rfl, hxb, hm, hI, hT, hU⟩ := hrel
    rcases hI.out with ⟨rfl, hat, hx, hm15, hmD, hNo, hrun⟩ | ⟨rfl, hm16, hia, hrun⟩
    · have hxl : x < 2 ^ m := by
        have := valB_lt ((l.drop i).take m)
        rw [← hx, List.length_take, Nat.min_eq_left hmD] at this; exact this
      have hx15 : (2 : Nat) ^ m ≤ 2 ^ 15 := Nat.pow_le_pow_right (by decide) hm15
      have h15 : (2 : Nat) ^ 15 = 32768 := by decide
      obtain ⟨N, hN⟩ : ∃ N, m + 1 = N := ⟨_, rfl⟩
      have hNi : (m : Int) + 1 = (N : Int) := by omega
      rw [hNi]
      have HG := Lib.hid (tget_any o g at_ 1 l wr hT.out (by decide))
      obtain ⟨E2, hE2⟩ : ∃ E2, getE l at_ 1 = E2 := ⟨_, rfl⟩
      obtain ⟨V1, hV1⟩ : ∃ V1, getV l at_ 1 = V1 := ⟨_, rfl⟩
      obtain ⟨at2, hat2⟩ : ∃ at2, getI l at_ 1 = at2 := ⟨_, rfl⟩
      rw [hE2, hV1, hat2] at HG
      obtain ⟨x2, hx2⟩ : ∃ x2, 2 * x + V1 = x2 := ⟨_, rfl⟩
      -- what the bit gives
      have hcase : (E2 = 0 ∧ at2 = i + N ∧ x2 = valB ((l.drop i).take N) ∧ N ≤ (l.drop i).length ∧ V1 ≤ 1) ∨ (E2 = 3 ∧ V1 = 0 ∧ at2 = at_ ∧ wordR ls (l.drop i) = (0, 3, m)) := by
        by_cases hsh : l.length < at_ + 1
        · refine .inr ⟨by rw [← hE2]; unfold getE; rw [if_pos hsh], by rw [← hV1]; unfold getV; rw [if_pos hsh], by rw [← hat2]; unfold getI; rw [if_pos hsh], ?_⟩
          rw [hrun, show 16 - m = (15 - m) + 1 by omega]
          unfold wordF
          rw [if_pos (by rw [List.length_drop]; omega)]
        · have hv : V1 = (nth false l at_).toNat := by
            rw [← hV1]; unfold getV; rw [if_neg hsh, drop_nth false l at_ (by omega)]; simp [valB]
          have hvt := toNat_le (nth false l at_)
          refine .inl ⟨by rw [← hE2]; unfold getE; rw [if_neg hsh], by rw [← hat2]; unfold getI; rw [if_neg hsh]; omega, ?_, by rw [List.length_drop]; omega, by omega⟩
          rw [← hx2, ← hN, take_succ_nth false _ m (by rw [List.length_drop]; omega), valB_snoc, nth_drop, ← hx, hv, hat]
      have hV1b : V1 ≤ 1 := by rcases hcase with h | h <;> omega
      have hw1 : IntKind.i64.wrap (2 * (x : Int)) = 2 * (x : Int) := IntWalk.i64_in _ (by omega)
      have hw2 : IntKind.i64.wrap (2 * (x : Int) + (V1 : Int)) = (x2 : Int) := by rw [IntWalk.i64_in _ (by omega)]; omega
      have hx2b : x2 ≤ 131072 := by omega
      have HCASE := Lib.hid hcase
      have HRUN := Lib.hid hrun
      have HNN := Lib.hid (show m + 1 = N ∧ m ≤ 15 from ⟨hN, hm15⟩)
      have hN16 : N ≤ 16 := by omega
      have HNO := Lib.hid hNo
      have HAT := Lib.hid hat
      clear hat hx hm15 hmD hNo hrun hxl hx15 h15 hN hNi hE2 hV1 hat2 hx2 hcase hI hV1b hm
      go_wp2_with (first
        | (go_at_call 61; refine (HK.out at_ 0 _ hT.out).mono ?_; rintro e w2 ⟨rfl, rfl⟩)
        | (go_at_call 99; refine HG.out.mono ?_; rintro e w3 ⟨rfl, hT3, hU3⟩))
      have HT3 := Lib.hid hT3
      have HU3 := Lib.hid (hU.out.trans hU3 fun _ _ h => h)
      have HS3 := Lib.hid (HS.out.keep (HU3.out.keep (ok := fun b => b ≠ g) fun _ h => h))
      have HC3 := Lib.hid (HC.out.keep (HU3.out.keep (ok := fun b => b ≠ g) fun _ h => h))
      clear hT hU hT3 hU3 HG
      obtain ⟨wo, rfl⟩ : ∃ wo, wo = w3 := ⟨_, rfl⟩
      go_loopw [9, 23] (fun bv iv wr => ∃ k : Nat, iv = .int .i64 (k : Int) ∧ k ≤ ls.length ∧ bv = .bool (someK ls N x2 k) ∧ Hid (E2 = 0 → ∀ s, s < k → ¬ (0 < lenOf ls s ∧ (N, x2) = (lenOf ls s, codeN ls s))) ∧ wo = wr) (fun _ iv _ => ls.length - (intOf iv).toNat)
      case atStart => exact ⟨0, rfl, Nat.zero_le _, rfl, Lib.hid (fun _ s hs => by omega), rfl⟩
      case round =>
        obtain ⟨k, rfl, hk, rfl, hM, rfl⟩ := hrel
        by_cases hlt : k < ls.length
        · obtain ⟨ad, rfl, hc⟩ := rd_int HS3.out k hlt
          obtain ⟨ad2, rfl, hc2⟩ := rd_int HC3.out k (by rw [codesL_length]; exact hlt)
          rw [codesL_nth _ _ hlt] at hc2
          have hlo : nth 0 ls k = ((lenOf ls k : Nat) : Int) := by have := HR.out.ok.at k; unfold lenOf; omega
          rw [hlo] at hc
          have hki : (k : Int) < (ls.length : Int) := by omega
          have hL16 := HR.out.ok.len16 k
          have hCl := code_lt HR.out.ok.len16 HR.out.full hlt
          have hC16 : (2 : Nat) ^ lenOf ls k ≤ 2 ^ 16 := Nat.pow_le_pow_right (by decide) hL16
          have h16 : (2 : Nat) ^ 16 = 65536 := by decide
          have HSK := Lib.hid (someK_succ ls N x2 k)
          have HMT := Lib.hid (show lenOf ls k = N → codeN ls k = x2 → E2 = 0 → symF ls ls.length (N, x2) = some k from fun h1 h2 _ => by rw [← h1, ← h2]; exact symF_some HR.out (by have := HNN.out; omega) hlt (Nat.le_refl _))
          obtain ⟨L, hL⟩ : ∃ L, lenOf ls k = L := ⟨_, rfl⟩
          obtain ⟨C, hC⟩ : ∃ C, codeN ls k = C := ⟨_, rfl⟩
          have HLC := Lib.hid (show lenOf ls k = L ∧ codeN ls k = C from ⟨hL, hC⟩)
          rw [hL] at hc hL16 hCl hC16 HSK HMT
          rw [hC] at hc2 hCl HSK HMT
          obtain ⟨b, hb⟩ : ∃ b, someK ls N x2 k = b := ⟨_, rfl⟩
          rw [hb] at HSK ⊢
          by_cases hE0 : E2 = 0
          · have he : (E2 == 0) = true := by simp [hE0]
            by_cases hLN : L = N
            · have hq1 : ((L : Int) == (N : Int)) = true := by simp [hLN]
              by_cases hCX : C = x2
              · have hq2 : ((C : Int) == (x2 : Int)) = true := by simp [hCX]
                have HSY := Lib.hid (HMT.out hLN hCX hE0)
                have HE0 := Lib.hid hE0
                clear hE0 hLN hCX hL hC hb hL16 hCl hC16 h16 hlo hlt
                go_wp2_with (go_at_call 61; refine (HK.out at2 E2 _ HT3.out).mono ?_; rintro e w2 ⟨rfl, rfl⟩)
                go_ret
                have hN := HNN.out
                have hwr : wordR ls (l.drop i) = (k, 0, N) := by
                  rcases HCASE.out with ⟨_, h2, h3, h4, _⟩ | ⟨h2, _⟩
                  · rw [HRUN.out, show 16 - m = (16 - N) + 1 by omega]
                    unfold wordF
                    rw [if_neg (by omega), hN.1, ← h3, HSY.out]
                  · have := HE0.out; omega
                have ha2 : at2 = i + N := by
                  rcases HCASE.out with ⟨_, h2, _⟩ | ⟨h2, _⟩
                  · exact h2
                  · have := HE0.out; omega
                rw [hwr]
                refine ⟨rfl, ?_, HU3.out⟩
                have hT3 := HT3.out
                rw [HE0.out, ha2] at hT3
                exact hT3
              · have hq2 : ((C : Int) == (x2 : Int)) = false := by simp; omega
                have HM2 : Hid (E2 = 0 → ∀ s, s < k + 1 → ¬ (0 < lenOf ls s ∧ (N, x2) = (lenOf ls s, codeN ls s))) := Lib.hid (fun h s hs hh => by
                  rcases Nat.lt_or_ge s k with h9 | h9
                  · exact hM.out h s h9 hh
                  · obtain rfl : s = k := by omega
                    have h8 := congrArg Prod.snd hh.2
                    simp only at h8
                    omega)
                clear hE0 hCX
                cases b
                · by_cases hgt : N < L
                  · omega
                  · have hgd : decide ((N : Int) < (L : Int)) = false := decide_eq_false (by omega)
                    have hgdN : decide (N < L) = false := decide_eq_false hgt
                    have HSQ := Lib.hid (show someK ls N x2 (k + 1) = false by rw [HSK.out, decide_eq_false hgt]; rfl)
                    clear hgt hL hC hb hL16 hCl hC16 h16 hlo hlt
                    go_wp2_with (go_at_call 61; refine (HK.out at2 E2 _ HT3.out).mono ?_; rintro e w2 ⟨rfl, rfl⟩)
                    go_roundw
                    case rel => exact ⟨k + 1, by go_num, by omega, by rw [HSQ.out], HM2, trivial⟩
                    case measure => simp [intOf]; omega
                · have HSQ := Lib.hid (show someK ls N x2 (k + 1) = true by rw [HSK.out]; rfl)
                  clear hL hC hb hL16 hCl hC16 h16 hlo hlt
                  go_wp2_with (go_at_call 61; refine (HK.out at2 E2 _ HT3.out).mono ?_; rintro e w2 ⟨rfl, rfl⟩)
                  go_roundw
                  case rel => exact ⟨k + 1, by go_num, by omega, by rw [HSQ.out], HM2, trivial⟩
                  case measure => simp [intOf]; omega
            · have hq1 : ((L : Int) == (N : Int)) = false := by simp; omega
              have HM2 : Hid (E2 = 0 → ∀ s, s < k + 1 → ¬ (0 < lenOf ls s ∧ (N, x2) = (lenOf ls s, codeN ls s))) := Lib.hid (fun h s hs hh => by
                rcases Nat.lt_or_ge s k with h9 | h9
                · exact hM.out h s h9 hh
                · obtain rfl : s = k := by omega
                  have h8 := congrArg Prod.fst hh.2
                  simp only at h8
                  omega)
              clear hE0 hLN
              cases b
              · by_cases hgt : N < L
                · have hgd : decide ((N : Int) < (L : Int)) = true := decide_eq_true (by omega)
                  obtain ⟨d, hd⟩ : ∃ d, L - N = d := ⟨_, rfl⟩
                  have hwd : IntKind.i64.wrap ((L : Int) - (N : Int)) = (d : Int) := by rw [IntWalk.i64_in _ (by omega)]; omega
                  have hd64 : d ≤ 64 := by omega
                  have hd64i : (d : Int) ≤ 64 := by omega
                  obtain ⟨q, hq⟩ : ∃ q, C / 2 ^ d = q := ⟨_, rfl⟩
                  have hsr : (C : Int) / 2 ^ d = (q : Int) := by rw [← hq]; simp
                  obtain ⟨r, hrr⟩ : ∃ r, (q == x2) = r := ⟨_, rfl⟩
                  have hqe : ((q : Int) == (x2 : Int)) = r := by rw [← hrr, Bool.eq_iff_iff, beq_iff_eq, beq_iff_eq]; omega
                  have hgdN : decide (N < L) = true := decide_eq_true hgt
                  have hwd2 : wrap64 ((L : Int) - (N : Int)) = (d : Int) := by rw [IntWalk.wrap64_in _ (by omega)]; omega
                  have HSQ := Lib.hid (show someK ls N x2 (k + 1) = r by rw [HSK.out, decide_eq_true hgt, hd, hq, hrr]; rfl)
                  clear hgt hd hq hL hC hb hL16 hCl hC16 h16 hlo hlt
                  go_wp2_with (go_at_call 61; refine (HK.out at2 E2 _ HT3.out).mono ?_; rintro e w2 ⟨rfl, rfl⟩)
                  go_roundw
                  case rel => exact ⟨k + 1, by go_num, by omega, by rw [HSQ.out], HM2, trivial⟩
                  case measure => simp [intOf]; omega
                · have hgd : decide ((N : Int) < (L : Int)) = false := decide_eq_false (by omega)
                  have hgdN : decide (N < L) = false := decide_eq_false hgt
                  have HSQ := Lib.hid (show someK ls N x2 (k + 1) = false by rw [HSK.out, decide_eq_false hgt]; rfl)
                  clear hgt hL hC hb hL16 hCl hC16 h16 hlo hlt
                  go_wp2_with (go_at_call 61; refine (HK.out at2 E2 _ HT3.out).mono ?_; rintro e w2 ⟨rfl, rfl⟩)
                  go_roundw
                  case rel => exact ⟨k + 1, by go_num, by omega, by rw [HSQ.out], HM2, trivial⟩
                  case measure => simp [intOf]; omega
              · have HSQ := Lib.hid (show someK ls N x2 (k + 1) = true by rw [HSK.out]; rfl)
                clear hL hC hb hL16 hCl hC16 h16 hlo hlt
                go_wp2_with (go_at_call 61; refine (HK.out at2 E2 _ HT3.out).mono ?_; rintro e w2 ⟨rfl, rfl⟩)
                go_roundw
                case rel => exact ⟨k + 1, by go_num, by omega, by rw [HSQ.out], HM2, trivial⟩
                case measure => simp [intOf]; omega
          · have he : (E2 == 0) = false := by simp [hE0]
            have HM2 : Hid (E2 = 0 → ∀ s, s < k + 1 → ¬ (0 < lenOf ls s ∧ (N, x2) = (lenOf ls s, codeN ls s))) := Lib.hid (fun h => absurd h hE0)
            clear hE0
            cases b
            · by_cases hgt : N < L
              · have hgd : decide ((N : Int) < (L : Int)) = true := decide_eq_true (by omega)
                obtain ⟨d, hd⟩ : ∃ d, L - N = d := ⟨_, rfl⟩
                have hwd : IntKind.i64.wrap ((L : Int) - (N : Int)) = (d : Int) := by rw [IntWalk.i64_in _ (by omega)]; omega
                have hd64 : d ≤ 64 := by omega
                have hd64i : (d : Int) ≤ 64 := by omega
                obtain ⟨q, hq⟩ : ∃ q, C / 2 ^ d = q := ⟨_, rfl⟩
                have hsr : (C : Int) / 2 ^ d = (q : Int) := by rw [← hq]; simp
                obtain ⟨r, hrr⟩ : ∃ r, (q == x2) = r := ⟨_, rfl⟩
                have hqe : ((q : Int) == (x2 : Int)) = r := by rw [← hrr, Bool.eq_iff_iff, beq_iff_eq, beq_iff_eq]; omega
                have hgdN : decide (N < L) = true := decide_eq_true hgt
                have hwd2 : wrap64 ((L : Int) - (N : Int)) = (d : Int) := by rw [IntWalk.wrap64_in _ (by omega)]; omega
                have HSQ := Lib.hid (show someK ls N x2 (k + 1) = r by rw [HSK.out, decide_eq_true hgt, hd, hq, hrr]; rfl)
                clear hgt hd hq hL hC hb hL16 hCl hC16 h16 hlo hlt
                go_wp2_with (go_at_call 61; refine (HK.out at2 E2 _ HT3.out).mono ?_; rintro e w2 ⟨rfl, rfl⟩)
                go_roundw
                case rel => exact ⟨k + 1, by go_num, by omega, by rw [HSQ.out], HM2, trivial⟩
                case measure => simp [intOf]; omega
              · have hgd : decide ((N : Int) < (L : Int)) = false := decide_eq_false (by omega)
                have hgdN : decide (N < L) = false := decide_eq_false hgt
                have HSQ := Lib.hid (show someK ls N x2 (k + 1) = false by rw [HSK.out, decide_eq_false hgt]; rfl)
                clear hgt hL hC hb hL16 hCl hC16 h16 hlo hlt
                go_wp2_with (go_at_call 61; refine (HK.out at2 E2 _ HT3.out).mono ?_; rintro e w2 ⟨rfl, rfl⟩)
                go_roundw
                case rel => exact ⟨k + 1, by go_num, by omega, by rw [HSQ.out], HM2, trivial⟩
                case measure => simp [intOf]; omega
            · have HSQ := Lib.hid (show someK ls N x2 (k + 1) = true by rw [HSK.out]; rfl)
              clear hL hC hb hL16 hCl hC16 h16 hlo hlt
              go_wp2_with (go_at_call 61; refine (HK.out at2 E2 _ HT3.out).mono ?_; rintro e w2 ⟨rfl, rfl⟩)
              go_roundw
              case rel => exact ⟨k + 1, by go_num, by omega, by rw [HSQ.out], HM2, trivial⟩
              case measure => simp [intOf]; omega
        · obtain rfl : k = ls.length := by omega
          have hN := HNN.out
          rcases HCASE.out with ⟨hE2, ha2, hx2, hND, _⟩ | ⟨hE2, _, ha2, hw⟩
          · have hsn : symF ls ls.length (N, x2) = none := symF_none (hM.out hE2)
            have hnw : NoWord ls (l.drop i) N := by rw [← hN.1]; refine HNO.out.succ ?_; rw [hN.1, ← hx2]; exact hsn
            have hsk := someK_begs HR.out HFD.out hN16 hND hnw
            have h15 := begs_16 HR.out HFD.out hN16 hND hnw
            rw [← hx2] at hsk
            have HI2 := Lib.hid (show WdI ls l i N x2 at2 E2 from .inl ⟨hE2, ha2, hx2, h15, hND, hnw, by
              rw [HRUN.out, show 16 - m = (16 - N) + 1 by omega]
              conv => lhs; unfold wordF
              rw [if_neg (by omega), hN.1, ← hx2, hsn]⟩)
            rw [hsk]
            have hwN : IntKind.i64.wrap ((N : Int) + 1) = (N : Int) + 1 := IntWalk.i64_in _ (by omega)
            clear hE2 ha2 hx2 hND hsn hnw hsk h15 hN
            go_wp2
            go_roundw
            case rel => exact ⟨N, x2, at2, E2, by go_num, rfl, hx2b, hN16, HI2, HT3, HU3⟩
            case measure => have := HNN.out; simp [intOf]; omega
          · have HI2 := Lib.hid (show WdI ls l i N x2 at2 E2 from .inr ⟨hE2, hN16, by have := HAT.out; omega, by rw [hw, ha2, HAT.out, Nat.add_sub_cancel_left]⟩)
            have hwN : IntKind.i64.wrap ((N : Int) + 1) = (N : Int) + 1 := IntWalk.i64_in _ (by omega)
            have HFL := Lib.hid (tfail_any o g at2 l E2 4 wo HT3.out)
            have hfe : failE E2 4 = E2 := by unfold failE; rw [if_neg (by omega)]
            rw [hfe] at HFL
            clear hE2 ha2 hw hN hfe
            cases hb : someK ls N x2 ls.length
            · go_wp2_with (go_at_call 100; refine HFL.out.mono ?_; rintro e w4 ⟨rfl, hT4, hU4⟩)
              go_roundw
              case rel => exact ⟨N, x2, at2, E2, by go_num, rfl, hx2b, hN16, HI2, Lib.hid hT4, Lib.hid (HU3.out.trans hU4 fun _ _ h => h)⟩
              case measure => have := HNN.out; simp [intOf]; omega
            · go_wp2
              go_roundw
              case rel => exact ⟨N, x2, at2, E2, by go_num, rfl, hx2b, hN16, HI2, HT3, HU3⟩
              case measure => have := HNN.out; simp [intOf]; omega
    · have hE : ((3 : Int) == 0) = false := by decide
      have HRU := Lib.hid hrun
      have HIA := Lib.hid hia
      clear hrun hia
      go_wp2_with (go_at_call 61; refine (HK.out at_ 3 _ hT.out).mono ?_; rintro e w2 ⟨rfl, rfl⟩)
      go_ret
      rw [HRU.out]
      exact ⟨rfl, by rw [show i + (at_ - i) = at_ by have := HIA.out; omega]; exact hT.out, hU.out⟩
end Go.Proofs.YtciknejchglmoaaDoor

namespace Go.Proofs.YtciknejchglmoaaDoor
open Go.RowKit

theorem symV_0 (b : Nat) (D : List Bool) (h : symE b D ≠ 0) : symV b D = 0 := by unfold symV; rw [if_neg (show ¬ (wordR (tabKI b) D).2.1 = 0 from h)]
theorem word_sym (b : Nat) (D : List Bool) : (wordR (tabKI b) D).1 = symV b D := by
  unfold symV
  split
  · rfl
  · rename_i h
    rcases (wordF_ok (tabKI b) D 16 0).2 with h4 | h4
    · exact absurd h4.1 h
    · exact h4.2
theorem rtake_no (o : Nat → Prop) (g i n b : Nat) (A1 : Option Addr) (n1 c1 : Nat) (A2 : Option Addr) (n2 c2 : Nat) (l : List Bool) (E : Int) (w : World) (h : Tr o w g l i E) (hE : E ≠ 0) :
    Calls Tryd.prog 60 #[.agg (bookC b A1 n1 c1 A2 n2 c2), .pointer (some ⟨g, 0, none⟩), .int .i64 (n : Int)] w fun e w' => e = .returned (.slice none 0 0) ∧ Below w.heap.size w w' := by
  have hba := below_alloc (Below.refl w.heap.size w) (.cells (bookC b A1 n1 c1 A2 n2 c2) 74)
  have HK := Lib.hid (tok_any o g i l E _ (h.below hba))
  rw [show (E == 0) = false by simp [hE]] at HK
  clear h hE
  go_enter Tryd.func60, Tryd.ntmps60
  go_wp2
  go_loopw [7] (fun ov wr => ov = .slice none 0 0 ∧ wr = w.alloc (.cells (bookC b A1 n1 c1 A2 n2 c2) 74)) (fun _ _ => 0)
  case atStart => exact ⟨rfl, rfl⟩
  case round =>
    obtain ⟨rfl, rfl⟩ := hrel
    go_wp2_with (go_at_call 61; refine HK.out.mono ?_; rintro e w2 ⟨rfl, rfl⟩)
    go_ret
    exact ⟨rfl, hba⟩
set_option maxHeartbeats 4000000 in
set_option maxRecDepth 100000 in
theorem rtake_any (o : Nat → Prop) (g i n b : Nat) (A1 : Option Addr) (c1 : Nat) (A2 : Option Addr) (c2 : Nat) (l : List Bool) (w : World) (h : Tr o w g l i 0) (ho : ∀ x, o x → x < w.heap.size) (h1 : Sl (kInt .i64) (fun x => x ≠ g) w A1 c1 (tabKI b)) (h2 : Sl (kInt .i64) (fun x => x ≠ g) w A2 c2 (codesL (tabKI b))) (h8 : b < 8) (hn : n ≤ 4096) (hd : n % dimB b = 0) :
    Calls Tryd.prog 60 #[.agg (bookM b A1 c1 A2 c2), .pointer (some ⟨g, 0, none⟩), .int .i64 (n : Int)] w
      fun e w' => ∃ v L, e = .returned v ∧ OwnI 3 .i64 w.heap.size w' v L ∧ AftT o w' g i l (bkRE b n (l.drop i)) (bkRN b n (l.drop i)) ∧ (bkRE b n (l.drop i) = 0 → L = bkRL b n (l.drop i)) ∧ L.length ≤ n ∧ Upd (fun x => x = g) w w' := by
  obtain ⟨nn, hnn⟩ : ∃ nn, (tabKI b).length = nn := ⟨_, rfl⟩
  have HNN := Lib.hid hnn
  unfold bookM bookC
  rw [hnn]
  have hbX := below_alloc (Below.refl w.heap.size w) (.cells (bookC b A1 nn c1 A2 nn c2) 74)
  obtain ⟨g3, hg3⟩ : ∃ g3, w.heap.size = g3 := ⟨_, rfl⟩
  have B3 : Blk (w.alloc (.cells (bookC b A1 nn c1 A2 nn c2) 74)) g3 (bookC b A1 nn c1 A2 nn c2) 74 := by rw [← hg3]; exact heap_alloc_new w _
  obtain ⟨q, hq⟩ : ∃ q, n / dimB b = q := ⟨_, rfl⟩
  have hdp := dimB_pos b
  have hnq : n = q * dimB b := by rw [← hq]; have := Nat.div_add_mod n (dimB b); rw [hd, Nat.mul_comm] at this; omega
  have HQ := Lib.hid hnq
  have HX := Lib.hid (show bkRE b n (l.drop i) = (grpP b (l.drop i) q).2.1 ∧ (bkRL b n (l.drop i) = if (grpP b (l.drop i) q).2.1 ≠ 0 then [] else (grpP b (l.drop i) q).1) ∧ (bkRN b n (l.drop i) = if (grpP b (l.drop i) q).2.1 ≠ 0 then 0 else (grpP b (l.drop i) q).2.2) by
    unfold bkRL bkRN bkRE; rw [hq]; exact ⟨rfl, rfl, rfl⟩)
  generalize bkRE b n (l.drop i) = RE at HX
  generalize bkRL b n (l.drop i) = RL at HX
  generalize bkRN b n (l.drop i) = RN at HX
  have HTT := Lib.hid (h.below hbX)
  have hgl := h.lt
  have HO := Lib.hid ho
  have HT12 := Lib.hid (And.intro (h1.below hbX) (h2.below hbX))
  have HBX := Lib.hid hbX
  have H8 := Lib.hid h8
  have HK := Lib.hid (grpP_len b (l.drop i))
  have HER := Lib.hid (grpP_err b (l.drop i))
  have HNX := Lib.hid (fun k (st : List Int) m (h9 : grpP b (l.drop i) k = (st, 0, m)) => grpP_next b (l.drop i) k h9)
  have HG3 := Lib.hid hg3
  have HN4 := Lib.hid hn
  obtain ⟨W0, hW0⟩ : ∃ W0, w.alloc (.cells (bookC b A1 nn c1 A2 nn c2) 74) = W0 := ⟨_, rfl⟩
  rw [hW0] at B3 HTT HT12 HBX
  have HB3 := Lib.hid B3
  have hz0 : W0.heap.size = g3 + 1 := by rw [← hW0, World.size_alloc, hg3]
  have HZ0 := Lib.hid hz0
  have HGW := Lib.hid hgl
  clear h h1 h2 h8 ho hq hnq hd hbX hgl hnn B3
  go_enter Tryd.func60, Tryd.ntmps60
  go_wp2
  clear hW0 hg3 hz0
  go_loopw [7, 8] (fun ov sv wr => ∃ (k j : Nat) (E : Int) (st : List Int), k ≤ q ∧ Hid ((grpP b (l.drop i) k).2.1 = E ∧ (E = 0 → st = (grpP b (l.drop i) k).1 ∧ j = i + (grpP b (l.drop i) k).2.2)) ∧ Hid (st.length = k * dimB b) ∧ Hid (OwnI 3 .i64 (g3 + 1) wr ov st) ∧ Hid (Tr o wr g l j E) ∧ Hid (Upd (fun x => x = g) W0 wr)) (fun ov _ _ => match ov with | .slice _ n2 _ => n - n2 | _ => 0)
  case atStart => exact ⟨0, i, 0, [], Nat.zero_le _, Lib.hid ⟨rfl, fun _ => ⟨rfl, rfl⟩⟩, Lib.hid (by simp), Lib.hid (OwnI.nil _ _ _ _), HTT, Lib.hid (Upd.refl _ _)⟩
  case round =>
    clear HTT
    obtain ⟨k, j, E, st, hk, hP, hL, hO, hT, hU⟩ := hrel
    obtain ⟨A7, c7, rfl⟩ := hO.out.slice
    have HOK := Lib.hid (tok_any o g j l E wr hT.out)
    by_cases hE : E = 0
    · subst hE
      obtain ⟨hst, hj⟩ := hP.out.2 rfl
      by_cases hlt : k < q
      · have hin := grp_in (d := dimB b) (k := k) (n := n) (by rw [HQ.out, Nat.mul_div_cancel _ (by omega)]; exact hlt)
        have hli : (st.length : Int) < (n : Int) := by rw [hL.out]; omega
        have hln : st.length < n := by rw [hL.out]; omega
        have hkp := hU.out.keep (ok := fun x => x ≠ g) fun _ h => h
        have B3 := HB3.out.keep hkp (by have := HGW.out; have := HG3.out; omega)
        have k0 := B3.cell 0 rfl
        have k1 := B3.cell 1 rfl
        have k2 := B3.cell 2 rfl
        have k3 := B3.cell 3 rfl
        have k4 := B3.cell 4 rfl
        have k5 := B3.cell 5 rfl
        have HBK := Lib.hid B3
        have HPK := Lib.hid (show grpP b (l.drop i) k = (st, 0, j - i) by
          have h9 := hP.out.1
          rw [hst, hj]
          refine Prod.ext rfl (Prod.ext h9 ?_)
          show _ = _ - _
          omega)
        have HNK := Lib.hid (HNX.out k st (j - i) HPK.out)
        rw [List.drop_drop, show i + (j - i) = j by omega] at HNK
        have hgl := grpR_len b (l.drop j)
        have hgr : grpR b (l.drop j) = if (symR b (l.drop j)).2.1 ≠ 0 then ([], (symR b (l.drop j)).2.1, 0) else ((valP b ((l.drop j).drop (symR b (l.drop j)).2.2) (digN (mostB b) (dimB b) (symR b (l.drop j)).1)).1, (valP b ((l.drop j).drop (symR b (l.drop j)).2.2) (digN (mostB b) (dimB b) (symR b (l.drop j)).1)).2.1, (symR b (l.drop j)).2.2 + (valP b ((l.drop j).drop (symR b (l.drop j)).2.2) (digN (mostB b) (dimB b) (symR b (l.drop j)).1)).2.2) := rfl
        have HLE := Lib.hid (show st.length + dimB b ≤ n by rw [hL.out]; exact hin)
        have HGC := Lib.hid (fun (j1 s1 : Nat) (E1 : Int) W (hT : Tr o W g l j1 E1) (hz : g3 ≤ W.heap.size) (hE1 : E1 = 0 ∨ s1 = 0) (hs : s1 ≤ 256) => rgroup_any o g j1 b s1 A1 nn c1 A2 nn c2 l E1 W hT (fun x hx => by have := HO.out x hx; have := HG3.out; omega) hE1 hs)
        have HKQ := Lib.hid hlt
        have HJ := Lib.hid (show j = i + (j - i) by omega)
        have HSZ := Lib.hid (show g3 + 1 ≤ wr.heap.size by have := hU.out.size; have := HZ0.out; omega)
        clear hst hj hin hkp B3 hlt
        have HOI := hO
        have HOB := Lib.hid hO.out.base_le
        have HSU := Lib.hid hU.out.size
        rcases Nat.eq_zero_or_pos b with hb0 | hb1
        · have hmz : mostB b = 0 := by rw [hb0]; rfl
          have hmi : ¬ (0 : Int) < (mostB b : Int) := by omega
          have hmn : ¬ 0 < mostB b := by omega
          have HSR := Lib.hid (show symR b (l.drop j) = (0, 0, 0) by unfold symR; rw [if_pos hb0])
          have HGW2 := Lib.hid (HGC.out j 0 0 wr hT.out (by have := HSZ.out; omega) (Or.inl rfl) (by omega))
          clear hb0 hmz
          go_wp2_with (first
            | (go_at_call 61; refine HOK.out.mono ?_; rintro e w2 ⟨rfl, rfl⟩)
            | (go_at_call 79; refine HGW2.out.mono ?_; rintro e w3 ⟨v3, L3, rfl, hO3, hl3, ha3, hx3, hu3⟩; obtain ⟨A3, c3, rfl, hs3⟩ := hO3.rd; have HL3 := Lib.hid hl3; have HS3 := Lib.hid hs3.any; have HO3 := Lib.hid (ownI_keep HOI.out (hu3.keep (ok := fun x => x ≠ g) fun _ h => h) (fun x e => by have := HOB.out x e; have := HGW.out; have := HG3.out; omega)); have HA3 := Lib.hid ha3; have HX3 := Lib.hid hx3; have HU3 := Lib.hid hu3; clear hO3 hs3 ha3 hx3 hu3 hl3)
            | (at_builtin; (refine append_row (w0 := w3) (g3 + 1) rfl (.tmp 26) (.tmp 30) 25 3 .i64 8 rfl Tryd.underlying25 infoI (by decide) _ st L3 A3 c3 rfl rfl HO3.out HS3.out (Below.refl _ _) (by have := HU3.out.size; have := HSZ.out; omega) (by have := HLE.out; have := HL3.out; have := HN4.out; have := (dimB_pos b).2; omega) ?_); intro v1 w4 hO4 _ hg4 ha4; have HO4 := Lib.hid hO4; have HG4 := Lib.hid hg4; clear hO4 hg4 ha4))
          have HAF : Hid (AftT o w3 g j l (grpR b (l.drop j)).2.1 (grpR b (l.drop j)).2.2 ∧ ((grpR b (l.drop j)).2.1 = 0 → L3 = (grpR b (l.drop j)).1)) := by
            rw [hgr, HSR.out, if_neg (by simp)]
            have h9 := HA3.out (by trivial)
            exact Lib.hid (by simpa using h9)
          obtain ⟨j3, hr3, he3⟩ := HAF.out.1
          obtain ⟨A4, c4, rfl⟩ := HO4.out.slice
          have hgu := Upd.of_grown (o := fun x => g3 + 1 ≤ x) HG4.out (fun r e => by have := HO3.out.base_le r e; exact this)
          go_roundw
          case rel =>
            have hL2 := HL3.out
            by_cases hE2 : (grpR b (l.drop j)).2.1 = 0
            · obtain rfl := he3 hE2
              have hl3 := HAF.out.2 hE2
              subst hl3
              have hs9 := congrArg (fun z => z.2.2) HNK.out
              refine ⟨k + 1, j + (grpR b (l.drop j)).2.2, 0, _, HKQ.out, Lib.hid ⟨by rw [HNK.out]; exact hE2, fun _ => ⟨by rw [HNK.out], by have := HJ.out; simp only at hs9; omega⟩⟩, Lib.hid (by rw [List.length_append, hL.out, hL2]; exact (Nat.succ_mul _ _).symm), HO4, Lib.hid ?_, Lib.hid ((hU.out.trans HU3.out fun _ _ h => h).trans hgu fun x hx h9 => by have := HZ0.out; omega)⟩
              rw [hE2] at hr3
              exact hr3.upd hgu (fun x _ h9 h8 => by have := HO.out x h9; have := HG3.out; omega)
            · refine ⟨k + 1, j3, (grpR b (l.drop j)).2.1, _, HKQ.out, Lib.hid ⟨by rw [HNK.out], fun h9 => absurd h9 hE2⟩, Lib.hid (by rw [List.length_append, hL.out, hL2]; exact (Nat.succ_mul _ _).symm), HO4, Lib.hid ?_, Lib.hid ((hU.out.trans HU3.out fun _ _ h => h).trans hgu fun x hx h9 => by have := HZ0.out; omega)⟩
              exact hr3.upd hgu (fun x _ h9 h8 => by have := HO.out x h9; have := HG3.out; omega)
          case measure => have := HLE.out; have := HL3.out; have := (dimB_pos b).1; show n - (st ++ L3).length < n - st.length; rw [List.length_append]; omega
        · have hmp := most_pos b hb1 H8.out
          have hmi : (0 : Int) < (mostB b : Int) := by omega
          have hmn : 0 < mostB b := by omega
          have HSR := Lib.hid (show symR b (l.drop j) = (symV b (l.drop j), symE b (l.drop j), symN b (l.drop j)) by unfold symR; rw [if_neg (by omega)])
          have HWD := Lib.hid (tword_any o g j l A1 A2 c1 c2 (tabKI b) wr hT.out ((HT12.out.1).keep (hU.out.keep fun _ h => h)) ((HT12.out.2).keep (hU.out.keep fun _ h => h)) (tabK_right b hb1 H8.out) (tabK_filled b hb1 H8.out))
          rw [HNN.out, word_sym] at HWD
          have HS6 := Lib.hid (show symV b (l.drop j) ≤ 256 by have := symV_lt b (l.drop j) hb1 H8.out; have := symsB_le b H8.out; omega)
          clear hb1 hmp
          go_wp2_with (first
            | (go_at_call 61; refine HOK.out.mono ?_; rintro e w2 ⟨rfl, rfl⟩)
            | (go_at_call 78; refine HWD.out.mono ?_; rintro e w2 ⟨rfl, ht2, hu2⟩; have HU2 := Lib.hid hu2; have HGW2 := Lib.hid (HGC.out (j + symN b (l.drop j)) (symV b (l.drop j)) (symE b (l.drop j)) w2 ht2 (by have := hu2.size; have := HSZ.out; omega) (by by_cases h9 : symE b (l.drop j) = 0; exact Or.inl h9; exact Or.inr (symV_0 b _ h9)) HS6.out); have HOI := Lib.hid (ownI_keep HOI.out (hu2.keep (ok := fun x => x ≠ g) fun _ h => h) (fun x e => by have := HOB.out x e; have := HGW.out; have := HG3.out; omega)); have HSZ := Lib.hid (show g3 + 1 ≤ w2.heap.size by have := hu2.size; have := HSZ.out; omega); have B4 := HBK.out.keep (hu2.keep (ok := fun x => x ≠ g) fun _ h => h) (by have := HGW.out; have := HG3.out; omega); have k0 := B4.cell 0 rfl; have k1 := B4.cell 1 rfl; have k2 := B4.cell 2 rfl; have k3 := B4.cell 3 rfl; have k4 := B4.cell 4 rfl; have k5 := B4.cell 5 rfl; clear ht2 hu2 B4)
            | (go_at_call 79; refine HGW2.out.mono ?_; rintro e w3 ⟨v3, L3, rfl, hO3, hl3, ha3, hx3, hu3⟩; obtain ⟨A3, c3, rfl, hs3⟩ := hO3.rd; have HL3 := Lib.hid hl3; have HS3 := Lib.hid hs3.any; have HO3 := Lib.hid (ownI_keep HOI.out (hu3.keep (ok := fun x => x ≠ g) fun _ h => h) (fun x e => by have := HOB.out x e; have := HGW.out; have := HG3.out; omega)); have HA3 := Lib.hid ha3; have HX3 := Lib.hid hx3; have HU3 := Lib.hid hu3; clear hO3 hs3 ha3 hx3 hu3 hl3)
            | (at_builtin; (refine append_row (w0 := w3) (g3 + 1) rfl (.tmp 26) (.tmp 30) 25 3 .i64 8 rfl Tryd.underlying25 infoI (by decide) _ st L3 A3 c3 rfl rfl HO3.out HS3.out (Below.refl _ _) (by have := HU3.out.size; have := HSZ.out; omega) (by have := HLE.out; have := HL3.out; have := HN4.out; have := (dimB_pos b).2; omega) ?_); intro v1 w4 hO4 _ hg4 ha4; have HO4 := Lib.hid hO4; have HG4 := Lib.hid hg4; clear hO4 hg4 ha4))
          have HAF : Hid (AftT o w3 g j l (grpR b (l.drop j)).2.1 (grpR b (l.drop j)).2.2 ∧ ((grpR b (l.drop j)).2.1 = 0 → L3 = (grpR b (l.drop j)).1)) := by
            rw [hgr, HSR.out]
            by_cases h9 : symE b (l.drop j) = 0
            · rw [if_neg (by simpa using h9)]
              have h8 := HA3.out h9
              rw [← List.drop_drop] at h8
              obtain ⟨⟨j4, h7, h6⟩, h5⟩ := h8
              exact Lib.hid ⟨⟨j4, h7, fun e => by rw [h6 e]; exact Nat.add_assoc _ _ _⟩, h5⟩
            · rw [if_pos h9]
              exact Lib.hid ⟨⟨_, HX3.out h9, fun e => absurd e h9⟩, fun e => absurd e h9⟩
          obtain ⟨j3, hr3, he3⟩ := HAF.out.1
          obtain ⟨A4, c4, rfl⟩ := HO4.out.slice
          have hgu := Upd.of_grown (o := fun x => g3 + 1 ≤ x) HG4.out (fun r e => by have := HO3.out.base_le r e; exact this)
          go_roundw
          case rel =>
            have hL2 := HL3.out
            by_cases hE2 : (grpR b (l.drop j)).2.1 = 0
            · obtain rfl := he3 hE2
              have hl3 := HAF.out.2 hE2
              subst hl3
              have hs9 := congrArg (fun z => z.2.2) HNK.out
              refine ⟨k + 1, j + (grpR b (l.drop j)).2.2, 0, _, HKQ.out, Lib.hid ⟨by rw [HNK.out]; exact hE2, fun _ => ⟨by rw [HNK.out], by have := HJ.out; simp only at hs9; omega⟩⟩, Lib.hid (by rw [List.length_append, hL.out, hL2]; exact (Nat.succ_mul _ _).symm), HO4, Lib.hid ?_, Lib.hid (((hU.out.trans HU2.out fun _ _ h => h).trans HU3.out fun _ _ h => h).trans hgu fun x hx h9 => by have := HZ0.out; omega)⟩
              rw [hE2] at hr3
              exact hr3.upd hgu (fun x _ h9 h8 => by have := HO.out x h9; have := HG3.out; omega)
            · refine ⟨k + 1, j3, (grpR b (l.drop j)).2.1, _, HKQ.out, Lib.hid ⟨by rw [HNK.out], fun h9 => absurd h9 hE2⟩, Lib.hid (by rw [List.length_append, hL.out, hL2]; exact (Nat.succ_mul _ _).symm), HO4, Lib.hid ?_, Lib.hid (((hU.out.trans HU2.out fun _ _ h => h).trans HU3.out fun _ _ h => h).trans hgu fun x hx h9 => by have := HZ0.out; omega)⟩
              exact hr3.upd hgu (fun x _ h9 h8 => by have := HO.out x h9; have := HG3.out; omega)
          case measure => have := HLE.out; have := HL3.out; have := (dimB_pos b).1; show n - (st ++ L3).length < n - st.length; rw [List.length_append]; omega
      · obtain rfl : k = q := by omega
        have hli : ¬ (st.length : Int) < (n : Int) := by rw [hL.out, HQ.out]; omega
        have hln : ¬ st.length < n := by rw [hL.out, HQ.out]; omega
        have HST := Lib.hid (And.intro hst hj)
        clear hlt hst hj
        go_wp2_with (go_at_call 61; refine HOK.out.mono ?_; rintro e w2 ⟨rfl, rfl⟩)
        go_ret
        have hz := HG3.out
        refine ⟨_, st, rfl, hO.out.mono (by omega), ⟨j, by rw [HX.out.1, hP.out.1]; exact hT.out, fun _ => by rw [HX.out.2.2, hP.out.1, if_neg (by simp)]; exact HST.out.2⟩, fun _ => by rw [HX.out.2.1, hP.out.1, if_neg (by simp)]; exact HST.out.1, by rw [hL.out, HQ.out]; exact Nat.le_refl _, ?_⟩
        exact (Upd.of_below HBX.out (fun x => x = g)).trans hU.out fun _ _ h => h
    · have hEb : (E == 0) = false := by simp [hE]
      rw [hEb] at HOK
      have HPQ := Lib.hid (show grpP b (l.drop i) q = grpP b (l.drop i) k from HER.out k (by rw [hP.out.1]; exact hE) q hk)
      have HEX := Lib.hid hE
      have HKQ := Lib.hid hk
      clear hE hEb
      go_wp2_with (go_at_call 61; refine HOK.out.mono ?_; rintro e w2 ⟨rfl, rfl⟩)
      go_ret
      have hz := HG3.out
      have hE2 : RE = E := by rw [HX.out.1, HPQ.out, hP.out.1]
      refine ⟨_, st, rfl, hO.out.mono (by omega), ⟨j, by rw [hE2]; exact hT.out, fun h9 => absurd (hE2.symm.trans h9) HEX.out⟩, fun h9 => absurd (hE2.symm.trans h9) HEX.out, by rw [hL.out, HQ.out]; exact Nat.mul_le_mul_right _ HKQ.out, ?_⟩
      exact (Upd.of_below HBX.out (fun x => x = g)).trans hU.out fun _ _ h => h
end Go.Proofs.YtciknejchglmoaaDoor
