/- The law BookBack of layer 17 (book): it returns true for every input, at every world in which book's two tables read as the program's text lays them. The row, and its tied card. -/
import Derived.Test.YtciknejchglmoaaDoorKk
import Derived.Test.YtciknejchglmoaaDoorKj
import Derived.Test.YtciknejchglmoaaDoorKo
import Derived.Test.YtciknejchglmoaaDoorCards
import Derived.Test.YtciknejchglmoaaDoorTie
import Derived.SevenTiedAt
import Derived.OpenShut
import Derived.Carry
import Derived.SizedLaws
namespace Go.Proofs.YtciknejchglmoaaDoor
open Go.RowKit

theorem wordF_code {ls : List Int} (hr : Right ls) {s : Nat} (hs : s < ls.length) (h0 : 0 < lenOf ls s) (rest : List Bool) : ∀ (fuel n : Nat), n < lenOf ls s → lenOf ls s ≤ n + fuel →
    wordF ls (numB (codeN ls s) (lenOf ls s) ++ rest) fuel n = (s, 0, lenOf ls s)
  | 0, n, h1, h2 => by omega
  | fuel + 1, n, h1, h2 => by
    have h16 := hr.ok.len16
    have hC := code_lt h16 hr.full hs
    have hl : (numB (codeN ls s) (lenOf ls s)).length = lenOf ls s := numB_length _ _
    have hv : valB ((numB (codeN ls s) (lenOf ls s) ++ rest).take (n + 1)) = codeN ls s / 2 ^ (lenOf ls s - (n + 1)) := by
      rw [List.take_append_of_le_length (by omega), numB_take _ _ _ (by omega), valB_numB]
      refine Nat.mod_eq_of_lt ?_
      rw [Nat.div_lt_iff_lt_mul (Nat.two_pow_pos _), ← Nat.pow_add]
      rw [show n + 1 + (lenOf ls s - (n + 1)) = lenOf ls s by omega]
      exact hC
    unfold wordF
    rw [if_neg (by rw [List.length_append]; omega), hv]
    rcases Nat.lt_or_ge (n + 1) (lenOf ls s) with h3 | h3
    · have e1 : symF ls ls.length (n + 1, codeN ls s / 2 ^ (lenOf ls s - (n + 1))) = none := symF_none fun j hj ⟨hj0, e⟩ => by
        injection e with e1 e2
        have hne : j ≠ s := fun e => by subst e; omega
        exact code_free h16 hj hs hne hj0 (by omega) (by rw [← e1]; exact e2)
      rw [e1]
      exact wordF_code hr hs h0 rest fuel (n + 1) h3 (by omega)
    · have e : n + 1 = lenOf ls s := by omega
      rw [e, Nat.sub_self, Nat.pow_zero, Nat.div_one, symF_some hr h0 hs (Nat.le_refl _)]
theorem numB_cons (v k : Nat) (h1 : 2 ^ k ≤ v) (h2 : v < 2 ^ (k + 1)) : numB v (k + 1) = true :: numB v k := by
  have hd : v / 2 ^ k = 1 := by
    have := Nat.two_pow_pos k
    rw [Nat.pow_succ] at h2
    exact Nat.div_eq_of_lt_le (by omega) (by omega)
  apply List.ext_getElem
  · simp [numB]
  · intro i h3 h4
    cases i with
    | zero => simp [numB, hd]
    | succ i =>
      simp only [numB, List.getElem_map, List.getElem_range, List.getElem_cons_succ]
      rw [show k + 1 - 1 - (i + 1) = k - 1 - i by omega]
theorem gamF_gam (v : Nat) (h1 : 1 ≤ v) (h2 : v < 2 ^ 20) (rest : List Bool) : gamF (gamB v ++ rest) = (v, 0, (gamB v).length) := by
  obtain ⟨k, hk⟩ : ∃ k, Nat.log2 v = k := ⟨_, rfl⟩
  have hk0 : 2 ^ k ≤ v ∧ v < 2 ^ (k + 1) := (Nat.log2_eq_iff (by omega)).1 hk
  have hk20 : k ≤ 20 := by rw [← hk]; exact log2_le (by rw [Nat.pow_succ]; omega)
  have hg : gamB v = List.replicate k false ++ true :: numB v k := by unfold gamB; rw [hk, numB_cons v k hk0.1 hk0.2]
  have hz : zerF (gamB v ++ rest) 0 = (k, 0) := by
    rw [hg, List.append_assoc]
    have := zerF_rep (numB v k ++ rest) k 0 (by omega)
    rw [Nat.zero_add] at this
    exact this
  have hl : (gamB v).length = 2 * k + 1 := by rw [gamB_length, hk]
  unfold gamF
  rw [hz, if_neg (by simp), if_neg (by rw [List.length_append]; show ¬ _ < 2 * k + 1; omega), hl]
  show (2 ^ k + valB (((gamB v ++ rest).drop (k + 1)).take k), (0 : Int), 2 * k + 1) = _
  have hd : ((gamB v ++ rest).drop (k + 1)).take k = numB v k := by
    rw [hg, List.append_assoc, List.cons_append]
    have e1 : (List.replicate k false ++ true :: (numB v k ++ rest)).drop (k + 1) = numB v k ++ rest := by
      rw [List.drop_append, List.drop_of_length_le (by simp)]; simp
    rw [e1, List.take_append_of_le_length (by rw [numB_length]; exact Nat.le_refl _), List.take_of_length_le (by rw [numB_length]; exact Nat.le_refl _)]
  rw [hd, valB_numB]
  have hm : v % 2 ^ k = v - 2 ^ k := by
    rw [Nat.mod_eq_sub_mod hk0.1]; exact Nat.mod_eq_of_lt (by rw [Nat.pow_succ] at hk0; omega)
  rw [hm, show 2 ^ k + (v - 2 ^ k) = v by omega]
theorem esc_most (b : Nat) (h : escB b = true) : 1 ≤ mostB b := by
  unfold escB at h; unfold mostB
  split at h <;> first | decide | cases h
theorem sign_abs (v : Int) (h : v ≠ 0) : (if decide (v < 0) = true then (-1 : Int) else 1) * (v.natAbs : Int) = v := by
  by_cases h1 : v < 0
  · rw [if_pos (decide_eq_true h1)]; omega
  · rw [if_neg (by simp [h1])]; omega
theorem valF_bes (b : Nat) (v : Int) (hq : v.natAbs ≤ 1023) (hi : inB b v = true) (rest : List Bool) : valF b (digB b v) (besB b v ++ rest) = (v, 0, (besB b v).length) := by
  by_cases h0 : v = 0
  · subst h0; unfold digB besB valF; simp
  · have hm : 1 ≤ mostB b := by
      unfold inB at hi
      rw [Bool.or_eq_true, decide_eq_true_eq] at hi
      rcases hi with h | h
      · omega
      · exact esc_most b h
    have hd : digB b v ≠ 0 := by unfold digB; omega
    have he : (escB b && decide (digB b v = mostB b)) = escpB b v := by
      unfold escpB digB
      congr 1
      by_cases h : mostB b ≤ v.natAbs
      · rw [decide_eq_true h, decide_eq_true (by omega)]
      · rw [decide_eq_false h, decide_eq_false (by omega)]
    unfold valF besB
    rw [if_neg hd, if_neg (by rw [if_neg h0]; simp), if_neg h0, he]
    cases hx : escpB b v with
    | true =>
      have hx2 : mostB b ≤ v.natAbs := by unfold escpB at hx; rw [Bool.and_eq_true, decide_eq_true_eq] at hx; exact hx.2
      have hg := gamF_gam (v.natAbs - mostB b + 1) (by omega) (by omega) rest
      rw [if_pos rfl, if_pos rfl, show ((decide (v < 0) :: gamB (v.natAbs - mostB b + 1)) ++ rest).drop 1 = gamB (v.natAbs - mostB b + 1) ++ rest from rfl, hg]
      rw [if_neg (by simp), if_neg (by show ¬ 1023 < mostB b + (v.natAbs - mostB b + 1) - 1; omega)]
      show ((if decide (v < 0) = true then (-1 : Int) else 1) * ((mostB b + (v.natAbs - mostB b + 1) - 1 : Nat) : Int), (0 : Int), 1 + (gamB (v.natAbs - mostB b + 1)).length) = _
      rw [show mostB b + (v.natAbs - mostB b + 1) - 1 = v.natAbs by omega, sign_abs v h0, List.length_cons, Nat.add_comm]
    | false =>
      have hx2 : digB b v = v.natAbs := by
        unfold escpB at hx; unfold inB at hi; unfold digB
        rw [Bool.or_eq_true, decide_eq_true_eq] at hi
        rcases hi with h | h
        · omega
        · rw [h, Bool.true_and, decide_eq_false_iff_not] at hx; omega
      simp only [Bool.false_eq_true, if_false]
      rw [hx2]
      show ((if decide (v < 0) = true then (-1 : Int) else 1) * (v.natAbs : Int), (0 : Int), 1) = _
      rw [sign_abs v h0]; rfl
theorem digN_symG (b : Nat) : ∀ (k : Nat) (g : List Int), g.length = k → digN (mostB b) k (symG b g) = g.map (digB b)
  | 0, g, h => by rw [List.eq_nil_of_length_eq_zero h]; rfl
  | k + 1, g, h => by
    obtain ⟨g', v, rfl⟩ : ∃ g' v, g = g' ++ [v] := ⟨g.dropLast, g.getLast (by intro e; rw [e] at h; cases h), (List.dropLast_concat_getLast _).symm⟩
    have hl : g'.length = k := by rw [List.length_append] at h; simpa using h
    have hd : digB b v < mostB b + 1 := by unfold digB; omega
    show digN (mostB b) k (symG b (g' ++ [v]) / (mostB b + 1)) ++ [symG b (g' ++ [v]) % (mostB b + 1)] = _
    rw [symG_snoc, Nat.add_comm, Nat.add_mul_div_right _ _ (Nat.succ_pos _), Nat.div_eq_of_lt hd, Nat.zero_add, Nat.add_mul_mod_self_right, Nat.mod_eq_of_lt hd, digN_symG b k g' hl, List.map_append]; rfl
theorem valP_bes (b : Nat) (D : List Bool) : ∀ (g : List Int), (∀ v ∈ g, v.natAbs ≤ 1023 ∧ inB b v = true) → ∀ (st : List Int) (n : Nat) (rest : List Bool), D.drop n = g.flatMap (besB b) ++ rest → (g.map (digB b)).foldl (valS b D) (st, 0, n) = (st ++ g, 0, n + (g.flatMap (besB b)).length)
  | [], _, st, n, rest, _ => by simp
  | v :: g, hg, st, n, rest, hD => by
    have h1 := hg v (by simp)
    rw [List.flatMap_cons, List.append_assoc] at hD
    have h2 : valS b D (st, 0, n) (digB b v) = (st ++ [v], 0, n + (besB b v).length) := by
      unfold valS
      rw [if_neg (by simp)]
      show (if (valF b (digB b v) (D.drop n)).2.1 ≠ 0 then _ else (st ++ [(valF b (digB b v) (D.drop n)).1], (0 : Int), n + (valF b (digB b v) (D.drop n)).2.2)) = _
      rw [hD, valF_bes b v h1.1 h1.2, if_neg (by simp)]
    rw [List.map_cons, List.foldl_cons, h2, valP_bes b D g (fun x hx => hg x (by simp [hx])) (st ++ [v]) _ rest (by rw [← List.drop_drop, hD, List.drop_left])]
    rw [List.append_assoc, List.flatMap_cons, List.length_append, Nat.add_assoc]; rfl
theorem symR_wrd (b : Nat) (g : List Int) (h8 : b < 8) (hl : g.length = dimB b) (rest : List Bool) : symR b (wrdB b g ++ rest) = (symG b g, 0, (wrdB b g).length) := by
  unfold symR wrdB
  by_cases h0 : b = 0
  · subst h0
    have h1 := symG_lt 0 g
    rw [show mostB 0 + 1 = 1 from rfl, Nat.one_pow] at h1
    rw [if_pos rfl, if_pos rfl, show symG 0 g = 0 by omega]; rfl
  · have h1 : 1 ≤ b := by omega
    have hs := sym_in b g hl
    have ht : symG b g < (tabKI b).length := by rw [tabKI_length b h1 h8]; exact hs
    have hlen := tabK_lenOf b h1 h8 hs
    have hb := tab_bound b h1 h8 hs
    have h16 := tabK_len16 b h1 h8 (symG b g)
    have hp : 0 < lenOf (tabKI b) (symG b g) := by rw [hlen]; omega
    have hw : wordR (tabKI b) (numB (codeN (tabKI b) (symG b g)) (lenOf (tabKI b) (symG b g)) ++ rest) = (symG b g, 0, lenOf (tabKI b) (symG b g)) :=
      wordF_code (tabK_right b h1 h8) ht hp rest 16 0 hp (by omega)
    rw [if_neg h0, if_neg h0]
    unfold symV symE symN
    rw [hw, if_pos rfl, numB_length]
theorem grpR_grp (b : Nat) (g : List Int) (h8 : b < 8) (hl : g.length = dimB b) (hg : ∀ v ∈ g, v.natAbs ≤ 1023 ∧ inB b v = true) (rest : List Bool) : grpR b (grpB b g ++ rest) = (g, 0, (grpB b g).length) := by
  unfold grpR grpB
  rw [List.append_assoc, symR_wrd b g h8 hl, if_neg (by simp)]
  show ((valP b ((wrdB b g ++ (g.flatMap (besB b) ++ rest)).drop (wrdB b g).length) (digN (mostB b) (dimB b) (symG b g))).1, (valP b ((wrdB b g ++ (g.flatMap (besB b) ++ rest)).drop (wrdB b g).length) (digN (mostB b) (dimB b) (symG b g))).2.1, (wrdB b g).length + (valP b ((wrdB b g ++ (g.flatMap (besB b) ++ rest)).drop (wrdB b g).length) (digN (mostB b) (dimB b) (symG b g))).2.2) = _
  rw [List.drop_left, digN_symG b (dimB b) g hl]
  have hv : valP b (g.flatMap (besB b) ++ rest) (g.map (digB b)) = (g, 0, (g.flatMap (besB b)).length) := by
    have := valP_bes b (g.flatMap (besB b) ++ rest) g hg [] 0 rest rfl
    rw [List.nil_append, Nat.zero_add] at this
    exact this
  rw [hv, List.length_append]
theorem lstB_part (b : Nat) (l : List Int) : ∀ (K k : Nat), k ≤ K → ∃ T, lstB b l K = lstB b l k ++ T
  | 0, k, h => ⟨[], by obtain rfl : k = 0 := by omega
                       simp⟩
  | K + 1, k, h => by
    rcases Nat.eq_or_lt_of_le h with rfl | h1
    · exact ⟨[], by simp⟩
    · obtain ⟨T, hT⟩ := lstB_part b l K k (by omega)
      exact ⟨T ++ grpB b (grpK (dimB b) l K), by rw [lstB_succ, hT, List.append_assoc]⟩
theorem grpP_row (b : Nat) (l : List Int) (h8 : b < 8) (hg : ∀ v ∈ l, v.natAbs ≤ 1023 ∧ inB b v = true) (rest : List Bool) : ∀ k, k ≤ l.length / dimB b → grpP b (rowK b l ++ rest) k = (l.take (k * dimB b), 0, (lstB b l k).length)
  | 0, _ => by simp [grpP, lstB]
  | k + 1, hk => by
    have hin := grp_in (d := dimB b) (k := k) (n := l.length) hk
    obtain ⟨T, hT⟩ := lstB_part b l (l.length / dimB b) (k + 1) hk
    have hD : (rowK b l ++ rest).drop (lstB b l k).length = grpB b (grpK (dimB b) l k) ++ (T ++ rest) := by
      unfold rowK; rw [hT, lstB_succ, List.append_assoc, List.append_assoc, List.drop_left]
    show grpS b (rowK b l ++ rest) (grpP b (rowK b l ++ rest) k) = _
    rw [grpP_row b l h8 hg rest k (by omega)]
    unfold grpS
    rw [if_neg (by simp)]
    show (l.take (k * dimB b) ++ (grpR b ((rowK b l ++ rest).drop (lstB b l k).length)).1, (grpR b ((rowK b l ++ rest).drop (lstB b l k).length)).2.1, (lstB b l k).length + (grpR b ((rowK b l ++ rest).drop (lstB b l k).length)).2.2) = _
    rw [hD, grpR_grp b _ h8 (grpK_length _ _ _ hin) (fun v hv => hg v (List.mem_of_mem_drop (List.mem_of_mem_take hv))), lstB_succ, List.length_append]
    rw [show l.take (k * dimB b) ++ grpK (dimB b) l k = l.take ((k + 1) * dimB b) by unfold grpK; rw [Nat.add_mul, Nat.one_mul, List.take_add]]
/-- What was written with a book is read again. -/
theorem row_read (b : Nat) (l : List Int) (h8 : b < 8) (hq : quantB l = true) (hf : fitB b l = true) (rest : List Bool) :
    bkRE b l.length (rowK b l ++ rest) = 0 ∧ bkRL b l.length (rowK b l ++ rest) = l ∧ bkRN b l.length (rowK b l ++ rest) = (rowK b l).length := by
  unfold fitB at hf
  rw [Bool.and_eq_true, decide_eq_true_eq] at hf
  have hg : ∀ v ∈ l, v.natAbs ≤ 1023 ∧ inB b v = true := fun v hv => by
    have h1 := List.all_eq_true.1 hq v hv
    rw [Bool.and_eq_true, decide_eq_true_eq, decide_eq_true_eq] at h1
    exact ⟨by omega, List.all_eq_true.1 hf.1 v hv⟩
  have hp := grpP_row b l h8 hg rest _ (Nat.le_refl _)
  have ht : l.take (l.length / dimB b * dimB b) = l := List.take_of_length_le (by have := Nat.div_add_mod l.length (dimB b); rw [hf.2, Nat.mul_comm] at this; omega)
  rw [ht] at hp
  have hE : bkRE b l.length (rowK b l ++ rest) = 0 := by unfold bkRE; rw [hp]
  refine ⟨hE, ?_, ?_⟩
  · unfold bkRL; rw [hE, if_neg (by simp), hp]
  · unfold bkRN; rw [hE, if_neg (by simp), hp]; rfl
end Go.Proofs.YtciknejchglmoaaDoor

namespace Go.Proofs.YtciknejchglmoaaDoor
open Go.RowKit

theorem back_facts (n : Int) (l : List Int) (X : List Bool) (hX : X.length ≤ 400) (hl : l.length ≤ 600) :
    writeK n l X.length = (bkC n l).2 ∧ fullB X (bkW n l) = X ++ bkW n l ∧ bkC n l = (((bkW n l).length : Int), (bkC n l).2) ∧ ((bkC n l).2 ≠ 0 → bkW n l = []) ∧
      ((bkC n l).2 = 0 → brdE n l.length (bkW n l) = 0 ∧ brdL n l.length (bkW n l) = l ∧ brdN n l.length (bkW n l) = (bkW n l).length) ∧ (bkW n l).length ≤ 62400 := by
  have hw := bkW_len n l
  refine ⟨?_, ?_, Prod.ext (bkC_len n l) rfl, fun h => by unfold bkW; rw [if_pos h], fun h => ?_, by omega⟩
  · unfold writeK
    by_cases h : (bkC n l).2 = 0
    · have e : bkW n l = rowK n.toNat l := by unfold bkW; rw [if_neg (by simp [h])]
      rw [if_neg (by simp [h]), h]; unfold fullE; rw [if_neg (by rw [← e]; omega)]
    · rw [if_pos h]
  · unfold fullB; rw [if_neg (by omega)]
  · obtain ⟨b, rfl, h8, hq, hf, hc⟩ := bkC_ok h
    have e : bkW (b : Int) l = rowK b l := by unfold bkW; rw [if_neg (by simp [h])]; rfl
    obtain ⟨r1, r2, r3⟩ := row_read b l h8 hq hf []
    rw [List.append_nil] at r1 r2 r3
    have hm := hf
    unfold fitB at hm
    rw [Bool.and_eq_true, decide_eq_true_eq] at hm
    have hE : brdE (b : Int) (l.length : Int) (rowK b l) = 0 := by
      unfold brdE
      rw [if_neg (by omega), if_neg (by rw [Int.toNat_natCast, Int.toNat_natCast]; omega), Int.toNat_natCast, Int.toNat_natCast]; exact r1
    rw [e]
    refine ⟨hE, ?_, ?_⟩
    · unfold brdL; rw [hE, if_neg (by simp), Int.toNat_natCast, Int.toNat_natCast]; exact r2
    · unfold brdN; rw [hE, if_neg (by simp), Int.toNat_natCast, Int.toNat_natCast]; exact r3

set_option maxHeartbeats 8000000 in
set_option maxRecDepth 100000 in
theorem bookBack_walk (A0 : Option Addr) (c0 : Nat) (s0 : List Int) (N0 n1 : Int) (A2 : Option Addr) (c2 : Nat) (s2 : List Int) (W : World) (hG : GF W) (hT : GT W) (hR0 : RY W A0 c0 s0) (hB0 : ∀ x ∈ s0, 0 ≤ x ∧ x < 256) (hR2 : RI W A2 c2 s2) :
    Calls Tryd.prog 9 #[.agg #[.slice A0 s0.length c0, .int .i64 N0], .int .i64 n1, .slice A2 s2.length c2] W fun e W' => e = .returned (.bool true) ∧ Below W.heap.size W W' := by
  have HBA := Lib.hid (below_alloc (Below.refl W.heap.size W) (.cells #[.slice A0 s0.length c0, .int .i64 N0] 57))
  have HBX := Lib.hid (show Blk (W.alloc (.cells #[.slice A0 s0.length c0, .int .i64 N0] 57)) W.heap.size #[.slice A0 s0.length c0, .int .i64 N0] 57 from heap_alloc_new W _)
  have HB0 := Lib.hid hB0
  have hS := (GS.of hG hT).below HBA.out
  clear hB0 hG hT

  by_cases h50 : s0.length ≤ 50
  · have HD := Lib.hid (show decide (s0.length ≤ 50) = true from decide_eq_true h50)
    have H50 := Lib.hid h50
    clear h50
    by_cases h6 : 600 < s2.length
    · have g1 : decide ((600 : Int) < (s2.length : Int)) = true := decide_eq_true (by omega)
      clear h6
      go_enter Tryd.func9, Tryd.ntmps9
      go_wp2_with fail
      refine (rfew_any A0 s0.length c0 N0 _).mono ?_
      rw [HD.out]
      rintro e w1 ⟨rfl, b⟩
      have BX := below2 HBA.out b
      have PB := HBX.out.below b
      replace hS := hS.below b; clear b
      go_wp2_with fail
      refine (awake17_any _ hS.f hS.t).mono ?_
      rintro e w2 ⟨rfl, b⟩
      replace BX := below2 BX b; clear b
      go_wp2_with fail
      go_ret
      exact ⟨rfl, BX⟩
    · have g1 : decide ((600 : Int) < (s2.length : Int)) = false := decide_eq_false (by omega)
      have HL := Lib.hid (show s2.length ≤ 600 by omega)
      clear h6
      by_cases h40 : 0 ≤ N0 ∧ N0 ≤ 4000
      · have g2 : decide (0 ≤ N0) = true := decide_eq_true h40.1
        have g3 : decide (N0 ≤ 4000) = true := decide_eq_true h40.2
        clear h40
        go_enter Tryd.func9, Tryd.ntmps9
        go_wp2_with fail
        refine (rfew_any A0 s0.length c0 N0 _).mono ?_
        rw [HD.out]
        rintro e w1 ⟨rfl, b⟩
        have BX := below2 HBA.out b
        have PB := HBX.out.below b
        replace hS := hS.below b; clear b
        have k1 := PB.cell 1 rfl
        go_wp2_with fail
        refine (awake17_any _ hS.f hS.t).mono ?_
        rintro e w2 ⟨rfl, b⟩
        replace BX := below2 BX b; clear b
        go_wp2_with fail
        go_ret
        exact ⟨rfl, BX⟩
      · have HX4 := Lib.hid (show (roomBits s0 N0).length ≤ 400 by rw [roomBits_length]; unfold roomN; rw [if_neg h40]; have := H50.out; omega)
        have hcs : decide (0 ≤ N0) = false ∨ (decide (0 ≤ N0) = true ∧ decide (N0 ≤ 4000) = false) := by
          by_cases h : 0 ≤ N0
          · exact .inr ⟨decide_eq_true h, decide_eq_false (by omega)⟩
          · exact .inl (decide_eq_false h)
        have HF := Lib.hid (back_facts n1 s2 (roomBits s0 N0) HX4.out HL.out)
        clear h40
        obtain ⟨X, hX⟩ : ∃ X, roomBits s0 N0 = X := ⟨_, rfl⟩
        obtain ⟨R, hR⟩ : ∃ R, bkW n1 s2 = R := ⟨_, rfl⟩
        obtain ⟨E, hE⟩ : ∃ E, (bkC n1 s2).2 = E := ⟨_, rfl⟩
        have HXE := Lib.hid hX; have HRE := Lib.hid hR
        rw [hX, hR, hE] at HF
        rw [hX] at HX4
        clear hX hR hE
        have HR0 := Lib.hid hR0; have HR2 := Lib.hid hR2; have HS0 := Lib.hid hS
        clear hR0 hR2 hS
        by_cases h0 : E = 0
        · subst h0
          replace HRD := Lib.hid (HF.out.2.2.2.2.1 rfl)
          obtain ⟨n, hn⟩ : ∃ n, X.length = n := ⟨_, rfl⟩
          obtain ⟨m, hm⟩ : ∃ m, R.length = m := ⟨_, rfl⟩
          have hY : (X ++ R).length = n + m := by rw [List.length_append, hn, hm]
          have HYD := Lib.hid (show (X ++ R).drop n = R by rw [← hn]; exact List.drop_left)
          have HB := Lib.hid (show n ≤ 400 ∧ m ≤ 62400 from ⟨by rw [← hn]; exact HX4.out, by rw [← hm]; exact HF.out.2.2.2.2.2⟩)
          have HCC := Lib.hid HF.out.2.2.1
          have HWK := Lib.hid HF.out.1
          have HFB := Lib.hid HF.out.2.1
          rw [hm] at HCC HRD
          have HN := Lib.hid hn; have HM := Lib.hid hm; have HY := Lib.hid hY
          have hadd : IntKind.i64.wrap ((n : Int) + (m : Int)) = ((n + m : Nat) : Int) := by rw [IntWalk.i64_in _ (by have := HB.out; omega)]; omega
          clear hn hm hY HF
          rcases hcs with g2 | ⟨g2, g3⟩
          all_goals
          have hR0 := HR0.out; have hR2 := HR2.out; have hS := HS0.out
          go_enter Tryd.func9, Tryd.ntmps9
          go_wp2_with fail
          refine (rfew_any A0 s0.length c0 N0 _).mono ?_
          rw [HD.out]
          rintro e w1 ⟨rfl, b⟩
          have BX := below2 HBA.out b
          have PB := HBX.out.below b
          replace hS := hS.below b; clear b
          have k0 := PB.cell 0 rfl
          have k1 := PB.cell 1 rfl
          replace hR0 := hR0.below BX; replace hR2 := hR2.below BX
          go_wp2_with fail
          refine (rbegun_any A0 c0 s0 N0 _ hR0 HB0.out H50.out).mono ?_
          rw [HXE.out]
          rintro e w3 ⟨g, R1, d, k, rfl, hw, _, hk, b⟩
          have hR2' := (hR2.weak (ok' := fun x => x < w1.heap.size) (fun x hx _ => hx)).below b
          have hsz := BX.size
          have hgo : w1.heap.size ≤ g := by obtain ⟨_, h9⟩ := hw; exact h9.og.1
          replace hS := hS.below b
          replace BX := below2 BX b; clear b k0 k1 PB hR0 hR2
          go_wp2_with fail
          refine (wlen_any _ g X _ hw).mono ?_
          rw [HN.out]
          rintro e w4 ⟨rfl, rfl⟩
          go_wp2_with fail
          refine (bCost_any A2 c2 n1 s2 _ hR2'.any hS.f hS.t (by have := HL.out; omega)).mono ?_
          rw [HCC.out]
          rintro e w5 ⟨rfl, b⟩
          replace hR2' := hR2'.below b; replace hw := hw.below b; replace hS := hS.below b; replace BX := below2 BX b; clear b
          go_wp2_with fail
          refine (bwrite_any _ g A2 c2 n1 X s2 _ hw (by have := HX4.out; omega) (hR2'.weak fun x _ h h2 => by omega) hS.f hS.t (by have := HL.out; omega)).mono ?_
          rw [HWK.out, HRE.out, HFB.out]
          rintro e w6 ⟨rfl, hw4, hu⟩
          replace hR2' := hR2'.keep (hu.keep (ok := fun x => x < w1.heap.size) fun x h h2 => by omega)
          replace hS := hS.upd hu (fun x h h2 => by omega)
          replace BX := BX.trans (hu.below (n := W.heap.size) BX.size (fun x _ e => by omega)); clear hu hw hk
          go_wp2_with fail
          refine (wbytes_any _ g (X ++ R) _ hw4 (by rw [HY.out]; have := HB.out; omega)).mono ?_
          rintro e w7 ⟨v7, rfl, hO, b⟩
          obtain ⟨A7, c7, rfl, h7⟩ := own_ri hO
          clear hO
          replace hR2' := hR2'.below b; replace hw4 := hw4.below b; replace hS := hS.below b; replace BX := below2 BX b; clear b
          go_wp2_with fail
          refine (wlen_any _ g (X ++ R) _ hw4).mono ?_
          rw [HY.out]
          rintro e w8 ⟨rfl, rfl⟩
          go_wp2_with fail
          have ho := ropen_ok A7 c7 (packB (X ++ R)) (n + m) w7 h7 (packB_in (X ++ R)) (by rw [packB_length, HY.out]; have := HB.out; omega) (by rw [packB_length, HY.out]; omega) (by have := HB.out; omega)
          rw [show ofB (packB (X ++ R)) (n + m) = X ++ R by rw [← HY.out]; exact fullE_ofB _] at ho
          refine ho.mono ?_
          rintro e w9 ⟨gr, rfl, hr, b1, hg⟩
          replace hR2' := hR2'.below b1
          have hg1 : w1.heap.size ≤ gr := by have := hw4.lt; omega
          replace hw4 := hw4.weak (o' := fun b => b < w7.heap.size) (fun b hb _ => hb)
          replace hw4 := hw4.below b1
          have hgw : W.heap.size ≤ gr := by have := BX.size; omega
          replace hS := hS.below b1
          replace BX := below2 BX b1; clear b1 ho h7
          go_wp2_with fail
          refine (wlen_any _ g (X ++ R) _ hw4).mono ?_
          rw [HY.out]
          rintro e w10 ⟨rfl, rfl⟩
          go_wp2_with fail
          refine (rseek_any _ gr 0 (n : Int) (X ++ R) _ hr).mono ?_
          rw [show seekE (X ++ R) (n : Int) = 0 by unfold seekE; rw [HY.out, if_neg (by omega)], show seekI (X ++ R) 0 (n : Int) = n by unfold seekI; rw [HY.out, if_neg (by omega)]; simp]
          rintro e w11 ⟨rfl, hr1, hu⟩
          replace hR2' := hR2'.keep (hu.keep (ok := fun x => x < w1.heap.size) fun x h h2 => by omega)
          replace hS := hS.upd hu (fun x h h2 => by omega)
          replace BX := BX.trans (hu.below BX.size (fun x _ e => by omega)); clear hu hr hw4
          go_wp2_with fail
          refine (bRead_any _ gr n n1 (s2.length : Int) (X ++ R) _ hr1 hS.f hS.t (fun e => by have := hS.lf; omega)).mono ?_
          rw [HYD.out, HRD.out.1, HRD.out.2.1, HRD.out.2.2]
          rintro e w12 ⟨v8, rfl, hO, hr2, hu⟩
          obtain ⟨A8, c8, rfl, h8⟩ := own_ri hO
          replace hR2' := (hR2'.keep (hu.keep (ok := fun x => x < w1.heap.size) fun x h h2 => by omega)).any
          replace hS := hS.upd hu (fun x h h2 => by omega)
          replace BX := BX.trans (hu.below BX.size (fun x _ e => by omega)); clear hu hr1 hO hgw hg1
          go_wp2_with fail
          refine (same17_any A8 A2 c8 c2 s2 s2 _ h8 hR2').mono ?_
          rw [show sameL s2 s2 = true by simp [sameL]]
          rintro e w13 ⟨rfl, b⟩
          replace hr2 := hr2.below b; replace hS := hS.below b; replace BX := below2 BX b; clear b
          go_wp2_with fail
          refine (rleft_any _ gr (n + m) (X ++ R) _ hr2).mono ?_
          rw [HY.out, Nat.sub_self]
          rintro e w14 ⟨rfl, b⟩
          replace hS := hS.below b; replace BX := below2 BX b; clear b
          go_wp2_with fail
          refine (awake17_any _ hS.f hS.t).mono ?_
          rintro e w15 ⟨rfl, b⟩
          replace BX := below2 BX b; clear b
          go_wp2_with fail
          go_ret
          exact ⟨rfl, BX⟩
        · have hEb : (E != 0) = true := by simp [h0]
          have hR := HF.out.2.2.2.1 h0
          subst hR
          have HCC := Lib.hid HF.out.2.2.1
          rw [show ((([] : List Bool).length : Nat) : Int) = 0 from rfl] at HCC
          have HWK := Lib.hid HF.out.1
          have HFB := Lib.hid HF.out.2.1
          rw [List.append_nil] at HFB
          clear h0 HF
          rcases hcs with g2 | ⟨g2, g3⟩
          all_goals
            have hR0 := HR0.out; have hR2 := HR2.out; have hS := HS0.out
            go_enter Tryd.func9, Tryd.ntmps9
            go_wp2_with fail
            refine (rfew_any A0 s0.length c0 N0 _).mono ?_
            rw [HD.out]
            rintro e w1 ⟨rfl, b⟩
            have BX := below2 HBA.out b
            have PB := HBX.out.below b
            replace hS := hS.below b; clear b
            have k0 := PB.cell 0 rfl
            have k1 := PB.cell 1 rfl
            replace hR0 := hR0.below BX; replace hR2 := hR2.below BX
            go_wp2_with fail
            refine (rbegun_any A0 c0 s0 N0 _ hR0 HB0.out H50.out).mono ?_
            rw [HXE.out]
            rintro e w3 ⟨g, R1, d, k, rfl, hw, _, hk, b⟩
            have hR2' := (hR2.weak (ok' := fun x => x < w1.heap.size) (fun x hx _ => hx)).below b
            have hsz := BX.size
            have hgo : w1.heap.size ≤ g := by obtain ⟨_, h9⟩ := hw; exact h9.og.1
            replace hS := hS.below b
            replace BX := below2 BX b; clear b k0 k1 PB hR0 hR2
            go_wp2_with fail
            refine (wlen_any _ g X _ hw).mono ?_
            rintro e w4 ⟨rfl, rfl⟩
            go_wp2_with fail
            refine (bCost_any A2 c2 n1 s2 _ hR2'.any hS.f hS.t (by have := HL.out; omega)).mono ?_
            rw [HCC.out]
            rintro e w5 ⟨rfl, b⟩
            replace hR2' := hR2'.below b; replace hw := hw.below b; replace hS := hS.below b; replace BX := below2 BX b; clear b
            go_wp2_with fail
            refine (bwrite_any _ g A2 c2 n1 X s2 _ hw (by have := HX4.out; omega) (hR2'.weak fun x _ h h2 => by omega) hS.f hS.t (by have := HL.out; omega)).mono ?_
            rw [HWK.out, HRE.out, HFB.out]
            rintro e w6 ⟨rfl, hw4, hu⟩
            replace hR2' := hR2'.keep (hu.keep (ok := fun x => x < w1.heap.size) fun x h h2 => by omega)
            replace hS := hS.upd hu (fun x h h2 => by omega)
            replace BX := BX.trans (hu.below (n := W.heap.size) BX.size (fun x _ e => by omega)); clear hu hw hk
            go_wp2_with fail
            refine (wlen_any _ g X _ hw4).mono ?_
            rintro e w7 ⟨rfl, rfl⟩
            go_wp2_with fail
            refine (awake17_any _ hS.f hS.t).mono ?_
            rintro e w15 ⟨rfl, b⟩
            replace BX := below2 BX b; clear b
            go_wp2_with fail
            go_ret
            exact ⟨rfl, BX⟩
  · have HD := Lib.hid (show decide (s0.length ≤ 50) = false from decide_eq_false h50)
    clear h50
    go_enter Tryd.func9, Tryd.ntmps9
    go_wp2_with fail
    refine (rfew_any A0 s0.length c0 N0 _).mono ?_
    rw [HD.out]
    rintro e w1 ⟨rfl, b⟩
    have BX := below2 HBA.out b
    have PB := HBX.out.below b
    replace hS := hS.below b; clear b
    go_wp2_with fail
    refine (awake17_any _ hS.f hS.t).mono ?_
    rintro e w2 ⟨rfl, b⟩
    replace BX := below2 BX b; clear b
    go_wp2_with fail
    go_ret
    exact ⟨rfl, BX⟩
end Go.Proofs.YtciknejchglmoaaDoor

namespace Go.Proofs.YtciknejchglmoaaDoor
open Go.ChangeShapes Go.WideShapes Go.ChangeAt Go.WideMaps Go.WideElems Go.RowKit Go.Deep

theorem laidOut_bookBack : laidOutB Tryd.prog = true := by kernel_rfl
set_option maxRecDepth 100000 in
theorem lifted_bookBack (os : Os) (started : os.Started) (H : Type) (enc : TypeId × Value → H) :
    ReturnsInHanded {} Tryd.checked os 9 .any (fun w args => (Rows.bookBackSpec.pre enc Tryd.prog Tryd.f9 [] false w args ∧ laidMetH Tryd.prog laidBk w) ∧ sizedMet enc Tryd.prog Tryd.f9 (OpenSpec.ofChange Rows.bookBackSpec) false w args)
      (Rows.bookBackSpec.post enc Tryd.prog Tryd.f9 false true false false) := by
  refine returnsInHanded_of_change_and (C := Tryd.checked) (X := fun w _ => laidMetH Tryd.prog laidBk w) (fun _ _ _ hh h => h.of_heap hh) ownBk started (by kernel_rfl) Tryd.func9
    (ChangeSpec.witness_shaped (enc := enc) (C := Tryd.checked) (os := os) (X := fun w _ => laidMetH Tryd.prog laidBk w) false (World.doorLaid Tryd.prog 400 os) #[.agg #[.slice none 0 0, .int .i64 0], .int .i64 0, .slice none 0 0] 8 rfl (World.shaped_of_RefB (by kernel_rfl) (by kernel_rfl)) (by kernel_rfl) (by kernel_rfl) (by kernel_rfl) (door_bk os _)) ?_
  intro W base args ds gs before hval0 hW _ hsz0 hL _
  obtain ⟨hG, hT⟩ := gf_of_laid hL
  have hval : ∀ (j : Nat) t v, Tryd.f9.params[j]? = some t → args[j]? = some v → Value.okWide Tryd.prog W .any base t v := hval0
  have hW' := hW
  obtain ⟨p, q, hA0, hV, rfl, hfz, hnd⟩ := hW
  have hA : DataW.TrodAll enc Tryd.prog W 0 (fun _ => true) true Tryd.f9.params.toList args.toList ds p := hA0
  have hsz : (DataW.weightsEach Tryd.prog (Tryd.f9.params.toList ++ Rows.bookBackSpec.plain.varTypes Tryd.prog) (ds ++ gs)).all (· ≤ reachBytes) = true := hsz0
  rw [Tryd.params9] at hA hval hsz
  obtain ⟨v0, vs0, d0, ds0, p0, q0, hargs, rfl, rfl, h0, r0⟩ := trodAll_cons hA
  obtain ⟨v1, vs1, d1, ds1, p1, q1, rfl, rfl, rfl, h1, r1⟩ := trodAll_cons r0
  obtain ⟨v2, vs2, d2, ds2, p2, q2, rfl, rfl, rfl, h2, r2⟩ := trodAll_cons r1
  obtain ⟨rfl, rfl, rfl⟩ := trodAll_nil r2
  obtain rfl : args = #[v0, v1, v2] := by cases args; simp_all
  obtain ⟨rfl, rfl⟩ := trodVars_none hV
  have lt0 : ∀ x ∈ p0, x.block < W.heap.size := by obtain ⟨m, hm⟩ := h0; exact DataW.trod_lt m _ _ _ hm
  have y0 : ∀ m ∈ d0.weights Tryd.prog 57, m ≤ reachBytes := fun m hm => of_decide_eq_true (List.all_eq_true.1 hsz m (DataW.weights_mem_each (j := 0) rfl rfl m hm))
  obtain ⟨A0, c0, s0, N0, rfl, hR0, hB0⟩ := open_M (hval 0 57 v0 rfl rfl) h0
  have lt1 : ∀ x ∈ p1, x.block < W.heap.size := by obtain ⟨m, hm⟩ := h1; exact DataW.trod_lt m _ _ _ hm
  have y1 : ∀ m ∈ d1.weights Tryd.prog 3, m ≤ reachBytes := fun m hm => of_decide_eq_true (List.all_eq_true.1 hsz m (DataW.weights_mem_each (j := 1) rfl rfl m hm))
  obtain ⟨a1, rfl, _, _, w1⟩ := open_int Tryd.underlying3 (hval 1 3 v1 rfl rfl) h1
  have lt2 : ∀ x ∈ p2, x.block < W.heap.size := by obtain ⟨m, hm⟩ := h2; exact DataW.trod_lt m _ _ _ hm
  have y2 : ∀ m ∈ d2.weights Tryd.prog 25, m ≤ reachBytes := fun m hm => of_decide_eq_true (List.all_eq_true.1 hsz m (DataW.weights_mem_each (j := 2) rfl rfl m hm))
  obtain ⟨B2, l2, e2, rfl⟩ := okWide_slice Tryd.underlying25 (hval 2 25 v2 rfl rfl)
  obtain ⟨A2, c2, s2, hv2, hR2, hB2⟩ : ∃ A c xs, Value.slice B2 l2 e2 = .slice A xs.length c ∧ RI W A c xs ∧ ((∀ m ∈ d2.weights Tryd.prog 25, m ≤ reachBytes) → xs.length ≤ 140737488355328) := by obtain ⟨fuel, hf⟩ := h2; exact open_I hf
  have hwalk := bookBack_walk A0 c0 s0 N0 a1 A2 c2 s2 W hG hT hR0 hB0 hR2
  rw [← hv2] at hwalk
  refine hwalk.mono fun e W' ⟨he, bel⟩ => ?_
  subst he
  exact ⟨_, rfl, _, _, _, [], _, [], hW', trodAll_mk1 (shut_bool Tryd.underlying4 _), (trodAll_cons_mk (Below.trod laidOut_bookBack (by kernel_rfl) (of_decide_eq_true (by kernel_rfl)) h0 bel lt0) (trodAll_cons_mk (Below.trod laidOut_bookBack (by kernel_rfl) (of_decide_eq_true (by kernel_rfl)) h1 bel lt1) (trodAll_cons_mk (Below.trod laidOut_bookBack (by kernel_rfl) (of_decide_eq_true (by kernel_rfl)) h2 bel lt2) trodAll_mk0))), rfl, bel.frame _, fun h => by cases h⟩
theorem bookBack_said : Rows.BookBackSaid :=
  OpenClaim.holds_of_wide 9 Tryd.f9 rfl rfl rfl rfl rfl rfl rfl ⟨rfl, rfl, rfl, rfl, rfl⟩ rfl rfl rfl rfl rfl (by kernel_rfl) Tryd.func9 (by kernel_rfl)
    (of_decide_eq_true (by kernel_rfl)) (by unfold Func.isWrapper; first | (rw [if_pos (by decide +kernel)]; kernel_rfl) | (rw [if_neg (by decide +kernel)]; exact ⟨rfl, rfl⟩))
    (fun os started H enc _ => lifted_bookBack os started H enc)
theorem bookBack_card : Rows.BookBackCardSaid :=
  Claim7.holds_tied_plain_at .later [] [.wider, .data] true Rows.bookBackCard.stood.harness false
    bookBack_said (fun _ h => by cases h) (by kernel_rfl) (fun _ h => by cases h) bookBack_row_tie rfl ⟨rfl, rfl⟩ (by kernel_rfl) rfl
    (fun f fn hf hfn => by
      obtain rfl : f = 9 := Option.some.inj ((show Tryd.prog.funcNamed "shawm/shawmlaw17.BookBack" = some 9 by kernel_rfl).symm.trans hf) |>.symm
      obtain rfl : fn = Tryd.f9 := (Option.some.inj (Tryd.func9.symm.trans hfn)).symm
      exact ⟨by kernel_rfl, fun j t ht => by
        rw [Tryd.params9] at ht
        have hm : t ∈ [57, 3, 25] := by simpa using Array.mem_of_getElem? ht
        have hall : ([57, 3, 25].all fun u => !Tryd.prog.wantsStandIn u) = true := by kernel_rfl
        exact (show Tryd.prog.wantsStandIn t = false by simpa using List.all_eq_true.1 hall t hm)⟩)
    (by kernel_rfl)
#print axioms bookBack_card
end Go.Proofs.YtciknejchglmoaaDoor
