/- The law BookLeast of layer 17 (book): it returns true for every input, at every world in which book's two tables read as the program's text lays them. The row, and its tied card. -/
import Derived.Test.YtciknejchglmoaaDoorKm
import Derived.Test.YtciknejchglmoaaDoorKo
import Derived.Test.YtciknejchglmoaaDoorCards
import Derived.Test.YtciknejchglmoaaDoorTie
import Derived.SevenTiedAt
import Derived.OpenShut
import Derived.Carry
import Derived.SizedLaws
namespace Go.Proofs.YtciknejchglmoaaDoor
open Go.RowKit

theorem lstK_first (l : List Int) : ∀ k, (lstK l k = (-1, 0) ∧ ∀ n, n < k → fitB n l = false) ∨
    ∃ b, b < k ∧ fitB b l = true ∧ lstK l k = ((b : Int), ((rowK b l).length : Int)) ∧ (∀ n, n < k → fitB n l = true → (rowK b l).length ≤ (rowK n l).length) ∧ (∀ n, n < b → fitB n l = true → (rowK b l).length < (rowK n l).length)
  | 0 => .inl ⟨rfl, fun n h => by omega⟩
  | k + 1 => by
    have ih := lstK_first l k
    have e : lstK l (k + 1) = if fitB k l = true then (if (lstK l k).1 < 0 ∨ ((rowK k l).length : Int) < (lstK l k).2 then ((k : Int), ((rowK k l).length : Int)) else lstK l k) else lstK l k := rfl
    by_cases hf : fitB k l = true
    · rw [e, if_pos hf]
      right
      rcases ih with ⟨h1, h2⟩ | ⟨b, hb, hfb, h1, h2, h3⟩
      · rw [h1, if_pos (.inl (by decide))]
        refine ⟨k, by omega, hf, rfl, fun n hn hfn => ?_, fun n hn hfn => ?_⟩
        · rcases Nat.lt_or_ge n k with h | h
          · rw [h2 n h] at hfn; cases hfn
          · obtain rfl : n = k := by omega
            exact Nat.le_refl _
        · rw [h2 n hn] at hfn; cases hfn
      · rw [h1]
        by_cases h4 : (rowK k l).length < (rowK b l).length
        · rw [if_pos (.inr (by show ((rowK k l).length : Int) < ((rowK b l).length : Int); omega))]
          refine ⟨k, by omega, hf, rfl, fun n hn hfn => ?_, fun n hn hfn => ?_⟩
          · rcases Nat.lt_or_ge n k with h | h
            · have := h2 n h hfn; omega
            · obtain rfl : n = k := by omega
              exact Nat.le_refl _
          · have := h2 n hn hfn; omega
        · rw [if_neg (fun h => h.elim (fun h => by have h : (b : Int) < 0 := h; omega) (fun h => by have h : ((rowK k l).length : Int) < ((rowK b l).length : Int) := h; omega))]
          refine ⟨b, by omega, hfb, rfl, fun n hn hfn => ?_, h3⟩
          rcases Nat.lt_or_ge n k with h | h
          · exact h2 n h hfn
          · obtain rfl : n = k := by omega
            omega
    · rw [e, if_neg hf]
      rcases ih with ⟨h1, h2⟩ | ⟨b, hb, hfb, h1, h2, h3⟩
      · refine .inl ⟨h1, fun n hn => ?_⟩
        rcases Nat.lt_or_ge n k with h | h
        · exact h2 n h
        · obtain rfl : n = k := by omega
          simpa using hf
      · refine .inr ⟨b, by omega, hfb, h1, fun n hn hfn => ?_, h3⟩
        rcases Nat.lt_or_ge n k with h | h
        · exact h2 n h hfn
        · obtain rfl : n = k := by omega
          exact absurd hfn hf
theorem best_first {l : List Int} (hq : quantB l = true) : ∃ b, b < 8 ∧ fitB b l = true ∧ bestV l = ((b : Int), ((rowK b l).length : Int)) ∧ (∀ n, n < 8 → fitB n l = true → (rowK b l).length ≤ (rowK n l).length) ∧ (∀ n, n < b → fitB n l = true → (rowK b l).length < (rowK n l).length) := by
  have e : bestV l = lstK l 8 := by unfold bestV; rw [if_neg (by simp [hq]), lstK_8]
  rcases lstK_first l 8 with ⟨_, h2⟩ | h
  · have := h2 7 (by omega); rw [fitB_7] at this; cases this
  · rw [e]; exact h
theorem bkC_at {l : List Int} (hq : quantB l = true) (n : Nat) (h8 : n < 8) : checkedK (n : Int) l = 0 ∧ fitsV (n : Int) l = fitB n l ∧ bkC (n : Int) l = if fitB n l = true then (((rowK n l).length : Int), 0) else (0, 4) := by
  have hc : checkedK (n : Int) l = 0 := by unfold checkedK; rw [if_neg (by omega), if_neg (by simp [hq])]
  refine ⟨hc, ?_, ?_⟩
  · unfold fitsV; rw [hc, if_neg (by simp), Int.toNat_natCast]
  · unfold bkC; rw [hc, if_neg (by simp), Int.toNat_natCast]
    cases fitB n l <;> simp
theorem grpK_front (d : Nat) (l m : List Int) (j : Nat) (h : j * d + d ≤ l.length) : grpK d (l ++ m) j = grpK d l j := by
  unfold grpK
  rw [List.drop_append_of_le_length (by omega), List.take_append_of_le_length (by rw [List.length_drop]; omega)]
theorem lstB_front (b : Nat) (l m : List Int) : ∀ k, k ≤ l.length / dimB b → lstB b (l ++ m) k = lstB b l k
  | 0, _ => rfl
  | k + 1, h => by rw [lstB_succ, lstB_succ, lstB_front b l m k (by omega), grpK_front _ _ _ _ (grp_in (d := dimB b) h)]
theorem lstB_behind (b : Nat) (l m : List Int) (hd : l.length % dimB b = 0) : ∀ k, lstB b (l ++ m) (l.length / dimB b + k) = lstB b l (l.length / dimB b) ++ lstB b m k
  | 0 => by rw [Nat.add_zero, lstB_front b l m _ (Nat.le_refl _), lstB_zero, List.append_nil]
  | k + 1 => by
    have hl : l.length / dimB b * dimB b = l.length := by have := Nat.div_add_mod l.length (dimB b); rw [hd, Nat.mul_comm] at this; omega
    have hg : grpK (dimB b) (l ++ m) (l.length / dimB b + k) = grpK (dimB b) m k := by
      unfold grpK
      rw [Nat.add_mul, hl, ← List.drop_drop, List.drop_left]
    rw [← Nat.add_assoc, lstB_succ, lstB_behind b l m hd k, hg, lstB_succ, List.append_assoc]
theorem rowK_append (b : Nat) (l m : List Int) (hd : l.length % dimB b = 0) : rowK b (l ++ m) = rowK b l ++ rowK b m := by
  have hp := (dimB_pos b).1
  have hK : (l ++ m).length / dimB b = l.length / dimB b + m.length / dimB b := by
    have hl : l.length = dimB b * (l.length / dimB b) := by have := Nat.div_add_mod l.length (dimB b); omega
    have e : (l ++ m).length = m.length + dimB b * (l.length / dimB b) := by rw [List.length_append]; omega
    rw [e, Nat.add_mul_div_left _ _ (by omega), Nat.add_comm]
  unfold rowK
  rw [hK, lstB_behind b l m hd]
theorem fitB_append {b : Nat} {l m : List Int} (h1 : fitB b l = true) (h2 : fitB b m = true) : fitB b (l ++ m) = true := by
  unfold fitB at *
  rw [Bool.and_eq_true, decide_eq_true_eq] at *
  refine ⟨by rw [List.all_append, h1.1, h2.1]; rfl, ?_⟩
  rw [List.length_append, Nat.add_mod, h1.2, h2.2]; simp
/-- Two lists that fit a book cost, one behind the other, as much as both. -/
theorem bkC_append {n : Int} {l m : List Int} (h1 : (bkC n l).2 = 0) (h2 : (bkC n m).2 = 0) : bkC n (l ++ m) = ((bkC n l).1 + (bkC n m).1, 0) := by
  obtain ⟨b, rfl, h8, hq, hf, hc⟩ := bkC_ok h1
  obtain ⟨b', e, _, hq', hf', hc'⟩ := bkC_ok h2
  obtain rfl : b' = b := by omega
  have hqq : quantB (l ++ m) = true := by unfold quantB at *; rw [List.all_append, hq, hq']; rfl
  rw [(bkC_at hqq b' h8).2.2, if_pos (fitB_append hf hf'), hc, hc', rowK_append b' l m (fitB_mod hf), List.length_append]
  exact Prod.ext (by simp) rfl
end Go.Proofs.YtciknejchglmoaaDoor

namespace Go.Proofs.YtciknejchglmoaaDoor
open Go.RowKit

theorem bkC_cases (n : Int) (l : List Int) (h : (bkC n l).2 = 0) : 0 ≤ (bkC n l).1 ∧ (bkC n l).1 ≤ 104 * (l.length : Int) := by
  rw [bkC_len]
  have := bkW_len n l
  omega
theorem rowK_bd {n : Int} {l : List Int} {x : Int} (hl : l.length ≤ 600) (h : bkC n l = (x, 0)) : 0 ≤ x ∧ x ≤ 62400 := by
  have h1 := bkC_cases n l (by rw [h])
  rw [h] at h1
  have h2 : 0 ≤ x ∧ x ≤ 104 * (l.length : Int) := h1
  omega
set_option maxHeartbeats 8000000 in
set_option maxRecDepth 100000 in
theorem bookLeast_walk (A0 : Option Addr) (c0 : Nat) (s0 : List Int) (A1 : Option Addr) (c1 : Nat) (s1 : List Int) (W : World) (hG : GF W) (hT : GT W) (hR0 : RI W A0 c0 s0) (hR1 : RI W A1 c1 s1) :
    Calls Tryd.prog 6 #[.slice A0 s0.length c0, .slice A1 s1.length c1] W fun e W' => e = .returned (.bool true) ∧ Below W.heap.size W W' := by
  have HS := Lib.hid (GS.of hG hT)
  have HR := Lib.hid (And.intro hR0 hR1)
  clear hG hT hR0 hR1
  by_cases h6 : 600 < s0.length ∨ 600 < s1.length
  · have hcs : decide ((600 : Int) < (s0.length : Int)) = true ∨ (decide ((600 : Int) < (s0.length : Int)) = false ∧ decide ((600 : Int) < (s1.length : Int)) = true) := by
      by_cases h : 600 < s0.length
      · exact .inl (decide_eq_true (by omega))
      · exact .inr ⟨decide_eq_false (by omega), decide_eq_true (by omega)⟩
    clear h6
    rcases hcs with g1 | ⟨g1, g2⟩
    all_goals
      go_enter Tryd.func6, Tryd.ntmps6
      go_wp2_with fail
      refine (awake17_any _ HS.out.f HS.out.t).mono ?_
      rintro e w2 ⟨rfl, b⟩
      go_wp2_with fail
      go_ret
      exact ⟨rfl, b⟩
  · have g1 : decide ((600 : Int) < (s0.length : Int)) = false := decide_eq_false (by omega)
    have g2 : decide ((600 : Int) < (s1.length : Int)) = false := decide_eq_false (by omega)
    have HL := Lib.hid (show s0.length ≤ 600 ∧ s1.length ≤ 600 by omega)
    clear h6
    cases hq : quantB s0
    · have HB := Lib.hid (show bestV s0 = (0, 0) ∧ bestE s0 = 6 by unfold bestV bestE; rw [if_pos hq, if_pos hq]; exact ⟨rfl, rfl⟩)
      clear hq
      go_enter Tryd.func6, Tryd.ntmps6
      go_wp2_with fail
      refine (bBest_any A0 c0 s0 _ HR.out.1 HS.out.f HS.out.t (by have := HL.out; omega)).mono ?_
      rw [HB.out.1, HB.out.2]
      rintro e w1 ⟨rfl, b1⟩
      have hS := HS.out.below b1
      go_wp2_with fail
      refine (awake17_any _ hS.f hS.t).mono ?_
      rintro e w2 ⟨rfl, b⟩
      go_wp2_with fail
      go_ret
      exact ⟨rfl, below2 b1 b⟩
    · obtain ⟨b0, hb8, hbf, hbv, hb1, hb2⟩ := best_first hq
      have HBV := Lib.hid (show bestE s0 = 0 by unfold bestE; rw [if_neg (by simp [hq])])
      obtain ⟨y, hy⟩ : ∃ y : Int, ((rowK b0 s0).length : Int) = y := ⟨_, rfl⟩
      replace hb1 : ∀ n, n < 8 → fitB n s0 = true → y ≤ ((rowK n s0).length : Int) := fun n h h2 => by have := hb1 n h h2; omega
      replace hb2 : ∀ n, n < b0 → fitB n s0 = true → y < ((rowK n s0).length : Int) := fun n h h2 => by have := hb2 n h h2; omega
      rw [hy] at hbv
      have HY := Lib.hid (And.intro hy hbf)
      have HBW := Lib.hid hbv
      have HLE := Lib.hid hb1
      have HLT := Lib.hid hb2
      have HAT := Lib.hid (fun n (h : n < 8) => bkC_at hq n h)
      have HB8 := Lib.hid hb8
      clear hq hb1 hb2 hbv hbf hy hb8
      go_enter Tryd.func6, Tryd.ntmps6
      go_wp2_with fail
      refine (bBest_any A0 c0 s0 _ HR.out.1 HS.out.f HS.out.t (by have := HL.out; omega)).mono ?_
      rw [HBW.out, HBV.out]
      rintro e w1 ⟨rfl, b1⟩
      have HB1 := Lib.hid b1
      clear b1
      go_wp2_with fail
      go_loopw [8, 9, 10, 11, 12, 13, 14, 15, 16, 17, 48] (fun mv v9 v10 v11 v12 v13 v14 v15 v16 v17 iv wr => ∃ k : Nat, iv = .int .i64 (k : Int) ∧ k ≤ 8 ∧ mv = .bool (decide (b0 < k)) ∧ Hid (Below W.heap.size W wr)) (fun _ _ _ _ _ _ _ _ _ _ iv _ => 8 - (intOf iv).toNat)
      case atStart => exact ⟨0, rfl, by omega, by simp, HB1⟩
      case round =>
        obtain ⟨k, rfl, hk, rfl, hB⟩ := hrel
        by_cases hlt : k < 8
        · have hli : (k : Int) < 8 := by omega
          have hk1 : IntKind.i64.wrap ((k : Int) + 1) = ((k + 1 : Nat) : Int) := by rw [IntWalk.i64_in _ (by omega)]; omega
          obtain ⟨a1, a2, a3⟩ := HAT.out k hlt
          have HAP := Lib.hid (fun (h1 : (bkC (k : Int) s0).2 = 0) (h2 : (bkC (k : Int) s1).2 = 0) => bkC_append h1 h2)
          obtain ⟨⟨oc, oe⟩, ho⟩ : ∃ x, bkC (k : Int) s1 = x := ⟨_, rfl⟩
          obtain ⟨⟨tc, te⟩, ht⟩ : ∃ x, bkC (k : Int) (s0 ++ s1) = x := ⟨_, rfl⟩
          rw [ho, ht] at HAP
          have HO := Lib.hid ho; have HT := Lib.hid ht
          clear ho ht
          have hod := bkC_cases (k : Int) s1
          rw [HO.out] at hod
          cases hf : fitB k s0
          · rw [hf] at a2 a3
            rw [if_neg (by simp)] at a3
            have hne : k ≠ b0 := fun e => by rw [e, HY.out.2] at hf; cases hf
            have HM := Lib.hid (show decide (b0 < k + 1) = decide (b0 < k) from decide_eq_decide.2 (by omega))
            clear hf hne HAP hod
            cases hM : decide (b0 < k)
            all_goals
              have hR0 := HR.out.1.below hB.out; have hR1 := HR.out.2.below hB.out; have hS := HS.out.below hB.out
              go_wp2_with fail
              refine (bfits_any A0 c0 (k : Int) s0 _ hR0 hS.f).mono ?_
              rw [a1, a2]
              rintro e w2 ⟨rfl, b⟩
              replace hR0 := hR0.below b; replace hR1 := hR1.below b; replace hS := hS.below b; have BX := below2 hB.out b; clear b
              go_wp2_with fail
              refine (bCost_any A0 c0 (k : Int) s0 _ hR0 hS.f hS.t (by have := HL.out; omega)).mono ?_
              rw [a3]
              rintro e w3 ⟨rfl, b⟩
              replace hR0 := hR0.below b; replace hR1 := hR1.below b; replace hS := hS.below b; replace BX := below2 BX b; clear b
              go_wp2_with fail
              refine (bCost_any A1 c1 (k : Int) s1 _ hR1 hS.f hS.t (by have := HL.out; omega)).mono ?_
              rw [HO.out]
              rintro e w4 ⟨rfl, b⟩
              replace hR0 := hR0.below b; replace hR1 := hR1.below b; replace hS := hS.below b; replace BX := below2 BX b; clear b
              go_wp2_with fail
              refine (copy17_any A0 c0 s0 _ hR0 (by have := HL.out; omega)).mono ?_
              rintro e w5 ⟨v5, rfl, hO5, b⟩
              have HO5 := Lib.hid (hO5.mono BX.size)
              have HR1 := Lib.hid (hR1.below b)
              replace hS := hS.below b; replace BX := below2 BX b; clear b hO5 hR0 hR1
              obtain ⟨A5, c5, rfl, _⟩ := HO5.out.rd
              have HSZ := Lib.hid BX.size
              have HBX := Lib.hid BX
              have HSS := Lib.hid hS
              clear BX hS
              go_wp2_with (at_builtin; (refine append_row (w0 := W) W.heap.size rfl (.tmp 114) (.tmp 115) 25 3 .i64 8 rfl Tryd.underlying25 infoI (by decide) _ s0 s1 A1 c1 rfl rfl HO5.out HR1.out HBX.out HSZ.out (by have := HL.out; omega) ?_); intro v6 w6 hO6 hB6 hg6 _; have HO6 := Lib.hid hO6; have HB6 := Lib.hid hB6; have HS6 := Lib.hid (HSS.out.upd (Upd.of_grown (o := fun x => W.heap.size ≤ x) hg6 (fun r e => HO5.out.base_le r e)) (fun x h h2 => by omega)); clear hO6 hB6 hg6)
              obtain ⟨A6, c6, rfl, h6⟩ := own_ri HO6.out
              refine (bCost_any A6 c6 (k : Int) (s0 ++ s1) _ h6 HS6.out.f HS6.out.t (by rw [List.length_append]; have := HL.out; omega)).mono ?_
              rw [HT.out]
              rintro e w7 ⟨rfl, b⟩
              have BX := below2 HB6.out b; clear b h6
              go_wp2_with fail
              go_roundw
              case rel => exact ⟨k + 1, by first | rfl | (rw [hk1]), by omega, by rw [HM.out, hM], Lib.hid BX⟩
              case measure => show 8 - (k + 1) < 8 - k; omega
          · rw [hf] at a2 a3
            rw [if_pos rfl] at a3
            have hle := HLE.out k hlt hf
            have hlt2 := HLT.out k
            have hY := HY.out.1
            obtain ⟨x, hx⟩ : ∃ x : Int, ((rowK k s0).length : Int) = x := ⟨_, rfl⟩
            rw [hx] at a3 hle hlt2
            have hd : decide (x < y) = false := decide_eq_false (by omega)
            have hd2 : ¬ x < y := by omega
            rw [a3] at HAP
            have hap : oe = 0 → te = 0 ∧ tc = x + oc := fun h => by
              have h1 := HAP.out rfl h
              exact ⟨congrArg Prod.snd h1, congrArg Prod.fst h1⟩
            have hwr : oe = 0 → IntKind.i64.wrap (x + oc) = x + oc := fun h => IntWalk.i64_in _ (by have h3 := hod h; have h4 := rowK_bd HL.out.1 a3; have h5 := HL.out.2; omega)
            have hcs : (decide (b0 < k) = true ∧ decide (b0 < k + 1) = true ∧ (x == y) = true) ∨ (decide (b0 < k) = true ∧ decide (b0 < k + 1) = true ∧ (x == y) = false) ∨ (decide (b0 < k) = false ∧ decide (b0 < k + 1) = false ∧ (x == y) = false) ∨ (decide (b0 < k) = false ∧ decide (b0 < k + 1) = true ∧ (x == y) = true ∧ k = b0) := by
              rcases Nat.lt_trichotomy k b0 with h | h | h
              · have := hlt2 h hf
                exact .inr (.inr (.inl ⟨decide_eq_false (by omega), decide_eq_false (by omega), by simp; omega⟩))
              · subst h
                exact .inr (.inr (.inr ⟨decide_eq_false (by omega), decide_eq_true (by omega), by simp; omega, rfl⟩))
              · by_cases e : x = y
                · exact .inl ⟨decide_eq_true h, decide_eq_true (by omega), by simp [e]⟩
                · exact .inr (.inl ⟨decide_eq_true h, decide_eq_true (by omega), by simp; omega⟩)
            have hos : (oe = 0) ∨ ((oe == 0) = false) := by by_cases h : oe = 0; exact .inl h; exact .inr (by simp [h])
            clear hle hlt2 hY hx hf HAP
            rcases hos with ho0 | ho0
            · obtain ⟨rfl, rfl⟩ := hap ho0
              have hw2 := hwr ho0
              subst ho0
              clear hap hwr hod
              rcases hcs with ⟨m0, m1, e1⟩ | ⟨m0, m1, e1⟩ | ⟨m0, m1, e1⟩ | ⟨m0, m1, e1, rfl⟩
              all_goals
                rw [m0]
                have hR0 := HR.out.1.below hB.out; have hR1 := HR.out.2.below hB.out; have hS := HS.out.below hB.out
                go_wp2_with fail
                refine (bfits_any A0 c0 (k : Int) s0 _ hR0 hS.f).mono ?_
                rw [a1, a2]
                rintro e w2 ⟨rfl, b⟩
                replace hR0 := hR0.below b; replace hR1 := hR1.below b; replace hS := hS.below b; have BX := below2 hB.out b; clear b
                go_wp2_with fail
                refine (bCost_any A0 c0 (k : Int) s0 _ hR0 hS.f hS.t (by have := HL.out; omega)).mono ?_
                rw [a3]
                rintro e w3 ⟨rfl, b⟩
                replace hR0 := hR0.below b; replace hR1 := hR1.below b; replace hS := hS.below b; replace BX := below2 BX b; clear b
                go_wp2_with fail
                refine (bCost_any A1 c1 (k : Int) s1 _ hR1 hS.f hS.t (by have := HL.out; omega)).mono ?_
                rw [HO.out]
                rintro e w4 ⟨rfl, b⟩
                replace hR0 := hR0.below b; replace hR1 := hR1.below b; replace hS := hS.below b; replace BX := below2 BX b; clear b
                go_wp2_with fail
                refine (copy17_any A0 c0 s0 _ hR0 (by have := HL.out; omega)).mono ?_
                rintro e w5 ⟨v5, rfl, hO5, b⟩
                have HO5 := Lib.hid (hO5.mono BX.size)
                have HR1 := Lib.hid (hR1.below b)
                replace hS := hS.below b; replace BX := below2 BX b; clear b hO5 hR0 hR1
                obtain ⟨A5, c5, rfl, _⟩ := HO5.out.rd
                have HSZ := Lib.hid BX.size
                have HBX := Lib.hid BX
                have HSS := Lib.hid hS
                clear BX hS
                go_wp2_with (at_builtin; (refine append_row (w0 := W) W.heap.size rfl (.tmp 114) (.tmp 115) 25 3 .i64 8 rfl Tryd.underlying25 infoI (by decide) _ s0 s1 A1 c1 rfl rfl HO5.out HR1.out HBX.out HSZ.out (by have := HL.out; omega) ?_); intro v6 w6 hO6 hB6 hg6 _; have HO6 := Lib.hid hO6; have HB6 := Lib.hid hB6; have HS6 := Lib.hid (HSS.out.upd (Upd.of_grown (o := fun x => W.heap.size ≤ x) hg6 (fun r e => HO5.out.base_le r e)) (fun x h h2 => by omega)); clear hO6 hB6 hg6)
                obtain ⟨A6, c6, rfl, h6⟩ := own_ri HO6.out
                refine (bCost_any A6 c6 (k : Int) (s0 ++ s1) _ h6 HS6.out.f HS6.out.t (by rw [List.length_append]; have := HL.out; omega)).mono ?_
                rw [HT.out]
                rintro e w7 ⟨rfl, b⟩
                have BX := below2 HB6.out b; clear b h6
                go_wp2_with fail
                go_roundw
                case rel => exact ⟨k + 1, by first | rfl | (rw [hk1]), by omega, by rw [m1], Lib.hid BX⟩
                case measure => show 8 - (k + 1) < 8 - k; omega
            · clear hap hwr hod
              rcases hcs with ⟨m0, m1, e1⟩ | ⟨m0, m1, e1⟩ | ⟨m0, m1, e1⟩ | ⟨m0, m1, e1, rfl⟩
              all_goals
                rw [m0]
                have hR0 := HR.out.1.below hB.out; have hR1 := HR.out.2.below hB.out; have hS := HS.out.below hB.out
                go_wp2_with fail
                refine (bfits_any A0 c0 (k : Int) s0 _ hR0 hS.f).mono ?_
                rw [a1, a2]
                rintro e w2 ⟨rfl, b⟩
                replace hR0 := hR0.below b; replace hR1 := hR1.below b; replace hS := hS.below b; have BX := below2 hB.out b; clear b
                go_wp2_with fail
                refine (bCost_any A0 c0 (k : Int) s0 _ hR0 hS.f hS.t (by have := HL.out; omega)).mono ?_
                rw [a3]
                rintro e w3 ⟨rfl, b⟩
                replace hR0 := hR0.below b; replace hR1 := hR1.below b; replace hS := hS.below b; replace BX := below2 BX b; clear b
                go_wp2_with fail
                refine (bCost_any A1 c1 (k : Int) s1 _ hR1 hS.f hS.t (by have := HL.out; omega)).mono ?_
                rw [HO.out]
                rintro e w4 ⟨rfl, b⟩
                replace hR0 := hR0.below b; replace hR1 := hR1.below b; replace hS := hS.below b; replace BX := below2 BX b; clear b
                go_wp2_with fail
                refine (copy17_any A0 c0 s0 _ hR0 (by have := HL.out; omega)).mono ?_
                rintro e w5 ⟨v5, rfl, hO5, b⟩
                have HO5 := Lib.hid (hO5.mono BX.size)
                have HR1 := Lib.hid (hR1.below b)
                replace hS := hS.below b; replace BX := below2 BX b; clear b hO5 hR0 hR1
                obtain ⟨A5, c5, rfl, _⟩ := HO5.out.rd
                have HSZ := Lib.hid BX.size
                have HBX := Lib.hid BX
                have HSS := Lib.hid hS
                clear BX hS
                go_wp2_with (at_builtin; (refine append_row (w0 := W) W.heap.size rfl (.tmp 114) (.tmp 115) 25 3 .i64 8 rfl Tryd.underlying25 infoI (by decide) _ s0 s1 A1 c1 rfl rfl HO5.out HR1.out HBX.out HSZ.out (by have := HL.out; omega) ?_); intro v6 w6 hO6 hB6 hg6 _; have HO6 := Lib.hid hO6; have HB6 := Lib.hid hB6; have HS6 := Lib.hid (HSS.out.upd (Upd.of_grown (o := fun x => W.heap.size ≤ x) hg6 (fun r e => HO5.out.base_le r e)) (fun x h h2 => by omega)); clear hO6 hB6 hg6)
                obtain ⟨A6, c6, rfl, h6⟩ := own_ri HO6.out
                refine (bCost_any A6 c6 (k : Int) (s0 ++ s1) _ h6 HS6.out.f HS6.out.t (by rw [List.length_append]; have := HL.out; omega)).mono ?_
                rw [HT.out]
                rintro e w7 ⟨rfl, b⟩
                have BX := below2 HB6.out b; clear b h6
                go_wp2_with fail
                go_roundw
                case rel => exact ⟨k + 1, by first | rfl | (rw [hk1]), by omega, by rw [m1], Lib.hid BX⟩
                case measure => show 8 - (k + 1) < 8 - k; omega
        · obtain rfl : k = 8 := by omega
          have hm : decide (b0 < 8) = true := decide_eq_true HB8.out
          have hS := HS.out.below hB.out
          go_wp2_with fail
          refine (awake17_any _ hS.f hS.t).mono ?_
          rintro e w2 ⟨rfl, b⟩
          go_wp2_with fail
          go_ret
          exact ⟨rfl, below2 hB.out b⟩
end Go.Proofs.YtciknejchglmoaaDoor

namespace Go.Proofs.YtciknejchglmoaaDoor
open Go.ChangeShapes Go.WideShapes Go.ChangeAt Go.WideMaps Go.WideElems Go.RowKit Go.Deep

theorem laidOut_bookLeast : laidOutB Tryd.prog = true := by kernel_rfl
set_option maxRecDepth 100000 in
theorem lifted_bookLeast (os : Os) (started : os.Started) (H : Type) (enc : TypeId × Value → H) :
    ReturnsInHanded {} Tryd.checked os 6 .any (fun w args => (Rows.bookLeastSpec.pre enc Tryd.prog Tryd.f6 [] false w args ∧ laidMetH Tryd.prog laidBk w) ∧ sizedMet enc Tryd.prog Tryd.f6 (OpenSpec.ofChange Rows.bookLeastSpec) false w args)
      (Rows.bookLeastSpec.post enc Tryd.prog Tryd.f6 false true false false) := by
  refine returnsInHanded_of_change_and (C := Tryd.checked) (X := fun w _ => laidMetH Tryd.prog laidBk w) (fun _ _ _ hh h => h.of_heap hh) ownBk started (by kernel_rfl) Tryd.func6
    (ChangeSpec.witness_shaped (enc := enc) (C := Tryd.checked) (os := os) (X := fun w _ => laidMetH Tryd.prog laidBk w) false (World.doorLaid Tryd.prog 400 os) #[.slice none 0 0, .slice none 0 0] 8 rfl (World.shaped_of_RefB (by kernel_rfl) (by kernel_rfl)) (by kernel_rfl) (by kernel_rfl) (by kernel_rfl) (door_bk os _)) ?_
  intro W base args ds gs before hval0 hW _ hsz0 hL _
  obtain ⟨hG, hT⟩ := gf_of_laid hL
  have hval : ∀ (j : Nat) t v, Tryd.f6.params[j]? = some t → args[j]? = some v → Value.okWide Tryd.prog W .any base t v := hval0
  have hW' := hW
  obtain ⟨p, q, hA0, hV, rfl, hfz, hnd⟩ := hW
  have hA : DataW.TrodAll enc Tryd.prog W 0 (fun _ => true) true Tryd.f6.params.toList args.toList ds p := hA0
  have hsz : (DataW.weightsEach Tryd.prog (Tryd.f6.params.toList ++ Rows.bookLeastSpec.plain.varTypes Tryd.prog) (ds ++ gs)).all (· ≤ reachBytes) = true := hsz0
  rw [Tryd.params6] at hA hval hsz
  obtain ⟨v0, vs0, d0, ds0, p0, q0, hargs, rfl, rfl, h0, r0⟩ := trodAll_cons hA
  obtain ⟨v1, vs1, d1, ds1, p1, q1, rfl, rfl, rfl, h1, r1⟩ := trodAll_cons r0
  obtain ⟨rfl, rfl, rfl⟩ := trodAll_nil r1
  obtain rfl : args = #[v0, v1] := by cases args; simp_all
  obtain ⟨rfl, rfl⟩ := trodVars_none hV
  have lt0 : ∀ x ∈ p0, x.block < W.heap.size := by obtain ⟨m, hm⟩ := h0; exact DataW.trod_lt m _ _ _ hm
  have y0 : ∀ m ∈ d0.weights Tryd.prog 25, m ≤ reachBytes := fun m hm => of_decide_eq_true (List.all_eq_true.1 hsz m (DataW.weights_mem_each (j := 0) rfl rfl m hm))
  obtain ⟨B0, l0, e0, rfl⟩ := okWide_slice Tryd.underlying25 (hval 0 25 v0 rfl rfl)
  obtain ⟨A0, c0, s0, hv0, hR0, hB0⟩ : ∃ A c xs, Value.slice B0 l0 e0 = .slice A xs.length c ∧ RI W A c xs ∧ ((∀ m ∈ d0.weights Tryd.prog 25, m ≤ reachBytes) → xs.length ≤ 140737488355328) := by obtain ⟨fuel, hf⟩ := h0; exact open_I hf
  have lt1 : ∀ x ∈ p1, x.block < W.heap.size := by obtain ⟨m, hm⟩ := h1; exact DataW.trod_lt m _ _ _ hm
  have y1 : ∀ m ∈ d1.weights Tryd.prog 25, m ≤ reachBytes := fun m hm => of_decide_eq_true (List.all_eq_true.1 hsz m (DataW.weights_mem_each (j := 1) rfl rfl m hm))
  obtain ⟨B1, l1, e1, rfl⟩ := okWide_slice Tryd.underlying25 (hval 1 25 v1 rfl rfl)
  obtain ⟨A1, c1, s1, hv1, hR1, hB1⟩ : ∃ A c xs, Value.slice B1 l1 e1 = .slice A xs.length c ∧ RI W A c xs ∧ ((∀ m ∈ d1.weights Tryd.prog 25, m ≤ reachBytes) → xs.length ≤ 140737488355328) := by obtain ⟨fuel, hf⟩ := h1; exact open_I hf
  have hwalk := bookLeast_walk A0 c0 s0 A1 c1 s1 W hG hT hR0 hR1
  rw [← hv0] at hwalk
  rw [← hv1] at hwalk
  refine hwalk.mono fun e W' ⟨he, bel⟩ => ?_
  subst he
  exact ⟨_, rfl, _, _, _, [], _, [], hW', trodAll_mk1 (shut_bool Tryd.underlying4 _), (trodAll_cons_mk (Below.trod laidOut_bookLeast (by kernel_rfl) (of_decide_eq_true (by kernel_rfl)) h0 bel lt0) (trodAll_cons_mk (Below.trod laidOut_bookLeast (by kernel_rfl) (of_decide_eq_true (by kernel_rfl)) h1 bel lt1) trodAll_mk0)), rfl, bel.frame _, fun h => by cases h⟩
theorem bookLeast_said : Rows.BookLeastSaid :=
  OpenClaim.holds_of_wide 6 Tryd.f6 rfl rfl rfl rfl rfl rfl rfl ⟨rfl, rfl, rfl, rfl, rfl⟩ rfl rfl rfl rfl rfl (by kernel_rfl) Tryd.func6 (by kernel_rfl)
    (of_decide_eq_true (by kernel_rfl)) (by unfold Func.isWrapper; first | (rw [if_pos (by decide +kernel)]; kernel_rfl) | (rw [if_neg (by decide +kernel)]; exact ⟨rfl, rfl⟩))
    (fun os started H enc _ => lifted_bookLeast os started H enc)
theorem bookLeast_card : Rows.BookLeastCardSaid :=
  Claim7.holds_tied_plain_at .later [] [.wider, .data] true Rows.bookLeastCard.stood.harness false
    bookLeast_said (fun _ h => by cases h) (by kernel_rfl) (fun _ h => by cases h) bookLeast_row_tie rfl ⟨rfl, rfl⟩ (by kernel_rfl) rfl
    (fun f fn hf hfn => by
      obtain rfl : f = 6 := Option.some.inj ((show Tryd.prog.funcNamed "shawm/shawmlaw17.BookLeast" = some 6 by kernel_rfl).symm.trans hf) |>.symm
      obtain rfl : fn = Tryd.f6 := (Option.some.inj (Tryd.func6.symm.trans hfn)).symm
      exact ⟨by kernel_rfl, fun j t ht => by
        rw [Tryd.params6] at ht
        have hm : t ∈ [25, 25] := by simpa using Array.mem_of_getElem? ht
        have hall : ([25, 25].all fun u => !Tryd.prog.wantsStandIn u) = true := by kernel_rfl
        exact (show Tryd.prog.wantsStandIn t = false by simpa using List.all_eq_true.1 hall t hm)⟩)
    (by kernel_rfl)
#print axioms bookLeast_card
end Go.Proofs.YtciknejchglmoaaDoor
