/- scale: Used of the program: what it returns. · Parts of slices, as rules for the walk and as what they read as. · The document's bands: Widths; the document's scale: Used: what each call returns. · The document's tape of bits: OK, Left, Fail, Get: what each call returns, and where the tape is then. · The document's tape of bits: Word: what it returns, for a complete code, and where the tape is then. · The document's scale: Take, Read: what each call returns, and where the tape is then. · The document's scale: Read: what it returns, and where the tape is then. · The statements about scale: few: what it returns. · scale: after: what it returns, and what the closure returns. · scale: the closure of after: what it returns. · scale: the closure of Choose: what it returns. · scale: least: what it returns, for any list and pure function. · scale: the tables of Choose, plain; a row of an array of rows: loads and stores. -/
import Derived.Test.YtkfgomhhenmmeaaKf
import Derived.Test.YtkfgomhhenmmeaaKa
import Derived.Laws.BytesArg
import Derived.Test.YtkfgomhhenmmeaaKc
import Derived.Test.YtkfgomhhenmmeaaKb
import Derived.Deep.MidRow
namespace Go.Proofs.Ytkfgomhhenmmeaa
open Go.RowKit

set_option maxHeartbeats 4000000 in
set_option maxRecDepth 100000 in
theorem used_any (A B : Option Addr) (c d : Nat) (ws l : List Int) (w : World) (hS : RI w A c ws) (hL : RI w B d l) (hw : ws.length ≤ 100000) (hl : l.length ≤ 100000) :
    Calls Try.prog 25 #[.slice A ws.length c, .slice B l.length d] w fun e w' => ∃ A2 c2, e = .returned (.tuple #[.slice A2 (usedB ws l).length c2, .int .i64 (usedE ws l)]) ∧ RB w' A2 c2 (usedB ws l) ∧ Below w.heap.size w w' := by
  have hmk := make_bools ws.length (by omega)
  have HS := Lib.hid hS
  have HL := Lib.hid hL
  have HNIL := Lib.hid (fun W : World => (⟨Nat.le_refl _, by decide, Kd.Rd.nil _ _ _ _⟩ : RB W none 0 []))
  clear hS hL
  go_enter Try.func25, Try.ntmps25
  go_wp2
  go_loopw [6, 15] (fun nv iv wr => ∃ k : Nat, iv = .int .i64 (k : Int) ∧ k ≤ ws.length ∧ nv = .int .i64 (sumN ws k : Int) ∧ Hid ((ws.take k).all okW = true) ∧ w = wr) (fun _ iv _ => ws.length - (intOf iv).toNat)
  case atStart => exact ⟨0, rfl, Nat.zero_le _, rfl, Lib.hid rfl, rfl⟩
  case round =>
    obtain ⟨k, rfl, hk, rfl, hA, rfl⟩ := hrel
    by_cases hlt : k < ws.length
    · obtain ⟨ad, rfl, hc⟩ := rd_int HS.out k hlt
      have hki : (k : Int) < (ws.length : Int) := by omega
      have HN := Lib.hid (all_okW_take ws k hlt)
      have HNO := Lib.hid (all_okW_no hlt)
      have hsl := sumN_le k hk hA.out
      have HSU := Lib.hid (sumN_succ ws k)
      have hwd : widN ws k = (nth 0 ws k).toNat := rfl
      obtain ⟨T, hT⟩ : ∃ T, sumN ws k = T := ⟨_, rfl⟩
      rw [hT] at hsl HSU
      obtain ⟨S, hS2⟩ : ∃ S, sumN ws (k + 1) = S := ⟨_, rfl⟩
      rw [hS2] at HSU
      generalize nth 0 ws k = x at hc HN HNO hwd
      have HX := Lib.hid (fun W => is_any x W)
      by_cases h1 : x < 1
      · have e1 : decide (x < 1) = true := decide_eq_true h1
        have HR := Lib.hid (show usedE ws l = 1 ∧ usedB ws l = [] by
          have h2 : ws.all okW = false := HNO.out (by unfold okW; rw [decide_eq_false (by omega)]; rfl)
          have h3 : usedE ws l = 1 := by unfold usedE; rw [if_neg (by rw [h2]; simp)]
          exact ⟨h3, by unfold usedB; rw [if_neg (by rw [h3]; decide)]⟩)
        rw [hT]
        clear h1 hwd hT hS2
        go_wp2
        go_ret2
        exact ⟨none, 0, ret_two (by rw [HR.out.2]; rfl) (by rw [HR.out.1]; rfl), by rw [HR.out.2]; exact HNIL.out _, Below.refl _ _⟩
      · have e1 : decide (x < 1) = false := decide_eq_false h1
        by_cases h2 : 128 < x
        · have e2 : decide (128 < x) = true := decide_eq_true h2
          have HR := Lib.hid (show usedE ws l = 1 ∧ usedB ws l = [] by
            have h2 : ws.all okW = false := HNO.out (by unfold okW; rw [decide_eq_false (by omega : ¬ x ≤ 128)]; simp)
            have h3 : usedE ws l = 1 := by unfold usedE; rw [if_neg (by rw [h2]; simp)]
            exact ⟨h3, by unfold usedB; rw [if_neg (by rw [h3]; decide)]⟩)
          rw [hT]
          clear h1 h2 hwd hT hS2
          go_wp2
          go_ret2
          exact ⟨none, 0, ret_two (by rw [HR.out.2]; rfl) (by rw [HR.out.1]; rfl), by rw [HR.out.2]; exact HNIL.out _, Below.refl _ _⟩
        · have e2 : decide (128 < x) = false := decide_eq_false h2
          have HA2 := Lib.hid (show (ws.take (k + 1)).all okW = true by rw [HN.out, hA.out]; unfold okW; rw [decide_eq_true (by omega), decide_eq_true (by omega)]; rfl)
          have hws : IntKind.i64.wrap ((T : Int) + x) = (S : Int) := by rw [IntWalk.i64_in _ (by omega)]; have := HSU.out; omega
          have HS2 := Lib.hid hS2
          rw [hT]
          clear h1 h2 hwd hT hS2 hsl
          go_wp2
          go_roundw
          case rel => exact ⟨k + 1, by go_num, by omega, by rw [HS2.out], HA2, trivial⟩
          case measure => simp [intOf]; omega
    · obtain rfl : k = ws.length := by omega
      have hall : ws.all okW = true := by have := hA.out; rwa [List.take_length] at this
      have hsl := sumN_le ws.length (Nat.le_refl _) hA.out
      have HALL := Lib.hid hall
      by_cases hsum : sumN ws ws.length = l.length
      · have hsb : ((sumN ws ws.length : Int) != (l.length : Int)) = false := by simp [hsum]
        by_cases h128 : 128 < ws.length
        · have hd : decide (128 < (ws.length : Int)) = true := decide_eq_true (by omega)
          have HR := Lib.hid (show usedE ws l = 1 ∧ usedB ws l = [] by
            have h3 : usedE ws l = 1 := by unfold usedE; rw [if_neg (by omega)]
            exact ⟨h3, by unfold usedB; rw [if_neg (by rw [h3]; decide)]⟩)
          generalize sumN ws ws.length = T at hsb hsum hsl
          clear hsum h128 hall
          go_wp2
          go_ret2
          exact ⟨none, 0, ret_two (by rw [HR.out.2]; rfl) (by rw [HR.out.1]; rfl), by rw [HR.out.2]; exact HNIL.out _, Below.refl _ _⟩
        · have hd : decide (128 < (ws.length : Int)) = false := decide_eq_false (by omega)
          have HR := Lib.hid (show usedE ws l = 0 ∧ usedB ws l = rowU ws l ws.length 0 by
            have h3 : usedE ws l = 0 := by unfold usedE; rw [if_pos ⟨hall, hsum, by omega⟩]
            exact ⟨h3, by unfold usedB; rw [if_pos h3]⟩)
          have HSM := Lib.hid hsum
          have HMO := Lib.hid (fun k d (h : k + d = ws.length) => show sumN ws k ≤ l.length from by have := sumN_mono ws k d; rw [h, hsum] at this; exact this)
          generalize sumN ws ws.length = T at hsb hsl
          clear hsum h128 hall
          go_wp2
          obtain ⟨gr, hgr⟩ : ∃ gr, w.heap.size = gr := ⟨_, rfl⟩
          have hB0 : Blk (w.alloc (.cells (bools (List.replicate ws.length false)).toArray 4)) gr (bools (rowU ws l 0 0)).toArray 4 := by rw [rowU_zero, ← hgr]; exact heap_alloc_new w _
          have hb0 := below_alloc (Below.refl w.heap.size w) (.cells (bools (List.replicate ws.length false)).toArray 4)
          have HGR := Lib.hid hgr
          simp only [hgr]
          clear hgr hmk
          go_loopw [10, 43] (fun av iv wr => ∃ k : Nat, iv = .int .i64 (k : Int) ∧ k ≤ ws.length ∧ av = .int .i64 (sumN ws k : Int) ∧ Hid (Blk wr gr (bools (rowU ws l k 0)).toArray 4) ∧ Hid (Below w.heap.size w wr)) (fun _ iv _ => ws.length - (intOf iv).toNat)
          case atStart => exact ⟨0, rfl, Nat.zero_le _, rfl, Lib.hid hB0, Lib.hid hb0⟩
          case round =>
            clear hB0 hb0
            obtain ⟨k, rfl, hk, rfl, hB, hb⟩ := hrel
            by_cases hlt : k < ws.length
            · obtain ⟨ad, rfl, hc⟩ := rd_int (HS.out.below hb.out) k hlt
              have hki : (k : Int) < (ws.length : Int) := by omega
              have hok : okW (nth 0 ws k) = true := List.all_eq_true.1 HALL.out _ (nth_mem 0 ws k hlt)
              have hx : 1 ≤ nth 0 ws k ∧ nth 0 ws k ≤ 128 := by simpa [okW] using hok
              have HSU := Lib.hid (sumN_succ ws k)
              have hle := HMO.out (k + 1) (ws.length - (k + 1)) (by omega)
              obtain ⟨x, hxe⟩ : ∃ x : Nat, nth 0 ws k = (x : Int) := ⟨(nth 0 ws k).toNat, by omega⟩
              have hwd : widN ws k = x := by unfold widN; rw [hxe]; rfl
              rw [hxe] at hc hx
              rw [hwd] at HSU
              rw [HSU.out] at hle
              have HWD := Lib.hid hwd
              have HNX := Lib.hid (rowU_next ws l k)
              rw [hwd] at HNX
              obtain ⟨S, hS9⟩ : ∃ S, sumN ws k = S := ⟨_, rfl⟩
              have HSE := Lib.hid hS9
              rw [hS9] at hle HSU
              rw [hS9]
              clear hok hxe hwd hS9
              go_wp2
              go_loopw [10, 49] (fun av iv wq => ∃ m : Nat, iv = .int .i64 (m : Int) ∧ m ≤ x ∧ av = .int .i64 ((S + m : Nat) : Int) ∧ Hid (Blk wq gr (bools (rowU ws l k m)).toArray 4) ∧ Hid (Below w.heap.size w wq)) (fun _ iv _ => x - (intOf iv).toNat)
              case atStart => exact ⟨0, rfl, Nat.zero_le _, rfl, hB, hb⟩
              case round =>
                clear hB hb hc
                obtain ⟨m, rfl, hm, rfl, hB, hb⟩ := hrel
                by_cases hlm : m < x
                · obtain ⟨ad2, rfl, hc2⟩ := rd_int (HL.out.below hb.out) (S + m) (by omega)
                  have hmi : (m : Int) < (x : Int) := by omega
                  have hali : ((S + m : Nat) : Int) < (l.length : Int) := by omega
                  have hcr := hB.out.cell k (by rw [List.getElem?_toArray]; exact bools_get _ k (by rw [rowU_length]; exact hlt))
                  rw [rowU_nth ws l k m hlt] at hcr
                  have hfr := hB.out.free k
                  have HPS := Lib.hid (partB_succ ws l k m (by rw [HSE.out]; omega))
                  rw [HSE.out] at HPS
                  have HST := Lib.hid (rowU_set ws l k m (m + 1))
                  have hkr : (k : Int) < (ws.length : Int) := hki
                  have hw1 : IntKind.i64.wrap (((S + m : Nat) : Int) + 1) = ((S + (m + 1) : Nat) : Int) := by rw [IntWalk.i64_in _ (by omega)]; omega
                  have HNEW : ∀ y : Bool, partB ws l k (m + 1) = y → Hid (Blk (wr.setCell ⟨gr, k, none⟩ (.bool y)) gr (bools (rowU ws l k (m + 1))).toArray 4 ∧ Below w.heap.size w (wr.setCell ⟨gr, k, none⟩ (.bool y))) := fun y hy => Lib.hid (by
                    have h1 := hB.out.set k (.bool y)
                    have h2 : ((bools (rowU ws l k m)).toArray.setIfInBounds k (.bool y)) = (bools (rowU ws l k (m + 1))).toArray := by
                      rw [List.setIfInBounds_toArray, bools_set, ← hy, HST.out]
                    rw [h2] at h1
                    exact ⟨h1, below_grown hb.out hb.out.size (grown_setCell wr gr k (.bool y)) (fun r e => by have := Option.some.inj e; have := HGR.out; omega)⟩)
                  generalize nth 0 l (S + m) = v at hc2 HPS
                  cases hp : partB ws l k m
                  · rw [hp] at hcr HPS
                    by_cases hv : v = 0
                    · have hvb : (v != 0) = false := by simp [hv]
                      have HQ := HNEW false (by rw [HPS.out, hv]; rfl)
                      clear HNEW hp hv hm hlm
                      go_wp2
                      go_roundw
                      case rel => exact ⟨m + 1, by go_num, by omega, rfl, Lib.hid HQ.out.1, Lib.hid HQ.out.2⟩
                      case measure => simp [intOf]; omega
                    · have hvb : (v != 0) = true := by simp [hv]
                      have HQ := HNEW true (by rw [HPS.out]; simp [hv])
                      clear HNEW hp hv hm hlm
                      go_wp2
                      go_roundw
                      case rel => exact ⟨m + 1, by go_num, by omega, rfl, Lib.hid HQ.out.1, Lib.hid HQ.out.2⟩
                      case measure => simp [intOf]; omega
                  · rw [hp] at hcr HPS
                    have HQ := HNEW true (by rw [HPS.out]; rfl)
                    clear HNEW hp hm hlm
                    go_wp2
                    go_roundw
                    case rel => exact ⟨m + 1, by go_num, by omega, rfl, Lib.hid HQ.out.1, Lib.hid HQ.out.2⟩
                    case measure => simp [intOf]; omega
                · obtain rfl : m = x := by omega
                  go_wp2
                  go_roundw
                  case rel => exact ⟨k + 1, by go_num, by omega, by rw [HSU.out], by rw [← HNX.out]; exact hB, hb⟩
                  case measure => simp [intOf]; omega
            · obtain rfl : k = ws.length := by omega
              go_wp2
              go_ret2
              refine ⟨_, _, ret_two (by rw [HR.out.2, rowU_length]; rfl) (by rw [HR.out.1]; rfl), ?_, hb.out⟩
              rw [HR.out.2]
              exact (sl_bools hB.out (by rw [rowU_length]; exact Nat.le_refl _) (by omega)).any
      · have hsb : ((sumN ws ws.length : Int) != (l.length : Int)) = true := by simp; omega
        have HR := Lib.hid (show usedE ws l = 1 ∧ usedB ws l = [] by
          have h3 : usedE ws l = 1 := by unfold usedE; rw [if_neg (by omega)]
          exact ⟨h3, by unfold usedB; rw [if_neg (by rw [h3]; decide)]⟩)
        generalize sumN ws ws.length = T at hsb hsum hsl
        clear hsum hall
        go_wp2
        go_ret2
        exact ⟨none, 0, ret_two (by rw [HR.out.2]; rfl) (by rw [HR.out.1]; rfl), by rw [HR.out.2]; exact HNIL.out _, Below.refl _ _⟩
end Go.Proofs.Ytkfgomhhenmmeaa

namespace Go.Proofs.Ytkfgomhhenmmeaa
open Go.RowKit
section
variable {P : Program} (t e : TypeId) {i : TypeInfo} (ht : P.underlying t = some (.slice e)) (hi : P.info? e = some i) (A : Option Addr) (n c : Nat)
include ht hi
/-- 'xs[:hi]'. -/
theorem cut_to (hi' : Nat) (h2 : hi' ≤ n) (hnc : n ≤ c) :
    ∃ A' : Option Addr, (∀ W : World, (Instr.slice t (.slice A n c) none (some (.int .i64 (hi' : Int))) none).run P W = .ok (.slice A' hi' c) W) ∧
      ∀ {α : Type} (k : Kd α) (ok : Nat → Prop) (w : World) (xs : List α), k.size = i.size → xs.length = n → Sl k ok w A c xs → Sl k ok w A' c (xs.take hi') := by
  refine ⟨if c = 0 then A else A.map (·.add (0 * i.size)), fun W => ?_, fun k ok w xs hk hx h => ?_⟩
  · have hel : P.elem t = e := by simp [Program.elem, ht]
    have hu : P.underlying t = some (.slice (P.elem t)) := by rw [hel]; exact ht
    rw [run_slice_h W t A n c hu .i64 (hi' : Int) (Int.natCast_nonneg _) (by omega), hel]
    simp [sizeOf, typeInfo, hi, sliced, Result.andThen]
  · refine ⟨by rw [List.length_take]; have := h.le; omega, h.cap, ?_⟩
    by_cases hc : c = 0
    · have : xs.take hi' = [] := List.eq_nil_of_length_eq_zero (by rw [List.length_take]; omega)
      rw [this]
      exact Kd.Rd.nil _ _ _ _
    · rw [if_neg hc, ← hk]
      have := (h.rd.take hi').drop 0
      rwa [List.drop_zero] at this
end
/-- 'xs[m:]' as a rule for the walk, and what it reads as. -/
theorem cut_from {P : Program} (t e : TypeId) {i : TypeInfo} (ht : P.underlying t = some (.slice e)) (hi : P.info? e = some i) (A : Option Addr) (n c m : Nat) (hm : m ≤ n) :
    ∃ A' : Option Addr, (∀ W : World, (Instr.slice t (.slice A n c) (some (.int .i64 (m : Int))) none none).run P W = .ok (.slice A' (n - m) (c - m)) W) ∧
      ∀ {α : Type} (k : Kd α) (ok : Nat → Prop) (w : World) (xs : List α), k.size = i.size → xs.length = n → Sl k ok w A c xs → Sl k ok w A' (c - m) (xs.drop m) := by
  refine ⟨if c = m then A else A.map (·.add (m * i.size)), fun W => ?_, fun k ok w xs hk hx h => ?_⟩
  · have hel : P.elem t = e := by simp [Program.elem, ht]
    have hu : P.underlying t = some (.slice (P.elem t)) := by rw [hel]; exact ht
    rw [run_slice_l W t A n c hu .i64 (m : Int) (Int.natCast_nonneg _) (by omega), hel]
    simp [sizeOf, typeInfo, hi, sliced, Result.andThen]
  · refine ⟨by rw [List.length_drop]; have := h.le; omega, by have := h.cap; omega, ?_⟩
    by_cases hc : c = m
    · have : xs.drop m = [] := List.drop_of_length_le (by have := h.le; omega)
      rw [this]
      exact Kd.Rd.nil _ _ _ _
    · rw [if_neg hc, ← hk]
      exact h.rd.drop m
theorem info_parts' {P : Program} {e : TypeId} {z : Option Value} {s b : Nat} (h : (P.info? e).map (fun i => (i.zero, i.size, i.bytes)) = some (z, s, b)) : ∃ i0, P.info? e = some i0 ∧ i0.zero = z ∧ i0.size = s ∧ i0.bytes = b := by
  obtain ⟨i0, hi, hzz⟩ := Option.map_eq_some_iff.1 h
  simp only [Prod.mk.injEq] at hzz
  exact ⟨i0, hi, hzz⟩
end Go.Proofs.Ytkfgomhhenmmeaa

namespace Go.Proofs.Ytkfgomhhenmmeaa
open Go.RowKit

set_option maxHeartbeats 2000000 in
set_option maxRecDepth 100000 in
theorem widths_any (A : Option Addr) (c : Nat) (ws : List Int) (w : World) (hS : RI w A c ws) (hw : ws.length ≤ 100000) :
    Calls Try.prog 57 #[.slice A ws.length c] w fun e w' => e = .returned (.tuple #[.int .i64 (if ws.all okW = true then (sumN ws ws.length : Int) else 0), .bool (ws.all okW && decide (ws.length ≤ 128))]) ∧ w = w' := by
  have HS := Lib.hid hS
  obtain ⟨R, hR⟩ : ∃ R : Int, (if ws.all okW = true then (sumN ws ws.length : Int) else 0) = R := ⟨_, rfl⟩
  have HR := Lib.hid hR
  rw [hR]
  clear hS hR
  go_enter Try.func57, Try.ntmps57
  go_wp2
  go_loopw [4, 9] (fun nv iv wr => ∃ k : Nat, iv = .int .i64 (k : Int) ∧ k ≤ ws.length ∧ nv = .int .i64 (sumN ws k : Int) ∧ Hid ((ws.take k).all okW = true) ∧ w = wr) (fun _ iv _ => ws.length - (intOf iv).toNat)
  case atStart => exact ⟨0, rfl, Nat.zero_le _, rfl, Lib.hid rfl, rfl⟩
  case round =>
    obtain ⟨k, rfl, hk, rfl, hA, rfl⟩ := hrel
    by_cases hlt : k < ws.length
    · obtain ⟨ad, rfl, hc⟩ := rd_int HS.out k hlt
      have hki : (k : Int) < (ws.length : Int) := by omega
      have HN := Lib.hid (all_okW_take ws k hlt)
      have HNO := Lib.hid (all_okW_no hlt)
      have hsl := sumN_le k hk hA.out
      have HSU := Lib.hid (sumN_succ ws k)
      have hwd : widN ws k = (nth 0 ws k).toNat := rfl
      obtain ⟨T, hT⟩ : ∃ T, sumN ws k = T := ⟨_, rfl⟩
      rw [hT] at hsl HSU
      obtain ⟨S, hS2⟩ : ∃ S, sumN ws (k + 1) = S := ⟨_, rfl⟩
      rw [hS2] at HSU
      generalize nth 0 ws k = x at hc HN HNO hwd
      by_cases h1 : x < 1
      · have e1 : decide (x < 1) = true := decide_eq_true h1
        have HQ := Lib.hid (show ws.all okW = false from HNO.out (by unfold okW; rw [decide_eq_false (by omega)]; rfl))
        rw [hT]
        clear h1 hwd hT hS2
        go_wp2
        go_ret2
        exact ⟨ret_two (by rw [← HR.out, if_neg (by rw [HQ.out]; simp)]; rfl) (by rw [HQ.out]; rfl), rfl⟩
      · have e1 : decide (x < 1) = false := decide_eq_false h1
        by_cases h2 : 128 < x
        · have e2 : decide (128 < x) = true := decide_eq_true h2
          have HQ := Lib.hid (show ws.all okW = false from HNO.out (by unfold okW; rw [decide_eq_false (by omega : ¬ x ≤ 128)]; simp))
          rw [hT]
          clear h1 h2 hwd hT hS2
          go_wp2
          go_ret2
          exact ⟨ret_two (by rw [← HR.out, if_neg (by rw [HQ.out]; simp)]; rfl) (by rw [HQ.out]; rfl), rfl⟩
        · have e2 : decide (128 < x) = false := decide_eq_false h2
          have HA2 := Lib.hid (show (ws.take (k + 1)).all okW = true by rw [HN.out, hA.out]; unfold okW; rw [decide_eq_true (by omega), decide_eq_true (by omega)]; rfl)
          have hws : IntKind.i64.wrap ((T : Int) + x) = (S : Int) := by rw [IntWalk.i64_in _ (by omega)]; have := HSU.out; omega
          have HS2 := Lib.hid hS2
          rw [hT]
          clear h1 h2 hwd hT hS2 hsl
          go_wp2
          go_roundw
          case rel => exact ⟨k + 1, by go_num, by omega, by rw [HS2.out], HA2, trivial⟩
          case measure => simp [intOf]; omega
    · obtain rfl : k = ws.length := by omega
      have HALL := Lib.hid (show ws.all okW = true by have := hA.out; rwa [List.take_length] at this)
      by_cases h128 : ws.length ≤ 128
      · have hd : decide ((ws.length : Int) ≤ 128) = true := decide_eq_true (by omega)
        have HD := Lib.hid (show decide (ws.length ≤ 128) = true from decide_eq_true h128)
        clear h128
        go_wp2
        go_ret2
        exact ⟨ret_two (by rw [← HR.out, if_pos HALL.out]; rfl) (by rw [HALL.out, HD.out]; rfl), rfl⟩
      · have hd : decide ((ws.length : Int) ≤ 128) = false := decide_eq_false (by omega)
        have HD := Lib.hid (show decide (ws.length ≤ 128) = false from decide_eq_false h128)
        clear h128
        go_wp2
        go_ret2
        exact ⟨ret_two (by rw [← HR.out, if_pos HALL.out]; rfl) (by rw [HALL.out, HD.out]; rfl), rfl⟩
/-- The first bands. -/
def bandL (ws l : List Int) (k : Nat) : List Bool := (List.range k).map fun i => partB ws l i (widN ws i)
theorem bandL_succ (ws l : List Int) (k : Nat) : bandL ws l (k + 1) = bandL ws l k ++ [partB ws l k (widN ws k)] := by unfold bandL; rw [List.range_succ, List.map_append]; rfl
theorem bandL_length (ws l : List Int) (k : Nat) : (bandL ws l k).length = k := by simp [bandL]
theorem bandL_all (ws l : List Int) : bandL ws l ws.length = rowU ws l ws.length 0 := by
  apply List.ext_getElem
  · simp [bandL, rowU]
  · intro i h1 h2
    have : i < ws.length := by simpa [bandL] using h1
    simp [bandL, rowU, this]

set_option maxHeartbeats 4000000 in
set_option maxRecDepth 100000 in
theorem rused_any (A B : Option Addr) (c d : Nat) (ws l : List Int) (w : World) (hS : RI w A c ws) (hL : RI w B d l) (hw : ws.length ≤ 100000) (hl : l.length ≤ 100000) :
    Calls Try.prog 26 #[.slice A ws.length c, .slice B l.length d] w fun e w' => ∃ A2 c2, e = .returned (.tuple #[.slice A2 (usedB ws l).length c2, .int .i64 (usedE ws l)]) ∧ RB w' A2 c2 (usedB ws l) ∧ Below w.heap.size w w' := by
  have HC := Lib.hid (widths_any A c ws w hS hw)
  have HS := Lib.hid hS
  have HL := Lib.hid hL
  have HNIL := Lib.hid (fun W : World => (⟨Nat.le_refl _, by decide, Kd.Rd.nil _ _ _ _⟩ : RB W none 0 []))
  have hno : usedE ws l ≠ 0 → usedB ws l = [] := fun h => by unfold usedB; rw [if_neg h]
  clear hS hL
  by_cases hall : ws.all okW = true
  · by_cases h128 : ws.length ≤ 128
    · have hb : (ws.all okW && decide (ws.length ≤ 128)) = true := by rw [hall, decide_eq_true h128]; rfl
      rw [hb, if_pos hall] at HC
      by_cases hsum : sumN ws ws.length = l.length
      · have hsb : ((sumN ws ws.length : Int) != (l.length : Int)) = false := by simp [hsum]
        have HR := Lib.hid (show usedE ws l = 0 ∧ usedB ws l = rowU ws l ws.length 0 by
          have h3 : usedE ws l = 0 := by unfold usedE; rw [if_pos ⟨hall, hsum, by omega⟩]
          exact ⟨h3, by unfold usedB; rw [if_pos h3]⟩)
        have HMO := Lib.hid (fun k d (h : k + d = ws.length) => show sumN ws k ≤ l.length from by have := sumN_mono ws k d; rw [h, hsum] at this; exact this)
        have HALL := Lib.hid hall
        obtain ⟨i0, hi0, hz0, hz1, hz2⟩ := info_parts' infoI
        generalize sumN ws ws.length = T at hsb HC
        clear hb hsum hall hno
        go_enter Try.func26, Try.ntmps26
        go_wp2_with (go_at_call 57; refine HC.out.mono ?_; rintro e w2 ⟨rfl, rfl⟩)
        obtain ⟨wo, rfl⟩ : ∃ wo, wo = w := ⟨_, rfl⟩
        go_loopw [1, 8, 29] (fun lv v iv wr => ∃ (k : Nat) (A1 : Option Addr) (n1 c1 : Nat), iv = .int .i64 (k : Int) ∧ k ≤ ws.length ∧ lv = .slice A1 n1 c1 ∧ Hid (n1 = (l.drop (sumN ws k)).length ∧ RI wo A1 c1 (l.drop (sumN ws k))) ∧ Hid (OwnK kBool 4 wo.heap.size (fun _ => False) wr v (bandL ws l k)) ∧ Hid (Below wo.heap.size wo wr)) (fun _ _ iv _ => ws.length - (intOf iv).toNat)
        case atStart => exact ⟨0, B, l.length, d, rfl, Nat.zero_le _, rfl, Lib.hid ⟨rfl, HL.out⟩, Lib.hid (OwnK.nil _ _ _ _ _), Lib.hid (Below.refl _ _)⟩
        case round =>
          obtain ⟨k, A1, n1, c1, rfl, hk, rfl, hRL, hO, hB⟩ := hrel
          by_cases hlt : k < ws.length
          · obtain ⟨ad, rfl, hc⟩ := rd_int (HS.out.below hB.out) k hlt
            have hki : (k : Int) < (ws.length : Int) := by omega
            have hok : okW (nth 0 ws k) = true := List.all_eq_true.1 HALL.out _ (nth_mem 0 ws k hlt)
            have hx : 1 ≤ nth 0 ws k ∧ nth 0 ws k ≤ 128 := by simpa [okW] using hok
            have HSU := Lib.hid (sumN_succ ws k)
            have hle := HMO.out (k + 1) (ws.length - (k + 1)) (by omega)
            obtain ⟨x, hxe⟩ : ∃ x : Nat, nth 0 ws k = (x : Int) := ⟨(nth 0 ws k).toNat, by omega⟩
            have hwd : widN ws k = x := by unfold widN; rw [hxe]; rfl
            rw [hxe] at hc hx
            rw [hwd] at HSU
            rw [HSU.out] at hle
            have HBL := Lib.hid (bandL_succ ws l k)
            rw [hwd] at HBL
            have HBN := Lib.hid (bandL_length ws l k)
            have hn1 : x ≤ n1 ∧ n1 ≤ 100000 := by have := hRL.out.1; rw [List.length_drop] at this; omega
            have hRi := hRL.out.2
            have hcap : n1 ≤ c1 := by have := hRi.le; have := hRL.out.1; omega
            obtain ⟨A5, hcut5, hsl5⟩ := cut_to (P := Try.prog) 22 3 Try.underlying22 hi0 A1 n1 c1 x hn1.1 hcap
            obtain ⟨A6, hcut6, hsl6⟩ := cut_from (P := Try.prog) 22 3 Try.underlying22 hi0 A1 n1 c1 x hn1.1
            have H5 := Lib.hid (hsl5 (kInt .i64) AnyB wo _ hz1.symm hRL.out.1.symm hRi)
            have H6 := Lib.hid (hsl6 (kInt .i64) AnyB wo _ hz1.symm hRL.out.1.symm hRi)
            have hl5 : ((l.drop (sumN ws k)).take x).length = x := by rw [List.length_take, ← hRL.out.1]; omega
            rw [List.drop_drop] at H6
            have HL5 := Lib.hid hl5
            have HN6 := Lib.hid (show n1 - x = (l.drop (sumN ws k + x)).length by rw [hRL.out.1, List.length_drop, List.length_drop]; omega)
            obtain ⟨L5, hL5⟩ : ∃ L5, (l.drop (sumN ws k)).take x = L5 := ⟨_, rfl⟩
            have HPB := Lib.hid (show ∀ m, m ≤ x → partB ws l k m = (L5.take m).any (· != 0) from fun m hm => by unfold partB; rw [← hL5, List.take_take, Nat.min_eq_left hm])
            rw [hL5] at H5 HL5
            clear hok hxe hwd hle hsl5 hsl6 hRi hl5 hL5 hcap hx
            go_wp2
            obtain ⟨wu, rfl⟩ : ∃ wu, wu = wr := ⟨_, rfl⟩
            go_loopw [11, 37] (fun sv iv wr => ∃ m : Nat, iv = .int .i64 (m : Int) ∧ m ≤ x ∧ sv = .bool ((L5.take m).any (· != 0)) ∧ wu = wr) (fun _ iv _ => x - (intOf iv).toNat)
            case atStart => exact ⟨0, rfl, Nat.zero_le _, by simp, rfl⟩
            case round =>
              obtain ⟨m, rfl, hm, rfl, rfl⟩ := hrel
              by_cases hlm : m < x
              · obtain ⟨ad2, rfl, hc2⟩ := rd_int (H5.out.below hB.out) m (by rw [HL5.out]; exact hlm)
                have hmi : (m : Int) < (x : Int) := by omega
                have HT := Lib.hid (show (L5.take (m + 1)).any (· != 0) = ((L5.take m).any (· != 0) || (nth 0 L5 m != 0)) by rw [take_succ_nth 0 L5 m (by rw [HL5.out]; exact hlm), List.any_append]; simp)
                generalize nth 0 L5 m = v at hc2 HT
                obtain ⟨p, hp⟩ : ∃ p, (L5.take m).any (· != 0) = p := ⟨_, rfl⟩
                rw [hp] at HT ⊢
                clear hp
                cases p
                · by_cases hv : v = 0
                  · have hvb : (v != 0) = false := by simp [hv]
                    have HQ := Lib.hid (show (L5.take (m + 1)).any (· != 0) = false by rw [HT.out, hv]; rfl)
                    clear hv hm hlm
                    go_wp2
                    go_roundw
                    case rel => exact ⟨m + 1, by go_num, by omega, by rw [HQ.out], trivial⟩
                    case measure => simp [intOf]; omega
                  · have hvb : (v != 0) = true := by simp [hv]
                    have HQ := Lib.hid (show (L5.take (m + 1)).any (· != 0) = true by rw [HT.out, hvb]; rfl)
                    clear hv hm hlm
                    go_wp2
                    go_roundw
                    case rel => exact ⟨m + 1, by go_num, by omega, by rw [HQ.out], trivial⟩
                    case measure => simp [intOf]; omega
                · have HQ := Lib.hid (show (L5.take (m + 1)).any (· != 0) = true by rw [HT.out]; rfl)
                  clear hm hlm
                  go_wp2
                  go_roundw
                  case rel => exact ⟨m + 1, by go_num, by omega, by rw [HQ.out], trivial⟩
                  case measure => simp [intOf]; omega
              · obtain rfl : m = x := by omega
                have HP := Lib.hid (HPB.out m (Nat.le_refl _)).symm
                rw [HP.out]
                generalize partB ws l k m = y at HBL ⊢
                have hbl : (bandL ws l k).length ≤ 100000 := by rw [HBN.out]; omega
                clear hc hcut5 hn1 hm hlm
                go_wp2_with (at_builtin; (refine append_k (W := wu) (k := kBool) wo.heap.size rfl (.tmp 50) (.tmp 52) 23 4 (.bool false) 1 (fun _ => False) rfl Try.underlying23 infoB rfl (by decide) (by decide) u8 (bandL ws l k) y [.bool y] rfl rfl rfl hO.out rfl hB.out.size (by omega) ?_); intro g4 c4 w4 hO4 hg4 hb4 _; have HO4 := Lib.hid hO4; have HB4 := Lib.hid (below_grown hB.out hB.out.size hg4 hO.out.base_le); clear hO4 hg4 hb4)
                go_roundw
                case rel => exact ⟨k + 1, A6, n1 - m, c1 - m, by go_num, by omega, rfl, by rw [HSU.out]; exact Lib.hid ⟨HN6.out, H6.out⟩, by rw [HBL.out]; exact HO4, HB4⟩
                case measure => simp [intOf]; omega
          · obtain rfl : k = ws.length := by omega
            go_wp2
            go_ret2
            obtain ⟨A9, c9, hv9, h9⟩ := hO.out.rd
            rw [bandL_all, ← HR.out.2] at hv9 h9
            exact ⟨A9, c9, ret_two hv9 (by rw [HR.out.1]; rfl), h9.any, hB.out⟩
      · have hsb : ((sumN ws ws.length : Int) != (l.length : Int)) = true := by simp; omega
        have h3 : usedE ws l = 1 := by unfold usedE; rw [if_neg (by omega)]
        have HR := Lib.hid (show usedE ws l = 1 ∧ usedB ws l = [] from ⟨h3, hno (by rw [h3]; decide)⟩)
        generalize sumN ws ws.length = T at hsb hsum HC
        clear hb hsum hall hno h3
        go_enter Try.func26, Try.ntmps26
        go_wp2_with (go_at_call 57; refine HC.out.mono ?_; rintro e w2 ⟨rfl, rfl⟩)
        go_ret2
        exact ⟨none, 0, ret_two (by rw [HR.out.2]; rfl) (by rw [HR.out.1]; rfl), by rw [HR.out.2]; exact HNIL.out _, Below.refl _ _⟩
    · have hb : (ws.all okW && decide (ws.length ≤ 128)) = false := by rw [decide_eq_false h128]; simp
      have h3 : usedE ws l = 1 := by unfold usedE; rw [if_neg (by omega)]
      have HR := Lib.hid (show usedE ws l = 1 ∧ usedB ws l = [] from ⟨h3, hno (by rw [h3]; decide)⟩)
      rw [hb] at HC
      generalize (if ws.all okW = true then (sumN ws ws.length : Int) else 0) = T at HC
      clear hb hall hno h3
      go_enter Try.func26, Try.ntmps26
      go_wp2_with (go_at_call 57; refine HC.out.mono ?_; rintro e w2 ⟨rfl, rfl⟩)
      go_ret2
      exact ⟨none, 0, ret_two (by rw [HR.out.2]; rfl) (by rw [HR.out.1]; rfl), by rw [HR.out.2]; exact HNIL.out _, Below.refl _ _⟩
  · have hb : (ws.all okW && decide (ws.length ≤ 128)) = false := by rw [Bool.eq_false_iff.2 hall]; rfl
    have h3 : usedE ws l = 1 := by unfold usedE; rw [if_neg (fun h => hall h.1)]
    have HR := Lib.hid (show usedE ws l = 1 ∧ usedB ws l = [] from ⟨h3, hno (by rw [h3]; decide)⟩)
    rw [hb] at HC
    generalize (if ws.all okW = true then (sumN ws ws.length : Int) else 0) = T at HC
    clear hb hall hno h3
    go_enter Try.func26, Try.ntmps26
    go_wp2_with (go_at_call 57; refine HC.out.mono ?_; rintro e w2 ⟨rfl, rfl⟩)
    go_ret2
    exact ⟨none, 0, ret_two (by rw [HR.out.2]; rfl) (by rw [HR.out.1]; rfl), by rw [HR.out.2]; exact HNIL.out _, Below.refl _ _⟩
end Go.Proofs.Ytkfgomhhenmmeaa

namespace Go.Proofs.Ytkfgomhhenmmeaa
open Go.RowKit

/-- A tape over these bits, at a place, with an error; o: its blocks. -/
def Tr (o : Nat → Prop) (w : World) (g : Nat) (l : List Bool) (at_ : Nat) (e : Int) : Prop :=
  ∃ A c, Blk w g #[.slice A l.length c, .int .i64 at_, .int .i64 e] 45 ∧ Sl (kInt .u8) (fun b => o b ∧ b ≠ g) w A c (bitsI l) ∧ at_ ≤ l.length ∧ l.length ≤ 1048576 ∧ o g
section
variable {o o' : Nat → Prop} {w w' : World} {g : Nat} {l : List Bool} {at_ : Nat} {e : Int}
theorem Tr.lt (h : Tr o w g l at_ e) : g < w.heap.size := let ⟨_, _, h, _⟩ := h; h.lt
theorem Tr.og (h : Tr o w g l at_ e) : o g := let ⟨_, _, _, _, _, _, h⟩ := h; h
theorem Tr.le (h : Tr o w g l at_ e) : at_ ≤ l.length := let ⟨_, _, _, _, h, _⟩ := h; h
theorem Tr.bound (h : Tr o w g l at_ e) : l.length ≤ 1048576 := let ⟨_, _, _, _, _, h, _⟩ := h; h
theorem Tr.weak (h : Tr o w g l at_ e) (ho : ∀ b, b < w.heap.size → o b → o' b) : Tr o' w g l at_ e := by
  obtain ⟨A, c, h1, h2, h3, h4, h5⟩ := h
  exact ⟨A, c, h1, h2.weak fun b hb h => ⟨ho b hb h.1, h.2⟩, h3, h4, ho g h1.lt h5⟩
theorem Tr.keep (h : Tr o w g l at_ e) {ok : Nat → Prop} (hk : Keep ok w w') (ho : ∀ b, o b → ok b) : Tr o w' g l at_ e := by
  obtain ⟨A, c, h1, h2, h3, h4, h5⟩ := h
  exact ⟨A, c, h1.keep hk (ho g h5), (h2.keep (hk.weak fun b hb => ho b hb.1)), h3, h4, h5⟩
theorem Tr.cut (h : Tr o w g l at_ e) : Tr (fun b => o b ∧ b < w.heap.size) w g l at_ e := h.weak fun _ hb ho => ⟨ho, hb⟩
theorem Tr.upd {o2 : Nat → Prop} (h : Tr o w g l at_ e) (hu : Upd o2 w w') (ho : ∀ b, b < w.heap.size → o b → ¬ o2 b) : Tr o w' g l at_ e := by
  have h1 : Tr (fun b => o b ∧ b < w.heap.size) w' g l at_ e := h.cut.keep (hu.keep (ok := fun b => ¬ o2 b) fun _ hb => hb) (fun b e => ho b e.2 e.1)
  exact h1.weak (fun b _ e => e.1)
theorem Tr.below (h : Tr o w g l at_ e) (hb : Below w.heap.size w w') : Tr o w' g l at_ e := h.upd (o2 := fun _ => False) (Upd.of_below hb _) (fun _ _ _ h => h)
theorem Tr.moved (h : Tr o w g l at_ e) (j : Nat) (hj : j ≤ l.length) : Tr o (w.setCell ⟨g, 1, none⟩ (.int .i64 (j : Int))) g l j e ∧ Upd (fun b => b = g) w (w.setCell ⟨g, 1, none⟩ (.int .i64 (j : Int))) := by
  obtain ⟨A, c, h1, h2, h3, h4, h5⟩ := h
  refine ⟨⟨A, c, h1.set 1 (.int .i64 (j : Int)), h2.keep (ok := fun b => o b ∧ b ≠ g) (Keep.of_grown1 (grown_setCell w g 1 _) |>.weak fun b hb => hb.2), hj, h4, h5⟩, ?_⟩
  exact Upd.setCell (fun b => b = g) w g 1 _ rfl
theorem Tr.failed (h : Tr o w g l at_ e) (x : Int) : Tr o (w.setCell ⟨g, 2, none⟩ (.int .i64 x)) g l at_ x ∧ Upd (fun b => b = g) w (w.setCell ⟨g, 2, none⟩ (.int .i64 x)) := by
  obtain ⟨A, c, h1, h2, h3, h4, h5⟩ := h
  refine ⟨⟨A, c, h1.set 2 (.int .i64 x), h2.keep (ok := fun b => o b ∧ b ≠ g) (Keep.of_grown1 (grown_setCell w g 2 _) |>.weak fun b hb => hb.2), h3, h4, h5⟩, ?_⟩
  exact Upd.setCell (fun b => b = g) w g 2 _ rfl
theorem Tr.cells (h : Tr o w g l at_ e) : ∃ A c, w.cell? ⟨g, 0, none⟩ = some (.slice A l.length c) ∧ w.cell? ⟨g, 1, none⟩ = some (.int .i64 at_) ∧ w.cell? ⟨g, 2, none⟩ = some (.int .i64 e) ∧ w.frozen? ⟨g, 1, none⟩ = false ∧ w.frozen? ⟨g, 2, none⟩ = false ∧ Sl (kInt .u8) (fun b => o b ∧ b ≠ g) w A c (bitsI l) := by
  obtain ⟨A, c, h1, h2, _⟩ := h
  exact ⟨A, c, h1.cell 0 rfl, h1.cell 1 rfl, h1.cell 2 rfl, h1.free 1, h1.free 2, h2⟩
end

set_option maxHeartbeats 400000 in
set_option maxRecDepth 100000 in
theorem tok_any (o : Nat → Prop) (g i : Nat) (l : List Bool) (e0 : Int) (w : World) (h : Tr o w g l i e0) :
    Calls Try.prog 47 #[.pointer (some ⟨g, 0, none⟩)] w fun e w' => e = .returned (.bool (e0 == 0)) ∧ w = w' := by
  obtain ⟨A, c, k0, k1, k2, _⟩ := h.cells
  clear h
  go_enter Try.func47, Try.ntmps47
  go_wp2
  go_ret
  exact ⟨rfl, rfl⟩
set_option maxHeartbeats 400000 in
set_option maxRecDepth 100000 in
theorem tleft_any (o : Nat → Prop) (g i : Nat) (l : List Bool) (e0 : Int) (w : World) (h : Tr o w g l i e0) :
    Calls Try.prog 84 #[.pointer (some ⟨g, 0, none⟩)] w fun e w' => e = .returned (.int .i64 ((l.length : Int) - (i : Int))) ∧ Below w.heap.size w w' := by
  obtain ⟨A, c, k0, k1, k2, _⟩ := h.cells
  have hb := h.bound
  have hi := h.le
  have hw : IntKind.i64.wrap ((l.length : Int) - (i : Int)) = (l.length : Int) - (i : Int) := IntWalk.i64_in _ (by omega)
  clear h
  go_enter Try.func84, Try.ntmps84
  go_wp2
  go_still_tail 10, (by kernel_rfl)
  change wpList _ _ _ _ _ (World.drew _)
  go_wp2
  go_ret
  exact ⟨rfl, (Below.refl _ _).drew⟩
/-- An error behind another one. -/
def failE (e0 x : Int) : Int := if e0 = 0 then x else e0
set_option maxHeartbeats 400000 in
set_option maxRecDepth 100000 in
theorem tfail_any (o : Nat → Prop) (g i : Nat) (l : List Bool) (e0 x : Int) (w : World) (h : Tr o w g l i e0) :
    Calls Try.prog 73 #[.pointer (some ⟨g, 0, none⟩), .int .i64 x] w fun e w' => e = .returned (.tuple #[]) ∧ Tr o w' g l i (failE e0 x) ∧ Upd (fun b => b = g) w w' := by
  obtain ⟨A, c, k0, k1, k2, f1, f2, _⟩ := h.cells
  have HC := Lib.hid (tok_any o g i l e0 w h)
  have H := Lib.hid h
  clear h
  by_cases he : e0 = 0
  · have heb : (e0 == 0) = true := by simp [he]
    rw [heb] at HC
    have HE := Lib.hid (show failE e0 x = x by unfold failE; rw [if_pos he])
    clear he
    go_enter Try.func73, Try.ntmps73
    go_wp2_with (go_at_call 47; refine HC.out.mono ?_; rintro e w2 ⟨rfl, rfl⟩)
    go_end0
    rw [HE.out]
    exact ⟨rfl, (H.out.failed x).1, (H.out.failed x).2⟩
  · have heb : (e0 == 0) = false := by simp [he]
    rw [heb] at HC
    have HE := Lib.hid (show failE e0 x = e0 by unfold failE; rw [if_neg he])
    clear he
    go_enter Try.func73, Try.ntmps73
    go_wp2_with (go_at_call 47; refine HC.out.mono ?_; rintro e w2 ⟨rfl, rfl⟩)
    go_end0
    rw [HE.out]
    exact ⟨rfl, H.out, Upd.refl _ _⟩
theorem bitsI_at (l : List Bool) (k : Nat) (h : k < l.length) : nth 0 (bitsI l) k = b2i (nth false l k) := by
  rw [nth_eq 0 _ k (by simpa [bitsI] using h), nth_eq false _ k h]; simp [bitsI]
set_option maxHeartbeats 2000000 in
set_option maxRecDepth 100000 in
theorem tget_any (o : Nat → Prop) (g i n : Nat) (l : List Bool) (w : World) (h : Tr o w g l i 0) (hn : n ≤ 32) :
    Calls Try.prog 71 #[.pointer (some ⟨g, 0, none⟩), .int .i64 (n : Int)] w
      fun e w' => e = .returned (.int .i64 (getV l i n : Int)) ∧ Tr o w' g l (getI l i n) (getE l i n) ∧ Upd (fun b => b = g) w w' := by
  have HK := Lib.hid (fun (E : Int) W (h : Tr o W g l i E) => tok_any o g i l E W h)
  have HLF := Lib.hid (tleft_any o g i l 0 w h)
  have hi := h.le
  have hb := h.bound
  have H := Lib.hid h
  clear h
  by_cases hsh : l.length < i + n
  · have hd : decide ((l.length : Int) - (i : Int) < (n : Int)) = true := decide_eq_true (by omega)
    have HE := Lib.hid (show getV l i n = 0 ∧ getI l i n = i ∧ getE l i n = 3 by unfold getV getI getE; simp [hsh])
    clear hsh
    go_enter Try.func71, Try.ntmps71
    go_wp2_with (first
      | (go_at_call 47; refine (HK.out 0 _ H.out).mono ?_; rintro e w2 ⟨rfl, rfl⟩)
      | (go_at_call 47; refine (HK.out 3 _ HT4.out).mono ?_; rintro e w5 ⟨rfl, rfl⟩)
      | (go_at_call 84; refine HLF.out.mono ?_; rintro e w3 ⟨rfl, b3⟩; have HF := Lib.hid (tfail_any o g i l 0 3 w3 (H.out.below b3)))
      | (go_at_call 73; refine HF.out.mono ?_; rintro e w4 ⟨rfl, ht4, hu4⟩; have HT4 := Lib.hid ht4))
    go_ret
    exact ⟨by rw [HE.out.1]; rfl, by rw [HE.out.2.1, HE.out.2.2]; exact HT4.out, (Upd.of_below b3 (fun b => b = g)).trans hu4 fun _ _ h => h⟩
  · have hd : decide ((l.length : Int) - (i : Int) < (n : Int)) = false := decide_eq_false (by omega)
    have HE := Lib.hid (show getV l i n = valB ((l.drop i).take n) ∧ getI l i n = i + n ∧ getE l i n = 0 by unfold getV getI getE; simp [hsh])
    have HSH := Lib.hid hsh
    clear hsh
    go_enter Try.func71, Try.ntmps71
    go_wp2_with (first
      | (go_at_call 47; refine (HK.out 0 _ H.out).mono ?_; rintro e w2 ⟨rfl, rfl⟩)
      | (go_at_call 47; refine (HK.out 0 _ (H.out.below b3)).mono ?_; rintro e w5 ⟨rfl, rfl⟩)
      | (go_at_call 84; refine HLF.out.mono ?_; rintro e w3 ⟨rfl, b3⟩))
    have H3 := Lib.hid (H.out.below b3)
    have HB3 := Lib.hid b3
    clear b3 hd
    obtain ⟨wo, rfl⟩ : ∃ wo, wo = w3 := ⟨_, rfl⟩
    go_loopw [5, 20] (fun v iv wr => ∃ j : Nat, iv = .int .i64 (j : Int) ∧ j ≤ n ∧ v = .int .i64 (valB ((l.drop i).take j) : Int) ∧ Hid (Tr o wr g l (i + j) 0) ∧ Hid (Upd (fun b => b = g) wo wr)) (fun _ iv _ => n - (intOf iv).toNat)
    case atStart => exact ⟨0, rfl, Nat.zero_le _, rfl, H3, Lib.hid (Upd.refl _ _)⟩
    case round =>
      obtain ⟨j, rfl, hj, rfl, hT, hU⟩ := hrel
      by_cases hlt : j < n
      · have hji : (j : Int) < (n : Int) := by omega
        obtain ⟨A, c, k0, k1, k2, f1, f2, hrow⟩ := hT.out.cells
        have hll : i + j < l.length := by have := HSH.out; omega
        obtain ⟨ad, rfl, hc⟩ := rd_int hrow (i + j) (by simpa [bitsI] using hll)
        rw [bitsI_at l _ hll] at hc
        have hlc : (bitsI l).length = l.length := by simp [bitsI]
        have HV := Lib.hid (show valB ((l.drop i).take (j + 1)) = 2 * valB ((l.drop i).take j) + (nth false l (i + j)).toNat by
          rw [take_succ_nth false _ j (by rw [List.length_drop]; omega), valB_snoc, nth_drop])
        have hvl := valB_lt ((l.drop i).take j)
        have hv32 : (2 : Nat) ^ ((l.drop i).take j).length ≤ 2 ^ 32 := Nat.pow_le_pow_right (by decide) (by rw [List.length_take]; omega)
        have h32 : (2 : Nat) ^ 32 = 4294967296 := by decide
        obtain ⟨x, hx⟩ : ∃ x, valB ((l.drop i).take j) = x := ⟨_, rfl⟩
        rw [hx] at hvl HV ⊢
        generalize nth false l (i + j) = t at hc HV
        have hbb := b2i_bd t
        have HTN := Lib.hid (b2i_nat t)
        have hcv : IntKind.i64.wrap (b2i t) = b2i t := IntWalk.i64_in _ (by omega)
        have hw1 : IntKind.i64.wrap (2 * (x : Int)) = 2 * (x : Int) := IntWalk.i64_in _ (by omega)
        have hw2 : IntKind.i64.wrap (2 * (x : Int) + b2i t) = 2 * (x : Int) + b2i t := IntWalk.i64_in _ (by omega)
        have hiL : ((i + j : Nat) : Int) < (l.length : Int) := by omega
        have hw3 : IntKind.i64.wrap (((i + j : Nat) : Int) + 1) = ((i + (j + 1) : Nat) : Int) := by rw [IntWalk.i64_in _ (by omega)]; omega
        have HM := Lib.hid (fun N => (hT.out.below (below_drewN (Below.refl wr.heap.size wr) N)).moved (i + (j + 1)) (by omega))
        generalize b2i t = y at hc HTN hbb hcv hw2
        clear hx hvl hv32 h32 hrow hlc hll hlt
        go_wp2
        go_quiet (fail)
        go_wp2
        go_roundw
        case rel =>
          have e1 : ((i : Int) + (j : Int) + 1) = ((i + (j + 1) : Nat) : Int) := by omega
          have e2 := HTN.out
          refine ⟨j + 1, by go_num, by omega, by rw [HV.out]; congr 1; omega, Lib.hid ?_, Lib.hid ?_⟩
          · rw [e1]; exact (HM.out nq).1
          · rw [e1]; exact (hU.out.trans (Upd.drewN (fun b => b = g) _ nq) fun _ _ h => h).trans (HM.out nq).2 fun _ _ h => h
        case measure => simp [intOf]; omega
      · obtain rfl : j = n := by omega
        go_wp2
        go_ret
        exact ⟨by rw [HE.out.1]; rfl, by rw [HE.out.2.1, HE.out.2.2]; exact hT.out, (Upd.of_below HB3.out (fun b => b = g)).trans hU.out fun _ _ h => h⟩
end Go.Proofs.Ytkfgomhhenmmeaa

namespace Go.Proofs.Ytkfgomhhenmmeaa
open Go.RowKit

/-- Some word of the first ones is longer than n, and begins with x. -/
def someK (ls : List Int) (n x k : Nat) : Bool := (List.range k).any fun s => decide (n < lenOf ls s) && (codeN ls s / 2 ^ (lenOf ls s - n) == x)
theorem someK_succ (ls : List Int) (n x k : Nat) : someK ls n x (k + 1) = (someK ls n x k || (decide (n < lenOf ls k) && (codeN ls k / 2 ^ (lenOf ls k - n) == x))) := by
  unfold someK; rw [List.range_succ, List.any_append]; simp
theorem someK_begs {ls : List Int} (hr : Right ls) (hf : filledN ls = 65536) {D : List Bool} {n : Nat} (hn : n ≤ 16) (hD : n ≤ D.length) (h : NoWord ls D n) : someK ls n (valB (D.take n)) ls.length = true := by
  obtain ⟨i, h1, h2, h3⟩ := begs hr hf hn hD h
  unfold someK
  rw [List.any_eq_true]
  exact ⟨i, List.mem_range.2 h1, by simp [h2, h3]⟩

/-- Where a word's reading is. -/
def WdI (ls : List Int) (l : List Bool) (i m x at_ : Nat) (E : Int) : Prop :=
  (E = 0 ∧ at_ = i + m ∧ x = valB ((l.drop i).take m) ∧ m ≤ 15 ∧ m ≤ (l.drop i).length ∧ NoWord ls (l.drop i) m ∧ wordR ls (l.drop i) = wordF ls (l.drop i) (16 - m) m) ∨
  (E = 3 ∧ m ≤ 16 ∧ i ≤ at_ ∧ wordR ls (l.drop i) = (0, 3, at_ - i))

set_option maxHeartbeats 4000000 in
set_option maxRecDepth 100000 in
theorem tword_any (o : Nat → Prop) (g i : Nat) (l : List Bool) (A1 A2 : Option Addr) (c1 c2 : Nat) (ls : List Int) (w : World) (h : Tr o w g l i 0) (hS : Sl (kInt .i64) (fun b => b ≠ g) w A1 c1 ls) (hC : Sl (kInt .i64) (fun b => b ≠ g) w A2 c2 (codesL ls)) (hr : Right ls) (hf : filledN ls = 65536) :
    Calls Try.prog 72 #[.pointer (some ⟨g, 0, none⟩), .slice A1 ls.length c1, .slice A2 ls.length c2] w
      fun e w' => e = .returned (.int .i64 ((wordR ls (l.drop i)).1 : Int)) ∧ Tr o w' g l (i + (wordR ls (l.drop i)).2.2) (wordR ls (l.drop i)).2.1 ∧ Upd (fun b => b = g) w w' := by
  have HK := Lib.hid (fun (j : Nat) (E : Int) W (h : Tr o W g l j E) => tok_any o g j l E W h)
  have HR := Lib.hid hr
  have HFD := Lib.hid hf
  have HS := Lib.hid hS
  have HC := Lib.hid hC
  have hn := hr.len
  have H0 := Lib.hid h
  have HIL := Lib.hid (show i ≤ l.length ∧ l.length ≤ 1048576 from ⟨h.le, h.bound⟩)
  clear hS hC hr hf h
  go_enter Try.func72, Try.ntmps72
  go_wp2
  go_loopw [7, 8] (fun xv nv wr => ∃ (m x at_ : Nat) (E : Int), nv = .int .i64 ((m : Int) + 1) ∧ xv = .int .i64 (x : Int) ∧ x ≤ 131072 ∧ m ≤ 16 ∧ Hid (WdI ls l i m x at_ E) ∧ Hid (Tr o wr g l at_ E) ∧ Hid (Upd (fun b => b = g) w wr)) (fun _ nv _ => 20 - (intOf nv).toNat)
  case atStart => exact ⟨0, 0, i, 0, rfl, rfl, by omega, by omega, Lib.hid (.inl ⟨rfl, rfl, rfl, by omega, Nat.zero_le _, fun m h1 h2 => by omega, rfl⟩), H0, Lib.hid (Upd.refl _ _)⟩
  case round =>
    clear H0
    obtain ⟨m, x, at_, E, rfl, rfl, hxb, hm, hI, hT, hU⟩ := hrel
    rcases hI.out with ⟨rfl, hat, hx, hm15, hmD, hNo, hrun⟩ | ⟨rfl, hm16, hia, hrun⟩
    · have hxl : x < 2 ^ m := by
        have := valB_lt ((l.drop i).take m)
        rw [← hx, List.length_take, Nat.min_eq_left hmD] at this; exact this
      have hx15 : (2 : Nat) ^ m ≤ 2 ^ 15 := Nat.pow_le_pow_right (by decide) hm15
      have h15 : (2 : Nat) ^ 15 = 32768 := by decide
      obtain ⟨N, hN⟩ : ∃ N, m + 1 = N := ⟨_, rfl⟩
      have hNi : (m : Int) + 1 = (N : Int) := by omega
      rw [hNi]
      have HG := Lib.hid (tget_any o g at_ 1 l wr hT.out (by decide))
      obtain ⟨E2, hE2⟩ : ∃ E2, getE l at_ 1 = E2 := ⟨_, rfl⟩
      obtain ⟨V1, hV1⟩ : ∃ V1, getV l at_ 1 = V1 := ⟨_, rfl⟩
      obtain ⟨at2, hat2⟩ : ∃ at2, getI l at_ 1 = at2 := ⟨_, rfl⟩
      rw [hE2, hV1, hat2] at HG
      obtain ⟨x2, hx2⟩ : ∃ x2, 2 * x + V1 = x2 := ⟨_, rfl⟩
      -- what the bit gives
      have hcase : (E2 = 0 ∧ at2 = i + N ∧ x2 = valB ((l.drop i).take N) ∧ N ≤ (l.drop i).length ∧ V1 ≤ 1) ∨ (E2 = 3 ∧ V1 = 0 ∧ at2 = at_ ∧ wordR ls (l.drop i) = (0, 3, m)) := by
        by_cases hsh : l.length < at_ + 1
        · refine .inr ⟨by rw [← hE2]; unfold getE; rw [if_pos hsh], by rw [← hV1]; unfold getV; rw [if_pos hsh], by rw [← hat2]; unfold getI; rw [if_pos hsh], ?_⟩
          rw [hrun, show 16 - m = (15 - m) + 1 by omega]
          unfold wordF
          rw [if_pos (by rw [List.length_drop]; omega)]
        · have hv : V1 = (nth false l at_).toNat := by
            rw [← hV1]; unfold getV; rw [if_neg hsh, drop_nth false l at_ (by omega)]; simp [valB]
          have hvt := toNat_le (nth false l at_)
          refine .inl ⟨by rw [← hE2]; unfold getE; rw [if_neg hsh], by rw [← hat2]; unfold getI; rw [if_neg hsh]; omega, ?_, by rw [List.length_drop]; omega, by omega⟩
          rw [← hx2, ← hN, take_succ_nth false _ m (by rw [List.length_drop]; omega), valB_snoc, nth_drop, ← hx, hv, hat]
      have hV1b : V1 ≤ 1 := by rcases hcase with h | h <;> omega
      have hw1 : IntKind.i64.wrap (2 * (x : Int)) = 2 * (x : Int) := IntWalk.i64_in _ (by omega)
      have hw2 : IntKind.i64.wrap (2 * (x : Int) + (V1 : Int)) = (x2 : Int) := by rw [IntWalk.i64_in _ (by omega)]; omega
      have hx2b : x2 ≤ 131072 := by omega
      have HCASE := Lib.hid hcase
      have HRUN := Lib.hid hrun
      have HNN := Lib.hid (show m + 1 = N ∧ m ≤ 15 from ⟨hN, hm15⟩)
      have hN16 : N ≤ 16 := by omega
      have HNO := Lib.hid hNo
      have HAT := Lib.hid hat
      clear hat hx hm15 hmD hNo hrun hxl hx15 h15 hN hNi hE2 hV1 hat2 hx2 hcase hI hV1b hm
      go_wp2_with (first
        | (go_at_call 47; refine (HK.out at_ 0 _ hT.out).mono ?_; rintro e w2 ⟨rfl, rfl⟩)
        | (go_at_call 71; refine HG.out.mono ?_; rintro e w3 ⟨rfl, hT3, hU3⟩))
      have HT3 := Lib.hid hT3
      have HU3 := Lib.hid (hU.out.trans hU3 fun _ _ h => h)
      have HS3 := Lib.hid (HS.out.keep (HU3.out.keep (ok := fun b => b ≠ g) fun _ h => h))
      have HC3 := Lib.hid (HC.out.keep (HU3.out.keep (ok := fun b => b ≠ g) fun _ h => h))
      clear hT hU hT3 hU3 HG
      obtain ⟨wo, rfl⟩ : ∃ wo, wo = w3 := ⟨_, rfl⟩
      go_loopw [9, 23] (fun bv iv wr => ∃ k : Nat, iv = .int .i64 (k : Int) ∧ k ≤ ls.length ∧ bv = .bool (someK ls N x2 k) ∧ Hid (E2 = 0 → ∀ s, s < k → ¬ (0 < lenOf ls s ∧ (N, x2) = (lenOf ls s, codeN ls s))) ∧ wo = wr) (fun _ iv _ => ls.length - (intOf iv).toNat)
      case atStart => exact ⟨0, rfl, Nat.zero_le _, rfl, Lib.hid (fun _ s hs => by omega), rfl⟩
      case round =>
        obtain ⟨k, rfl, hk, rfl, hM, rfl⟩ := hrel
        by_cases hlt : k < ls.length
        · obtain ⟨ad, rfl, hc⟩ := rd_int HS3.out k hlt
          obtain ⟨ad2, rfl, hc2⟩ := rd_int HC3.out k (by rw [codesL_length]; exact hlt)
          rw [codesL_nth _ _ hlt] at hc2
          have hlo : nth 0 ls k = ((lenOf ls k : Nat) : Int) := by have := HR.out.ok.at k; unfold lenOf; omega
          rw [hlo] at hc
          have hki : (k : Int) < (ls.length : Int) := by omega
          have hL16 := HR.out.ok.len16 k
          have hCl := code_lt HR.out.ok.len16 HR.out.full hlt
          have hC16 : (2 : Nat) ^ lenOf ls k ≤ 2 ^ 16 := Nat.pow_le_pow_right (by decide) hL16
          have h16 : (2 : Nat) ^ 16 = 65536 := by decide
          have HSK := Lib.hid (someK_succ ls N x2 k)
          have HMT := Lib.hid (show lenOf ls k = N → codeN ls k = x2 → E2 = 0 → symF ls ls.length (N, x2) = some k from fun h1 h2 _ => by rw [← h1, ← h2]; exact symF_some HR.out (by have := HNN.out; omega) hlt (Nat.le_refl _))
          obtain ⟨L, hL⟩ : ∃ L, lenOf ls k = L := ⟨_, rfl⟩
          obtain ⟨C, hC⟩ : ∃ C, codeN ls k = C := ⟨_, rfl⟩
          have HLC := Lib.hid (show lenOf ls k = L ∧ codeN ls k = C from ⟨hL, hC⟩)
          rw [hL] at hc hL16 hCl hC16 HSK HMT
          rw [hC] at hc2 hCl HSK HMT
          obtain ⟨b, hb⟩ : ∃ b, someK ls N x2 k = b := ⟨_, rfl⟩
          rw [hb] at HSK ⊢
          by_cases hE0 : E2 = 0
          · have he : (E2 == 0) = true := by simp [hE0]
            by_cases hLN : L = N
            · have hq1 : ((L : Int) == (N : Int)) = true := by simp [hLN]
              by_cases hCX : C = x2
              · have hq2 : ((C : Int) == (x2 : Int)) = true := by simp [hCX]
                have HSY := Lib.hid (HMT.out hLN hCX hE0)
                have HE0 := Lib.hid hE0
                clear hE0 hLN hCX hL hC hb hL16 hCl hC16 h16 hlo hlt
                go_wp2_with (go_at_call 47; refine (HK.out at2 E2 _ HT3.out).mono ?_; rintro e w2 ⟨rfl, rfl⟩)
                go_ret
                have hN := HNN.out
                have hwr : wordR ls (l.drop i) = (k, 0, N) := by
                  rcases HCASE.out with ⟨_, h2, h3, h4, _⟩ | ⟨h2, _⟩
                  · rw [HRUN.out, show 16 - m = (16 - N) + 1 by omega]
                    unfold wordF
                    rw [if_neg (by omega), hN.1, ← h3, HSY.out]
                  · have := HE0.out; omega
                have ha2 : at2 = i + N := by
                  rcases HCASE.out with ⟨_, h2, _⟩ | ⟨h2, _⟩
                  · exact h2
                  · have := HE0.out; omega
                rw [hwr]
                refine ⟨rfl, ?_, HU3.out⟩
                have hT3 := HT3.out
                rw [HE0.out, ha2] at hT3
                exact hT3
              · have hq2 : ((C : Int) == (x2 : Int)) = false := by simp; omega
                have HM2 : Hid (E2 = 0 → ∀ s, s < k + 1 → ¬ (0 < lenOf ls s ∧ (N, x2) = (lenOf ls s, codeN ls s))) := Lib.hid (fun h s hs hh => by
                  rcases Nat.lt_or_ge s k with h9 | h9
                  · exact hM.out h s h9 hh
                  · obtain rfl : s = k := by omega
                    have h8 := congrArg Prod.snd hh.2
                    simp only at h8
                    omega)
                clear hE0 hCX
                cases b
                · by_cases hgt : N < L
                  · omega
                  · have hgd : decide ((N : Int) < (L : Int)) = false := decide_eq_false (by omega)
                    have hgdN : decide (N < L) = false := decide_eq_false hgt
                    have HSQ := Lib.hid (show someK ls N x2 (k + 1) = false by rw [HSK.out, decide_eq_false hgt]; rfl)
                    clear hgt hL hC hb hL16 hCl hC16 h16 hlo hlt
                    go_wp2_with (go_at_call 47; refine (HK.out at2 E2 _ HT3.out).mono ?_; rintro e w2 ⟨rfl, rfl⟩)
                    go_roundw
                    case rel => exact ⟨k + 1, by go_num, by omega, by rw [HSQ.out], HM2, trivial⟩
                    case measure => simp [intOf]; omega
                · have HSQ := Lib.hid (show someK ls N x2 (k + 1) = true by rw [HSK.out]; rfl)
                  clear hL hC hb hL16 hCl hC16 h16 hlo hlt
                  go_wp2_with (go_at_call 47; refine (HK.out at2 E2 _ HT3.out).mono ?_; rintro e w2 ⟨rfl, rfl⟩)
                  go_roundw
                  case rel => exact ⟨k + 1, by go_num, by omega, by rw [HSQ.out], HM2, trivial⟩
                  case measure => simp [intOf]; omega
            · have hq1 : ((L : Int) == (N : Int)) = false := by simp; omega
              have HM2 : Hid (E2 = 0 → ∀ s, s < k + 1 → ¬ (0 < lenOf ls s ∧ (N, x2) = (lenOf ls s, codeN ls s))) := Lib.hid (fun h s hs hh => by
                rcases Nat.lt_or_ge s k with h9 | h9
                · exact hM.out h s h9 hh
                · obtain rfl : s = k := by omega
                  have h8 := congrArg Prod.fst hh.2
                  simp only at h8
                  omega)
              clear hE0 hLN
              cases b
              · by_cases hgt : N < L
                · have hgd : decide ((N : Int) < (L : Int)) = true := decide_eq_true (by omega)
                  obtain ⟨d, hd⟩ : ∃ d, L - N = d := ⟨_, rfl⟩
                  have hwd : IntKind.i64.wrap ((L : Int) - (N : Int)) = (d : Int) := by rw [IntWalk.i64_in _ (by omega)]; omega
                  have hd64 : d ≤ 64 := by omega
                  have hd64i : (d : Int) ≤ 64 := by omega
                  obtain ⟨q, hq⟩ : ∃ q, C / 2 ^ d = q := ⟨_, rfl⟩
                  have hsr : (C : Int) / 2 ^ d = (q : Int) := by rw [← hq]; simp
                  obtain ⟨r, hrr⟩ : ∃ r, (q == x2) = r := ⟨_, rfl⟩
                  have hqe : ((q : Int) == (x2 : Int)) = r := by rw [← hrr, Bool.eq_iff_iff, beq_iff_eq, beq_iff_eq]; omega
                  have hgdN : decide (N < L) = true := decide_eq_true hgt
                  have hwd2 : wrap64 ((L : Int) - (N : Int)) = (d : Int) := by rw [IntWalk.wrap64_in _ (by omega)]; omega
                  have HSQ := Lib.hid (show someK ls N x2 (k + 1) = r by rw [HSK.out, decide_eq_true hgt, hd, hq, hrr]; rfl)
                  clear hgt hd hq hL hC hb hL16 hCl hC16 h16 hlo hlt
                  go_wp2_with (go_at_call 47; refine (HK.out at2 E2 _ HT3.out).mono ?_; rintro e w2 ⟨rfl, rfl⟩)
                  go_roundw
                  case rel => exact ⟨k + 1, by go_num, by omega, by rw [HSQ.out], HM2, trivial⟩
                  case measure => simp [intOf]; omega
                · have hgd : decide ((N : Int) < (L : Int)) = false := decide_eq_false (by omega)
                  have hgdN : decide (N < L) = false := decide_eq_false hgt
                  have HSQ := Lib.hid (show someK ls N x2 (k + 1) = false by rw [HSK.out, decide_eq_false hgt]; rfl)
                  clear hgt hL hC hb hL16 hCl hC16 h16 hlo hlt
                  go_wp2_with (go_at_call 47; refine (HK.out at2 E2 _ HT3.out).mono ?_; rintro e w2 ⟨rfl, rfl⟩)
                  go_roundw
                  case rel => exact ⟨k + 1, by go_num, by omega, by rw [HSQ.out], HM2, trivial⟩
                  case measure => simp [intOf]; omega
              · have HSQ := Lib.hid (show someK ls N x2 (k + 1) = true by rw [HSK.out]; rfl)
                clear hL hC hb hL16 hCl hC16 h16 hlo hlt
                go_wp2_with (go_at_call 47; refine (HK.out at2 E2 _ HT3.out).mono ?_; rintro e w2 ⟨rfl, rfl⟩)
                go_roundw
                case rel => exact ⟨k + 1, by go_num, by omega, by rw [HSQ.out], HM2, trivial⟩
                case measure => simp [intOf]; omega
          · have he : (E2 == 0) = false := by simp [hE0]
            have HM2 : Hid (E2 = 0 → ∀ s, s < k + 1 → ¬ (0 < lenOf ls s ∧ (N, x2) = (lenOf ls s, codeN ls s))) := Lib.hid (fun h => absurd h hE0)
            clear hE0
            cases b
            · by_cases hgt : N < L
              · have hgd : decide ((N : Int) < (L : Int)) = true := decide_eq_true (by omega)
                obtain ⟨d, hd⟩ : ∃ d, L - N = d := ⟨_, rfl⟩
                have hwd : IntKind.i64.wrap ((L : Int) - (N : Int)) = (d : Int) := by rw [IntWalk.i64_in _ (by omega)]; omega
                have hd64 : d ≤ 64 := by omega
                have hd64i : (d : Int) ≤ 64 := by omega
                obtain ⟨q, hq⟩ : ∃ q, C / 2 ^ d = q := ⟨_, rfl⟩
                have hsr : (C : Int) / 2 ^ d = (q : Int) := by rw [← hq]; simp
                obtain ⟨r, hrr⟩ : ∃ r, (q == x2) = r := ⟨_, rfl⟩
                have hqe : ((q : Int) == (x2 : Int)) = r := by rw [← hrr, Bool.eq_iff_iff, beq_iff_eq, beq_iff_eq]; omega
                have hgdN : decide (N < L) = true := decide_eq_true hgt
                have hwd2 : wrap64 ((L : Int) - (N : Int)) = (d : Int) := by rw [IntWalk.wrap64_in _ (by omega)]; omega
                have HSQ := Lib.hid (show someK ls N x2 (k + 1) = r by rw [HSK.out, decide_eq_true hgt, hd, hq, hrr]; rfl)
                clear hgt hd hq hL hC hb hL16 hCl hC16 h16 hlo hlt
                go_wp2_with (go_at_call 47; refine (HK.out at2 E2 _ HT3.out).mono ?_; rintro e w2 ⟨rfl, rfl⟩)
                go_roundw
                case rel => exact ⟨k + 1, by go_num, by omega, by rw [HSQ.out], HM2, trivial⟩
                case measure => simp [intOf]; omega
              · have hgd : decide ((N : Int) < (L : Int)) = false := decide_eq_false (by omega)
                have hgdN : decide (N < L) = false := decide_eq_false hgt
                have HSQ := Lib.hid (show someK ls N x2 (k + 1) = false by rw [HSK.out, decide_eq_false hgt]; rfl)
                clear hgt hL hC hb hL16 hCl hC16 h16 hlo hlt
                go_wp2_with (go_at_call 47; refine (HK.out at2 E2 _ HT3.out).mono ?_; rintro e w2 ⟨rfl, rfl⟩)
                go_roundw
                case rel => exact ⟨k + 1, by go_num, by omega, by rw [HSQ.out], HM2, trivial⟩
                case measure => simp [intOf]; omega
            · have HSQ := Lib.hid (show someK ls N x2 (k + 1) = true by rw [HSK.out]; rfl)
              clear hL hC hb hL16 hCl hC16 h16 hlo hlt
              go_wp2_with (go_at_call 47; refine (HK.out at2 E2 _ HT3.out).mono ?_; rintro e w2 ⟨rfl, rfl⟩)
              go_roundw
              case rel => exact ⟨k + 1, by go_num, by omega, by rw [HSQ.out], HM2, trivial⟩
              case measure => simp [intOf]; omega
        · obtain rfl : k = ls.length := by omega
          have hN := HNN.out
          rcases HCASE.out with ⟨hE2, ha2, hx2, hND, _⟩ | ⟨hE2, _, ha2, hw⟩
          · have hsn : symF ls ls.length (N, x2) = none := symF_none (hM.out hE2)
            have hnw : NoWord ls (l.drop i) N := by rw [← hN.1]; refine HNO.out.succ ?_; rw [hN.1, ← hx2]; exact hsn
            have hsk := someK_begs HR.out HFD.out hN16 hND hnw
            have h15 := begs_16 HR.out HFD.out hN16 hND hnw
            rw [← hx2] at hsk
            have HI2 := Lib.hid (show WdI ls l i N x2 at2 E2 from .inl ⟨hE2, ha2, hx2, h15, hND, hnw, by
              rw [HRUN.out, show 16 - m = (16 - N) + 1 by omega]
              conv => lhs; unfold wordF
              rw [if_neg (by omega), hN.1, ← hx2, hsn]⟩)
            rw [hsk]
            have hwN : IntKind.i64.wrap ((N : Int) + 1) = (N : Int) + 1 := IntWalk.i64_in _ (by omega)
            clear hE2 ha2 hx2 hND hsn hnw hsk h15 hN
            go_wp2
            go_roundw
            case rel => exact ⟨N, x2, at2, E2, by go_num, rfl, hx2b, hN16, HI2, HT3, HU3⟩
            case measure => have := HNN.out; simp [intOf]; omega
          · have HI2 := Lib.hid (show WdI ls l i N x2 at2 E2 from .inr ⟨hE2, hN16, by have := HAT.out; omega, by rw [hw, ha2, HAT.out, Nat.add_sub_cancel_left]⟩)
            have hwN : IntKind.i64.wrap ((N : Int) + 1) = (N : Int) + 1 := IntWalk.i64_in _ (by omega)
            have HFL := Lib.hid (tfail_any o g at2 l E2 4 wo HT3.out)
            have hfe : failE E2 4 = E2 := by unfold failE; rw [if_neg (by omega)]
            rw [hfe] at HFL
            clear hE2 ha2 hw hN hfe
            cases hb : someK ls N x2 ls.length
            · go_wp2_with (go_at_call 73; refine HFL.out.mono ?_; rintro e w4 ⟨rfl, hT4, hU4⟩)
              go_roundw
              case rel => exact ⟨N, x2, at2, E2, by go_num, rfl, hx2b, hN16, HI2, Lib.hid hT4, Lib.hid (HU3.out.trans hU4 fun _ _ h => h)⟩
              case measure => have := HNN.out; simp [intOf]; omega
            · go_wp2
              go_roundw
              case rel => exact ⟨N, x2, at2, E2, by go_num, rfl, hx2b, hN16, HI2, HT3, HU3⟩
              case measure => have := HNN.out; simp [intOf]; omega
    · have hE : ((3 : Int) == 0) = false := by decide
      have HRU := Lib.hid hrun
      have HIA := Lib.hid hia
      clear hrun hia
      go_wp2_with (go_at_call 47; refine (HK.out at_ 3 _ hT.out).mono ?_; rintro e w2 ⟨rfl, rfl⟩)
      go_ret
      rw [HRU.out]
      exact ⟨rfl, by rw [show i + (at_ - i) = at_ by have := HIA.out; omega]; exact hT.out, hU.out⟩
end Go.Proofs.Ytkfgomhhenmmeaa

namespace Go.Proofs.Ytkfgomhhenmmeaa
open Go.RowKit

theorem nth_set_other (R : List Int) (k m : Nat) (x : Int) (h : k ≠ m) : nth 0 (R.set k x) m = nth 0 R m := by
  simp [nth, List.getD_eq_getElem?_getD, List.getElem?_set_ne h]
theorem nth_set_same (R : List Int) (k : Nat) (x : Int) (h : k < R.length) : nth 0 (R.set k x) k = x := by
  simp [nth, List.getD_eq_getElem?_getD, h]
theorem rdStep_other (l : List Bool) (st : List Int × Nat × Int) (x : Nat × Int) (m : Nat) (h : x.1 ≠ m) : nth 0 (rdStep l st x).1 m = nth 0 st.1 m := by
  unfold rdStep; split
  · rfl
  · split
    · rfl
    · split
      · rfl
      · exact nth_set_other _ _ _ _ h
theorem rdP_zero (l : List Bool) (i n : Nat) (us : List Bool) : ∀ k m, k ≤ m → nth 0 (rdP l i n (walkK us k)).1 m = 0
  | 0, m, _ => by
    show nth 0 (List.replicate n 0) m = 0
    simp only [nth, List.getD_eq_getElem?_getD, List.getElem?_replicate]; split <;> rfl
  | k + 1, m, h => by
    cases hu : nth false us k
    · rw [(walkK_miss hu).1]; exact rdP_zero l i n us k m (by omega)
    · rw [(walkK_hit hu).1, rdP_snoc, rdStep_other _ _ _ _ (by show k ≠ m; omega)]
      exact rdP_zero l i n us k m (by omega)
theorem take_set_snoc (R : List Int) (k : Nat) (x : Int) (h : k < R.length) : (R.set k x).take (k + 1) = R.take k ++ [x] := by
  rw [take_succ_nth 0 _ k (by simpa using h), nth_set_same R k x h]
  congr 1
  apply List.ext_getElem
  · simp
  · intro j h1 h2
    simp only [List.getElem_take]
    rw [List.getElem_set, if_neg (by simp at h1; omega)]
/-- The scale before, or -1. -/
def lastZ (us : List Bool) (R : List Int) (k : Nat) : Int := if befK us k < 0 then -1 else nth 0 R (befK us k).toNat

theorem stake_exit {o : Nat → Prop} {w wo w7 : World} {g i P k : Nat} {l us : List Bool} {E : Int} (hB : Below w.heap.size w wo) (hu : Upd (fun x => x = g ∨ wo.heap.size ≤ x) wo w7) (hk : k < us.length)
    (hx : (rdP l i us.length (walkK us (k + 1))).2.2 = E) (hne : E ≠ 0) (hT : Tr o w7 g l P E) :
    ∃ v, Ending.returned (.slice none 0 0) = .returned v ∧ OwnI 3 .i64 w.heap.size w7 v (rdO l i us) ∧
        (∃ j, Tr o w7 g l j (rdP l i us.length (walkK us us.length)).2.2 ∧ ((rdP l i us.length (walkK us us.length)).2.2 = 0 → j = (rdP l i us.length (walkK us us.length)).2.1)) ∧ Upd (fun x => x = g) w w7 := by
  obtain ⟨t, ht⟩ := walkK_prefix us (k + 1) us.length (by omega)
  have hst : rdP l i us.length (walkK us us.length) = rdP l i us.length (walkK us (k + 1)) := by rw [ht]; exact rdP_stop l i us.length _ (by rw [hx]; exact hne) t
  have hrd : rdO l i us = [] := by unfold rdO; rw [hst, hx, if_pos hne]
  refine ⟨_, rfl, by rw [hrd]; exact OwnI.nil _ _ _ _, ⟨P, by rw [hst, hx]; exact hT, fun h => absurd (by rw [← hx, ← hst]; exact h) hne⟩, (Upd.of_below hB (fun x => x = g)).trans hu (fun b hb e => by have := hB.size; omega)⟩

set_option maxHeartbeats 4000000 in
set_option maxRecDepth 100000 in
theorem stake0 (o : Nat → Prop) (g i : Nat) (l : List Bool) (B : Option Addr) (d : Nat) (us : List Bool) (w : World) (ho : ∀ x, o x → x < w.heap.size) (h : Tr o w g l i 0) (hU : Sl kBool (fun b => b ≠ g) w B d us) (h128 : us.length ≤ 128) :
    Calls Try.prog 46 #[.pointer (some ⟨g, 0, none⟩), .slice B us.length d] w
      fun e w' => ∃ v, e = .returned v ∧ OwnI 3 .i64 w.heap.size w' v (rdO l i us) ∧
        (∃ j, Tr o w' g l j (rdP l i us.length (walkK us us.length)).2.2 ∧ ((rdP l i us.length (walkK us us.length)).2.2 = 0 → j = (rdP l i us.length (walkK us us.length)).2.1)) ∧ Upd (fun x => x = g) w w' := by
  have HO := Lib.hid ho
  have H := Lib.hid h
  have HU := Lib.hid hU
  have HGL := Lib.hid h.lt
  have HK := Lib.hid (fun (j : Nat) (E : Int) W (h : Tr o W g l j E) => tok_any o g j l E W h)
  have HCD := Lib.hid (fun Ac cc W (h : RI W Ac cc tabI) => rcodes_any Ac cc tabI W h)
  rw [tab_codes, tab_check, tabI_length] at HCD
  clear ho h hU
  go_enter Try.func46, Try.ntmps46
  go_wp2_with (first
    | (go_at_call 17; refine (rslengths_any _).mono ?_; rintro e w2 ⟨v2, rfl, hO2, b2⟩; obtain ⟨A2, c2, rfl, hL2⟩ := hO2.rd; rw [tabI_length]; have HL2 := Lib.hid (hL2.weak (ok' := fun b => b ≠ g) (fun b _ h e => by have := h.1; have := HGL.out; omega)); clear hO2 hL2)
    | (go_at_call 65; refine (HCD.out _ _ _ HL2.out.any).mono ?_; rintro e w3 ⟨v3, rfl, hO3, b3⟩; obtain ⟨A3, c3, rfl, hL3⟩ := hO3.rd; rw [codesL_length, tabI_length]; have HL3 := Lib.hid (hL3.weak (ok' := fun b => b ≠ g) (fun b _ h e => by have := h.1; have := HGL.out; have := b2.size; omega)); clear hO3 hL3))
  have HL2' := Lib.hid (HL2.out.below b3)
  have HB3 := Lib.hid (below2 b2 b3)
  have hT0 := H.out.below HB3.out
  have HU3 := Lib.hid (HU.out.below HB3.out)
  clear HL2 b2 b3 HCD
  obtain ⟨wo, rfl⟩ : ∃ wo, wo = w3 := ⟨_, rfl⟩
  go_loopw [8, 9, 21] (fun v zv iv wr => ∃ (k : Nat) (z : Int) (R : List Int) (p : Nat), iv = .int .i64 (k : Int) ∧ k ≤ us.length ∧ zv = .int .i64 z ∧ Hid (rdP l i us.length (walkK us k) = (R, p, 0) ∧ z = lastZ us R k) ∧ Hid (OwnI 3 .i64 wo.heap.size wr v (R.take k)) ∧ Hid (Tr o wr g l p 0) ∧ Hid (Upd (fun x => x = g ∨ wo.heap.size ≤ x) wo wr)) (fun _ _ iv _ => us.length - (intOf iv).toNat)
  case atStart => exact ⟨0, -1, List.replicate us.length 0, i, rfl, Nat.zero_le _, rfl, Lib.hid ⟨rfl, rfl⟩, Lib.hid (OwnI.nil _ _ _ _), Lib.hid hT0, Lib.hid (Upd.refl _ _)⟩
  case round =>
    clear hT0
    obtain ⟨k, z, R, p, rfl, hk, rfl, hR, hO, hT, hV⟩ := hrel
    by_cases hlt : k < us.length
    · have hkp := hV.out.keep (ok := fun x => x ≠ g ∧ x < wo.heap.size) (fun _ h h2 => by omega)
      obtain ⟨ad, rfl, hc⟩ := rd_bool ((HU3.out.weak (ok' := fun x => x ≠ g ∧ x < wo.heap.size) fun b hb h => ⟨h, hb⟩).keep hkp) k hlt
      have hki : (k : Int) < (us.length : Int) := by omega
      have hRl : R.length = us.length := by have := rdP_len l i us.length (walkK us k); rw [hR.out.1] at this; exact this
      have hRr : ∀ x ∈ R, 0 ≤ x ∧ x ≤ 95 := by have := rdP_range l i us.length (walkK us k); rw [hR.out.1] at this; exact this
      have htl : (R.take k).length ≤ 128 := by rw [List.length_take]; omega
      have hsz := hV.out.size
      cases hu : nth false us k
      · rw [hu] at hc
        have HN := Lib.hid (show rdP l i us.length (walkK us (k + 1)) = (R, p, 0) ∧ z = lastZ us R (k + 1) ∧ R.take (k + 1) = R.take k ++ [0] by
          rw [(walkK_miss hu).1]
          refine ⟨hR.out.1, by unfold lastZ; rw [(walkK_miss hu).2]; exact hR.out.2, ?_⟩
          rw [take_succ_nth 0 R k (by omega)]
          have := rdP_zero l i us.length us k k (Nat.le_refl _)
          rw [hR.out.1] at this
          rw [this])
        clear hu hkp hRl hRr hlt
        go_wp2_with (first
          | (go_at_call 47; refine (HK.out p 0 _ hT.out).mono ?_; rintro e w5 ⟨rfl, rfl⟩)
          | (at_builtin; (refine append_one (w0 := wr) wo.heap.size rfl (.tmp 53) (.tmp 55) 22 3 .i64 8 rfl Try.underlying22 infoI (by decide) u8 (R.take k) 0 rfl rfl hO.out (Below.refl _ _) (by omega) (by omega) ?_); intro v1 w4 hO4 _ hg4 _; have HO4 := Lib.hid hO4; have HG4 := Lib.hid (Upd.of_grown (o := fun x => wo.heap.size ≤ x) hg4 (fun r e => by have h9 := (OwnI.base_le hO.out) r e; exact h9)); clear hO4 hg4))
        go_roundw
        case rel => exact ⟨k + 1, z, R, p, by go_num, by omega, rfl, Lib.hid ⟨HN.out.1, HN.out.2.1⟩, by rw [HN.out.2.2]; exact HO4, Lib.hid (hT.out.upd (o2 := fun x => wo.heap.size ≤ x) HG4.out (fun b _ h1 h2 => by have := HO.out b h1; have := HB3.out.size; omega)), Lib.hid (hV.out.trans HG4.out (fun b hb e => .inr e))⟩
        case measure => simp [intOf]; omega
      · rw [hu] at hc
        by_cases hb : befK us k < 0
        · have hz : z = -1 := by rw [hR.out.2]; unfold lastZ; rw [if_pos hb]
          have HG := Lib.hid (tget_any o g p 7 l wr hT.out (by decide))
          have hv7 := getV7 l p
          have HST := Lib.hid (show (getE l p 7 ≠ 0 → rdP l i us.length (walkK us (k + 1)) = (R, getI l p 7, getE l p 7)) ∧ (getE l p 7 = 0 → rdP l i us.length (walkK us (k + 1)) = if isB (getV l p 7 : Int) = false then (R, getI l p 7, 6) else (R.set k (getV l p 7 : Int), getI l p 7, 0)) by
            rw [(walkK_hit hu).1, rdP_snoc, hR.out.1]
            unfold rdStep rdE rdN rdV
            simp only [if_pos hb]
            rw [if_neg (by simp)]
            exact ⟨fun h => by rw [if_pos h], fun h => by rw [if_neg (by simp [h])]⟩)
          obtain ⟨s, hs⟩ : ∃ s : Int, (getV l p 7 : Int) = s := ⟨_, rfl⟩
          obtain ⟨E, hE⟩ : ∃ E : Int, getE l p 7 = E := ⟨_, rfl⟩
          obtain ⟨P, hP⟩ : ∃ P : Nat, getI l p 7 = P := ⟨_, rfl⟩
          rw [hs, hE, hP] at HST HG
          have hs0 : 0 ≤ s ∧ s ≤ 127 := by omega
          have HBK := Lib.hid (walkK_hit hu).2
          have HRL := Lib.hid hRl
          subst hz
          clear hu hkp hRl hRr hlt hb hs hE hP hv7
          have hk9 : k < us.length := by omega
          have e1 : decide (s < 0) = false := decide_eq_false (by omega)
          by_cases h2 : 95 < s
          · have e2 : decide (95 < s) = true := decide_eq_true h2
            have hfn : failE E 6 ≠ 0 := by unfold failE; split <;> omega
            have hfb : (failE E 6 == 0) = false := by simp [hfn]
            have HX := Lib.hid (show (rdP l i us.length (walkK us (k + 1))).2.2 = failE E 6 by
              unfold failE
              by_cases hE : E = 0
              · rw [HST.out.2 hE, if_pos (by unfold isB; simp; omega), if_pos hE]
              · rw [HST.out.1 hE, if_neg hE])
            have HNE := Lib.hid hfn
            obtain ⟨E6, hE6⟩ : ∃ E6, failE E 6 = E6 := ⟨_, rfl⟩
            rw [hE6] at hfb HX HNE
            have HE6 := Lib.hid hE6
            clear hfn hE6 h2
            go_wp2_with (first
              | (go_at_call 71; refine HG.out.mono ?_; rintro e w6 ⟨rfl, hT6, hU6⟩; have HT6 := Lib.hid hT6; have HU6 := Lib.hid hU6; have HO6 := Lib.hid (ownI_keep hO.out (hU6.keep (ok := fun x => x ≠ g) fun _ h => h) (fun b e => by have := hO.out.base_le b e; have := HGL.out; have := HB3.out.size; omega)); have hz6 := hU6.size; clear hT6 hU6)
              | (go_at_call 73; refine (tfail_any o g P l E 6 _ HT6.out).mono ?_; rw [HE6.out]; rintro e w7 ⟨rfl, hT7, hU7⟩; have HT7 := Lib.hid hT7; have HU7 := Lib.hid hU7; clear hT7 hU7)
              | (go_at_call 47; refine (HK.out P E6 _ HT7.out).mono ?_; rintro e w5 ⟨rfl, rfl⟩))
            go_ret
            exact stake_exit HB3.out (hV.out.trans (HU6.out.trans HU7.out fun _ _ h => h) (fun _ _ h => .inl h)) hk9 HX.out HNE.out HT7.out
          · have e2 : decide (95 < s) = false := decide_eq_false h2
            have hib : isB s = true := by unfold isB; simp; omega
            by_cases hE : E = 0
            · have heb : (E == 0) = true := by simp [hE]
              have HX := Lib.hid (show rdP l i us.length (walkK us (k + 1)) = (R.set k s, P, 0) by rw [HST.out.2 hE, if_neg (by rw [hib]; decide)])
              have HE := Lib.hid hE
              have HLZ := Lib.hid (show s = lastZ us (R.set k s) (k + 1) by unfold lastZ; rw [HBK.out, if_neg (by show ¬ (k : Int) < 0; omega), Int.toNat_natCast, nth_set_same R k s (by have := HRL.out; omega)])
              have HTS := Lib.hid (take_set_snoc R k s (by have := HRL.out; omega))
              clear h2 hib hE
              go_wp2_with (first
                | (go_at_call 71; refine HG.out.mono ?_; rintro e w6 ⟨rfl, hT6, hU6⟩; have HT6 := Lib.hid hT6; have HU6 := Lib.hid hU6; have HO6 := Lib.hid (ownI_keep hO.out (hU6.keep (ok := fun x => x ≠ g) fun _ h => h) (fun b e => by have := hO.out.base_le b e; have := HGL.out; have := HB3.out.size; omega)); have hz6 := hU6.size; clear hT6 hU6)
                | (go_at_call 47; refine (HK.out P E _ HT6.out).mono ?_; rintro e w5 ⟨rfl, rfl⟩)
                | (at_builtin; (refine append_one (w0 := w6) wo.heap.size rfl (.tmp 53) (.tmp 55) 22 3 .i64 8 rfl Try.underlying22 infoI (by decide) u8 (R.take k) s rfl rfl HO6.out (Below.refl _ _) (by omega) (by omega) ?_); intro v1 w4 hO4 _ hg4 _; have HO4 := Lib.hid hO4; have HG4 := Lib.hid (Upd.of_grown (o := fun x => wo.heap.size ≤ x) hg4 (fun r e => by have h9 := (OwnI.base_le HO6.out) r e; exact h9)); clear hO4 hg4))
              have ht6 := HT6.out
              rw [HE.out] at ht6
              go_roundw
              case rel => exact ⟨k + 1, s, R.set k s, P, by go_num, by omega, rfl, Lib.hid ⟨HX.out, HLZ.out⟩, by rw [HTS.out]; exact HO4, Lib.hid (ht6.upd (o2 := fun x => wo.heap.size ≤ x) HG4.out (fun b _ h1 h2 => by have := HO.out b h1; have := HB3.out.size; omega)), Lib.hid ((hV.out.trans HU6.out (fun _ _ h => .inl h)).trans HG4.out (fun b hb e => .inr e))⟩
              case measure => simp [intOf]; omega
            · have heb : (E == 0) = false := by simp [hE]
              have HX := Lib.hid (show (rdP l i us.length (walkK us (k + 1))).2.2 = E by rw [HST.out.1 hE])
              have HNE := Lib.hid hE
              clear h2 hib hE
              go_wp2_with (first
                | (go_at_call 71; refine HG.out.mono ?_; rintro e w6 ⟨rfl, hT6, hU6⟩; have HT6 := Lib.hid hT6; have HU6 := Lib.hid hU6; have HO6 := Lib.hid (ownI_keep hO.out (hU6.keep (ok := fun x => x ≠ g) fun _ h => h) (fun b e => by have := hO.out.base_le b e; have := HGL.out; have := HB3.out.size; omega)); have hz6 := hU6.size; clear hT6 hU6)
                | (go_at_call 47; refine (HK.out P E _ HT6.out).mono ?_; rintro e w5 ⟨rfl, rfl⟩))
              go_ret
              exact stake_exit HB3.out (hV.out.trans HU6.out (fun _ _ h => .inl h)) hk9 HX.out HNE.out HT6.out
        · obtain ⟨j, hbj, hjk, huj⟩ := (befK_lt us k).resolve_left (fun h => hb (by omega))
          have hz : z = nth 0 R j := by rw [hR.out.2]; unfold lastZ; rw [if_neg hb, hbj]; rfl
          have hzr : 0 ≤ z ∧ z ≤ 95 := by rw [hz]; exact nth_bound hRr (by decide) j
          have hd0 : decide (z < 0) = false := decide_eq_false (by omega)
          have HW := Lib.hid (tword_any o g p l A2 A3 c2 c3 tabI wr hT.out ((HL2'.out.weak (ok' := fun x => x ≠ g ∧ x < wo.heap.size) fun b hb h => ⟨h, hb⟩).keep hkp |>.weak fun _ _ h => h.1) ((HL3.out.weak (ok' := fun x => x ≠ g ∧ x < wo.heap.size) fun b hb h => ⟨h, hb⟩).keep hkp |>.weak fun _ _ h => h.1) tab_right tab_filled)
          rw [tabI_length] at HW
          have hok := wordF_ok tabI (l.drop p) 16 0
          rw [tabI_length] at hok
          have HST := Lib.hid (show (stepE (l.drop p) ≠ 0 → rdP l i us.length (walkK us (k + 1)) = (R, p + stepN (l.drop p), stepE (l.drop p))) ∧ (stepE (l.drop p) = 0 → rdP l i us.length (walkK us (k + 1)) = if isB (z + ((wordR tabI (l.drop p)).1 : Int) - 95) = false then (R, p + stepN (l.drop p), 6) else (R.set k (z + ((wordR tabI (l.drop p)).1 : Int) - 95), p + stepN (l.drop p), 0)) by
            rw [(walkK_hit hu).1, rdP_snoc, hR.out.1, hbj]
            unfold rdStep rdE rdN rdV
            simp only [if_neg (show ¬ (j : Int) < 0 by omega)]
            rw [if_neg (by simp)]
            refine ⟨fun h => by rw [if_pos h], fun h => ?_⟩
            rw [if_neg (by simp [h])]
            have e1 : stepV (l.drop p) + nth 0 R ((j : Int)).toNat = z + ((wordR tabI (l.drop p)).1 : Int) - 95 := by
              have h2 : stepV (l.drop p) = ((wordR tabI (l.drop p)).1 : Int) - 95 := by unfold stepV; rw [if_pos (show (wordR tabI (l.drop p)).2.1 = 0 from h)]
              rw [h2, Int.toNat_natCast, ← hz]; omega
            rw [e1])
          change Hid (Calls _ _ _ _ fun e w' => e = _ ∧ Tr o w' g l (p + stepN (l.drop p)) (stepE (l.drop p)) ∧ _) at HW
          have hwl : (wordR tabI (l.drop p)).1 < 192 := hok.1
          obtain ⟨y, hy⟩ : ∃ y : Nat, (wordR tabI (l.drop p)).1 = y := ⟨_, rfl⟩
          obtain ⟨E, hE⟩ : ∃ E : Int, stepE (l.drop p) = E := ⟨_, rfl⟩
          obtain ⟨P, hP⟩ : ∃ P : Nat, p + stepN (l.drop p) = P := ⟨_, rfl⟩
          rw [hy, hE, hP] at HST HW
          rw [hy] at hwl
          obtain ⟨s, hs⟩ : ∃ s : Int, z + (y : Int) - 95 = s := ⟨_, rfl⟩
          have hw1 : IntKind.i64.wrap (z + (y : Int)) = z + (y : Int) := IntWalk.i64_in _ (by omega)
          have hw2 : IntKind.i64.wrap (z + (y : Int) - 95) = s := by rw [IntWalk.i64_in _ (by omega)]; exact hs
          rw [hs] at HST
          have HBK := Lib.hid (walkK_hit hu).2
          have HRL := Lib.hid hRl
          clear hu hkp hRl hRr hlt hb hs hE hP hy hok hbj hjk huj hz hzr hwl
          have hk9 : k < us.length := by omega
          by_cases h1 : s < 0
          · have e1 : decide (s < 0) = true := decide_eq_true h1
            have hfn : failE E 6 ≠ 0 := by unfold failE; split <;> omega
            have hfb : (failE E 6 == 0) = false := by simp [hfn]
            have HX := Lib.hid (show (rdP l i us.length (walkK us (k + 1))).2.2 = failE E 6 by
              unfold failE
              by_cases hE : E = 0
              · rw [HST.out.2 hE, if_pos (by unfold isB; simp; omega), if_pos hE]
              · rw [HST.out.1 hE, if_neg hE])
            have HNE := Lib.hid hfn
            obtain ⟨E6, hE6⟩ : ∃ E6, failE E 6 = E6 := ⟨_, rfl⟩
            rw [hE6] at hfb HX HNE
            have HE6 := Lib.hid hE6
            clear hfn hE6 h1
            go_wp2_with (first
              | (go_at_call 72; refine HW.out.mono ?_; rintro e w6 ⟨rfl, hT6, hU6⟩; have HT6 := Lib.hid hT6; have HU6 := Lib.hid hU6; have HO6 := Lib.hid (ownI_keep hO.out (hU6.keep (ok := fun x => x ≠ g) fun _ h => h) (fun b e => by have := hO.out.base_le b e; have := HGL.out; have := HB3.out.size; omega)); have hz6 := hU6.size; clear hT6 hU6)
              | (go_at_call 73; refine (tfail_any o g P l E 6 _ HT6.out).mono ?_; rw [HE6.out]; rintro e w7 ⟨rfl, hT7, hU7⟩; have HT7 := Lib.hid hT7; have HU7 := Lib.hid hU7; clear hT7 hU7)
              | (go_at_call 47; refine (HK.out P E6 _ HT7.out).mono ?_; rintro e w5 ⟨rfl, rfl⟩))
            go_ret
            exact stake_exit HB3.out (hV.out.trans (HU6.out.trans HU7.out fun _ _ h => h) (fun _ _ h => .inl h)) hk9 HX.out HNE.out HT7.out
          · have e1 : decide (s < 0) = false := decide_eq_false h1
            by_cases h2 : 95 < s
            · have e2 : decide (95 < s) = true := decide_eq_true h2
              have hfn : failE E 6 ≠ 0 := by unfold failE; split <;> omega
              have hfb : (failE E 6 == 0) = false := by simp [hfn]
              have HX := Lib.hid (show (rdP l i us.length (walkK us (k + 1))).2.2 = failE E 6 by
                unfold failE
                by_cases hE : E = 0
                · rw [HST.out.2 hE, if_pos (by unfold isB; simp; omega), if_pos hE]
                · rw [HST.out.1 hE, if_neg hE])
              have HNE := Lib.hid hfn
              obtain ⟨E6, hE6⟩ : ∃ E6, failE E 6 = E6 := ⟨_, rfl⟩
              rw [hE6] at hfb HX HNE
              have HE6 := Lib.hid hE6
              clear hfn hE6 h2
              go_wp2_with (first
                | (go_at_call 72; refine HW.out.mono ?_; rintro e w6 ⟨rfl, hT6, hU6⟩; have HT6 := Lib.hid hT6; have HU6 := Lib.hid hU6; have HO6 := Lib.hid (ownI_keep hO.out (hU6.keep (ok := fun x => x ≠ g) fun _ h => h) (fun b e => by have := hO.out.base_le b e; have := HGL.out; have := HB3.out.size; omega)); have hz6 := hU6.size; clear hT6 hU6)
                | (go_at_call 73; refine (tfail_any o g P l E 6 _ HT6.out).mono ?_; rw [HE6.out]; rintro e w7 ⟨rfl, hT7, hU7⟩; have HT7 := Lib.hid hT7; have HU7 := Lib.hid hU7; clear hT7 hU7)
                | (go_at_call 47; refine (HK.out P E6 _ HT7.out).mono ?_; rintro e w5 ⟨rfl, rfl⟩))
              go_ret
              exact stake_exit HB3.out (hV.out.trans (HU6.out.trans HU7.out fun _ _ h => h) (fun _ _ h => .inl h)) hk9 HX.out HNE.out HT7.out
            · have e2 : decide (95 < s) = false := decide_eq_false h2
              have hib : isB s = true := by unfold isB; simp; omega
              by_cases hE : E = 0
              · have heb : (E == 0) = true := by simp [hE]
                have HX := Lib.hid (show rdP l i us.length (walkK us (k + 1)) = (R.set k s, P, 0) by rw [HST.out.2 hE, if_neg (by rw [hib]; decide)])
                have HE := Lib.hid hE
                have HLZ := Lib.hid (show s = lastZ us (R.set k s) (k + 1) by unfold lastZ; rw [HBK.out, if_neg (by show ¬ (k : Int) < 0; omega), Int.toNat_natCast, nth_set_same R k s (by have := HRL.out; omega)])
                have HTS := Lib.hid (take_set_snoc R k s (by have := HRL.out; omega))
                clear h2 hib hE
                go_wp2_with (first
                  | (go_at_call 72; refine HW.out.mono ?_; rintro e w6 ⟨rfl, hT6, hU6⟩; have HT6 := Lib.hid hT6; have HU6 := Lib.hid hU6; have HO6 := Lib.hid (ownI_keep hO.out (hU6.keep (ok := fun x => x ≠ g) fun _ h => h) (fun b e => by have := hO.out.base_le b e; have := HGL.out; have := HB3.out.size; omega)); have hz6 := hU6.size; clear hT6 hU6)
                  | (go_at_call 47; refine (HK.out P E _ HT6.out).mono ?_; rintro e w5 ⟨rfl, rfl⟩)
                  | (at_builtin; (refine append_one (w0 := w6) wo.heap.size rfl (.tmp 53) (.tmp 55) 22 3 .i64 8 rfl Try.underlying22 infoI (by decide) u8 (R.take k) s rfl rfl HO6.out (Below.refl _ _) (by omega) (by omega) ?_); intro v1 w4 hO4 _ hg4 _; have HO4 := Lib.hid hO4; have HG4 := Lib.hid (Upd.of_grown (o := fun x => wo.heap.size ≤ x) hg4 (fun r e => by have h9 := (OwnI.base_le HO6.out) r e; exact h9)); clear hO4 hg4))
                have ht6 := HT6.out
                rw [HE.out] at ht6
                go_roundw
                case rel => exact ⟨k + 1, s, R.set k s, P, by go_num, by omega, rfl, Lib.hid ⟨HX.out, HLZ.out⟩, by rw [HTS.out]; exact HO4, Lib.hid (ht6.upd (o2 := fun x => wo.heap.size ≤ x) HG4.out (fun b _ h1 h2 => by have := HO.out b h1; have := HB3.out.size; omega)), Lib.hid ((hV.out.trans HU6.out (fun _ _ h => .inl h)).trans HG4.out (fun b hb e => .inr e))⟩
                case measure => simp [intOf]; omega
              · have heb : (E == 0) = false := by simp [hE]
                have HX := Lib.hid (show (rdP l i us.length (walkK us (k + 1))).2.2 = E by rw [HST.out.1 hE])
                have HNE := Lib.hid hE
                clear h2 hib hE
                go_wp2_with (first
                  | (go_at_call 72; refine HW.out.mono ?_; rintro e w6 ⟨rfl, hT6, hU6⟩; have HT6 := Lib.hid hT6; have HU6 := Lib.hid hU6; have HO6 := Lib.hid (ownI_keep hO.out (hU6.keep (ok := fun x => x ≠ g) fun _ h => h) (fun b e => by have := hO.out.base_le b e; have := HGL.out; have := HB3.out.size; omega)); have hz6 := hU6.size; clear hT6 hU6)
                  | (go_at_call 47; refine (HK.out P E _ HT6.out).mono ?_; rintro e w5 ⟨rfl, rfl⟩))
                go_ret
                exact stake_exit HB3.out (hV.out.trans HU6.out (fun _ _ h => .inl h)) hk9 HX.out HNE.out HT6.out
    · obtain rfl : k = us.length := by omega
      go_wp2
      go_ret
      have hRl : R.length = us.length := by have := rdP_len l i us.length (walkK us us.length); rw [hR.out.1] at this; exact this
      have hrd : rdO l i us = R := by unfold rdO; rw [hR.out.1]; simp
      refine ⟨_, rfl, ?_, ⟨p, by rw [hR.out.1]; exact hT.out, fun _ => by rw [hR.out.1]⟩, (Upd.of_below HB3.out (fun x => x = g)).trans hV.out (fun b hb e => by have := HB3.out.size; omega)⟩
      rw [hrd]
      have := hO.out
      rw [List.take_of_length_le (by omega)] at this
      exact this.mono HB3.out.size
end Go.Proofs.Ytkfgomhhenmmeaa

namespace Go.Proofs.Ytkfgomhhenmmeaa
open Go.RowKit

theorem stake_any (o : Nat → Prop) (g i : Nat) (l : List Bool) (B : Option Addr) (d : Nat) (us : List Bool) (w : World) (h : Tr o w g l i 0) (hU : Sl kBool (fun b => b ≠ g) w B d us) (h128 : us.length ≤ 128) :
    Calls Try.prog 46 #[.pointer (some ⟨g, 0, none⟩), .slice B us.length d] w
      fun e w' => ∃ v, e = .returned v ∧ OwnI 3 .i64 w.heap.size w' v (rdO l i us) ∧
        (∃ j, Tr o w' g l j (rdP l i us.length (walkK us us.length)).2.2 ∧ ((rdP l i us.length (walkK us us.length)).2.2 = 0 → j = (rdP l i us.length (walkK us us.length)).2.1)) ∧ Upd (fun x => x = g) w w' :=
  (stake0 (fun x => o x ∧ x < w.heap.size) g i l B d us w (fun _ h => h.2) h.cut hU h128).mono fun _ _ ⟨v, h1, h2, ⟨j, h3, h4⟩, h5⟩ => ⟨v, h1, h2, ⟨j, h3.weak fun _ _ h => h.1, h4⟩, h5⟩

set_option maxHeartbeats 1000000 in
set_option maxRecDepth 100000 in
theorem rsRead_any (o : Nat → Prop) (g i : Nat) (l : List Bool) (B : Option Addr) (d : Nat) (us : List Bool) (w : World) (h : Tr o w g l i 0) (hU : Sl kBool (fun b => b ≠ g) w B d us) :
    Calls Try.prog 21 #[.pointer (some ⟨g, 0, none⟩), .slice B us.length d] w
      fun e w' => ∃ v, e = .returned (.tuple #[v, .int .i64 (readQ l i us).2.1]) ∧ OwnI 3 .i64 w.heap.size w' v (readQ l i us).1 ∧ (∃ E, Tr o w' g l (readQ l i us).2.2 E) ∧ Upd (fun x => x = g) w w' := by
  have hile := h.le
  obtain ⟨A0, c0, k0, k1, k2, f1, f2, _⟩ := h.cells
  by_cases h128 : 128 < us.length
  · have hd : decide (128 < (us.length : Int)) = true := decide_eq_true (by omega)
    have HQ := Lib.hid (show readQ l i us = ([], 1, i) by unfold readQ; rw [if_pos h128])
    have H := Lib.hid h
    clear h hU h128
    go_enter Try.func21, Try.ntmps21
    go_wp2
    go_ret2
    exact ⟨_, ret_two rfl (by rw [HQ.out]; rfl), by rw [HQ.out]; exact OwnI.nil _ _ _ _, ⟨0, by rw [HQ.out]; exact H.out⟩, Upd.refl _ _⟩
  · have hd : decide (128 < (us.length : Int)) = false := decide_eq_false (by omega)
    have HC := Lib.hid (stake_any o g i l B d us w h hU (by omega))
    have HK := Lib.hid (fun (j : Nat) (E : Int) W (h : Tr o W g l j E) => tok_any o g j l E W h)
    obtain ⟨E, hE⟩ : ∃ E, (rdP l i us.length (walkK us us.length)).2.2 = E := ⟨_, rfl⟩
    rw [hE] at HC
    by_cases h0 : E = 0
    · have heb : (E == 0) = true := by simp [h0]
      have HQ := Lib.hid (show readQ l i us = (rdO l i us, 0, (rdP l i us.length (walkK us us.length)).2.1) by unfold readQ rdO; rw [if_neg h128, if_neg (by rw [hE]; simp [h0]), if_neg (by rw [hE]; simp [h0])])
      have HE0 := Lib.hid h0
      clear h hU hE h128 h0
      go_enter Try.func21, Try.ntmps21
      go_wp2_with (first
        | (go_at_call 46; refine HC.out.mono ?_; rintro e w3 ⟨v3, rfl, hO3, ⟨j, hj, hj0⟩, hu3⟩)
        | (go_at_call 47; refine (HK.out j E _ hj).mono ?_; rintro e w5 ⟨rfl, rfl⟩))
      go_ret2
      refine ⟨_, ret_two rfl (by rw [HQ.out]; rfl), by rw [HQ.out]; exact hO3, ⟨E, ?_⟩, hu3⟩
      rw [HQ.out]
      rw [hj0 HE0.out] at hj
      exact hj
    · have heb : (E == 0) = false := by simp [h0]
      have HQ := Lib.hid (show readQ l i us = ([], E, i) by unfold readQ; rw [if_neg h128, if_pos (by rw [hE]; exact h0), hE])
      have HI := Lib.hid hile
      clear h hU hE h128 h0 hile
      go_enter Try.func21, Try.ntmps21
      go_wp2_with (first
        | (go_at_call 46; refine HC.out.mono ?_; rintro e w3 ⟨v3, rfl, hO3, ⟨j, hj, hj0⟩, hu3⟩; obtain ⟨A3, c3, q0, q1, q2, p1, p2, _⟩ := hj.cells; have HM := Lib.hid (hj.moved i HI.out); have HJ := Lib.hid hj; clear hj)
        | (go_at_call 47; refine (HK.out j E _ HJ.out).mono ?_; rintro e w5 ⟨rfl, rfl⟩))
      have q2' := HM.out.1.cells
      obtain ⟨A4, c4, r0, r1, r2, _⟩ := q2'
      go_quiet (fail)
      go_wp2
      go_ret2
      exact ⟨_, ret_two rfl (by rw [HQ.out]; rfl), by rw [HQ.out]; exact OwnI.nil _ _ _ _, ⟨E, by rw [HQ.out]; exact HM.out.1.below (below_drewN (Below.refl _ _) _)⟩, (hu3.trans HM.out.2 fun _ _ h => h).trans (Upd.drewN (fun x => x = g) _ _) fun _ _ h => h⟩
end Go.Proofs.Ytkfgomhhenmmeaa

namespace Go.Proofs.Ytkfgomhhenmmeaa
open Go.RowKit

def fewB (n : Nat) (ls : List (List Int)) : Bool := ls.all (fun x => decide (x.length ≤ 200)) && decide (n ≤ 200)

set_option maxHeartbeats 1000000 in
set_option maxRecDepth 100000 in
theorem few_any (A B : Option Addr) (c d n : Nat) (ls : List (List Int)) (w : World) (hS : Sl (kSl (kInt .i64)) AnyB w A c ls) (hn : ls.length ≤ 1000) :
    Calls Try.prog 11 #[.slice B n d, .slice A ls.length c] w fun e w' => e = .returned (.bool (fewB n ls)) ∧ w = w' := by
  have HS := Lib.hid hS
  clear hS
  go_enter Try.func11, Try.ntmps11
  go_wp2
  go_loopw [9] (fun iv wr => ∃ k : Nat, iv = .int .i64 (k : Int) ∧ k ≤ ls.length ∧ Hid ((ls.take k).all (fun x => decide (x.length ≤ 200)) = true) ∧ w = wr) (fun iv _ => ls.length - (intOf iv).toNat)
  case atStart => exact ⟨0, rfl, Nat.zero_le _, Lib.hid rfl, rfl⟩
  case round =>
    obtain ⟨k, rfl, hk, hA, rfl⟩ := hrel
    by_cases hlt : k < ls.length
    · obtain ⟨ad, A', c', rfl, hc, _⟩ := rd_sl HS.out k hlt
      have hki : (k : Int) < (ls.length : Int) := by omega
      have HT := Lib.hid (show (ls.take (k + 1)).all (fun x => decide (x.length ≤ 200)) = ((ls.take k).all (fun x => decide (x.length ≤ 200)) && decide ((nth [] ls k).length ≤ 200)) by rw [take_succ_nth [] ls k hlt, List.all_append]; simp)
      have HNO := Lib.hid (show decide ((nth [] ls k).length ≤ 200) = false → fewB n ls = false from fun h => by
        unfold fewB
        have : ls.all (fun x => decide (x.length ≤ 200)) = false := by
          cases he : ls.all (fun x => decide (x.length ≤ 200))
          · rfl
          · have := List.all_eq_true.1 he _ (nth_mem [] ls k hlt)
            rw [h] at this; cases this
        rw [this]; rfl)
      generalize (nth [] ls k).length = y at hc HT HNO
      by_cases hy : y ≤ 200
      · have hd : decide ((200 : Int) < (y : Int)) = false := decide_eq_false (by omega)
        have hdN : decide (200 < y) = false := decide_eq_false (by omega)
        have HA2 := Lib.hid (show (ls.take (k + 1)).all (fun x => decide (x.length ≤ 200)) = true by rw [HT.out, hA.out, decide_eq_true hy]; rfl)
        clear hy
        go_wp2
        go_roundw
        case rel => exact ⟨k + 1, by go_num, by omega, HA2, trivial⟩
        case measure => simp [intOf]; omega
      · have hd : decide ((200 : Int) < (y : Int)) = true := decide_eq_true (by omega)
        have hdN : decide (200 < y) = true := decide_eq_true (by omega)
        have HR := Lib.hid (HNO.out (decide_eq_false hy))
        clear hy
        go_wp2
        go_ret
        exact ⟨ret_bool HR.out.symm, rfl⟩
    · obtain rfl : k = ls.length := by omega
      have HR := Lib.hid (show fewB n ls = decide (n ≤ 200) by unfold fewB; have := hA.out; rw [List.take_length] at this; rw [this]; rfl)
      by_cases hn2 : n ≤ 200
      · have hd : decide ((n : Int) ≤ 200) = true := decide_eq_true (by omega)
        have HD := Lib.hid (show decide (n ≤ 200) = true from decide_eq_true hn2)
        clear hn2
        go_wp2
        go_ret
        exact ⟨by rw [HR.out, HD.out]; rfl, rfl⟩
      · have hd : decide ((n : Int) ≤ 200) = false := decide_eq_false (by omega)
        have HD := Lib.hid (show decide (n ≤ 200) = false from decide_eq_false hn2)
        clear hn2
        go_wp2
        go_ret
        exact ⟨by rw [HR.out, HD.out]; rfl, rfl⟩
end Go.Proofs.Ytkfgomhhenmmeaa

namespace Go.Proofs.Ytkfgomhhenmmeaa
open Go.RowKit
set_option maxHeartbeats 1000000 in
set_option maxRecDepth 100000 in
theorem after_any (xs : List Int) (s : Int) (w : World) :
    Calls Try.prog 51 #[.agg (nums .i64 xs).toArray, .int .i64 s] w fun e w' => ∃ g1 g2, e = .returned (.func (.func 74) #[] #[.pointer (some ⟨g1, 0, none⟩), .pointer (some ⟨g2, 0, none⟩)]) ∧ Hid (g1 = w.heap.size ∧ g2 = w.heap.size + 1 ∧ w'.heap.size = w.heap.size + 2) ∧
      Blk w' g1 (nums .i64 xs).toArray 89 ∧ Blk w' g2 #[.int .i64 s] 3 ∧ Below w.heap.size w w' := by
  go_enter Try.func51, Try.ntmps51
  go_wp2
  go_ret
  have h1 : Blk (w.alloc (.cells (nums .i64 xs).toArray 89)) w.heap.size (nums .i64 xs).toArray 89 := heap_alloc_new w _
  have h2 : Blk ((w.alloc (.cells (nums .i64 xs).toArray 89)).alloc (.cells #[.int .i64 s] 3)) _ #[.int .i64 s] 3 := heap_alloc_new _ _
  rw [World.size_alloc] at h2
  exact ⟨_, _, rfl, Lib.hid ⟨rfl, rfl, by simp⟩, h1.below (below_alloc (Below.refl _ _) _), h2, below_alloc (below_alloc (Below.refl _ _) _) _⟩
end Go.Proofs.Ytkfgomhhenmmeaa

namespace Go.Proofs.Ytkfgomhhenmmeaa
open Go.RowKit
/-- What it costs to go on from a scale, or -1. -/
def aftV (xs : List Int) (f s : Int) : Int := if nth 0 xs s.toNat < 0 then -1 else (stepL (s - f) : Int) + nth 0 xs s.toNat
set_option maxHeartbeats 1000000 in
set_option maxRecDepth 100000 in
theorem after1_any (g1 g2 s : Nat) (xs : List Int) (f : Int) (w : World) (h1 : Blk w g1 (nums .i64 xs).toArray 89) (h2 : Blk w g2 #[.int .i64 f] 3) (hx : xs.length = 96) (hs : s < 96) (hf : 0 ≤ f ∧ f ≤ 95) (hb : nth 0 xs s ≤ 1000000000) :
    Calls Try.prog 74 #[.int .i64 (s : Int), .pointer (some ⟨g1, 0, none⟩), .pointer (some ⟨g2, 0, none⟩)] w fun e w' => e = .returned (.int .i64 (aftV xs f s)) ∧ Below w.heap.size w w' := by
  have hc := h1.cell s (by rw [List.getElem?_toArray]; exact nums_get .i64 xs s (by omega))
  have hf2 := h2.cell 0 rfl
  have hsi : (s : Int) < 96 := by omega
  have HV := Lib.hid (show aftV xs f (s : Int) = if nth 0 xs s < 0 then -1 else (stepL ((s : Int) - f) : Int) + nth 0 xs s by unfold aftV; rw [Int.toNat_natCast])
  generalize nth 0 xs s = x at hc HV hb
  clear h1 h2 hx
  by_cases hx : x < 0
  · have hd : decide (x < 0) = true := decide_eq_true hx
    have HR := Lib.hid (HV.out.trans (if_pos hx))
    clear hx
    go_enter Try.func74, Try.ntmps74
    go_wp2
    go_ret
    exact ⟨by rw [HR.out]; rfl, Below.refl _ _⟩
  · have hd : decide (x < 0) = false := decide_eq_false hx
    have HR := Lib.hid (HV.out.trans (if_neg hx))
    have hw1 : IntKind.i64.wrap ((s : Int) - f) = (s : Int) - f := IntWalk.i64_in _ (by omega)
    have hsl := stepL_le ((s : Int) - f)
    have HL := Lib.hid (fun W => length_any ((s : Int) - f) W (by omega))
    obtain ⟨L, hL⟩ : ∃ L, stepL ((s : Int) - f) = L := ⟨_, rfl⟩
    rw [hL] at hsl HL HR
    have hw2 : IntKind.i64.wrap ((L : Int) + x) = (L : Int) + x := IntWalk.i64_in _ (by omega)
    clear hx hL
    go_enter Try.func74, Try.ntmps74
    go_wp2
    go_quiet ((go_at_call 40; exact Calls.quiet_of_same ((HL.out _).mono fun _ _ h => ⟨h.1, h.2.symm⟩)))
    go_wp2
    go_ret
    exact ⟨by rw [HR.out]; rfl, below_drewN (Below.refl _ _) _⟩
end Go.Proofs.Ytkfgomhhenmmeaa

namespace Go.Proofs.Ytkfgomhhenmmeaa
open Go.RowKit
set_option maxHeartbeats 1000000 in
set_option maxRecDepth 100000 in
theorem choose1_any (g1 g2 gr n k s : Nat) (x : Int) (w : World) (h1 : Blk w g1 #[.slice (some ⟨gr, 0, none⟩) n n] 86) (h2 : Blk w g2 #[.int .i64 (k : Int)] 3) (hc : w.cell? ⟨gr, k * 96 + s, none⟩ = some (.int .i64 x)) (hk : k < n) (hs : s < 96) :
    Calls Try.prog 50 #[.int .i64 (s : Int), .pointer (some ⟨g1, 0, none⟩), .pointer (some ⟨g2, 0, none⟩)] w fun e w' => e = .returned (.int .i64 x) ∧ w = w' := by
  have k1 := h1.cell 0 rfl
  have k2 := h2.cell 0 rfl
  have hki : (k : Int) < (n : Int) := by omega
  have hsi : (s : Int) < 96 := by omega
  clear h1 h2
  go_enter Try.func50, Try.ntmps50
  go_wp2
  go_ret
  exact ⟨rfl, rfl⟩
end Go.Proofs.Ytkfgomhhenmmeaa

namespace Go.Proofs.Ytkfgomhhenmmeaa
open Go.RowKit
/-- The first element with the least value that is not below 0, of the first ones. -/
def lstS (V : Int → Int) (st : Int × Bool) (x : Int) : Int × Bool := if 0 ≤ V x ∧ (st.2 = false ∨ V x < V st.1) then (x, true) else st
def lstF (V : Int → Int) (xs : List Int) : Int × Bool := xs.foldl (lstS V) (0, false)
theorem lstF_snoc (V : Int → Int) (xs : List Int) (x : Int) : lstF V (xs ++ [x]) = lstS V (lstF V xs) x := by simp [lstF]

set_option maxHeartbeats 2000000 in
set_option maxRecDepth 100000 in
theorem least_any (A : Option Addr) (c : Nat) (xs : List Int) (g : Nat) (cb : Array Value) (V : Int → Int) (w : World) (hS : RI w A c xs) (eg : ∀ args w, (callFunc g args).run Try.prog w = .ok (.enter g args) w)
    (hp : ∀ W, Below w.heap.size w W → ∀ x, (x ∈ xs ∨ x = 0) → Calls Try.prog g (#[.int .i64 x] ++ cb) W fun e w' => e = .returned (.int .i64 (V x)) ∧ Below W.heap.size W w') :
    Calls Try.prog 52 #[.slice A xs.length c, .func (.func g) #[] cb] w fun e w' => e = .returned (.tuple #[.int .i64 (lstF V xs).1, .bool (lstF V xs).2]) ∧ Below w.heap.size w w' := by
  have hn := hS.len
  have HP := Lib.hid hp
  have HS := Lib.hid hS
  clear hp hS
  go_enter Try.func52, Try.ntmps52
  go_wp2
  go_loopw [4, 5, 11] (fun ov bv iv wr => ∃ (k : Nat) (o : Int) (b : Bool), iv = .int .i64 (k : Int) ∧ k ≤ xs.length ∧ ov = .int .i64 o ∧ bv = .bool b ∧ Hid (lstF V (xs.take k) = (o, b) ∧ (o ∈ xs ∨ o = 0)) ∧ Hid (Below w.heap.size w wr)) (fun _ _ iv _ => xs.length - (intOf iv).toNat)
  case atStart => exact ⟨0, 0, false, rfl, Nat.zero_le _, rfl, rfl, Lib.hid ⟨rfl, .inr rfl⟩, Lib.hid (Below.refl _ _)⟩
  case round =>
    obtain ⟨k, o, b, rfl, hk, rfl, rfl, hL, hB⟩ := hrel
    by_cases hlt : k < xs.length
    · obtain ⟨ad, rfl, hc⟩ := rd_int (HS.out.below hB.out) k hlt
      have hki : (k : Int) < (xs.length : Int) := by omega
      have HM := Lib.hid (nth_mem 0 xs k hlt)
      have HT := Lib.hid (show lstF V (xs.take (k + 1)) = lstS V (o, b) (nth 0 xs k) by rw [take_succ_nth 0 xs k hlt, lstF_snoc, hL.out.1])
      generalize nth 0 xs k = x at hc HM HT
      obtain ⟨vx, hvx⟩ : ∃ vx, V x = vx := ⟨_, rfl⟩
      have HX := Lib.hid (fun W (h : Below w.heap.size w W) => HP.out W h x (.inl HM.out))
      have HO := Lib.hid (fun W (h : Below w.heap.size w W) => HP.out W h o hL.out.2)
      obtain ⟨vo, hvo⟩ : ∃ vo, V o = vo := ⟨_, rfl⟩
      rw [hvx] at HX
      rw [hvo] at HO
      have HST := Lib.hid (show lstF V (xs.take (k + 1)) = if 0 ≤ vx ∧ (b = false ∨ vx < vo) then (x, true) else (o, b) by rw [HT.out]; unfold lstS; simp only [hvx, hvo])
      clear hvx hvo hlt
      by_cases h0 : 0 ≤ vx
      · have hd0 : decide (0 ≤ vx) = true := decide_eq_true h0
        cases b
        · have HR := Lib.hid (HST.out.trans (if_pos ⟨h0, .inl rfl⟩))
          clear h0
          go_wp2_with (go_at_fn g; refine (HX.out _ hB.out).mono ?_; rintro e w2 ⟨rfl, b2⟩)
          go_roundw
          case rel => exact ⟨k + 1, x, true, by go_num, by omega, rfl, rfl, Lib.hid ⟨HR.out, .inl HM.out⟩, Lib.hid (below2 hB.out b2)⟩
          case measure => simp [intOf]; omega
        · by_cases h1 : vx < vo
          · have hd1 : decide (vx < vo) = true := decide_eq_true h1
            have HR := Lib.hid (HST.out.trans (if_pos ⟨h0, .inr h1⟩))
            clear h0 h1
            go_wp2_with (first
              | (go_at_fn g; refine (HX.out _ hB.out).mono ?_; rintro e w2 ⟨rfl, b2⟩)
              | (go_at_fn g; refine (HO.out _ (below2 hB.out b2)).mono ?_; rintro e w3 ⟨rfl, b3⟩))
            go_roundw
            case rel => exact ⟨k + 1, x, true, by go_num, by omega, rfl, rfl, Lib.hid ⟨HR.out, .inl HM.out⟩, Lib.hid (below2 (below2 hB.out b2) b3)⟩
            case measure => simp [intOf]; omega
          · have hd1 : decide (vx < vo) = false := decide_eq_false h1
            have HR := Lib.hid (HST.out.trans (if_neg (fun h => by rcases h.2 with h | h; cases h; exact h1 h)))
            clear h0 h1
            go_wp2_with (first
              | (go_at_fn g; refine (HX.out _ hB.out).mono ?_; rintro e w2 ⟨rfl, b2⟩)
              | (go_at_fn g; refine (HO.out _ (below2 hB.out b2)).mono ?_; rintro e w3 ⟨rfl, b3⟩))
            go_roundw
            case rel => exact ⟨k + 1, o, true, by go_num, by omega, rfl, rfl, Lib.hid ⟨HR.out, hL.out.2⟩, Lib.hid (below2 (below2 hB.out b2) b3)⟩
            case measure => simp [intOf]; omega
      · have hd0 : decide (0 ≤ vx) = false := decide_eq_false h0
        have HR := Lib.hid (HST.out.trans (if_neg (fun h => h0 h.1)))
        clear h0
        go_wp2_with (go_at_fn g; refine (HX.out _ hB.out).mono ?_; rintro e w2 ⟨rfl, b2⟩)
        go_roundw
        case rel => exact ⟨k + 1, o, b, by go_num, by omega, rfl, rfl, Lib.hid ⟨HR.out, hL.out.2⟩, Lib.hid (below2 hB.out b2)⟩
        case measure => simp [intOf]; omega
    · obtain rfl : k = xs.length := by omega
      go_wp2
      go_ret2
      have hl := hL.out.1
      rw [List.take_length] at hl
      exact ⟨by rw [hl]; rfl, hB.out⟩
end Go.Proofs.Ytkfgomhhenmmeaa

namespace Go.Proofs.Ytkfgomhhenmmeaa
open Go.RowKit

/-- What a scale of a band costs with those behind it, or -1. -/
def rowV (last : Bool) (nx : List Int) (lo hi s : Int) : Int := if s < lo ∨ hi < s then -1 else if last = true then 0 else aftV nx s (lstF (aftV nx s) allL).1
def rowF (last : Bool) (nx : List Int) (b : Int × Int) : List Int := (List.range 96).map fun s => rowV last nx b.1 b.2 ((s : Nat) : Int)
def tabP : List (Int × Int) → List (List Int)
  | [] => []
  | b :: r => rowF r.isEmpty ((tabP r).headD []) b :: tabP r
theorem tabP_length : ∀ l, (tabP l).length = l.length
  | [] => rfl
  | b :: r => by simp [tabP, tabP_length r]
theorem rowF_length (last : Bool) (nx : List Int) (b : Int × Int) : (rowF last nx b).length = 96 := by simp [rowF]
theorem rowF_nth (last : Bool) (nx : List Int) (b : Int × Int) (s : Nat) (h : s < 96) : nth 0 (rowF last nx b) s = rowV last nx b.1 b.2 (s : Int) := by
  rw [nth_eq 0 _ s (by rw [rowF_length]; exact h)]; simp [rowF]
theorem headD_nth {α : Type} (d : α) (l : List α) : l.headD d = nth d l 0 := by cases l <;> simp [nth]
theorem nth_cons_zero {α : Type} (d x : α) (l : List α) : nth d (x :: l) 0 = x := by simp [nth]
theorem nth_cons_succ {α : Type} (d x : α) (l : List α) (k : Nat) : nth d (x :: l) (k + 1) = nth d l k := by simp [nth]
theorem nth_past {α : Type} (d : α) (l : List α) (k : Nat) (h : l.length ≤ k) : nth d l k = d := by simp [nth, List.getD_eq_getElem?_getD, h]
theorem tabP_nth : ∀ (l : List (Int × Int)) (k : Nat), k < l.length → nth [] (tabP l) k = rowF (decide (k + 1 = l.length)) (nth [] (tabP l) (k + 1)) (nth (0, 0) l k)
  | b :: r, 0, _ => by
    rw [tabP, nth_cons_zero, nth_cons_succ, nth_cons_zero, headD_nth]
    congr 1
    cases r <;> simp
  | b :: r, k + 1, h => by
    rw [tabP, nth_cons_succ, nth_cons_succ, nth_cons_succ, tabP_nth r k (by simpa using h)]
    congr 1
    simp
theorem aftV_le (nx : List Int) (B : Int) (h : ∀ x ∈ nx, x ≤ B) (hB : 0 ≤ B) (f s : Int) : aftV nx f s ≤ B + 15 := by
  unfold aftV
  have h1 : nth 0 nx s.toNat ≤ B := by
    rcases Nat.lt_or_ge s.toNat nx.length with h2 | h2
    · exact h _ (nth_mem 0 nx _ h2)
    · rw [nth_past 0 nx _ h2]; exact hB
  have h2 := stepL_le (s - f)
  split <;> omega
theorem tabP_le : ∀ (l : List (Int × Int)), ∀ row ∈ tabP l, ∀ x ∈ row, x ≤ 15 * (l.length : Int)
  | [], _, h, _, _ => by cases h
  | b :: r, row, h, x, hx => by
    rw [tabP] at h
    rcases List.mem_cons.1 h with rfl | h
    · simp only [rowF, List.mem_map, List.mem_range] at hx
      obtain ⟨s, _, rfl⟩ := hx
      have h3 : ∀ x ∈ (tabP r).headD [], x ≤ 15 * (r.length : Int) := fun x hx => by
        cases ht : tabP r with
        | nil => rw [ht] at hx; cases hx
        | cons y t => rw [ht] at hx; exact tabP_le r y (by rw [ht]; exact List.mem_cons_self) x hx
      have h4 := aftV_le _ _ h3 (by omega) (s : Int) (lstF (aftV ((tabP r).headD []) (s : Int)) allL).1
      unfold rowV
      rw [List.length_cons]
      split
      · omega
      · split <;> omega
    · have := tabP_le r row h x hx
      rw [List.length_cons]; omega
theorem tabP_nth_le (l : List (Int × Int)) (k s : Nat) : nth 0 (nth [] (tabP l) k) s ≤ 15 * (l.length : Int) := by
  rcases Nat.lt_or_ge k (tabP l).length with h | h
  · rcases Nat.lt_or_ge s (nth [] (tabP l) k).length with h2 | h2
    · exact tabP_le l _ (nth_mem [] _ k h) _ (nth_mem 0 _ s h2)
    · rw [nth_past 0 _ s h2]; omega
  · rw [nth_past [] _ k h, nth_past 0 _ s (by simp)]; omega
theorem tabP_row_length (l : List (Int × Int)) (k : Nat) (h : k < l.length) : (nth [] (tabP l) k).length = 96 := by rw [tabP_nth l k h, rowF_length]
theorem lstF_mem (V : Int → Int) (xs : List Int) : (lstF V xs).2 = true → (lstF V xs).1 ∈ xs := by
  suffices h : ∀ (st : Int × Bool), (xs.foldl (lstS V) st).2 = true → (xs.foldl (lstS V) st).1 ∈ xs ∨ (xs.foldl (lstS V) st) = st by
    intro h2
    rcases h (0, false) h2 with h3 | h3
    · exact h3
    · unfold lstF at h2; rw [h3] at h2; cases h2
  induction xs with
  | nil => intro st _; exact .inr rfl
  | cons x xs ih =>
    intro st h
    rw [List.foldl_cons] at h ⊢
    rcases ih _ h with h3 | h3
    · exact .inl (List.mem_cons_of_mem _ h3)
    · rw [h3]
      unfold lstS
      split
      · exact .inl List.mem_cons_self
      · exact .inr rfl
theorem lstF_none (V : Int → Int) (xs : List Int) : (lstF V xs).2 = false → (lstF V xs).1 = 0 := by
  suffices h : ∀ (st : Int × Bool), (st.2 = false → st.1 = 0) → (xs.foldl (lstS V) st).2 = false → (xs.foldl (lstS V) st).1 = 0 from h (0, false) (fun _ => rfl)
  induction xs with
  | nil => intro st h1 h2; exact h1 h2
  | cons x xs ih =>
    intro st h1 h2
    rw [List.foldl_cons] at h2 ⊢
    refine ih _ (fun h3 => ?_) h2
    unfold lstS at h3 ⊢
    split
    · rename_i h4; rw [if_pos h4] at h3; cases h3
    · rename_i h4; rw [if_neg h4] at h3; exact h1 h3
theorem allL_mem {x : Int} (h : x ∈ allL) : 0 ≤ x ∧ x < 96 := by
  simp only [allL, List.mem_map, List.mem_range] at h
  obtain ⟨s, hs, rfl⟩ := h
  omega
theorem lstF_allL (V : Int → Int) : 0 ≤ (lstF V allL).1 ∧ (lstF V allL).1 < 96 := by
  cases h : (lstF V allL).2
  · rw [lstF_none V _ h]; omega
  · exact allL_mem (lstF_mem V _ h)

/-- The cells of the rows from number m on are done, and the first ones of the row ahead. -/
structure DoneR (T : List (List Int)) (n : Nat) (xs : List Int) (m s : Nat) : Prop where
  len : xs.length = (n + 1) * 96
  rows : ∀ j t, m ≤ j → j < n → t < 96 → nth 0 xs (j * 96 + t) = nth 0 (nth [] T j) t
  part : ∀ t, t < s → nth 0 xs ((m - 1) * 96 + t) = nth 0 (nth [] T (m - 1)) t
theorem nth_set (xs : List Int) (i j : Nat) (v : Int) (h : i < xs.length) : nth 0 (xs.set i v) j = if i = j then v else nth 0 xs j := by
  by_cases e : i = j
  · subst e; rw [if_pos rfl]; simp [nth, List.getD_eq_getElem?_getD, h]
  · rw [if_neg e]; simp [nth, List.getD_eq_getElem?_getD, List.getElem?_set_ne e]
theorem DoneR.set {T : List (List Int)} {n : Nat} {xs : List Int} {k s : Nat} (h : DoneR T n xs (k + 1) s) (hk : k < n) (hs : s < 96) : DoneR T n (xs.set (k * 96 + s) (nth 0 (nth [] T k) s)) (k + 1) (s + 1) := by
  have hl := h.len
  have hin : k * 96 + s < xs.length := by omega
  refine ⟨by rw [List.length_set]; exact hl, fun j t h1 h2 h3 => ?_, fun t ht => ?_⟩
  · rw [nth_set _ _ _ _ hin, if_neg (by omega)]; exact h.rows j t h1 h2 h3
  · rw [nth_set _ _ _ _ hin]
    simp only [Nat.add_sub_cancel]
    split
    · rename_i e
      obtain rfl : t = s := by omega
      rfl
    · have := h.part t (by omega); simpa using this
theorem DoneR.next {T : List (List Int)} {n : Nat} {xs : List Int} {k : Nat} (h : DoneR T n xs (k + 1) 96) : DoneR T n xs k 0 := by
  refine ⟨h.len, fun j t h1 h2 h3 => ?_, fun t ht => by omega⟩
  rcases Nat.lt_or_ge k j with h4 | h4
  · exact h.rows j t (by omega) h2 h3
  · obtain rfl : j = k := by omega
    exact h.part t h3
theorem DoneR.begin {T : List (List Int)} {n : Nat} {xs : List Int} {k : Nat} (h : DoneR T n xs (k + 1) 0) (s : Nat) (hs : s = 0) : DoneR T n xs (k + 1) s := by subst hs; exact h

/-! ### Cells of rows -/
theorem nums_set (ik : IntKind) (xs : List Int) (i : Nat) (v : Int) : (nums ik xs).toArray.setIfInBounds i (.int ik v) = (nums ik (xs.set i v)).toArray := by
  rw [List.setIfInBounds_toArray]; simp [nums, List.map_set]
theorem blk_set_nums {w : World} {g : Nat} {xs : List Int} {t : TypeId} (h : Blk w g (nums .i64 xs).toArray t) (i : Nat) (v : Int) : Blk (w.setCell ⟨g, i, none⟩ (.int .i64 v)) g (nums .i64 (xs.set i v)).toArray t := by
  rw [← nums_set]; exact h.set i _
theorem blk_nums {w : World} {g : Nat} {xs : List Int} {t : TypeId} (h : Blk w g (nums .i64 xs).toArray t) (i : Nat) (hi : i < xs.length) : w.cell? ⟨g, i, none⟩ = some (.int .i64 (nth 0 xs i)) :=
  h.cell i (by rw [List.getElem?_toArray]; exact nums_get .i64 xs i hi)
theorem blk_range {w : World} {g n m s k : Nat} {xs : List Int} {t : TypeId} {T : List (List Int)} (h : Blk w g (nums .i64 xs).toArray t) (hd : DoneR T n xs m s) (hm : m ≤ k) (hk : k < n) (hr : (nth [] T k).length = 96) : w.rangeAt g (k * 96) (nums .i64 (nth [] T k)) := fun j v hv => by
  have hj : j < 96 := by have := (List.getElem?_eq_some_iff.1 hv).1; rw [nums_length, hr] at this; exact this
  rw [nums_get .i64 _ j (by rw [hr]; exact hj)] at hv
  injection hv with hv
  subst hv
  rw [← hd.rows k j hm hk hj]
  exact blk_nums h _ (by have := hd.len; omega)
theorem exec_load_mid {P : Program} {op : Oper} {a : Act} {w : World} (ty : TypeId) (x : Operand) (ho : op.op = .load ty x) (b o : Nat) (hx : a.eval x = .pointer (some ⟨b, o, none⟩)) (cs : List Value) (d : TypeDesc) (hc : w.rangeAt b o cs)
    (hu : P.underlying ty = some d) (hd : d.isRow = true) (hi : (P.info? ty).map (·.size) = some cs.length) : (execOp a.eval op).run P w = .ok (.value (.agg cs.toArray)) w := by
  unfold execOp
  simp only [ho, hx, Instr.loadAt, Instr.sureAddr, Sem.run_bind, Sem.run_pure, Result.andThen_ok, run_loadVar_mid w b o ty cs d hc hu hd hi]
theorem rangeAt_below {w w' : World} {b o : Nat} {cs : List Value} (h : w.rangeAt b o cs) (hb : Below w.heap.size w w') : w'.rangeAt b o cs := fun j v hv => cell_below hb (h j v hv)
end Go.Proofs.Ytkfgomhhenmmeaa
