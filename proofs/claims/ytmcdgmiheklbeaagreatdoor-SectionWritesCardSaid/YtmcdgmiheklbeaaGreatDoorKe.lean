/- book: beside, digits, symbolOf: what each call returns. · book: symbolOf: what it returns. · Parts of slices, as rules for the walk and as what they read as. · book: groups: what it yields, for any list and memory. · What the arguments of a law read as: []int, []byte. · book: the tables at rest; lengths, Lengths: what each call returns. · The reference's books: Is, abs, Values, Has, symbols, sum, count: what each call returns. · The reference's books: symbols, sum, count, symbol: what each call returns. · The reference's books: sum, symbol: what each call returns. · prefix: the numbers of awake's examples. Plain; no program is named. · prefix: Lengths in general; awake's examples hold. · scale: length, Lengths, is: what each call returns. · scale: checked: what it returns. · scale: walk: what it yields, for any bands and memory. · scale: Cost: what it returns. · The reference's Lengths: order by insertion; what is taken of each level. Plain; no program is named. · append to a full slice: a new row; slices 'xs[m:]' and 'xs[:m:m]'. · The reference's Lengths: its first errors. -/
import Derived.Test.YtmcdgmiheklbeaaGreatDoorKd
import Derived.Test.YtmcdgmiheklbeaaGreatDoorKa
import Derived.Laws.BytesArg
import Derived.Lib.SmallJoins
import Derived.LaidMore
import Derived.Stop.Joined
import Derived.Lib.ConvBytes
import Derived.Test.YtmcdgmiheklbeaaGreatDoorKc
import Derived.Test.YtmcdgmiheklbeaaGreatDoorKb
import Derived.ArgAppend
namespace Go.Proofs.YtmcdgmiheklbeaaGreatDoor
open Go.RowKit

theorem gamma_same (v : Nat) (w : World) (hv : v ≤ 1000000) :
    Calls Tryz.prog 131 #[.int .i64 (v : Int)] w fun e w' => e = .returned (.int .i64 ((2 * Nat.log2 v + 1 : Nat) : Int)) ∧ w' = w :=
  (gamma_any v w hv).mono fun _ _ ⟨h1, h2⟩ => ⟨h1, h2.symm⟩
theorem besB_length (b : Nat) (v : Int) : (besB b v).length = if v = 0 then 0 else if escpB b v = true then 1 + (2 * Nat.log2 (v.natAbs - mostB b + 1) + 1) else 1 := by
  unfold besB
  split
  · rfl
  · split
    · rw [List.length_cons, gamB_length]; omega
    · rfl

set_option maxHeartbeats 2000000 in
theorem beside_any (b : Nat) (v : Int) (w : World) (hv : -1023 ≤ v ∧ v ≤ 1023) :
    Calls Tryz.prog 115 #[.agg (formC b), .int .i64 v] w fun e w' => e = .returned (.int .i64 ((besB b v).length : Int)) ∧ Below w.heap.size w w' := by
  have hm := mostB_le b
  have HL := Lib.hid (besB_length b v)
  have HP := Lib.hid (show escpB b v = (escB b && decide (mostB b ≤ v.natAbs)) from rfl)
  have hba := Lib.hid (below_alloc (Below.refl w.heap.size w) (.cells (formC b) 113))
  have HZ := Lib.hid (fun W => size_same v W (by omega))
  have hzb : v.natAbs ≤ 1023 := by omega
  have h00 : v.natAbs = 0 → v = 0 := fun h => by omega
  unfold formC at hba ⊢
  generalize (besB b v).length = L at *
  generalize escpB b v = P at *
  generalize hD : dimB b = D at *
  generalize hM : mostB b = M at *
  generalize hE : escB b = E at *
  generalize hz : v.natAbs = z at *
  obtain ⟨g, hg⟩ : ∃ g, w.heap.size = g := ⟨_, rfl⟩
  have hB0 : Blk (w.alloc (.cells (#[.int .i64 (D : Int), .int .i64 (M : Int), .bool E]) 113)) g #[.int .i64 (D : Int), .int .i64 (M : Int), .bool E] 113 := by rw [← hg]; exact heap_alloc_new w _
  have k1 := hB0.cell 1 rfl
  have k2 := hB0.cell 2 rfl
  clear hD hM hE hB0
  by_cases h0 : v = 0
  · have HX := Lib.hid (show L = 0 by rw [HL.out, if_pos h0])
    subst h0
    go_enter Tryz.func115, Tryz.ntmps115
    go_wp2
    go_ret
    exact ⟨ret_int (by rw [HX.out]; rfl), hg ▸ hba.out⟩
  · have hx0 : L = if P = true then 1 + (2 * Nat.log2 (z - M + 1) + 1) else 1 := by rw [HL.out, if_neg h0]
    have hv0 : (v == 0) = false := by simp [h0]
    clear h0 h00 hz
    rw [HP.out] at hx0
    cases E
    · have HX := Lib.hid (show L = 1 by rw [hx0]; rfl)
      clear hx0
      go_enter Tryz.func115, Tryz.ntmps115
      go_wp2
      go_quiet ((go_at_call 64; exact Calls.quiet_of_same (HZ.out _)))
      go_wp2
      go_ret
      exact ⟨ret_int (by rw [HX.out]; rfl), below_drewN hba.out _⟩
    · by_cases h1 : M ≤ z
      · have d1 : decide (M ≤ z) = true := decide_eq_true h1
        have HX := Lib.hid (show L = 1 + (2 * Nat.log2 (z - M + 1) + 1) by rw [hx0, d1]; rfl)
        have hw1 : IntKind.i64.wrap ((z : Int) - (M : Int)) = ((z - M : Nat) : Int) := by rw [Int.ofNat_sub h1]; exact IntWalk.i64_in _ (by omega)
        have hw2 : IntKind.i64.wrap (((z - M : Nat) : Int) + 1) = ((z - M + 1 : Nat) : Int) := by rw [Int.natCast_succ]; exact IntWalk.i64_in _ (by omega)
        have HG := Lib.hid (fun W => gamma_same (z - M + 1) W (by omega))
        have hlb := log2_le (v := z - M + 1) (n := 20) (by omega)
        generalize Nat.log2 (z - M + 1) = y at HX HG hlb
        obtain ⟨q, hq⟩ : ∃ q, z - M = q := ⟨_, rfl⟩
        rw [hq] at hw1 hw2 HG
        obtain ⟨q1, hq1⟩ : ∃ q1, q + 1 = q1 := ⟨_, rfl⟩
        rw [hq1] at hw2 HG
        obtain ⟨y1, hy1⟩ : ∃ y1, 2 * y + 1 = y1 := ⟨_, rfl⟩
        rw [hy1] at HG HX
        have hw3 : IntKind.i64.wrap (1 + (y1 : Int)) = ((1 + y1 : Nat) : Int) := by rw [Int.natCast_add]; exact IntWalk.i64_in _ (by omega)
        clear hx0 hq hq1 hy1
        go_enter Tryz.func115, Tryz.ntmps115
        go_wp2
        go_quiet ((go_at_call 64; exact Calls.quiet_of_same (HZ.out _)))
        go_wp2
        obtain ⟨W1, hW1⟩ : ∃ W1, (w.alloc (.cells (#[.int .i64 (D : Int), .int .i64 (M : Int), .bool true]) 113)).drewN nq = W1 := ⟨_, rfl⟩
        have k1' : W1.cell? ⟨g, 1, none⟩ = some (.int .i64 M) := by rw [← hW1]; exact k1
        have hb1 : Below w.heap.size w W1 := by rw [← hW1]; exact below_drewN hba.out _
        simp only [hW1]
        clear hW1 k1 k2 hba
        go_quiet ((first | (go_at_call 64; exact Calls.quiet_of_same (HZ.out _)) | (go_at_call 131; exact Calls.quiet_of_same (HG.out _))))
        go_wp2
        go_ret
        exact ⟨ret_int (by rw [HX.out]; omega), below_drewN hb1 _⟩
      · have d1 : decide (M ≤ z) = false := decide_eq_false h1
        have HX := Lib.hid (show L = 1 by rw [hx0, d1]; rfl)
        clear hx0
        go_enter Tryz.func115, Tryz.ntmps115
        go_wp2
        go_quiet ((go_at_call 64; exact Calls.quiet_of_same (HZ.out _)))
        go_wp2
        go_ret
        exact ⟨ret_int (by rw [HX.out]; rfl), below_drewN hba.out _⟩

/-- What digits returns: the closure over a form. -/
theorem digits_any (b : Nat) (w : World) :
    Calls Tryz.prog 92 #[.agg (formC b)] w fun e w' => e = .returned (.func (.func 122) #[] #[.pointer (some ⟨w.heap.size, 0, none⟩)]) ∧ Blk w' w.heap.size (formC b) 113 ∧ Below w.heap.size w w' := by
  unfold formC
  go_enter Tryz.func92, Tryz.ntmps92
  go_wp2
  go_ret
  exact ⟨rfl, heap_alloc_new w _, below_alloc (Below.refl _ _) _⟩
set_option maxHeartbeats 1000000 in
theorem digits1_any (b g : Nat) (v : Int) (w : World) (hB : Blk w g (formC b) 113) (hv : -1023 ≤ v ∧ v ≤ 1023) :
    Calls Tryz.prog 122 #[.int .i64 v, .pointer (some ⟨g, 0, none⟩)] w fun e w' => e = .returned (.int .i64 (digB b v : Int)) ∧ Below w.heap.size w w' := by
  have hm := mostB_le b
  have k1 : w.cell? ⟨g, 1, none⟩ = some (.int .i64 (mostB b : Int)) := hB.cell 1 rfl
  have HD := Lib.hid (show digB b v = min v.natAbs (mostB b) from rfl)
  have HZ := Lib.hid (fun W => size_same v W (by omega))
  generalize digB b v = d at *
  generalize mostB b = M at *
  generalize v.natAbs = z at *
  go_enter Tryz.func122, Tryz.ntmps122
  go_wp2
  go_quiet ((go_at_call 64; exact Calls.quiet_of_same (HZ.out _)))
  go_wp2
  all_goals
    go_ret
    exact ⟨ret_int (by rw [HD.out]; omega), below_drewN (Below.refl _ _) _⟩
end Go.Proofs.YtmcdgmiheklbeaaGreatDoor

namespace Go.Proofs.YtmcdgmiheklbeaaGreatDoor
open Go.RowKit

def digsB (b : Nat) (g : List Int) : List Int := g.map fun v => (digB b v : Int)
theorem symG_symD (b : Nat) (g : List Int) : symG b g = symD (mostB b) (digsB b g) := by
  unfold symG symD digsB
  rw [List.foldl_map]
  simp
theorem digsB_length (b : Nat) (g : List Int) : (digsB b g).length = g.length := by simp [digsB]
theorem digsB_in (b : Nat) (g : List Int) : ∀ d ∈ digsB b g, 0 ≤ d ∧ d ≤ (mostB b : Int) := by
  intro d hd
  obtain ⟨v, _, rfl⟩ := List.mem_map.1 hd
  have : digB b v ≤ mostB b := Nat.min_le_right _ _
  omega
theorem digsB_take (b : Nat) (g : List Int) (k : Nat) (h : k < g.length) : (digsB b g).take (k + 1) = (digsB b g).take k ++ [(digB b (nth 0 g k) : Int)] := by
  have e : nth 0 (digsB b g) k = (digB b (nth 0 g k) : Int) := by
    rw [nth_eq 0 _ k (by rw [digsB_length]; exact h), nth_eq 0 g k h]; simp [digsB]
  rw [take_succ_nth 0 _ k (by rw [digsB_length]; exact h), e]

set_option maxHeartbeats 2000000 in
set_option maxRecDepth 100000 in
theorem symbolOf_any (A : Option Addr) (c b : Nat) (l : List Int) (w : World) (hS : RI w A c l) (hq : ∀ v ∈ l, -1023 ≤ v ∧ v ≤ 1023) (h4 : l.length ≤ 4) :
    Calls Tryz.prog 63 #[.agg (formC b), .slice A l.length c] w fun e w' => e = .returned (.int .i64 (symG b l)) ∧ Below w.heap.size w w' := by
  have hn := hS.len
  have HS := Lib.hid hS
  have HQ := Lib.hid (fun k => nth_bound hq (by decide) k)
  have HG := Lib.hid (symG_symD b l)
  have HT := Lib.hid (digsB_take b l)
  have HD := Lib.hid (fun W => (digits_any b W).mono (R' := fun e w' => ∃ g2, e = .returned (.func (.func 122) #[] #[.pointer (some ⟨g2, 0, none⟩)]) ∧ Blk w' g2 (formC b) 113 ∧ Below W.heap.size W w') fun _ _ h => ⟨_, h⟩)
  have HY := Lib.hid (fun A' c' W (hW : RI W A' c' (digsB b l)) => symbol_any A' c' b (digsB b l) W hW (digsB_in b l) (by rw [digsB_length]; exact h4))
  have HL := Lib.hid (digsB_length b l)
  have HM := Lib.hid (fun g v W (hB : Blk W g (formC b) 113) (hv : -1023 ≤ v ∧ v ≤ 1023) => digits1_any b g v W hB hv)
  have hba := below_alloc (Below.refl w.heap.size w) (.cells (formC b) 113)
  obtain ⟨g, hg⟩ : ∃ g, w.heap.size = g := ⟨_, rfl⟩
  have hB0 : Blk (w.alloc (.cells (formC b) 113)) g (formC b) 113 := by rw [← hg]; exact heap_alloc_new w _
  have k0 : (w.alloc (.cells (formC b) 113)).cell? ⟨g, 0, none⟩ = some (.int .i64 (dimB b : Int)) := hB0.cell 0 rfl
  have k1 : (w.alloc (.cells (formC b) 113)).cell? ⟨g, 1, none⟩ = some (.int .i64 (mostB b : Int)) := hB0.cell 1 rfl
  have k2 : (w.alloc (.cells (formC b) 113)).cell? ⟨g, 2, none⟩ = some (.bool (escB b)) := hB0.cell 2 rfl
  clear hq
  go_enter Tryz.func63, Tryz.ntmps63
  go_wp2_with (first | (go_at_call 92; refine (HD.out _).mono ?_; rintro e W1 ⟨g2, rfl, hB1, b1⟩))
  have hBf := hB0.below b1
  have HW := Lib.hid (show Below w.heap.size w W1 from below2 hba b1)
  have HF := Lib.hid (show Blk W1 g2 (formC b) 113 ∧ Blk W1 g (formC b) 113 from ⟨hB1, hBf⟩)
  clear k0 k1 k2 hB0 hba HD b1 hB1 hBf
  go_loopw [6, 13] (fun sv iv wr => ∃ k : Nat, k ≤ l.length ∧ iv = .int .i64 (k : Int) ∧ Hid (OwnI 3 .i64 W1.heap.size wr sv ((digsB b l).take k)) ∧ Below W1.heap.size W1 wr) (fun _ iv _ => l.length - (intOf iv).toNat)
  case atStart => exact ⟨0, Nat.zero_le _, rfl, Lib.hid (OwnI.nil _ _ _ _), Below.refl _ _⟩
  case round =>
    obtain ⟨k, hk, rfl, hO, hB⟩ := hrel
    by_cases hlt : k < l.length
    · obtain ⟨ad, rfl, hc⟩ := rd_int ((HS.out.below HW.out).below hB) k hlt
      have hki : (k : Int) < (l.length : Int) := by omega
      have HN := Lib.hid (HT.out k hlt)
      have HX := Lib.hid (HQ.out k)
      generalize nth 0 l k = x at hc HN HX
      have hwk : IntKind.i64.wrap ((k : Int) + 1) = (k : Int) + 1 := IntWalk.i64_in _ (by omega)
      have hlk : ((digsB b l).take k).length ≤ 4 := by rw [List.length_take]; have := HL.out; omega
      go_wp2_with (first
        | (go_at_call 122; refine (HM.out g2 x _ (HF.out.1.below hB) HX.out).mono ?_; rintro e w2 ⟨rfl, b2⟩)
        | (at_builtin; (refine append_one (w0 := W1) W1.heap.size rfl (.tmp 17) (.tmp 21) 22 3 .i64 8 rfl Tryz.underlying22 infoI (by decide) _ ((digsB b l).take k) (digB b x : Int) rfl rfl (hO.out.below b2) (below2 hB b2) (Nat.le_trans hB.size b2.size) (by omega) ?_); intro v1 w4 hO4 hB4 _ _; have HO4 := Lib.hid hO4; clear hO4))
      go_roundw
      case rel => exact ⟨k + 1, by omega, by go_num, by rw [HN.out]; exact HO4, hB4⟩
      case measure => simp [intOf]; omega
    · obtain rfl : k = l.length := by omega
      have HT2 := Lib.hid (show (digsB b l).take l.length = digsB b l from List.take_of_length_le (by rw [HL.out]; exact Nat.le_refl _))
      rw [HT2.out] at hO
      obtain ⟨A2, c2, rfl⟩ := hO.out.slice
      have hR := own_sl hO.out
      have hf := HF.out.2.below hB
      have k0 : wr.cell? ⟨g, 0, none⟩ = some (.int .i64 (dimB b : Int)) := hf.cell 0 rfl
      have k1 : wr.cell? ⟨g, 1, none⟩ = some (.int .i64 (mostB b : Int)) := hf.cell 1 rfl
      have k2 : wr.cell? ⟨g, 2, none⟩ = some (.bool (escB b)) := hf.cell 2 rfl
      go_wp2_with (first | (go_at_call 93; refine (HY.out A2 c2 _ hR).mono ?_; rintro e w3 ⟨rfl, b3⟩))
      go_ret
      exact ⟨ret_int (by rw [HG.out]), below2 (below2 HW.out hB) b3⟩
end Go.Proofs.YtmcdgmiheklbeaaGreatDoor

namespace Go.Proofs.YtmcdgmiheklbeaaGreatDoor
open Go.RowKit
section
variable {P : Program} (t e : TypeId) {i : TypeInfo} (ht : P.underlying t = some (.slice e)) (hi : P.info? e = some i) (A : Option Addr) (n c : Nat)
include ht hi
/-- 'xs[:hi]'. -/
theorem cut_to (hi' : Nat) (h2 : hi' ≤ n) (hnc : n ≤ c) :
    ∃ A' : Option Addr, (∀ W : World, (Instr.slice t (.slice A n c) none (some (.int .i64 (hi' : Int))) none).run P W = .ok (.slice A' hi' c) W) ∧
      ∀ {α : Type} (k : Kd α) (ok : Nat → Prop) (w : World) (xs : List α), k.size = i.size → xs.length = n → Sl k ok w A c xs → Sl k ok w A' c (xs.take hi') := by
  refine ⟨if c = 0 then A else A.map (·.add (0 * i.size)), fun W => ?_, fun k ok w xs hk hx h => ?_⟩
  · have hel : P.elem t = e := by simp [Program.elem, ht]
    have hu : P.underlying t = some (.slice (P.elem t)) := by rw [hel]; exact ht
    rw [run_slice_h W t A n c hu .i64 (hi' : Int) (Int.natCast_nonneg _) (by omega), hel]
    simp [sizeOf, typeInfo, hi, sliced, Result.andThen]
  · refine ⟨by rw [List.length_take]; have := h.le; omega, h.cap, ?_⟩
    by_cases hc : c = 0
    · have : xs.take hi' = [] := List.eq_nil_of_length_eq_zero (by rw [List.length_take]; omega)
      rw [this]
      exact Kd.Rd.nil _ _ _ _
    · rw [if_neg hc, ← hk]
      have := (h.rd.take hi').drop 0
      rwa [List.drop_zero] at this
end
/-- 'xs[m:]' as a rule for the walk, and what it reads as. -/
theorem cut_from {P : Program} (t e : TypeId) {i : TypeInfo} (ht : P.underlying t = some (.slice e)) (hi : P.info? e = some i) (A : Option Addr) (n c m : Nat) (hm : m ≤ n) :
    ∃ A' : Option Addr, (∀ W : World, (Instr.slice t (.slice A n c) (some (.int .i64 (m : Int))) none none).run P W = .ok (.slice A' (n - m) (c - m)) W) ∧
      ∀ {α : Type} (k : Kd α) (ok : Nat → Prop) (w : World) (xs : List α), k.size = i.size → xs.length = n → Sl k ok w A c xs → Sl k ok w A' (c - m) (xs.drop m) := by
  refine ⟨if c = m then A else A.map (·.add (m * i.size)), fun W => ?_, fun k ok w xs hk hx h => ?_⟩
  · have hel : P.elem t = e := by simp [Program.elem, ht]
    have hu : P.underlying t = some (.slice (P.elem t)) := by rw [hel]; exact ht
    rw [run_slice_l W t A n c hu .i64 (m : Int) (Int.natCast_nonneg _) (by omega), hel]
    simp [sizeOf, typeInfo, hi, sliced, Result.andThen]
  · refine ⟨by rw [List.length_drop]; have := h.le; omega, by have := h.cap; omega, ?_⟩
    by_cases hc : c = m
    · have : xs.drop m = [] := List.drop_of_length_le (by have := h.le; omega)
      rw [this]
      exact Kd.Rd.nil _ _ _ _
    · rw [if_neg hc, ← hk]
      exact h.rd.drop m
end Go.Proofs.YtmcdgmiheklbeaaGreatDoor

namespace Go.Proofs.YtmcdgmiheklbeaaGreatDoor
open Go.RowKit
attribute [local go_sem] Oper.semAt_some

/-- 'xs[lo:hi:hi]' of a part that is not empty, with its address. -/
theorem cut_grp (lo d n c : Nat) (ad : Addr) (hd : 1 ≤ d) (h2 : lo + d ≤ n) (hnc : n ≤ c) (W : World) :
    (Instr.slice 22 (.slice (some ad) n c) (some (.int .i64 (lo : Int))) (some (.int .i64 ((lo + d : Nat) : Int))) (some (.int .i64 ((lo + d : Nat) : Int)))).run Tryz.prog W = .ok (.slice (some (ad.add lo)) d d) W := by
  obtain ⟨i, hi, hz⟩ := Option.map_eq_some_iff.1 infoI
  have hel : Tryz.prog.elem 22 = 3 := by simp [Program.elem, Tryz.underlying22]
  have hu : Tryz.prog.underlying 22 = some (.slice (Tryz.prog.elem 22)) := by rw [hel]; exact Tryz.underlying22
  have h1 : i.size = 1 := by simp at hz; exact hz.2.1
  rw [run_slice_lhm W 22 (some ad) n c hu .i64 .i64 .i64 (lo : Int) ((lo + d : Nat) : Int) ((lo + d : Nat) : Int) (Int.natCast_nonneg _) (by omega) (Int.le_refl _) (by omega), hel]
  have e1 : ¬ (lo + d = lo) := by omega
  have e2 : lo + d - lo = d := by omega
  simp [sizeOf, typeInfo, hi, sliced, Result.andThen, h1]
  omega
theorem grp_sl {α : Type} {k : Kd α} {ok : Nat → Prop} {w : World} {ad : Addr} {c : Nat} {xs : List α} (h : Sl k ok w (some ad) c xs) (lo d : Nat) (h2 : lo + d ≤ xs.length) : Sl k ok w (some (ad.add (lo * k.size))) d ((xs.take (lo + d)).drop lo) := by
  refine ⟨by rw [List.length_drop, List.length_take]; omega, by have := h.cap; have := h.le; omega, ?_⟩
  exact (h.rd.take (lo + d)).drop lo

set_option maxHeartbeats 1000000 in
theorem groups_any (A : Option Addr) (c n b : Nat) (w : World) :
    Calls Tryz.prog 62 #[.agg (formC b), .slice A n c] w fun e w' => ∃ g1 g2, e = .returned (.func (.func 91) #[] #[.pointer (some ⟨g1, 0, none⟩), .pointer (some ⟨g2, 0, none⟩)]) ∧ Hid (g1 = w.heap.size) ∧ Hid (g2 = g1 + 1) ∧ Hid (w'.heap.size = g2 + 1) ∧ Blk w' g1 (formC b) 113 ∧ Blk w' g2 #[.slice A n c] 22 ∧ Below w.heap.size w w' := by
  have h1 : Blk (w.alloc (.cells (formC b) 113)) w.heap.size (formC b) 113 := heap_alloc_new w _
  have h2 := h1.below (below_alloc (Below.refl _ _) (.cells #[.slice A n c] 22))
  have h3 : Blk ((w.alloc (.cells (formC b) 113)).alloc (.cells #[.slice A n c] 22)) (w.alloc (.cells (formC b) 113)).heap.size #[.slice A n c] 22 := heap_alloc_new _ _
  have h4 := below_alloc (below_alloc (Below.refl w.heap.size w) (.cells (formC b) 113)) (.cells #[.slice A n c] 22)
  have h5 : (w.alloc (.cells (formC b) 113)).heap.size = w.heap.size + 1 := by simp
  rw [h5] at h3
  go_enter Tryz.func62, Tryz.ntmps62
  go_wp2
  go_ret
  exact ⟨_, _, rfl, Lib.hid rfl, Lib.hid (by simp), Lib.hid (by simp), h2, h3, h4⟩

/-- What comes next. -/
def NextG (q : Nat) (pre : List Nat) (x : Nat) : Prop := x < q ∧ pre = List.range x
/-- A group as a value. -/
def grpV (A : Option Addr) (d j : Nat) : Value := .slice (A.map fun ad => ad.add (j * d)) d d

set_option maxHeartbeats 2000000 in
set_option maxRecDepth 100000 in
theorem groups1_yields (g1 g2 b : Nat) (A : Option Addr) (c : Nat) (l : List Int) (w : World) (ok : Nat → Prop) (hS : RI w A c l) (hF : Blk w g1 (formC b) 113) (hB : Blk w g2 #[.slice A l.length c] 22) (ok1 : ok g1) (ok2 : ok g2) (n : Nat) (hn : 1 ≤ n) (hlm : l.length ≤ 100000000) :
    YieldsN Fence.wide n Tryz.prog 91 #[.pointer (some ⟨g1, 0, none⟩), .pointer (some ⟨g2, 0, none⟩)] (fun x : Nat => #[grpV A (dimB b) x]) ok (fun _ => False) (fun xs => xs = List.range (l.length / dimB b)) (fun _ => True) (NextG (l.length / dimB b)) w := by
  intro y J Jx W hW hJ hJx hY h0
  have hBW := hB.below hW
  have hFW := hF.below hW
  have hlen := hS.len
  have hle := hS.le
  have hd := dimB_pos b
  have HA : Hid (0 < l.length → ∃ ad, A = some ad) := Lib.hid fun h => by
    obtain ⟨ad, h1, _⟩ := rd_int hS 0 h
    exact ⟨ad, h1⟩
  refine callsIn_of_wp Tryz.func91 rfl trivial ?_ rfl
  simp only [Tryz.ntmps91, List.size_toArray, List.length_cons, List.length_nil, Nat.reduceAdd, Nat.reduceSub, Array.replicate_succ, Array.replicate_zero, List.push_toArray, List.append_toArray, List.nil_append, List.cons_append]
  gi_wp2
  have H0 : Hid (J (List.range 0) W) := Lib.hid h0
  have HY := Lib.hid hY
  clear h0 hY
  have HD := Lib.hid hd
  obtain ⟨D, hD⟩ : ∃ D, dimB b = D := ⟨_, rfl⟩
  obtain ⟨q, hq⟩ : ∃ q, l.length / dimB b = q := ⟨_, rfl⟩
  simp only [hD] at hd
  rw [hq] at HY
  rw [hD] at HY
  have HQ : Hid (∀ j, j < q → j * D + D ≤ l.length) := Lib.hid fun j h => by rw [← hD]; exact grp_in (by rw [hq]; exact h)
  have HQ2 : Hid (∀ j, ¬ j < q → j * D + D > l.length) := Lib.hid fun j h => by
    have h1 : q + 1 ≤ j + 1 := by omega
    have h2 := Nat.mul_le_mul_right D h1
    have h3 : l.length < (q + 1) * D := by rw [← hq, ← hD, Nat.add_mul, Nat.one_mul, Nat.mul_comm]; have := Nat.div_add_mod l.length (dimB b); have := Nat.mod_lt l.length (show 0 < dimB b by omega); omega
    simp only [Nat.add_mul, Nat.one_mul] at h2 h3
    omega
  have HQ3 : Hid (q ≤ l.length) := Lib.hid (by rw [← hq]; exact Nat.div_le_self _ _)
  gi_loopw [4] (fun iv wr => ∃ j : Nat, j ≤ q ∧ iv = .int .i64 ((j * D : Nat) : Int) ∧ Hid (J (List.range j) wr) ∧ Keep ok W wr) (fun iv _ => l.length + 4 - (intOf iv).toNat)
  case atStart => exact ⟨0, Nat.zero_le _, by simp, H0, Keep.refl _ _⟩
  case round =>
    clear H0
    obtain ⟨j, hj, rfl, HJ, hkp⟩ := hrel
    have kf : wr.cell? ⟨g1, 0, none⟩ = some (.int .i64 (D : Int)) := by rw [← hD]; exact (hFW.keep hkp ok1).cell 0 rfl
    have kb : wr.cell? ⟨g2, 0, none⟩ = some (.slice A l.length c) := (hBW.keep hkp ok2).cell 0 rfl
    have HM : Hid ((j + 1) * D = j * D + D) := Lib.hid (by rw [Nat.add_mul, Nat.one_mul])
    by_cases hlt : j < q
    · have hle2 := HQ.out j hlt
      obtain ⟨ad, rfl⟩ := HA.out (by omega)
      obtain ⟨fn, tmps, assign, body, hy, hRd⟩ := HY.out (List.range j) j _ HJ.out ⟨hlt, rfl⟩
      replace hy : (Instr.yield y #[.slice (some (ad.add (j * D))) D D]).run Tryz.prog wr = .ok (.round y fn tmps assign body) wr := hy
      obtain ⟨p, hp⟩ : ∃ p, j * D = p := ⟨_, rfl⟩
      rw [hp] at hle2 hy HM ⊢
      have hcut := fun W => cut_grp p D l.length c ad (by omega) hle2 hle W
      have hwp : IntKind.i64.wrap ((p : Int) + (D : Int)) = ((p + D : Nat) : Int) := by rw [Int.natCast_add]; exact IntWalk.i64_in _ (by omega)
      obtain ⟨s, hs⟩ : ∃ s, p + D = s := ⟨_, rfl⟩
      rw [hs] at hcut hwp hle2 HM
      have hsi : (s : Int) ≤ (l.length : Int) := by omega
      have HS' := Lib.hid (show p + D = s from hs)
      clear hs hp
      gi_wp2
      refine hRd.mono ?_
      rintro e W3 (⟨rfl, hJ3, hk3⟩ | ⟨rfl, hJx3⟩)
      · have kf3 : W3.cell? ⟨g1, 0, none⟩ = some (.int .i64 (D : Int)) := by rw [← hD]; exact (hFW.keep (hkp.trans hk3) ok1).cell 0 rfl
        gi_wp2
        go_roundw
        case rel => exact ⟨j + 1, by omega, by rw [HM.out], by rw [List.range_succ]; exact Lib.hid hJ3, hkp.trans hk3⟩
        case measure => have := HS'.out; simp [intOf]; omega
      · gi_wp2
        refine bodyPost_ret (results_none rfl _ _ _) rfl ?_
        exact ⟨⟨_, rfl⟩, .inr ⟨_, trivial, hJx3⟩⟩
    · obtain rfl : j = q := by omega
      have h2 := HQ2.out j hlt
      have h3 := HQ3.out
      have h4 : j * D ≤ l.length := by rw [← hq, ← hD]; exact Nat.div_mul_le_self _ _
      obtain ⟨p, hp⟩ : ∃ p, j * D = p := ⟨_, rfl⟩
      rw [hp] at h2 h4 ⊢
      have hwp : IntKind.i64.wrap ((p : Int) + (D : Int)) = ((p + D : Nat) : Int) := by rw [Int.natCast_add]; exact IntWalk.i64_in _ (by omega)
      obtain ⟨s, hs⟩ : ∃ s, p + D = s := ⟨_, rfl⟩
      rw [hs] at hwp
      have hsi : ¬ (s : Int) ≤ (l.length : Int) := by omega
      clear hs hp
      gi_wp2
      go_end0
      exact ⟨⟨_, rfl⟩, .inl (by rw [← hD, hq]; exact HJ.out)⟩
end Go.Proofs.YtmcdgmiheklbeaaGreatDoor

namespace Go.Proofs.YtmcdgmiheklbeaaGreatDoor
open Go.ChangeShapes Go.WideShapes Go.ChangeAt Go.WideMaps Go.WideElems Go.RowKit Go.Deep

theorem own : ownKnob Tryz.prog.godebug = none := by kernel_rfl
theorem sl_cells {α : Type} (k : Kd α) (h1 : k.size = 1) {w : World} {a : Addr} {c : Nat} {xs : List α} (V : Nat → Value) (hle : xs.length ≤ c) (hc : c ≤ maxLen) (hcell : ∀ i, i < xs.length → w.cell? (a.add i) = some (V i)) (hK : ∀ i, i < xs.length → k.K AnyB w (nth k.dflt xs i) [V i]) :
    Sl k AnyB w (some a) c xs := by
  refine ⟨hle, by simpa [maxLen] using hc, fun j hj => ?_⟩
  have hcj := hcell j hj
  refine ⟨a, [V j], rfl, trivial, by have := World.block_lt_of_cell? w _ hcj; rwa [add_block] at this, hK j hj, fun i v hv => ?_⟩
  have hi : i = 0 := by
    rcases Nat.eq_zero_or_pos i with h | h
    · exact h
    · rw [List.getElem?_eq_none (by simp; omega)] at hv; cases hv
  subst hi
  injection hv with hv
  rw [h1, Nat.mul_one, Nat.add_zero, ← hv]
  exact hcj

section
variable {H : Type} {enc : TypeId × Value → H} {W : World}
/-- A []int. -/
theorem open_I {fuel : Nat} {v : Value} {x : DataW H × List MemPlace} (h : DataW.trod enc Tryz.prog W 0 (fun _ => true) true fuel 22 [v] = some x) :
    ∃ A c xs, v = .slice A xs.length c ∧ RI W A c xs ∧ ((∀ n ∈ x.1.weights Tryz.prog 22, n ≤ reachBytes) → xs.length ≤ 140737488355328) := by
  rcases open_ints Tryz.underlying22 Tryz.underlying3 (by kernel_rfl) h with ⟨hcs, _⟩ | ⟨a, len, cap, zs, hcs, _, hl, hm, hz, hx, hcell, _⟩
  · injection hcs with hv _
    exact ⟨none, 0, [], hv, ⟨Nat.le_refl _, by omega, Kd.Rd.nil _ _ _ _⟩, fun _ => by simp⟩
  · injection hcs with hv _
    have hz' : zs.length = cap := by simpa using hz
    have hlen : (zs.take len).length = len := by rw [List.length_take]; omega
    refine ⟨some a, cap, zs.take len, by rw [hlen]; exact hv, sl_cells (kInt .i64) rfl (fun i => .int .i64 (nth 0 zs i)) (by rw [hlen]; exact hl) hm (fun i hi => ?_) (fun i hi => ?_), fun hw => ?_⟩
    · rw [hlen] at hi
      rw [hcell i (by omega)]
      rfl
    · rw [hlen] at hi
      show [Value.int .i64 (nth 0 zs i)] = [.int .i64 (nth 0 (zs.take len) i)]
      rw [nth_take _ _ _ _ hi]
    · rw [hlen]
      have hb : Tryz.prog.bytesOf 3 = 8 := by kernel_rfl
      have := hw ((zs.take len).length * 8 + (zs.drop len).length * 8) (by rw [hx]; simp [DataW.weights, Tryz.underlying22, hb, lits, Nat.add_mul])
      have hr : reachBytes = 140737488351232 := rfl
      rw [hlen] at this
      omega

/-- A []byte. -/
theorem open_Y {fuel : Nat} {v : Value} {x : DataW H × List MemPlace} (h : DataW.trod enc Tryz.prog W 0 (fun _ => true) true fuel 31 [v] = some x) :
    ∃ A c xs, v = .slice A xs.length c ∧ RY W A c xs ∧ (∀ x ∈ xs, 0 ≤ x ∧ x < 256) ∧ ((∀ n ∈ x.1.weights Tryz.prog 31, n ≤ reachBytes) → xs.length ≤ 140737488355328) := by
  rcases open_ints Tryz.underlying31 Tryz.underlying5 (by kernel_rfl) h with ⟨hcs, _⟩ | ⟨a, len, cap, zs, hcs, _, hl, hm, hz, hx, hcell, hwf⟩
  · injection hcs with hv _
    exact ⟨none, 0, [], hv, ⟨Nat.le_refl _, by omega, Kd.Rd.nil _ _ _ _⟩, (fun x hx => by cases hx), fun _ => by simp⟩
  · injection hcs with hv _
    have hz' : zs.length = cap := by simpa using hz
    have hlen : (zs.take len).length = len := by rw [List.length_take]; omega
    refine ⟨some a, cap, zs.take len, by rw [hlen]; exact hv, sl_cells (kInt .u8) rfl (fun i => .int .u8 (nth 0 zs i)) (by rw [hlen]; exact hl) hm (fun i hi => ?_) (fun i hi => ?_), fun y hy => ?_, fun hw => ?_⟩
    · rw [hlen] at hi
      rw [hcell i (by omega)]
      rfl
    · rw [hlen] at hi
      show [Value.int .u8 (nth 0 zs i)] = [.int .u8 (nth 0 (zs.take len) i)]
      rw [nth_take _ _ _ _ hi]
    · have := hwf y (List.mem_of_mem_take hy)
      simp [Lit.wf, IntKind.min, IntKind.max, IntKind.signed, IntKind.bits] at this
      omega
    · rw [hlen]
      have hb : Tryz.prog.bytesOf 5 = 1 := by kernel_rfl
      have := hw ((zs.take len).length * 1 + (zs.drop len).length * 1) (by rw [hx]; simp [DataW.weights, Tryz.underlying31, hb, lits])
      have hr : reachBytes = 140737488351232 := rfl
      rw [hlen] at this
      omega
end
end Go.Proofs.YtmcdgmiheklbeaaGreatDoor

namespace Go.Proofs.YtmcdgmiheklbeaaGreatDoor
open Go.RowKit

/-- A table as text. -/
def txtK (b : Nat) : ByteArray := ⟨((tabK b).map fun k => UInt8.ofNat (k + 96)).toArray⟩
structure GT (w : World) : Prop where
  txt : ∀ b, b < 8 → w.cell? ⟨1, b, none⟩ = some (.string (txtK b))
theorem GT.below {w w' : World} (h : GT w) (hb : Below w.heap.size w w') : GT w' := ⟨fun b h8 => cell_below hb (h.txt b h8)⟩
theorem tabK_le (b k : Nat) (h8 : b < 8) (h : k < (tabK b).length) : 1 ≤ nth 0 (tabK b) k ∧ nth 0 (tabK b) k ≤ 16 := by
  rcases Nat.eq_zero_or_pos b with rfl | h1
  · exact absurd h (by simp [tabK])
  · exact tab_bound b h1 h8 (by rw [← tabK_length b h1 h8]; exact h)
theorem txtK_size (b : Nat) : (txtK b).size = (tabK b).length := by simp [txtK, ByteArray.size]
theorem txtK_at (b j : Nat) (h8 : b < 8) (h : j < (tabK b).length) : ((txtK b).data.toList.getD j 0).toNat = nth 0 (tabK b) j + 96 := by
  have h1 := tabK_le b j h8 h
  rw [nth_eq 0 _ j h] at h1 ⊢
  have e : (txtK b).data.toList = (tabK b).map fun k => UInt8.ofNat (k + 96) := by simp [txtK]
  rw [e, List.getD_eq_getElem?_getD, List.getElem?_eq_getElem (by rw [List.length_map]; exact h)]
  simp
  omega
def bytK (b : Nat) : List Int := (tabK b).map fun k => ((k + 96 : Nat) : Int)
theorem bytK_length (b : Nat) : (bytK b).length = (tabK b).length := by simp [bytK]
theorem bytK_nth (b j : Nat) (h : j < (tabK b).length) : nth 0 (bytK b) j = ((nth 0 (tabK b) j + 96 : Nat) : Int) := by
  rw [nth_eq 0 _ j (by rw [bytK_length]; exact h), nth_eq 0 _ j h]; simp [bytK]
theorem tabK_len256 (b : Nat) : (tabK b).length ≤ 256 := by
  rcases Nat.lt_or_ge b 8 with h | h
  · have : b = 0 ∨ b = 1 ∨ b = 2 ∨ b = 3 ∨ b = 4 ∨ b = 5 ∨ b = 6 ∨ b = 7 := by omega
    rcases this with rfl | rfl | rfl | rfl | rfl | rfl | rfl | rfl <;> decide +kernel
  · have e : tabK b = tabK 7 := by
      match b, h with
      | n + 8, _ => rfl
    rw [e]; decide +kernel
/-- []byte of a table. -/
theorem conv_tab (b : Nat) (h8 : b < 8) (w : World) : ∃ A c W, (convert 9 31 (.string (txtK b))).run Tryz.prog w = .ok (.slice A (tabK b).length c) W ∧ RY W A c (bytK b) ∧ Below w.heap.size w W := by
  have h := Go.Lib.run_convert_string_bytes (P := Tryz.prog) w 9 31 5 (txtK b) Tryz.underlying9 Tryz.underlying31 Tryz.underlying5
  rw [txtK_size] at h
  have hl := tabK_len256 b
  refine ⟨_, _, _, h, sl_cells (kInt .u8) rfl (fun i => .int .u8 (nth 0 (bytK b) i)) (by rw [bytK_length]; exact grownCap_ge _ _ _ _) (grownCap_le_maxLen _ _ _ _ (by simp [maxLen]; omega)) (fun i hi => ?_) (fun i hi => rfl), rfl, rfl, rfl, ?_, fun k hk => ?_⟩
  · rw [bytK_length] at hi
    have h1 := Go.Lib.bytesWorld_cell w 5 (txtK b) i (by rw [txtK_size]; exact hi)
    rw [txtK_at b i h8 hi] at h1
    rw [bytK_nth b i hi, add_plain]
    exact h1
  · rw [Go.Lib.bytesWorld_size]; omega
  · exact Go.Lib.bytesWorld_at_old w _ _ k hk

set_option maxHeartbeats 1000000 in
set_option maxRecDepth 100000 in
theorem lengths17_any (b : Nat) (w : World) (hG : GT w) (h8 : b < 8) :
    Calls Tryz.prog 60 #[.int .i64 (b : Int)] w fun e w' => ∃ v, e = .returned v ∧ OwnI 3 .i64 w.heap.size w' v (tabKI b) ∧ Below w.heap.size w w' := by
  have c0 := hG.txt b h8
  have hb8 : (b : Int) < 8 := by omega
  obtain ⟨A, c, W, hcv, hRY, hB0⟩ := conv_tab b h8 w
  have hl := tabK_len256 b
  have HB := Lib.hid (bytK_nth b)
  have HBL := Lib.hid (bytK_length b)
  have HL := Lib.hid (tabK_le b)
  have HT := Lib.hid (show ∀ k, k < (tabK b).length → (tabKI b).take (k + 1) = (tabKI b).take k ++ [((nth 0 (tabK b) k : Nat) : Int)] from fun k h => by rw [take_succ_nth 0 _ k (by unfold tabKI; rw [List.length_map]; exact h), tabKI_nth b k h])
  have HTL := Lib.hid (show (tabKI b).length = (tabK b).length by unfold tabKI; rw [List.length_map])
  have HBB := Lib.hid hB0
  have HRY := Lib.hid hRY
  clear hRY hB0
  go_enter Tryz.func60, Tryz.ntmps60
  go_wp2
  go_loopw [3, 11] (fun v i wr => ∃ k : Nat, k ≤ (tabK b).length ∧ i = .int .i64 (k : Int) ∧ Hid (OwnI 3 .i64 W.heap.size wr v ((tabKI b).take k)) ∧ Below W.heap.size W wr) (fun _ i _ => (tabK b).length - (intOf i).toNat)
  case atStart => exact ⟨0, Nat.zero_le _, rfl, Lib.hid (OwnI.nil _ _ _ _), Below.refl _ _⟩
  case round =>
    obtain ⟨k, hk, rfl, hO, hB⟩ := hrel
    by_cases hlt : k < (tabK b).length
    · obtain ⟨ad, rfl, hc⟩ := rd_int (HRY.out.below hB) k (by rw [HBL.out]; exact hlt)
      rw [HB.out k hlt] at hc
      have hki : (k : Int) < ((tabK b).length : Int) := by omega
      have HN := Lib.hid (HT.out k hlt)
      have hy := HL.out k h8 hlt
      generalize nth 0 (tabK b) k = y at hc HN hy
      have hw0 : IntKind.u8.wrap (((y + 96 : Nat) : Int) - 97) = ((y - 1 : Nat) : Int) := by
        have e : ((y + 96 : Nat) : Int) - 97 = ((y - 1 : Nat) : Int) := by omega
        rw [e]
        show ((y - 1 : Nat) : Int) % 256 = _
        omega
      obtain ⟨z, hz⟩ : ∃ z, y - 1 = z := ⟨_, rfl⟩
      obtain ⟨y2, hy2⟩ : ∃ y2, y + 96 = y2 := ⟨_, rfl⟩
      rw [hz, hy2] at hw0
      rw [hy2] at hc
      have hw1 : IntKind.i64.wrap (z : Int) = (z : Int) := IntWalk.i64_in _ (by omega)
      have ez : (z : Int) + 1 = (y : Int) := by omega
      have hw2 : IntKind.i64.wrap ((z : Int) + 1) = (y : Int) := by rw [ez]; exact IntWalk.i64_in _ (by omega)
      clear ez
      have hwk : IntKind.i64.wrap ((k : Int) + 1) = (k : Int) + 1 := IntWalk.i64_in _ (by omega)
      have hlk : ((tabKI b).take k).length ≤ 256 := by rw [List.length_take]; have := HTL.out; omega
      clear hz hy2
      go_wp2_with (at_builtin; (refine append_one (w0 := W) W.heap.size rfl (.tmp 15) (.tmp 20) 22 3 .i64 8 rfl Tryz.underlying22 infoI (by decide) _ ((tabKI b).take k) (y : Int) rfl rfl hO.out hB hB.size (by omega) ?_); intro v1 w4 hO4 hB4 _ _; have HO4 := Lib.hid hO4; clear hO4)
      go_roundw
      case rel => exact ⟨k + 1, by omega, by go_num, by rw [HN.out]; exact HO4, hB4⟩
      case measure => simp [intOf]; omega
    · obtain rfl : k = (tabK b).length := by omega
      have HT2 := Lib.hid (show (tabKI b).take (tabK b).length = tabKI b from List.take_of_length_le (by rw [HTL.out]; exact Nat.le_refl _))
      go_wp2
      go_ret
      exact ⟨_, rfl, by rw [← HT2.out]; exact hO.out.mono HBB.out.size, below2 HBB.out hB⟩
end Go.Proofs.YtmcdgmiheklbeaaGreatDoor

namespace Go.Proofs.YtmcdgmiheklbeaaGreatDoor
open Go.RowKit

/-- A book of the reference, as cells. -/
abbrev bookC (b : Nat) (A1 : Option Addr) (n1 c1 : Nat) (A2 : Option Addr) (n2 c2 : Nat) : Array Value := #[.int .i64 (dimB b), .int .i64 (mostB b), .int .i64 (fallB b), .bool (escB b), .slice A1 n1 c1, .slice A2 n2 c2]
theorem ris_any (n : Int) (w : World) : Calls Tryz.prog 116 #[.int .i64 n] w fun e w' => e = .returned (.bool (thereB n)) ∧ w = w' := by
  have h7 : decide (n < 8) = decide (n ≤ 7) := by by_cases h : n < 8 <;> simp [h] <;> omega
  by_cases h : 0 ≤ n
  · have h1 : decide (0 ≤ n) = true := decide_eq_true h
    have HB := Lib.hid (show thereB n = decide (n ≤ 7) by unfold thereB; rw [h1, h7]; rfl)
    clear h h7
    go_enter Tryz.func116, Tryz.ntmps116
    go_wp2
    go_ret
    exact ⟨ret_bool HB.out.symm, rfl⟩
  · have h1 : decide (0 ≤ n) = false := decide_eq_false h
    have HB := Lib.hid (show thereB n = false by unfold thereB; rw [h1]; rfl)
    clear h h7
    go_enter Tryz.func116, Tryz.ntmps116
    go_wp2
    go_ret
    exact ⟨ret_bool HB.out.symm, rfl⟩
theorem rabs_any (v : Int) (w : World) (hv : -1000000 ≤ v ∧ v ≤ 1000000) : Calls Tryz.prog 108 #[.int .i64 v] w fun e w' => e = .returned (.int .i64 (v.natAbs : Int)) ∧ w = w' := by
  have hw : IntKind.i64.wrap (-v) = -v := IntWalk.i64_in _ (by omega)
  go_enter Tryz.func108, Tryz.ntmps108
  go_wp2
  all_goals
    go_ret
    exact ⟨ret_int (by omega), rfl⟩
theorem rabs_same (v : Int) (w : World) (hv : -1000000 ≤ v ∧ v ≤ 1000000) : Calls Tryz.prog 108 #[.int .i64 v] w fun e w' => e = .returned (.int .i64 (v.natAbs : Int)) ∧ w' = w :=
  (rabs_any v w hv).mono fun _ _ ⟨h1, h2⟩ => ⟨h1, h2.symm⟩
set_option maxHeartbeats 1000000 in
theorem rvalues_any (A : Option Addr) (c : Nat) (l : List Int) (w : World) (hS : RI w A c l) :
    Calls Tryz.prog 69 #[.slice A l.length c] w fun e w' => e = .returned (.bool (quantB l)) ∧ w = w' := by
  have hn := hS.len
  have HQ := Lib.hid (quantB_all l)
  go_enter Tryz.func69, Tryz.ntmps69
  go_wp2
  go_loopw [7] (fun iv wr => ∃ k : Nat, k ≤ l.length ∧ iv = .int .i64 (k : Int) ∧ w = wr ∧ Hid ((l.take k).all isQ = true)) (fun iv _ => l.length - (intOf iv).toNat)
  case atStart => exact ⟨0, Nat.zero_le _, rfl, rfl, Lib.hid rfl⟩
  case round =>
    obtain ⟨k, hk, rfl, rfl, hA⟩ := hrel
    by_cases hlt : k < l.length
    · obtain ⟨ad, rfl, hc⟩ := rd_int hS k hlt
      have hki : (k : Int) < (l.length : Int) := by omega
      have HN := Lib.hid (all_take_q l isQ k hlt)
      have HNO := Lib.hid (all_no_q (p := isQ) hlt)
      generalize nth 0 l k = x at hc HN HNO
      have hwk : IntKind.i64.wrap ((k : Int) + 1) = (k : Int) + 1 := IntWalk.i64_in _ (by omega)
      by_cases h1 : x < -1023
      · have HX := Lib.hid (show isQ x = false by simp [isQ]; omega)
        go_wp2
        go_ret
        exact ⟨ret_bool (by rw [HQ.out, HNO.out HX.out]), rfl⟩
      · have d1 : decide (x < -1023) = false := decide_eq_false h1
        by_cases h2 : 1023 < x
        · have HX := Lib.hid (show isQ x = false by simp [isQ]; omega)
          have d2 : decide (1023 < x) = true := decide_eq_true h2
          clear h1 h2
          go_wp2
          go_ret
          exact ⟨ret_bool (by rw [HQ.out, HNO.out HX.out]), rfl⟩
        · have HX := Lib.hid (show isQ x = true by simp [isQ]; omega)
          have d2 : decide (1023 < x) = false := decide_eq_false h2
          clear h1 h2
          go_wp2
          go_roundw
          case rel => exact ⟨k + 1, by omega, by go_num, trivial, Lib.hid (by rw [HN.out, hA.out, HX.out]; rfl)⟩
          case measure => simp [intOf]; omega
    · obtain rfl : k = l.length := by omega
      have HT := Lib.hid (show l.all isQ = true by have := hA.out; rwa [List.take_length] at this)
      go_wp2
      go_ret
      exact ⟨ret_bool (by rw [HQ.out, HT.out]), rfl⟩

set_option maxHeartbeats 2000000 in
set_option maxRecDepth 100000 in
theorem rhas_any (A A1 A2 : Option Addr) (c n1 c1 n2 c2 b : Nat) (l : List Int) (w : World) (hS : RI w A c l) (hq : quantB l = true) :
    Calls Tryz.prog 86 #[.agg (bookC b A1 n1 c1 A2 n2 c2), .slice A l.length c] w fun e w' => e = .returned (.bool (fitB b l)) ∧ Below w.heap.size w w' := by
  have hn := hS.len
  have hd := dimB_pos b
  have hm := mostB_le b
  have HQ := Lib.hid (quantB_nth hq)
  obtain ⟨R, hR⟩ : ∃ R, l.length % dimB b = R := ⟨_, rfl⟩
  have HF := Lib.hid (show fitB b l = (l.all (inB b) && decide (R = 0)) by rw [← hR]; rfl)
  have HI := Lib.hid (show ∀ v, inB b v = (decide (v.natAbs ≤ mostB b) || escB b) from fun _ => rfl)
  have hrem : IntKind.i64.wrap ((l.length : Int).tmod (dimB b : Int)) = (R : Int) := by
    rw [Int.tmod_eq_emod_of_nonneg (by omega)]
    have h2 : l.length % dimB b < dimB b := Nat.mod_lt _ (by omega)
    rw [← Int.natCast_emod, hR]
    exact IntWalk.i64_in _ (by omega)
  have HR := Lib.hid (show (((l.length : Int) % (dimB b : Int)) == 0) = decide (R = 0) by rw [← Int.natCast_emod, hR]; exact Bool.eq_iff_iff.2 (by rw [beq_iff_eq, decide_eq_true_iff]; omega))
  have hd0 : ((dimB b : Int) == 0) = false := by simp; omega
  have hba := below_alloc (Below.refl w.heap.size w) (.cells (bookC b A1 n1 c1 A2 n2 c2) 127)
  unfold bookC at hba ⊢
  generalize hD : dimB b = D at *
  generalize hM : mostB b = M at *
  generalize hE : escB b = E at *
  generalize fallB b = F at *
  clear hq hD hM hE hR
  have HS := Lib.hid hS
  obtain ⟨g, hg⟩ : ∃ g, w.heap.size = g := ⟨_, rfl⟩
  have hB0 : Blk (w.alloc (.cells (#[.int .i64 (D : Int), .int .i64 (M : Int), .int .i64 (F : Int), .bool E, .slice A1 n1 c1, .slice A2 n2 c2]) 127)) g #[.int .i64 (D : Int), .int .i64 (M : Int), .int .i64 (F : Int), .bool E, .slice A1 n1 c1, .slice A2 n2 c2] 127 := by rw [← hg]; exact heap_alloc_new w _
  go_enter Tryz.func86, Tryz.ntmps86
  go_wp2
  go_loopw [9] (fun iv wr => ∃ k : Nat, k ≤ l.length ∧ iv = .int .i64 (k : Int) ∧ Hid (Below w.heap.size w wr) ∧ Blk wr g #[.int .i64 (D : Int), .int .i64 (M : Int), .int .i64 (F : Int), .bool E, .slice A1 n1 c1, .slice A2 n2 c2] 127 ∧ Hid ((l.take k).all (inB b) = true)) (fun iv _ => l.length - (intOf iv).toNat)
  case atStart => exact ⟨0, Nat.zero_le _, rfl, Lib.hid hba, hB0, Lib.hid rfl⟩
  case round =>
    clear hba hB0
    obtain ⟨k, hk, rfl, hB, hK, hA⟩ := hrel
    have k0 := hK.cell 0 rfl
    have k1 := hK.cell 1 rfl
    have k3 := hK.cell 3 rfl
    by_cases hlt : k < l.length
    · obtain ⟨ad, rfl, hc⟩ := rd_int (HS.out.below hB.out) k hlt
      have hki : (k : Int) < (l.length : Int) := by omega
      have HN := Lib.hid (all_take_q l (inB b) k hlt)
      have HNO := Lib.hid (all_no_q (p := inB b) hlt)
      have HX := Lib.hid (HI.out (nth 0 l k))
      have HZ := Lib.hid (HQ.out k)
      generalize nth 0 l k = x at hc HN HNO HX HZ
      have hwk : IntKind.i64.wrap ((k : Int) + 1) = (k : Int) + 1 := IntWalk.i64_in _ (by omega)
      have HC := Lib.hid (fun W => rabs_same x W (by have := HZ.out; omega))
      obtain ⟨z, hz⟩ : ∃ z, x.natAbs = z := ⟨_, rfl⟩
      rw [hz] at HC HX
      by_cases h1 : M < z
      · have h1i : (M : Int) < (z : Int) := by omega
        have HX2 := Lib.hid (show inB b x = E by rw [HX.out, decide_eq_false (by omega)]; rfl)
        clear h1
        cases E
        · go_wp2
          go_quiet ((go_at_call 108; exact Calls.quiet_of_same (HC.out _)))
          go_wp2
          go_ret
          exact ⟨ret_bool (by rw [HF.out, HNO.out HX2.out]; rfl), below_drewN hB.out _⟩
        · go_wp2
          go_quiet ((go_at_call 108; exact Calls.quiet_of_same (HC.out _)))
          go_wp2
          go_roundw
          case rel => exact ⟨k + 1, by omega, by go_num, Lib.hid (below_drewN hB.out _), hK, Lib.hid (by rw [HN.out, hA.out, HX2.out]; rfl)⟩
          case measure => simp [intOf]; omega
      · have h1i : ¬ (M : Int) < (z : Int) := by omega
        have d1 : decide (M < z) = false := decide_eq_false h1
        have HX2 := Lib.hid (show inB b x = true by rw [HX.out, decide_eq_true (by omega)]; rfl)
        clear h1
        go_wp2
        go_quiet ((go_at_call 108; exact Calls.quiet_of_same (HC.out _)))
        go_wp2
        go_roundw
        case rel => exact ⟨k + 1, by omega, by go_num, Lib.hid (below_drewN hB.out _), hK, Lib.hid (by rw [HN.out, hA.out, HX2.out]; rfl)⟩
        case measure => simp [intOf]; omega
    · obtain rfl : k = l.length := by omega
      have HT := Lib.hid (show l.all (inB b) = true by have := hA.out; rwa [List.take_length] at this)
      go_wp2
      go_ret
      exact ⟨ret_bool (by rw [HF.out, HT.out, HR.out]; rfl), hB.out⟩
end Go.Proofs.YtmcdgmiheklbeaaGreatDoor

namespace Go.Proofs.YtmcdgmiheklbeaaGreatDoor
open Go.RowKit

theorem pow_bd {m k : Nat} (hm : m ≤ 31) (hk : k ≤ 4) : (m + 1) ^ k ≤ 1048576 := by
  have h2 : (m + 1) ^ k ≤ 32 ^ k := Nat.pow_le_pow_left (by omega) _
  have h3 : 32 ^ k ≤ 32 ^ 4 := Nat.pow_le_pow_right (by decide) hk
  have h4 : 32 ^ 4 = 1048576 := by decide
  omega
set_option maxHeartbeats 1000000 in
theorem rsymbols_any (A1 A2 : Option Addr) (n1 c1 n2 c2 b : Nat) (w : World) :
    Calls Tryz.prog 98 #[.agg (bookC b A1 n1 c1 A2 n2 c2)] w fun e w' => e = .returned (.int .i64 (symsB b : Nat)) ∧ Below w.heap.size w w' := by
  have hd := dimB_pos b
  have hm := mostB_le b
  have HX := Lib.hid (show symsB b = (mostB b + 1) ^ dimB b from rfl)
  have hba := below_alloc (Below.refl w.heap.size w) (.cells (bookC b A1 n1 c1 A2 n2 c2) 127)
  unfold bookC at hba ⊢
  generalize hD : dimB b = D at *
  generalize hM : mostB b = M at *
  generalize escB b = E at *
  generalize fallB b = F at *
  obtain ⟨g, hg⟩ : ∃ g, w.heap.size = g := ⟨_, rfl⟩
  have hB0 : Blk (w.alloc (.cells (#[.int .i64 (D : Int), .int .i64 (M : Int), .int .i64 (F : Int), .bool E, .slice A1 n1 c1, .slice A2 n2 c2]) 127)) g #[.int .i64 (D : Int), .int .i64 (M : Int), .int .i64 (F : Int), .bool E, .slice A1 n1 c1, .slice A2 n2 c2] 127 := by rw [← hg]; exact heap_alloc_new w _
  have k0 := hB0.cell 0 rfl
  clear hD hM
  go_enter Tryz.func98, Tryz.ntmps98
  go_wp2
  go_loopw [3, 6] (fun sv iv wr => ∃ k : Nat, k ≤ D ∧ iv = .int .i64 (k : Int) ∧ sv = .int .i64 (((M + 1) ^ k : Nat) : Int) ∧ Hid (Below w.heap.size w wr) ∧ Blk wr g #[.int .i64 (D : Int), .int .i64 (M : Int), .int .i64 (F : Int), .bool E, .slice A1 n1 c1, .slice A2 n2 c2] 127) (fun _ iv _ => D - (intOf iv).toNat)
  case atStart => exact ⟨0, Nat.zero_le _, rfl, rfl, Lib.hid hba, hB0⟩
  case round =>
    clear hba hB0 k0
    obtain ⟨k, hk, rfl, rfl, hB, hK⟩ := hrel
    have k1 := hK.cell 1 rfl
    by_cases hlt : k < D
    · have hki : (k : Int) < (D : Int) := by omega
      have HN := Lib.hid (Nat.pow_succ (m := k) (n := M + 1))
      have hb2 := pow_bd (k := k + 1) hm (by omega)
      rw [Nat.pow_succ] at hb2
      generalize (M + 1) ^ k = s at HN hb2
      have hwk : IntKind.i64.wrap ((k : Int) + 1) = (k : Int) + 1 := IntWalk.i64_in _ (by omega)
      have hw1 : IntKind.i64.wrap ((M : Int) + 1) = (M : Int) + 1 := IntWalk.i64_in _ (by omega)
      obtain ⟨q, hq⟩ : ∃ q, s * (M + 1) = q := ⟨_, rfl⟩
      have hqi : (s : Int) * ((M : Int) + 1) = (q : Int) := by rw [← hq]; simp
      rw [hq] at hb2
      have hw2 : IntKind.i64.wrap ((s : Int) * ((M : Int) + 1)) = (q : Int) := by rw [hqi]; exact IntWalk.i64_in _ (by omega)
      have HQ := Lib.hid hq
      clear hq hqi
      go_wp2
      go_roundw
      case rel => exact ⟨k + 1, by omega, by go_num, by rw [HN.out, HQ.out], hB, hK⟩
      case measure => simp [intOf]; omega
    · obtain rfl : k = D := by omega
      go_wp2
      go_ret
      exact ⟨ret_int (by rw [HX.out]), hB.out⟩

theorem cntE_le {F : Nat} (hF : F ≤ 14) : ∀ e, 1 ≤ cntE F e ∧ cntE F e ≤ 1048576
  | 0 => ⟨by show 1 ≤ 1048576; decide, Nat.le_refl _⟩
  | e + 1 => by
    have ih := cntE_le hF e
    have h1 : cntE F e * F ≤ 1048576 * 14 := Nat.mul_le_mul ih.2 hF
    show 1 ≤ max 1 (cntE F e * F / 16) ∧ max 1 (cntE F e * F / 16) ≤ 1048576
    omega
theorem fallB_le (b : Nat) : fallB b ≤ 14 := by unfold fallB; split <;> omega
set_option maxHeartbeats 1000000 in
theorem rcount_any (A1 A2 : Option Addr) (n1 c1 n2 c2 b x : Nat) (w : World) (hx : x ≤ 1000) :
    Calls Tryz.prog 99 #[.agg (bookC b A1 n1 c1 A2 n2 c2), .int .i64 (x : Int)] w fun e w' => e = .returned (.int .i64 (cntE (fallB b) x : Nat)) ∧ Below w.heap.size w w' := by
  have hf := fallB_le b
  have HC := Lib.hid (cntE_le hf)
  have HS := Lib.hid (show ∀ e, cntE (fallB b) (e + 1) = max 1 (cntE (fallB b) e * fallB b / 16) from fun _ => rfl)
  have hba := below_alloc (Below.refl w.heap.size w) (.cells (bookC b A1 n1 c1 A2 n2 c2) 127)
  unfold bookC at hba ⊢
  generalize dimB b = D at *
  generalize mostB b = M at *
  generalize escB b = E at *
  generalize fallB b = F at *
  obtain ⟨g, hg⟩ : ∃ g, w.heap.size = g := ⟨_, rfl⟩
  have hB0 : Blk (w.alloc (.cells (#[.int .i64 (D : Int), .int .i64 (M : Int), .int .i64 (F : Int), .bool E, .slice A1 n1 c1, .slice A2 n2 c2]) 127)) g #[.int .i64 (D : Int), .int .i64 (M : Int), .int .i64 (F : Int), .bool E, .slice A1 n1 c1, .slice A2 n2 c2] 127 := by rw [← hg]; exact heap_alloc_new w _
  go_enter Tryz.func99, Tryz.ntmps99
  go_wp2
  go_loopw [5, 7] (fun sv iv wr => ∃ k : Nat, k ≤ x ∧ iv = .int .i64 (k : Int) ∧ sv = .int .i64 ((cntE F k : Nat) : Int) ∧ Hid (Below w.heap.size w wr) ∧ Blk wr g #[.int .i64 (D : Int), .int .i64 (M : Int), .int .i64 (F : Int), .bool E, .slice A1 n1 c1, .slice A2 n2 c2] 127) (fun _ iv _ => x - (intOf iv).toNat)
  case atStart => exact ⟨0, Nat.zero_le _, rfl, rfl, Lib.hid hba, hB0⟩
  case round =>
    clear hba hB0
    obtain ⟨k, hk, rfl, rfl, hB, hK⟩ := hrel
    have k2 := hK.cell 2 rfl
    by_cases hlt : k < x
    · have hki : (k : Int) < (x : Int) := by omega
      have HN := Lib.hid (HS.out k)
      have hb2 := (HC.out k).2
      generalize cntE F k = s at HN hb2
      have hwk : IntKind.i64.wrap ((k : Int) + 1) = (k : Int) + 1 := IntWalk.i64_in _ (by omega)
      obtain ⟨q, hq⟩ : ∃ q, s * F = q := ⟨_, rfl⟩
      have hqi : (s : Int) * (F : Int) = (q : Int) := by rw [← hq]; simp
      have hqb : q ≤ 1048576 * 14 := by rw [← hq]; exact Nat.mul_le_mul hb2 hf
      have hw2 : IntKind.i64.wrap ((s : Int) * (F : Int)) = (q : Int) := by rw [hqi]; exact IntWalk.i64_in _ (by omega)
      obtain ⟨r, hr⟩ : ∃ r, q / 16 = r := ⟨_, rfl⟩
      have hq2 : (q : Int).tdiv 16 = (r : Int) := by rw [Int.tdiv_eq_ediv_of_nonneg (by omega)]; omega
      have hw3 : IntKind.i64.wrap (r : Int) = (r : Int) := IntWalk.i64_in _ (by omega)
      have HQ := Lib.hid (show max 1 (s * F / 16) = max 1 r by rw [hq, hr])
      clear hq hqi hr
      go_wp2
      all_goals
        go_roundw
        case rel => exact ⟨k + 1, by omega, by go_num, by rw [HN.out, HQ.out]; simp; omega, hB, hK⟩
        case measure => simp [intOf]; omega
    · obtain rfl : k = x := by omega
      go_wp2
      go_ret
      exact ⟨ret_int rfl, hB.out⟩
end Go.Proofs.YtmcdgmiheklbeaaGreatDoor

namespace Go.Proofs.YtmcdgmiheklbeaaGreatDoor
open Go.RowKit

theorem sumE_le (m : Nat) : ∀ k s, sumE m k s ≤ k * m
  | 0, _ => Nat.zero_le _
  | k + 1, s => by
    have h := sumE_le m k (s / (m + 1))
    have h1 : s % (m + 1) ≤ m := by have := Nat.mod_lt s (show 0 < m + 1 by omega); omega
    show s % (m + 1) + sumE m k (s / (m + 1)) ≤ (k + 1) * m
    rw [Nat.add_mul, Nat.one_mul]; omega
set_option maxHeartbeats 1000000 in
theorem rsum_any (A1 A2 : Option Addr) (n1 c1 n2 c2 b s : Nat) (w : World) (hs : s ≤ 1048576) :
    Calls Tryz.prog 100 #[.agg (bookC b A1 n1 c1 A2 n2 c2), .int .i64 (s : Int)] w fun e w' => e = .returned (.int .i64 (sumE (mostB b) (dimB b) s : Nat)) ∧ Below w.heap.size w w' := by
  have hd := dimB_pos b
  have hm := mostB_le b
  have hba := below_alloc (Below.refl w.heap.size w) (.cells (bookC b A1 n1 c1 A2 n2 c2) 127)
  unfold bookC at hba ⊢
  generalize dimB b = D at *
  generalize mostB b = M at *
  generalize escB b = E at *
  generalize fallB b = F at *
  have HL := Lib.hid (show sumE M D s ≤ 4 * 31 from Nat.le_trans (sumE_le M D s) (Nat.mul_le_mul hd.2 hm))
  have HS := Lib.hid (show ∀ k s, sumE M (k + 1) s = s % (M + 1) + sumE M k (s / (M + 1)) from fun _ _ => rfl)
  have HZ := Lib.hid (show ∀ s, sumE M 0 s = 0 from fun _ => rfl)
  obtain ⟨g, hg⟩ : ∃ g, w.heap.size = g := ⟨_, rfl⟩
  have hB0 : Blk (w.alloc (.cells (#[.int .i64 (D : Int), .int .i64 (M : Int), .int .i64 (F : Int), .bool E, .slice A1 n1 c1, .slice A2 n2 c2]) 127)) g #[.int .i64 (D : Int), .int .i64 (M : Int), .int .i64 (F : Int), .bool E, .slice A1 n1 c1, .slice A2 n2 c2] 127 := by rw [← hg]; exact heap_alloc_new w _
  have k0 := hB0.cell 0 rfl
  go_enter Tryz.func100, Tryz.ntmps100
  go_wp2
  go_loopw [1, 5, 8] (fun xv ev iv wr => ∃ k x e : Nat, k ≤ D ∧ x ≤ 1048576 ∧ iv = .int .i64 (k : Int) ∧ xv = .int .i64 (x : Int) ∧ ev = .int .i64 (e : Int) ∧ Hid (e + sumE M (D - k) x = sumE M D s) ∧ Hid (Below w.heap.size w wr) ∧ Blk wr g #[.int .i64 (D : Int), .int .i64 (M : Int), .int .i64 (F : Int), .bool E, .slice A1 n1 c1, .slice A2 n2 c2] 127) (fun _ _ iv _ => D - (intOf iv).toNat)
  case atStart => exact ⟨0, s, 0, Nat.zero_le _, hs, rfl, rfl, rfl, Lib.hid (by simp), Lib.hid hba, hB0⟩
  case round =>
    clear hba hB0 k0
    obtain ⟨k, x, e, hk, hx, rfl, rfl, rfl, hE, hB, hK⟩ := hrel
    have k1 := hK.cell 1 rfl
    by_cases hlt : k < D
    · have hki : (k : Int) < (D : Int) := by omega
      have HN := Lib.hid (HS.out (D - (k + 1)) x)
      have he : e + x % (M + 1) ≤ 200 := by
        have h1 := hE.out
        have h2 := HL.out
        have h3 := HN.out
        rw [show D - (k + 1) + 1 = D - k by omega] at h3
        omega
      have hwk : IntKind.i64.wrap ((k : Int) + 1) = (k : Int) + 1 := IntWalk.i64_in _ (by omega)
      obtain ⟨P, hP⟩ : ∃ P, M + 1 = P := ⟨_, rfl⟩
      have hw1 : IntKind.i64.wrap ((M : Int) + 1) = (P : Int) := by rw [← hP, Int.natCast_succ]; exact IntWalk.i64_in _ (by omega)
      have hPn : ¬ P = 0 := by omega
      rw [hP] at HN he
      obtain ⟨r, hr⟩ : ∃ r, x % P = r := ⟨_, rfl⟩
      obtain ⟨q, hq⟩ : ∃ q, x / P = q := ⟨_, rfl⟩
      have hqx : q ≤ x := by rw [← hq]; exact Nat.div_le_self _ _
      have hrr : IntKind.i64.wrap ((x : Int).tmod (P : Int)) = (r : Int) := by
        rw [Int.tmod_eq_emod_of_nonneg (by omega), ← Int.natCast_emod, hr]; exact IntWalk.i64_in _ (by omega)
      have hqq : IntKind.i64.wrap ((x : Int).tdiv (P : Int)) = (q : Int) := by
        rw [Int.tdiv_eq_ediv_of_nonneg (by omega), ← Int.natCast_ediv, hq]; exact IntWalk.i64_in _ (by omega)
      have hmm : ((x : Int) % (P : Int)) = (r : Int) := by rw [← Int.natCast_emod, hr]
      have hqd : ((x : Int).tdiv (P : Int)) = (q : Int) := by rw [Int.tdiv_eq_ediv_of_nonneg (by omega), ← Int.natCast_ediv, hq]
      have hwq : IntKind.i64.wrap (q : Int) = (q : Int) := IntWalk.i64_in _ (by omega)
      rw [hr] at he
      have hw3 : IntKind.i64.wrap ((e : Int) + (r : Int)) = (e : Int) + (r : Int) := IntWalk.i64_in _ (by omega)
      have HQ := Lib.hid (show x % P = r ∧ x / P = q from ⟨hr, hq⟩)
      clear hr hq hP
      go_wp2
      go_roundw
      case rel =>
        refine ⟨k + 1, q, e + r, by omega, by omega, by go_num, rfl, by go_num, Lib.hid ?_, hB, hK⟩
        have h3 := HN.out
        rw [show D - (k + 1) + 1 = D - k by omega, HQ.out.1, HQ.out.2] at h3
        have := hE.out
        omega
      case measure => simp [intOf]; omega
    · obtain rfl : k = D := by omega
      have hE2 := Lib.hid (show sumE M k s = e by have h1 := hE.out; have h2 := HZ.out x; rw [Nat.sub_self, h2] at h1; omega)
      go_wp2
      go_ret
      exact ⟨ret_int (by rw [hE2.out]), hB.out⟩

theorem symG_take (b : Nat) (l : List Int) (k : Nat) (h : k < l.length) : symG b (l.take (k + 1)) = symG b (l.take k) * (mostB b + 1) + min (nth 0 l k).natAbs (mostB b) := by
  rw [take_succ_nth 0 l k h, symG_snoc]; rfl
theorem symG_bd (b : Nat) (l : List Int) (hl : l.length ≤ 4) (k : Nat) : symG b (l.take k) ≤ 1048576 := by
  have h1 := symG_lt b (l.take k)
  have h2 := pow_bd (m := mostB b) (k := (l.take k).length) (mostB_le b) (by rw [List.length_take]; omega)
  omega
set_option maxHeartbeats 2000000 in
theorem rsymbol_any (A A1 A2 : Option Addr) (c n1 c1 n2 c2 b : Nat) (l : List Int) (w : World) (hS : RI w A c l) (hq : ∀ v ∈ l, -1023 ≤ v ∧ v ≤ 1023) (hl : l.length ≤ 4) :
    Calls Tryz.prog 107 #[.agg (bookC b A1 n1 c1 A2 n2 c2), .slice A l.length c] w fun e w' => e = .returned (.int .i64 (symG b l : Nat)) ∧ Below w.heap.size w w' := by
  have hn := hS.len
  have hm := mostB_le b
  have HB := Lib.hid (symG_bd b l hl)
  have HT := Lib.hid (symG_take b l)
  have HX := Lib.hid (fun k => nth_bound hq (by omega) k)
  have hba := below_alloc (Below.refl w.heap.size w) (.cells (bookC b A1 n1 c1 A2 n2 c2) 127)
  unfold bookC at hba ⊢
  generalize dimB b = D at *
  generalize hM : mostB b = M at *
  generalize escB b = E at *
  generalize fallB b = F at *
  have HS := Lib.hid hS
  obtain ⟨g, hg⟩ : ∃ g, w.heap.size = g := ⟨_, rfl⟩
  have hB0 : Blk (w.alloc (.cells (#[.int .i64 (D : Int), .int .i64 (M : Int), .int .i64 (F : Int), .bool E, .slice A1 n1 c1, .slice A2 n2 c2]) 127)) g #[.int .i64 (D : Int), .int .i64 (M : Int), .int .i64 (F : Int), .bool E, .slice A1 n1 c1, .slice A2 n2 c2] 127 := by rw [← hg]; exact heap_alloc_new w _
  clear hM hq
  go_enter Tryz.func107, Tryz.ntmps107
  go_wp2
  go_loopw [5, 10] (fun sv iv wr => ∃ k : Nat, k ≤ l.length ∧ iv = .int .i64 (k : Int) ∧ sv = .int .i64 (symG b (l.take k) : Nat) ∧ Hid (Below w.heap.size w wr) ∧ Blk wr g #[.int .i64 (D : Int), .int .i64 (M : Int), .int .i64 (F : Int), .bool E, .slice A1 n1 c1, .slice A2 n2 c2] 127) (fun _ iv _ => l.length - (intOf iv).toNat)
  case atStart => exact ⟨0, Nat.zero_le _, rfl, rfl, Lib.hid hba, hB0⟩
  case round =>
    clear hba hB0
    obtain ⟨k, hk, rfl, rfl, hB, hK⟩ := hrel
    have k1 := hK.cell 1 rfl
    by_cases hlt : k < l.length
    · obtain ⟨ad, rfl, hc⟩ := rd_int (HS.out.below hB.out) k hlt
      have hki : (k : Int) < (l.length : Int) := by omega
      have HN := Lib.hid (HT.out k hlt)
      have hx := HX.out k
      have hb1 := HB.out k
      generalize nth 0 l k = x at hc HN hx
      generalize symG b (l.take k) = s at HN hb1
      have HZ := Lib.hid (fun W => rabs_same x W (by omega))
      have hzb : x.natAbs ≤ 1023 := by omega
      generalize x.natAbs = z at HZ HN hzb
      have hwk : IntKind.i64.wrap ((k : Int) + 1) = (k : Int) + 1 := IntWalk.i64_in _ (by omega)
      have hw1 : IntKind.i64.wrap ((M : Int) + 1) = (M : Int) + 1 := IntWalk.i64_in _ (by omega)
      obtain ⟨q, hq⟩ : ∃ q, s * (M + 1) = q := ⟨_, rfl⟩
      have hqi : (s : Int) * ((M : Int) + 1) = (q : Int) := by rw [← hq]; simp
      have hqb : q ≤ 1048576 * 32 := by rw [← hq]; exact Nat.mul_le_mul hb1 (by omega)
      have hw2 : IntKind.i64.wrap ((s : Int) * ((M : Int) + 1)) = (q : Int) := by rw [hqi]; exact IntWalk.i64_in _ (by omega)
      have HQ := Lib.hid hq
      clear hq hqi hx
      by_cases hzm : z ≤ M
      · have hw3 : IntKind.i64.wrap ((q : Int) + (z : Int)) = (q : Int) + (z : Int) := IntWalk.i64_in _ (by omega)
        have hmin : (if (z : Int) ≤ (M : Int) then (z : Int) else (M : Int)) = (z : Int) := if_pos (by omega)
        go_wp2
        go_quiet ((go_at_call 108; exact Calls.quiet_of_same (HZ.out _)))
        go_wp2
        go_roundw
        case rel => exact ⟨k + 1, by omega, by go_num, by rw [HN.out, HQ.out, Nat.min_eq_left hzm]; simp, Lib.hid (below_drewN hB.out _), hK⟩
        case measure => simp [intOf]; omega
      · have hw3 : IntKind.i64.wrap ((q : Int) + (M : Int)) = (q : Int) + (M : Int) := IntWalk.i64_in _ (by omega)
        have hmin : (if (z : Int) ≤ (M : Int) then (z : Int) else (M : Int)) = (M : Int) := if_neg (by omega)
        go_wp2
        go_quiet ((go_at_call 108; exact Calls.quiet_of_same (HZ.out _)))
        go_wp2
        go_roundw
        case rel => exact ⟨k + 1, by omega, by go_num, by rw [HN.out, HQ.out, Nat.min_eq_right (by omega)]; simp, Lib.hid (below_drewN hB.out _), hK⟩
        case measure => simp [intOf]; omega
    · obtain rfl : k = l.length := by omega
      go_wp2
      go_ret
      exact ⟨ret_int (by rw [List.take_length]), hB.out⟩
end Go.Proofs.YtmcdgmiheklbeaaGreatDoor

namespace Go.Proofs.YtmcdgmiheklbeaaGreatDoor
open Go.RowKit

end Go.Proofs.YtmcdgmiheklbeaaGreatDoor

namespace Go.Proofs.YtmcdgmiheklbeaaGreatDoor
open Go.RowKit

theorem sameL_refl (xs : List Int) : sameL xs xs = true := by simp [sameL]
/-- A row of the call's own, as it is read. -/
theorem own_ri {e : TypeId} {ik : IntKind} {base : Nat} {w : World} {v : Value} {xs : List Int} (h : OwnI e ik base w v xs) : ∃ A c, v = .slice A xs.length c ∧ Sl (kInt ik) AnyB w A c xs := by
  obtain ⟨A, c, e, hs⟩ := h.rd
  exact ⟨A, c, e, hs.any⟩

theorem lit_ri (W : World) (e : TypeId) (k : IntKind) (xs : List Int) (hm : xs.length ≤ 9223372036854775807) :
    Sl (kInt k) AnyB (W.alloc (.cells (nums k xs).toArray e)) (some ⟨W.heap.size, 0, none⟩) xs.length xs := by
  obtain ⟨A, c, e1, h⟩ := own_ri (own_lit W e k xs hm)
  injection e1 with e1 e2 e3
  subst e1 e3
  exact h
/-- A literal's block is new. -/
theorem lit_be (W : World) (e : TypeId) (k : IntKind) (xs : List Int) : Below W.heap.size W (W.alloc (.cells (nums k xs).toArray e)) := below_alloc (Below.refl _ _) _
end Go.Proofs.YtmcdgmiheklbeaaGreatDoor

namespace Go.Proofs.YtmcdgmiheklbeaaGreatDoor
open Go.RowKit

/-- The lengths of the words of all steps. -/
def tabS : List Nat := [15, 15, 15, 15, 15, 15, 14, 14, 14, 14, 14, 14, 14, 14, 14, 14, 14, 14, 14, 14, 14, 14, 14, 14, 14, 14, 14, 14, 14, 14, 14, 14, 14, 14, 13, 13, 13, 13, 13, 13, 13, 13, 13, 13, 13, 13, 13, 13, 13, 13, 13, 13, 12, 12, 12, 12, 12, 12, 12, 12, 12, 12, 12, 12, 12, 11, 11, 11, 11, 11, 11, 11, 11, 11, 10, 10, 10, 10, 10, 10, 9, 9, 9, 9, 9, 8, 8, 8, 7, 7, 7, 6, 6, 5, 3, 1, 3, 5, 6, 6, 7, 7, 7, 8, 8, 8, 9, 9, 9, 9, 9, 10, 10, 10, 10, 10, 10, 11, 11, 11, 11, 11, 11, 11, 11, 11, 12, 12, 12, 12, 12, 12, 12, 12, 12, 12, 12, 12, 12, 13, 13, 13, 13, 13, 13, 13, 13, 13, 13, 13, 13, 13, 13, 13, 13, 13, 13, 13, 13, 14, 14, 14, 14, 14, 14, 14, 14, 14, 14, 14, 14, 14, 14, 14, 14, 14, 14, 14, 14, 14, 14, 14, 14, 14, 14, 15, 15, 15, 15, 15, 15]
/-- The length of a step's word. -/
def stepL (d : Int) : Nat := nth 0 tabS (d + 95).toNat

end Go.Proofs.YtmcdgmiheklbeaaGreatDoor

namespace Go.Proofs.YtmcdgmiheklbeaaGreatDoor
open Go.RowKit

end Go.Proofs.YtmcdgmiheklbeaaGreatDoor

namespace Go.Proofs.YtmcdgmiheklbeaaGreatDoor
open Go.RowKit
attribute [local go_sem] Oper.semAt_some

end Go.Proofs.YtmcdgmiheklbeaaGreatDoor

namespace Go.Proofs.YtmcdgmiheklbeaaGreatDoor
open Go.RowKit
attribute [local go_sem] Oper.semAt_some

/-- What bands cost. -/
def stepC (ss : List Int) (x : Nat × Int) : Nat := if x.2 < 0 then 7 else stepL (nth 0 ss x.1 - nth 0 ss x.2.toNat)
def costP (ss : List Int) (pre : List (Nat × Int)) : Nat := (pre.map (stepC ss)).sum
theorem costP_snoc (ss : List Int) (pre : List (Nat × Int)) (x : Nat × Int) : costP ss (pre ++ [x]) = costP ss pre + stepC ss x := by simp [costP]
structure CoI (w : World) (ss : List Int) (A : Option Addr) (c n g1 g7 : Nat) (pre : List (Nat × Int)) (W : World) : Prop where
  box : Blk W g1 #[.slice A n c] 22
  cnt : Blk W g7 #[.int .i64 (costP ss pre : Int)] 3
  low : Below w.heap.size w W

theorem keepsU {B : Nat} {W W' : World} {o : Nat → Prop} (hu : Upd o W W') (hg : ∀ b, b < W.heap.size → o b → b < B) : KeepsFrom B W W' :=
  ⟨hu.size, fun k x hB hx _ => (hu.blk k (Array.getElem?_eq_some_iff.1 hx).1 (fun e => by have := hg k (Array.getElem?_eq_some_iff.1 hx).1 e; omega)).trans hx⟩
theorem CoI.below {w W W' : World} {ss : List Int} {A : Option Addr} {c n g1 g7 : Nat} {pre : List (Nat × Int)} (h : CoI w ss A c n g1 g7 pre W) (hb : Below W.heap.size W W') : CoI w ss A c n g1 g7 pre W' :=
  ⟨h.box.below hb, h.cnt.below hb, below2 h.low hb⟩
theorem CoI.round {w W W' : World} {ss : List Int} {A : Option Addr} {c n g1 g7 : Nat} {pre : List (Nat × Int)} {x : Nat × Int} {V : Int} (h : CoI w ss A c n g1 g7 pre W) (h17 : g1 < g7) (hw : w.heap.size ≤ g7)
    (e : W' = W.setCell ⟨g7, 0, none⟩ (.int .i64 V)) (hV : V = (costP ss pre : Int) + (stepC ss x : Int)) : CoI w ss A c n g1 g7 (pre ++ [x]) W' ∧ Upd (fun b => b = g7) W W' := by
  subst e
  have hu : Upd (fun b => b = g7) W (W.setCell ⟨g7, 0, none⟩ (.int .i64 V)) := Upd.setCell (fun b => b = g7) _ g7 0 _ rfl
  refine ⟨⟨h.box.keep (hu.keep (ok := fun b => b ≠ g7) fun b h => h) (by omega), ?_, h.low.grown (grown_setCell W g7 0 _) h.low.size (fun r e => by cases e; exact hw)⟩, hu⟩
  have := h.cnt.set 0 (.int .i64 V)
  rw [hV] at this
  rw [costP_snoc]
  rw [hV]
  have e2 : (((costP ss pre + stepC ss x : Nat)) : Int) = (costP ss pre : Int) + (stepC ss x : Int) := by omega
  rw [e2]
  exact this

end Go.Proofs.YtmcdgmiheklbeaaGreatDoor

namespace Go.Proofs.YtmcdgmiheklbeaaGreatDoor
open Go.RowKit

/-! ### The order -/
theorem insF_at {α : Type} (f : α → Int) (x : α) : ∀ (l : List α) (p : Nat), (∀ y ∈ l.take p, f y ≤ f x) → (∀ y ∈ l.drop p, f x < f y) → insF f x l = l.take p ++ x :: l.drop p
  | [], p, _, _ => by simp [insF]
  | y :: l, 0, _, h => by
    have := h y (by simp)
    unfold insF
    rw [if_pos this]; rfl
  | y :: l, p + 1, h1, h2 => by
    have h3 := h1 y (by simp)
    unfold insF
    rw [if_neg (by omega), insF_at f x l p (fun z hz => h1 z (by simp [hz])) (fun z hz => h2 z (by simpa using hz))]
    rfl
def sortK (cs : List Int) (k : Nat) : List It := isortF (fun z : It => z.1) (coinsK cs k)
theorem sortK_mem {cs : List Int} {k : Nat} {z : It} (h : z ∈ sortK cs k) : z = (nth 0 cs (sym z), [sym z]) ∧ sym z < k ∧ 0 < nth 0 cs (sym z) := coin_sym ((isortF_mem _ _).1 h)
theorem sortK_length (cs : List Int) (k : Nat) : (sortK cs k).length = (coinsK cs k).length := (isortF_perm _ _).length_eq
/-- The symbols of the first counts, in the order of their counts. -/
def ordI (cs : List Int) (k : Nat) : List Int := (sortK cs k).map fun z => ((sym z : Nat) : Int)
theorem ordI_length (cs : List Int) (k : Nat) : (ordI cs k).length = (coinsK cs k).length := by simp [ordI, sortK_length]
theorem ordI_nth {cs : List Int} {k j : Nat} (h : j < (coinsK cs k).length) : ∃ s : Nat, nth 0 (ordI cs k) j = (s : Int) ∧ s < k ∧ 0 < nth 0 cs s ∧ nth (0, []) (sortK cs k) j = (nth 0 cs s, [s]) := by
  have hl : j < (sortK cs k).length := by rw [sortK_length]; exact h
  have hm := sortK_mem (nth_mem (0, []) _ j hl)
  refine ⟨sym (nth (0, []) (sortK cs k) j), ?_, hm.2.1, hm.2.2, hm.1⟩
  rw [nth_eq 0 _ j (by rw [ordI_length]; exact h)]
  simp [ordI, nth_eq _ _ j hl]
theorem ordI_miss {cs : List Int} {k : Nat} (h : ¬ 0 < nth 0 cs k) : ordI cs (k + 1) = ordI cs k := by
  unfold ordI sortK
  rw [show coinsK cs (k + 1) = coinsK cs k by show (if 0 < nth 0 cs k then _ else _) = _; rw [if_neg h]]
theorem ordI_hit {cs : List Int} {k p : Nat} (h : 0 < nth 0 cs k) (hp : p ≤ (coinsK cs k).length) (h1 : p = 0 ∨ ∃ s : Nat, nth 0 (ordI cs k) (p - 1) = (s : Int) ∧ nth 0 cs s ≤ nth 0 cs k)
    (h2 : ∀ j, p ≤ j → j < (coinsK cs k).length → nth 0 cs k < nth 0 cs (nth 0 (ordI cs k) j).toNat) : ordI cs (k + 1) = (ordI cs k).take p ++ (k : Int) :: (ordI cs k).drop p := by
  have hl := sortK_length cs k
  have hs : SortedF (fun z : It => z.1) (sortK cs k) := (isortF_ok _).1
  have e : sortK cs (k + 1) = (sortK cs k).take p ++ (nth 0 cs k, [k]) :: (sortK cs k).drop p := by
    have e0 : sortK cs (k + 1) = insF (fun z : It => z.1) (nth 0 cs k, [k]) (sortK cs k) := by
      unfold sortK
      rw [show coinsK cs (k + 1) = coinsK cs k ++ [(nth 0 cs k, [k])] by show (if 0 < nth 0 cs k then _ else _) = _; rw [if_pos h]]
      exact isortF_snoc _ _
    rw [e0]
    refine insF_at _ _ _ _ (fun y hy => ?_) (fun y hy => ?_)
    · obtain ⟨i, hi, rfl⟩ := List.mem_iff_getElem.1 hy
      rw [List.length_take] at hi
      rcases h1 with h1 | ⟨s, h1, h3⟩
      · omega
      · obtain ⟨t, e1, _, _, e4⟩ := ordI_nth (cs := cs) (k := k) (j := p - 1) (by omega)
        have hst : s = t := by rw [h1] at e1; omega
        subst hst
        rw [List.getElem_take]
        show ((sortK cs k)[i]).1 ≤ nth 0 cs k
        refine Int.le_trans ?_ h3
        have e5 : (nth (0, []) (sortK cs k) (p - 1)).1 = nth 0 cs s := by rw [e4]
        rw [← e5, nth_eq _ _ (p - 1) (by omega)]
        rcases Nat.lt_or_ge i (p - 1) with h6 | h6
        · exact List.pairwise_iff_getElem.1 hs i (p - 1) (by omega) (by omega) h6
        · have : i = p - 1 := by omega
          subst this
          exact Int.le_refl _
    · obtain ⟨i, hi, rfl⟩ := List.mem_iff_getElem.1 hy
      rw [List.length_drop] at hi
      rw [List.getElem_drop]
      show nth 0 cs k < ((sortK cs k)[p + i]).1
      have h3 := h2 (p + i) (by omega) (by omega)
      obtain ⟨t, e1, _, _, e4⟩ := ordI_nth (cs := cs) (k := k) (j := p + i) (by omega)
      rw [e1, Int.toNat_natCast] at h3
      have e5 : (nth (0, []) (sortK cs k) (p + i)).1 = nth 0 cs t := by rw [e4]
      rw [nth_eq _ _ (p + i) (by omega)] at e5
      rw [e5]; exact h3
  unfold ordI
  rw [e, List.map_append, List.map_cons, List.map_take, List.map_drop]
  rfl
theorem ordI_all (cs : List Int) : ordI cs cs.length = (sortedC cs).map fun z => ((sym z : Nat) : Int) := rfl
/-- The coins, tagged. -/
def tagC (cs : List Int) : List (Int × Int) := (sortedC cs).map tag
theorem tag_coin {cs : List Int} {z : It} (h : z ∈ sortedC cs) : tag z = (z.1, ((sym z : Nat) : Int)) := by
  have h1 := sorted_syms1 cs z h
  unfold tag sym
  rw [if_pos (by rw [h1]; rfl)]
theorem tagC_length (cs : List Int) : (tagC cs).length = (sortedC cs).length := by simp [tagC]
theorem tagC_eq (cs : List Int) : tagC cs = (ordI cs cs.length).map fun s => (nth 0 cs s.toNat, s) := by
  unfold tagC
  rw [ordI_all, List.map_map]
  apply List.map_congr_left
  intro z hz
  rw [tag_coin hz]
  have := (sorted_sym hz).1
  have e : z.1 = nth 0 cs (sym z) := by conv => lhs; rw [this]
  simp [e]
theorem coins1 (cs : List Int) : ∀ x ∈ sortedC cs, x.2.length = 1 := fun x hx => by rw [sorted_syms1 cs x hx]; rfl
theorem rowR_eq (cs : List Int) (k : Nat) : rowR (tagC cs) k = (rowI (sortedC cs) k).map tag := (tag_row (coins1 cs) k).symm
theorem rowR_length (cs : List Int) (k : Nat) : (rowR (tagC cs) k).length = (rowI (sortedC cs) k).length := by rw [rowR_eq]; simp
theorem rowR_bound {cs : List Int} (h : countsB cs = true) {k : Nat} (hk : k ≤ 15) : ∀ z ∈ rowR (tagC cs) k, 0 ≤ z.1 ∧ z.1 ≤ 1125899906842624 := by
  intro z hz
  rw [rowR_eq] at hz
  obtain ⟨y, hy, rfl⟩ := List.mem_map.1 hz
  have := rowI_ok (sorted_within h) hk y hy
  exact ⟨this.1, this.2.1⟩
/-! ### What is taken of a level -/
/-- How many of these items are coins of a symbol. -/
def coinsIn (s : Nat) (l : List (Int × Int)) : Nat := (l.filter fun x => x.2 == (s : Int)).length
def packsIn (l : List (Int × Int)) : Nat := (l.filter fun x => decide (x.2 < 0)).length
theorem coinsIn_snoc (s : Nat) (l : List (Int × Int)) (x : Int × Int) : coinsIn s (l ++ [x]) = coinsIn s l + if x.2 = (s : Int) then 1 else 0 := by
  unfold coinsIn
  rw [List.filter_append, List.length_append]
  by_cases h : x.2 = (s : Int)
  · simp [h]
  · simp [h]
theorem packsIn_snoc (l : List (Int × Int)) (x : Int × Int) : packsIn (l ++ [x]) = packsIn l + if x.2 < 0 then 1 else 0 := by
  unfold packsIn
  rw [List.filter_append, List.length_append]
  by_cases h : x.2 < 0
  · simp [h]
  · simp [h]
theorem filter_len {α : Type} (p : α → Bool) (l : List α) : (l.filter p).length = (l.map fun x => if p x then 1 else 0).sum := by
  induction l with
  | nil => rfl
  | cons x l ih =>
    rw [List.filter_cons, List.map_cons, List.sum_cons, ← ih]
    by_cases h : p x = true
    · rw [if_pos h, if_pos h, List.length_cons]; omega
    · rw [if_neg h, if_neg h]; omega
theorem sumF_zero {f : It → Nat} {l : List It} (h : ∀ x ∈ l, f x = 0) : sumF f l = 0 := by
  rw [sumF_congr (g := fun _ => 0) h, sumF_const]; omega
theorem sumF_ones {f : It → Nat} {l : List It} (h : ∀ x ∈ l, f x = 1) : sumF f l = l.length := by
  rw [sumF_congr (g := fun _ => 1) h, sumF_const]; omega
theorem packs_none {cs : List Int} {k : Nat} {z : It} (h : z ∈ pairsI (rowI (sortedC cs) k)) : (tag z).2 = -1 := by
  have := pairsI_coins (rowI_coins (coins1 cs) k) z h
  unfold tag
  rw [if_neg (by omega)]
theorem tag_sym {cs : List Int} {z : It} (h : z ∈ sortedC cs) : (tag z).2 = ((sym z : Nat) : Int) := by rw [tag_coin h]
theorem coinsIn_coins (cs : List Int) (s p : Nat) : coinsIn s (((sortedC cs).take p).map tag) = (((sortedC cs).take p).map sym).count s := by
  unfold coinsIn
  rw [List.filter_map, List.length_map, List.count_eq_countP, List.countP_map, List.countP_eq_length_filter]
  congr 1
  apply List.filter_congr
  intro z hz
  have h1 := tag_sym (List.mem_of_mem_take hz)
  show ((tag z).2 == (s : Int)) = (sym z == s)
  rw [h1]
  by_cases h : sym z = s
  · rw [h]; simp
  · have h2 : ¬ ((sym z : Nat) : Int) = (s : Int) := by omega
    rw [show (((sym z : Nat) : Int) == (s : Int)) = false by simpa using h2]
    rw [show (sym z == s) = false by simpa using h]
/-- The coins of a level. -/
theorem level_coins (cs : List Int) (s k m : Nat) : coinsIn s ((rowR (tagC cs) (k + 1)).take m) = (((sortedC cs).take (fromA (sortedC cs) (pairsI (rowI (sortedC cs) k)) m)).map sym).count s := by
  rw [rowR_eq, ← List.map_take, ← coinsIn_coins]
  unfold coinsIn
  rw [filter_len, filter_len, List.map_map, List.map_map]
  show sumF (fun x => if ((tag x).2 == (s : Int)) = true then 1 else 0) ((rowI (sortedC cs) (k + 1)).take m) = sumF (fun x => if ((tag x).2 == (s : Int)) = true then 1 else 0) _
  rw [rowI, merge_sumF]
  rw [sumF_zero (l := (pairsI (rowI (sortedC cs) k)).take _) fun x hx => by
    rw [packs_none (List.mem_of_mem_take hx)]
    rw [if_neg]
    simp only [beq_iff_eq]; omega]
  rfl
theorem level_packs {cs : List Int} {k m : Nat} (h : m ≤ (rowI (sortedC cs) (k + 1)).length) : packsIn ((rowR (tagC cs) (k + 1)).take m) = m - fromA (sortedC cs) (pairsI (rowI (sortedC cs) k)) m := by
  rw [rowR_eq, ← List.map_take]
  unfold packsIn
  rw [filter_len, List.map_map]
  show sumF (fun x => if (decide ((tag x).2 < 0)) = true then 1 else 0) ((rowI (sortedC cs) (k + 1)).take m) = _
  rw [rowI, mergeI_length] at h
  have hr := fromA_rest _ _ _ h
  rw [rowI, merge_sumF]
  rw [sumF_zero (l := (sortedC cs).take _) fun x hx => by
    rw [tag_sym (List.mem_of_mem_take hx), if_neg]; simp only [decide_eq_true_eq]; omega]
  rw [sumF_ones (l := (pairsI (rowI (sortedC cs) k)).take _) fun x hx => by
    rw [packs_none (List.mem_of_mem_take hx)]; rfl]
  rw [List.length_take, Nat.min_eq_left hr, Nat.zero_add]
theorem level0_coins (cs : List Int) (s m : Nat) : coinsIn s ((rowR (tagC cs) 0).take m) = (((sortedC cs).take m).map sym).count s := by
  rw [rowR_eq, ← List.map_take]; exact coinsIn_coins cs s m
/-- The answer so far: of levels that are done. -/
def outT (cs : List Int) (ps : List Nat) : List Int := (List.range cs.length).map fun s => (((ps.map fun p => (((sortedC cs).take p).map sym).count s).sum : Nat) : Int)
/-- Within a level. -/
def outU (cs : List Int) (ps : List Nat) (l : List (Int × Int)) : List Int := (List.range cs.length).map fun s => (((ps.map fun p => (((sortedC cs).take p).map sym).count s).sum + coinsIn s l : Nat) : Int)
theorem outU_length (cs : List Int) (ps : List Nat) (l : List (Int × Int)) : (outU cs ps l).length = cs.length := by simp [outU]
theorem outT_nil (cs : List Int) : outT cs [] = List.replicate cs.length 0 := by
  apply List.ext_getElem
  · simp [outT]
  · intro i h1 h2; simp [outT]
theorem outU_nil (cs : List Int) (ps : List Nat) : outU cs ps [] = outT cs ps := by simp [outU, outT, coinsIn]
theorem outU_nth {cs : List Int} {ps : List Nat} {l : List (Int × Int)} {s : Nat} (h : s < cs.length) : nth 0 (outU cs ps l) s = (((ps.map fun p => (((sortedC cs).take p).map sym).count s).sum + coinsIn s l : Nat) : Int) := by
  rw [nth_eq 0 _ s (by rw [outU_length]; exact h)]; simp [outU]
theorem outU_pack {cs : List Int} {ps : List Nat} {l : List (Int × Int)} {x : Int × Int} (h : x.2 < 0) : outU cs ps (l ++ [x]) = outU cs ps l := by
  unfold outU
  apply List.map_congr_left
  intro s _
  rw [coinsIn_snoc, if_neg (by omega)]; rfl
theorem outU_coin {cs : List Int} {ps : List Nat} {l : List (Int × Int)} {x : Int × Int} {s : Nat} (h : x.2 = (s : Int)) (hs : s < cs.length) : (outU cs ps l).set s (nth 0 (outU cs ps l) s + 1) = outU cs ps (l ++ [x]) := by
  apply List.ext_getElem
  · simp [outU]
  · intro i h1 h2
    rw [List.getElem_set]
    have hx : coinsIn i (l ++ [x]) = coinsIn i l + if x.2 = (i : Int) then 1 else 0 := coinsIn_snoc i l x
    split
    · rename_i e
      subst e
      rw [outU_nth hs]
      simp only [outU, List.getElem_map, List.getElem_range]
      rw [hx, if_pos h]; omega
    · rename_i e
      simp only [outU, List.getElem_map, List.getElem_range]
      rw [hx, if_neg (by rw [h]; omega)]; rfl
theorem outU_done {cs : List Int} {ps : List Nat} {l : List (Int × Int)} {p : Nat} (h : ∀ s, coinsIn s l = (((sortedC cs).take p).map sym).count s) : outU cs ps l = outT cs (ps ++ [p]) := by
  unfold outU outT
  apply List.map_congr_left
  intro s _
  rw [h s, List.map_append, List.sum_append]
  simp
theorem outT_all {cs : List Int} {most : Nat} (hE : lengthsE cs most = 0) (h : LenIn cs most) : outT cs (psL cs most) = lengthsV cs most := by
  rw [lengthsV_nth hE]
  unfold outT
  apply List.map_congr_left
  intro s _
  rw [lenN_sum h]
theorem coinsIn_le (s : Nat) (l : List (Int × Int)) : coinsIn s l ≤ l.length := List.length_filter_le _ _
theorem packsIn_le (l : List (Int × Int)) : packsIn l ≤ l.length := List.length_filter_le _ _
theorem count_sum_le (cs : List Int) (s : Nat) : ∀ ps : List Nat, (ps.map fun p => (((sortedC cs).take p).map sym).count s).sum ≤ ps.length * (sortedC cs).length
  | [] => by simp
  | p :: ps => by
    have := count_sum_le cs s ps
    have h1 : (((sortedC cs).take p).map sym).count s ≤ (((sortedC cs).take p).map sym).length := List.count_le_length
    rw [List.length_map, List.length_take] at h1
    rw [List.map_cons, List.sum_cons, List.length_cons, Nat.succ_mul]; omega
theorem item_sym {cs : List Int} {k : Nat} {z : Int × Int} (h : z ∈ rowR (tagC cs) k) (h0 : ¬ z.2 < 0) : ∃ s : Nat, z.2 = (s : Int) ∧ s < cs.length := by
  rw [rowR_eq] at h
  obtain ⟨y, hy, rfl⟩ := List.mem_map.1 h
  have hs := rowI_syms (sorted_syms cs) k y hy
  unfold tag at h0 ⊢
  split
  · rename_i h1
    refine ⟨nth 0 y.2 0, rfl, hs _ (nth_mem 0 _ 0 (by omega))⟩
  · rename_i h1; rw [if_neg h1] at h0; exact absurd (show (-1 : Int) < 0 by decide) h0
theorem level_step {cs : List Int} {i m : Nat} (h : m ≤ (rowI (sortedC cs) i).length) : ∃ p, (∀ s, coinsIn s ((rowR (tagC cs) i).take m) = (((sortedC cs).take p).map sym).count s) ∧
    lens (sortedC cs) i m = p :: (if i = 0 then [] else lens (sortedC cs) (i - 1) (2 * packsIn ((rowR (tagC cs) i).take m))) ∧ (i ≠ 0 → 2 * packsIn ((rowR (tagC cs) i).take m) ≤ (rowI (sortedC cs) (i - 1)).length) := by
  cases i with
  | zero => exact ⟨m, fun s => level0_coins cs s m, rfl, fun h => absurd rfl h⟩
  | succ i =>
    refine ⟨_, fun s => level_coins cs s i m, ?_, fun _ => ?_⟩
    · rw [level_packs h, if_neg (by omega)]; rfl
    · rw [level_packs h]; exact lens_fit h
/-- One coin. -/
theorem lengthsV_one {cs : List Int} {most : Int} {s : Nat} (hE : lengthsE cs most = 0) (hn : (coinsK cs cs.length).length = 1) (h : nth (0, []) (sortK cs cs.length) 0 = (nth 0 cs s, [s])) : lengthsV cs most = (List.replicate cs.length (0 : Int)).set s 1 := by
  obtain ⟨z, hz⟩ := List.length_eq_one_iff.1 hn
  have hm : nth (0, []) (sortK cs cs.length) 0 ∈ coinsK cs cs.length := (isortF_mem _ _).1 (show nth (0, []) (sortK cs cs.length) 0 ∈ sortK cs cs.length from nth_mem _ _ 0 (by rw [sortK_length, hn]; decide))
  rw [h, hz] at hm
  have hz2 : coinsK cs cs.length = [(nth 0 cs s, [s])] := by rw [hz]; simp at hm; rw [← hm]
  unfold lengthsV
  rw [if_neg (by rw [hE]; decide), if_pos hn, hz2]
  apply List.ext_getElem
  · simp [outQ]
  · intro i h1 h2
    rw [List.getElem_set]
    simp only [outQ, List.getElem_map, List.getElem_range, List.getElem_replicate]
    by_cases e : s = i
    · rw [if_pos e]; subst e; simp [occ, sumF]
    · rw [if_neg e]; simp [occ, sumF, e]
/-- The rows so far. -/
def rowsL (cs : List Int) (i : Nat) : List (List (Int × Int)) := (List.range (i + 1)).map (rowR (tagC cs))
theorem rowsL_length (cs : List Int) (i : Nat) : (rowsL cs i).length = i + 1 := by simp [rowsL]
theorem rowsL_nth {cs : List Int} {i j : Nat} (h : j ≤ i) : nth [] (rowsL cs i) j = rowR (tagC cs) j := by
  rw [nth_eq [] _ j (by rw [rowsL_length]; omega)]; simp [rowsL]
theorem rowsL_zero (cs : List Int) : rowsL cs 0 = [tagC cs] := rfl
theorem rowsL_succ (cs : List Int) (i : Nat) : rowsL cs (i + 1) = rowsL cs i ++ [mergeR (tagC cs) (pairsR (rowR (tagC cs) i))] := by
  unfold rowsL
  rw [List.range_succ, List.map_append]; rfl
theorem tagC_nth {cs : List Int} {j : Nat} (h : j < (coinsK cs cs.length).length) : nth (0, 0) (tagC cs) j = (nth 0 cs (nth 0 (ordI cs cs.length) j).toNat, nth 0 (ordI cs cs.length) j) := by
  have hl : j < (ordI cs cs.length).length := by rw [ordI_length]; exact h
  rw [tagC_eq, nth_eq _ _ j (by simpa using hl), nth_eq 0 _ j hl]
  simp
theorem rowR_len {cs : List Int} (h : cs.length ≤ 256) (k : Nat) : (rowR (tagC cs) k).length ≤ 512 := by
  rw [rowR_length]
  have h1 := rowI_length_le (sortedC cs) k
  rw [sortedC_length] at h1
  have := coinsK_len cs cs.length
  omega
end Go.Proofs.YtmcdgmiheklbeaaGreatDoor

namespace Go.Proofs.YtmcdgmiheklbeaaGreatDoor
open Go.RowKit

/-- 'xs[m:]'. -/
theorem cut_tail {P : Program} (t e : TypeId) {i : TypeInfo} (ht : P.underlying t = some (.slice e)) (hi : P.info? e = some i) (A : Option Addr) (n c m : Nat) (hm : m ≤ n) :
    ∃ A' : Option Addr, (∀ W : World, (Instr.slice t (.slice A n c) (some (.int .i64 (m : Int))) none none).run P W = .ok (.slice A' (n - m) (c - m)) W) ∧
      ∀ {α : Type} (k : Kd α) (ok : Nat → Prop) (w : World) (xs : List α), k.size = i.size → xs.length = n → Sl k ok w A c xs → Sl k ok w A' (c - m) (xs.drop m) := by
  refine ⟨if c = m then A else A.map (·.add (m * i.size)), fun W => ?_, fun k ok w xs hk hx h => ?_⟩
  · have hel : P.elem t = e := by simp [Program.elem, ht]
    have hu : P.underlying t = some (.slice (P.elem t)) := by rw [hel]; exact ht
    rw [run_slice_l W t A n c hu .i64 (m : Int) (Int.natCast_nonneg _) (by omega), hel]
    simp [sizeOf, typeInfo, hi, sliced, Result.andThen]
  · refine ⟨by rw [List.length_drop]; have := h.le; omega, by have := h.cap; omega, ?_⟩
    by_cases hc : c = m
    · have : xs.drop m = [] := List.drop_of_length_le (by have := h.le; omega)
      rw [this]
      exact Kd.Rd.nil _ _ _ _
    · rw [if_neg hc, ← hk]
      exact h.rd.drop m
/-- 'xs[:m:m]'. -/
theorem cut_full {P : Program} (t e : TypeId) {i : TypeInfo} (ht : P.underlying t = some (.slice e)) (hi : P.info? e = some i) (A : Option Addr) (n c m : Nat) (hm : m ≤ n) (hnc : n ≤ c) :
    ∃ A' : Option Addr, (∀ W : World, (Instr.slice t (.slice A n c) none (some (.int .i64 (m : Int))) (some (.int .i64 (m : Int)))).run P W = .ok (.slice A' m m) W) ∧
      ∀ {α : Type} (k : Kd α) (ok : Nat → Prop) (w : World) (xs : List α), k.size = i.size → xs.length = n → Sl k ok w A c xs → Sl k ok w A' m (xs.take m) := by
  refine ⟨if m = 0 then A else A.map (·.add (0 * i.size)), fun W => ?_, fun k ok w xs hk hx h => ?_⟩
  · have hel : P.elem t = e := by simp [Program.elem, ht]
    have hu : P.underlying t = some (.slice (P.elem t)) := by rw [hel]; exact ht
    rw [run_slice_hm W t A n c hu .i64 .i64 (m : Int) (m : Int) (Int.natCast_nonneg _) (Int.le_refl _) (by omega), hel]
    simp [sizeOf, typeInfo, hi, sliced, Result.andThen]
  · refine ⟨by rw [List.length_take]; omega, by have := h.cap; omega, ?_⟩
    by_cases hc : m = 0
    · subst hc
      exact Kd.Rd.nil _ _ _ _
    · rw [if_neg hc, ← hk]
      have := (h.rd.take m).drop 0
      rwa [List.drop_zero] at this
theorem run_append_full {P : Program} {W : World} (t ty e : TypeId) (k : IntKind) (bytes : Nat)
    (ht : P.underlying t = some (.slice e)) (hinfo : (P.info? e).map (fun i => (i.zero, i.size, i.bytes)) = some (some (.int k 0), 1, bytes)) (hb0 : 0 < bytes)
    (A : Option Addr) (xs : List Int) (A2 : Option Addr) (c2 : Nat) (ys : List Int) {ok ok2 : Nat → Prop}
    (HR : Sl (kInt k) ok W A xs.length xs) (HR2 : Sl (kInt k) ok2 W A2 c2 ys) (hy : 0 < ys.length) (hl : (xs.length + ys.length) * bytes ≤ 140737488355328) :
    ∃ v1 w1, (Builtin.append_ #[t, t] ty #[.slice A xs.length xs.length, .slice A2 ys.length c2]).run P W = .ok v1 w1 ∧ OwnI e k W.heap.size w1 v1 (xs ++ ys) ∧ Below W.heap.size W w1 := by
  obtain ⟨i0, hi, hzz⟩ := Option.map_eq_some_iff.1 hinfo
  simp only [Prod.mk.injEq] at hzz
  obtain ⟨hz0, hz1, hz2⟩ := hzz
  have hlen : xs.length + ys.length ≤ 140737488355328 := Nat.le_trans (Nat.le_mul_of_pos_right _ hb0) hl
  rcases A with _ | ad
  · have h0 : xs = [] := by
      rcases Nat.eq_zero_or_pos xs.length with h0 | h0
      · exact List.eq_nil_of_length_eq_zero h0
      · obtain ⟨ad, h, _⟩ := rd_int HR 0 h0
        cases h
    subst h0
    obtain ⟨v1, w1, hr, hown, hg, _⟩ := run_append_row (P := P) W.heap.size t ty e k bytes ht hinfo hb0 (.slice none 0 0) [] ys A2 c2 (OwnI.nil _ _ _ _) HR2 (Nat.le_refl _) hl
    exact ⟨v1, w1, hr, hown, ((Below.refl W.heap.size W).grown hg (Nat.le_refl _) (fun k e => by cases e))⟩
  · obtain ⟨ad2, rfl, _⟩ := rd_int HR2 0 hy
    obtain ⟨v1, w1, hr, hown, hg⟩ := run_append_arg_grows (P := P) (w := W) t ty e i0 (.int k 0) 1 bytes ht hi hz0 hz1 hz2 rfl (by decide) ad xs.length xs.length (nums k xs) (by simp [nums]) (fun j u hu => by
        have hj : j < xs.length := by
          rcases Nat.lt_or_ge j xs.length with h | h
          · exact h
          · simp [nums, List.getElem?_eq_none h] at hu
        obtain ⟨ad', h', hc⟩ := rd_int HR j hj
        injection h' with h'
        subst h'
        rw [nums_get k xs j hj] at hu
        injection hu with hu
        rw [hc, hu]) ad2 ys.length c2 (nums k ys) (by simp [nums]) (fun j u hu => by
        have hj : j < ys.length := by
          rcases Nat.lt_or_ge j ys.length with h | h
          · exact h
          · simp [nums, List.getElem?_eq_none h] at hu
        obtain ⟨ad', h', hc⟩ := rd_int HR2 j hj
        injection h' with h'
        subst h'
        rw [nums_get k ys j hj] at hu
        injection hu with hu
        rw [hc, hu]) (by omega) (by simp only [maxLen]; omega) hl
    refine ⟨v1, w1, hr, ?_, (Below.refl W.heap.size W).grown hg (Nat.le_refl _) (fun k e => by cases e)⟩
    unfold OwnI
    rw [List.length_append, nums_append]; exact hown
/-- append(xs[:m:m], ys...) as a step of a drawn region. -/
theorem step_append_full {P : Program} {ops : Array Oper} {o : Oper} {a : Act} {Q : Exit → Act → World → Prop} {E : Prop} {K : Act → World → Prop} {W : World} (hgd : o.guard = none) (s x : Operand) (t e : TypeId) (k : IntKind) (bytes : Nat)
    (ho : o.op = .call { callee := .builtin .append, args := #[s, x], argTypes := #[t, t] })
    (ht : P.underlying t = some (.slice e)) (hinfo : (P.info? e).map (fun i => (i.zero, i.size, i.bytes)) = some (some (.int k 0), 1, bytes)) (hb0 : 0 < bytes)
    (A : Option Addr) (xs : List Int) (A2 : Option Addr) (c2 : Nat) (ys : List Int) {ok ok2 : Nat → Prop} (hs : a.eval s = .slice A xs.length xs.length) (hx : a.eval x = .slice A2 ys.length c2)
    (HR : Sl (kInt k) ok W A xs.length xs) (HR2 : Sl (kInt k) ok2 W A2 c2 ys) (hy : 0 < ys.length) (hl : (xs.length + ys.length) * bytes ≤ 140737488355328)
    (h : ∀ v1 w1, OwnI e k W.heap.size w1 v1 (xs ++ ys) → Below W.heap.size W w1 → K (a.put o.dst v1) w1) :
    if Region.wanted o (yielded ops a.tmps) = true then Oper.wp P o a W K Q else E := by
  obtain ⟨v1, w1, hr, hown, hg⟩ := run_append_full (P := P) t o.type e k bytes ht hinfo hb0 A xs A2 c2 ys HR HR2 hy hl
  rw [if_pos (by simp [Region.wanted, hgd])]
  unfold Oper.wp execOp
  simp only [ho, resolve, invoke, builtin, Sem.run_bind, Sem.run_pure, Result.andThen_ok, List.map_toArray, List.map_cons, List.map_nil, hs, hx, hr]
  exact h v1 w1 hown hg
/-- A literal of one element of one cell. -/
theorem own_lit1K {α : Type} {k : Kd α} (W : World) (e : TypeId) (ok : Nat → Prop) (x : α) (v : Value) (h1 : k.size = 1) (hx : k.K (fun b => ok b ∧ b ≠ W.heap.size) W x [v]) :
    OwnK k e W.heap.size ok (W.alloc (.cells #[v] e)) (.slice (some ⟨W.heap.size, 0, none⟩) 1 1) [x] := by
  have h := World.ownsRow_lit (base := W.heap.size) (e := e) (size := 1) W #[v] 1 (Nat.le_refl _) (by simp [maxLen]) (by simp)
  refine ⟨[v], by rw [h1]; exact h, by rw [h1]; rfl, fun j hj => ?_⟩
  obtain rfl : j = 0 := by simp at hj; omega
  rw [h1]
  have hb := k.K_below hx (below_alloc (Below.refl W.heap.size W) (.cells #[v] e))
  exact k.weak (fun b _ hb => ⟨hb.1, fun e => hb.2 (by have := Option.some.inj e; exact this.symm)⟩) hb
/-- A row of numbers or pairs lies in its own block alone. -/
theorem ownF_sl {e : TypeId} {base : Nat} {ok : Nat → Prop} {w : World} {v : Value} {xs : List (Int × Int)} (h : OwnK kField e base ok w v xs) : ∃ A c, v = .slice A xs.length c ∧ Sl kField (fun b => base ≤ b) w A c xs := by
  have h2 : OwnK kField e base (fun b => base ≤ b) w v xs := by
    obtain ⟨cells, ho, hr⟩ := h
    refine ⟨cells, ho, hr.1, fun j hj => ?_⟩
    obtain ⟨c1, c2, e1, e2, e3⟩ := hr.2 j hj
    exact ⟨c1, c2, e1, e2, e3⟩
  obtain ⟨A, c, e, hs⟩ := h2.rd
  exact ⟨A, c, e, hs.weak fun b _ hb => hb.elim id (fun hb => h2.base_le b hb)⟩
end Go.Proofs.YtmcdgmiheklbeaaGreatDoor

namespace Go.Proofs.YtmcdgmiheklbeaaGreatDoor
open Go.RowKit

theorem infoRr : (Tryz.prog.info? 172).map (fun i => (i.zero, i.size, i.bytes)) = some (some (.slice none 0 0), 1, 24) := by kernel_rfl
theorem coinsK_succ_len (cs : List Int) (k : Nat) : (coinsK cs (k + 1)).length = if 0 < nth 0 cs k then (coinsK cs k).length + 1 else (coinsK cs k).length := by
  show (if 0 < nth 0 cs k then _ else _ : List It).length = _
  split <;> simp
theorem countsB_of {cs : List Int} (h : cs.length ≤ 256) (hb : ∀ q, q < cs.length → badCount (nth 0 cs q) = false) : countsB cs = true := by
  unfold countsB
  simp only [Bool.and_eq_true, decide_eq_true_eq, Bool.not_eq_true', List.any_eq_false]
  refine ⟨h, fun x hx => ?_⟩
  obtain ⟨i, hi, rfl⟩ := List.mem_iff_getElem.1 hx
  have := hb i hi
  rw [nth_eq 0 _ i hi] at this
  simp [this]

set_option maxHeartbeats 4000000 in
set_option maxRecDepth 100000 in
theorem rlengths_no (A : Option Addr) (c : Nat) (cs : List Int) (most : Int) (w : World) (hS : RI w A c cs) (he : countsB cs = false ∨ most < 1 ∨ 16 < most) :
    Calls Tryz.prog 101 #[.slice A cs.length c, .int .i64 most] w fun e w' => e = .returned (.tuple #[.slice none 0 0, .int .i64 1]) ∧ Below w.heap.size w w' := by
  have hn := hS.len
  by_cases hg : (256 : Int) < (cs.length : Int) ∨ most < 1 ∨ 16 < most
  · have hc : (decide ((256 : Int) < (cs.length : Int)) = true) ∨ (decide ((256 : Int) < (cs.length : Int)) = false ∧ decide (most < 1) = true) ∨ (decide ((256 : Int) < (cs.length : Int)) = false ∧ decide (most < 1) = false ∧ decide (16 < most) = true) := by
      simp only [decide_eq_true_eq, decide_eq_false_iff_not]; omega
    clear hg he
    rcases hc with d0 | ⟨d0, d1⟩ | ⟨d0, d1, d2⟩
    all_goals
      go_enter Tryz.func101, Tryz.ntmps101
      go_wp2
      go_ret2
      exact ⟨rfl, Below.refl _ _⟩
  · have d0 : decide ((256 : Int) < (cs.length : Int)) = false := decide_eq_false (by omega)
    have d1 : decide (most < 1) = false := decide_eq_false (by omega)
    have d2 : decide (16 < most) = false := decide_eq_false (by omega)
    have hcb : countsB cs = false := by
      rcases he with h | h
      · exact h
      · omega
    have HCB := Lib.hid hcb
    have h256 : cs.length ≤ 256 := by omega
    clear hg he hcb
    go_enter Tryz.func101, Tryz.ntmps101
    go_wp2
    go_loopw [6, 37] (fun nv iv wr => ∃ k : Nat, iv = .int .i64 (k : Int) ∧ k ≤ cs.length ∧ nv = .int .i64 ((coinsK cs k).length : Int) ∧ Hid (∀ q, q < k → badCount (nth 0 cs q) = false) ∧ wr = w) (fun _ iv _ => cs.length - (intOf iv).toNat)
    case atStart => exact ⟨0, rfl, Nat.zero_le _, rfl, Lib.hid (fun q h => by omega), rfl⟩
    case round =>
      obtain ⟨k, rfl, hk, rfl, hO, rfl⟩ := hrel
      by_cases hlt : k < cs.length
      · obtain ⟨ad, rfl, hc⟩ := rd_int hS k hlt
        have hki : (k : Int) < (cs.length : Int) := by omega
        have hcl := coinsK_len cs k
        have hck := coinsK_succ_len cs k
        obtain ⟨q, hq⟩ : ∃ q, (coinsK cs k).length = q := ⟨_, rfl⟩
        rw [hq] at hcl hck ⊢
        have hwq : IntKind.i64.wrap ((q : Int) + 1) = (q : Int) + 1 := IntWalk.i64_in _ (by omega)
        by_cases h1 : nth 0 cs k < 0
        · have e1 : decide (nth 0 cs k < 0) = true := decide_eq_true h1
          clear h1 hck
          go_wp2
          go_ret2
          exact ⟨rfl, Below.refl _ _⟩
        · have e1 : decide (nth 0 cs k < 0) = false := decide_eq_false h1
          by_cases h2 : 1073741824 < nth 0 cs k
          · have e2 : decide (1073741824 < nth 0 cs k) = true := decide_eq_true h2
            clear h1 h2 hck
            go_wp2
            go_ret2
            exact ⟨rfl, Below.refl _ _⟩
          · have e2 : decide (1073741824 < nth 0 cs k) = false := decide_eq_false h2
            have HO2 := Lib.hid (show ∀ q, q < k + 1 → badCount (nth 0 cs q) = false from fun q hq => by
              rcases Nat.lt_or_ge q k with h | h
              · exact hO.out q h
              · obtain rfl : q = k := by omega
                simp [badCount, e1, e2])
            by_cases h3 : 0 < nth 0 cs k
            · have e3 : decide (0 < nth 0 cs k) = true := decide_eq_true h3
              rw [if_pos h3] at hck
              have HCK := Lib.hid hck
              clear h1 h2 h3 hck hq hcl
              go_wp2
              go_roundw
              case rel => exact ⟨k + 1, by go_num, by omega, by rw [HCK.out]; go_num, HO2, trivial⟩
              case measure => simp [intOf]; omega
            · have e3 : decide (0 < nth 0 cs k) = false := decide_eq_false h3
              rw [if_neg h3] at hck
              have HCK := Lib.hid hck
              clear h1 h2 h3 hck hq hcl
              go_wp2
              go_roundw
              case rel => exact ⟨k + 1, by go_num, by omega, by rw [HCK.out], HO2, trivial⟩
              case measure => simp [intOf]; omega
      · obtain rfl : k = cs.length := by omega
        have h1 := countsB_of h256 hO.out
        rw [HCB.out] at h1
        cases h1
end Go.Proofs.YtmcdgmiheklbeaaGreatDoor
