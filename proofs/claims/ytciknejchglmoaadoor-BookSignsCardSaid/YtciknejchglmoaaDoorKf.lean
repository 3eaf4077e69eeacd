/- book: the forms and the tables at rest; Shape, checked, fits, Fits: what each call returns. · book: Fits, symbol, beside, lengths: what each call returns. · book: beside, digits, symbolOf: what each call returns. · book: symbolOf: what it returns. · Parts of slices, as rules for the walk and as what they read as. · book: groups: what it yields, for any list and memory. · What the arguments of a law read as: []int, []byte. · book: the tables at rest; lengths, Lengths: what each call returns. · The reference's books: Is, abs, Values, Has, symbols, sum, count: what each call returns. · The reference's books: symbols, sum, count, symbol: what each call returns. · The reference's books: sum, symbol: what each call returns. · prefix: the numbers of awake's examples. Plain; no program is named. · prefix: Lengths in general; awake's examples hold. · scale: length, Lengths, is: what each call returns. · scale: checked: what it returns. · scale: walk: what it yields, for any bands and memory. · scale: Cost: what it returns. -/
import Derived.Test.YtciknejchglmoaaDoorKe
import Derived.OwnWalk
import Derived.Test.YtciknejchglmoaaDoorKa
import Derived.Laws.BytesArg
import Derived.Lib.SmallJoins
import Derived.LaidMore
import Derived.Stop.Joined
import Derived.Lib.ConvBytes
import Derived.Test.YtciknejchglmoaaDoorKc
import Derived.Test.YtciknejchglmoaaDoorKd
namespace Go.Proofs.YtciknejchglmoaaDoor
open Go.RowKit

/-- The forms at rest. -/
structure GF (w : World) : Prop where
  dim : ∀ b, b < 8 → w.cell? ⟨0, b * 3, none⟩ = some (.int .i64 (dimB b))
  most : ∀ b, b < 8 → w.cell? ⟨0, b * 3 + 1, none⟩ = some (.int .i64 (mostB b))
  esc : ∀ b, b < 8 → w.cell? ⟨0, b * 3 + 2, none⟩ = some (.bool (escB b))
theorem GF.below {w w' : World} (h : GF w) (hb : Below w.heap.size w w') : GF w' :=
  ⟨fun b h8 => cell_below hb (h.dim b h8), fun b h8 => cell_below hb (h.most b h8), fun b h8 => cell_below hb (h.esc b h8)⟩
def shapeE (n : Int) : Int := if n < 0 ∨ 8 ≤ n then 5 else 0
def shapeD (n : Int) : Int := if n < 0 ∨ 8 ≤ n then 0 else dimB n.toNat
def shapeM (n : Int) : Int := if n < 0 ∨ 8 ≤ n then 0 else mostB n.toNat

theorem shape_no (n : Int) (w : World) (h : n < 0 ∨ 8 ≤ n) :
    Calls Tryd.prog 10 #[.int .i64 n] w fun e w' => e = .returned (.tuple #[.int .i64 0, .int .i64 0, .int .i64 5]) ∧ w = w' := by
  have hT : thereB n = false := by simp [thereB]; omega
  have HT := Lib.hid (there_any n w)
  rw [hT] at HT
  clear h hT
  go_enter Tryd.func10, Tryd.ntmps10
  go_wp2_with (go_at_call 40; refine HT.out.mono ?_; rintro e w2 ⟨rfl, rfl⟩)
  go_ret3
  exact ⟨rfl, rfl⟩
theorem shape_ok (b : Nat) (w : World) (hG : GF w) (h : b < 8) :
    Calls Tryd.prog 10 #[.int .i64 (b : Int)] w fun e w' => e = .returned (.tuple #[.int .i64 (dimB b), .int .i64 (mostB b), .int .i64 0]) ∧ Below w.heap.size w w' := by
  have hT : thereB b = true := by simp [thereB]; omega
  have HT := Lib.hid (there_any b w)
  rw [hT] at HT
  have c0 := hG.dim b h
  have c1 := hG.most b h
  have hb8 : (b : Int) < 8 := by omega
  clear hT
  go_enter Tryd.func10, Tryd.ntmps10
  go_wp2_with (go_at_call 40; refine HT.out.mono ?_; rintro e w2 ⟨rfl, rfl⟩)
  go_region
  go_wp2
  go_ret3
  exact ⟨rfl, (Below.refl _ _).drew⟩

set_option maxHeartbeats 1000000 in
theorem checked17_any (A : Option Addr) (c : Nat) (n : Int) (l : List Int) (w : World) (hS : RI w A c l) :
    Calls Tryd.prog 46 #[.int .i64 n, .slice A l.length c] w fun e w' => e = .returned (.int .i64 (checkedK n l)) ∧ w = w' := by
  by_cases h : n < 0 ∨ 8 ≤ n
  · have hT : thereB n = false := by simp [thereB]; omega
    have HT := Lib.hid (there_any n w)
    rw [hT] at HT
    have HX := Lib.hid (show checkedK n l = 5 by unfold checkedK; rw [if_pos h])
    clear h hT
    go_enter Tryd.func46, Tryd.ntmps46
    go_wp2_with (go_at_call 40; refine HT.out.mono ?_; rintro e w2 ⟨rfl, rfl⟩)
    go_ret
    exact ⟨ret_int HX.out.symm, rfl⟩
  · have hT : thereB n = true := by simp [thereB]; omega
    have HT := Lib.hid (there_any n w)
    rw [hT] at HT
    have HA := Lib.hid (are_any A c l w hS)
    have hx : checkedK n l = if quantB l = false then 6 else 0 := by unfold checkedK; rw [if_neg h]
    clear h hT
    cases hq : quantB l
    · rw [hq] at HA hx
      have HX := Lib.hid hx
      go_enter Tryd.func46, Tryd.ntmps46
      go_wp2_with (first | (go_at_call 40; refine HT.out.mono ?_; rintro e w2 ⟨rfl, rfl⟩) | (go_at_call 52; refine HA.out.mono ?_; rintro e w3 ⟨rfl, rfl⟩))
      go_ret
      exact ⟨ret_int (by rw [HX.out]; rfl), rfl⟩
    · rw [hq] at HA hx
      have HX := Lib.hid hx
      go_enter Tryd.func46, Tryd.ntmps46
      go_wp2_with (first | (go_at_call 40; refine HT.out.mono ?_; rintro e w2 ⟨rfl, rfl⟩) | (go_at_call 52; refine HA.out.mono ?_; rintro e w3 ⟨rfl, rfl⟩))
      go_ret
      exact ⟨ret_int (by rw [HX.out]; rfl), rfl⟩

/-- A form as a value, and as cells. -/
abbrev formC (b : Nat) : Array Value := #[.int .i64 (dimB b), .int .i64 (mostB b), .bool (escB b)]
theorem quantB_nth {l : List Int} (h : quantB l = true) (k : Nat) : -1023 ≤ nth 0 l k ∧ nth 0 l k ≤ 1023 :=
  nth_bound (fun x hx => by have := List.all_eq_true.1 h x hx; simpa using this) (by decide) k
set_option maxHeartbeats 2000000 in
set_option maxRecDepth 100000 in
theorem fits_any (A : Option Addr) (c b : Nat) (l : List Int) (w : World) (hS : RI w A c l) (hq : quantB l = true) :
    Calls Tryd.prog 47 #[.agg (formC b), .slice A l.length c] w fun e w' => e = .returned (.bool (fitB b l)) ∧ Below w.heap.size w w' := by
  have hn := hS.len
  have hd := dimB_pos b
  have hm := mostB_le b
  have HQ := Lib.hid (quantB_nth hq)
  obtain ⟨R, hR⟩ : ∃ R, l.length % dimB b = R := ⟨_, rfl⟩
  have HF := Lib.hid (show fitB b l = (l.all (inB b) && decide (R = 0)) by rw [← hR]; rfl)
  have HI := Lib.hid (show ∀ v, inB b v = (decide (v.natAbs ≤ mostB b) || escB b) from fun _ => rfl)
  have hrem : IntKind.i64.wrap ((l.length : Int).tmod (dimB b : Int)) = (R : Int) := by
    rw [Int.tmod_eq_emod_of_nonneg (by omega)]
    have h2 : l.length % dimB b < dimB b := Nat.mod_lt _ (by omega)
    rw [← Int.natCast_emod, hR]
    exact IntWalk.i64_in _ (by omega)
  have HR := Lib.hid (show (((l.length : Int) % (dimB b : Int)) == 0) = decide (R = 0) by rw [← Int.natCast_emod, hR]; exact Bool.eq_iff_iff.2 (by rw [beq_iff_eq, decide_eq_true_iff]; omega))
  have hd0 : ((dimB b : Int) == 0) = false := by simp; omega
  have hba := below_alloc (Below.refl w.heap.size w) (.cells (formC b) 71)
  unfold formC at hba ⊢
  generalize hD : dimB b = D at *
  generalize hM : mostB b = M at *
  generalize hE : escB b = E at *
  clear hq hD hM hE hR
  have HS := Lib.hid hS
  obtain ⟨g, hg⟩ : ∃ g, w.heap.size = g := ⟨_, rfl⟩
  have hB0 : Blk (w.alloc (.cells (#[.int .i64 (D : Int), .int .i64 (M : Int), .bool E]) 71)) g #[.int .i64 (D : Int), .int .i64 (M : Int), .bool E] 71 := by rw [← hg]; exact heap_alloc_new w _
  go_enter Tryd.func47, Tryd.ntmps47
  go_wp2
  go_loopw [9] (fun iv wr => ∃ k : Nat, k ≤ l.length ∧ iv = .int .i64 (k : Int) ∧ Hid (Below w.heap.size w wr) ∧ Blk wr g #[.int .i64 (D : Int), .int .i64 (M : Int), .bool E] 71 ∧ Hid ((l.take k).all (inB b) = true)) (fun iv _ => l.length - (intOf iv).toNat)
  case atStart => exact ⟨0, Nat.zero_le _, rfl, Lib.hid hba, hB0, Lib.hid rfl⟩
  case round =>
    clear hba hB0
    obtain ⟨k, hk, rfl, hB, hK, hA⟩ := hrel
    have k0 := hK.cell 0 rfl
    have k1 := hK.cell 1 rfl
    have k2 := hK.cell 2 rfl
    by_cases hlt : k < l.length
    · obtain ⟨ad, rfl, hc⟩ := rd_int (HS.out.below hB.out) k hlt
      have hki : (k : Int) < (l.length : Int) := by omega
      have HN := Lib.hid (all_take_q l (inB b) k hlt)
      have HNO := Lib.hid (all_no_q (p := inB b) hlt)
      have HX := Lib.hid (HI.out (nth 0 l k))
      have HZ := Lib.hid (HQ.out k)
      generalize nth 0 l k = x at hc HN HNO HX HZ
      have hwk : IntKind.i64.wrap ((k : Int) + 1) = (k : Int) + 1 := IntWalk.i64_in _ (by omega)
      have HC := Lib.hid (fun W => size_same x W (by have := HZ.out; omega))
      obtain ⟨z, hz⟩ : ∃ z, x.natAbs = z := ⟨_, rfl⟩
      rw [hz] at HC HX
      by_cases h1 : M < z
      · have h1i : (M : Int) < (z : Int) := by omega
        have HX2 := Lib.hid (show inB b x = E by rw [HX.out, decide_eq_false (by omega)]; rfl)
        clear h1
        cases E
        · go_wp2
          go_quiet ((go_at_call 67; exact Calls.quiet_of_same (HC.out _)))
          go_wp2
          go_ret
          exact ⟨ret_bool (by rw [HF.out, HNO.out HX2.out]; rfl), below_drewN hB.out _⟩
        · go_wp2
          go_quiet ((go_at_call 67; exact Calls.quiet_of_same (HC.out _)))
          go_wp2
          go_roundw
          case rel => exact ⟨k + 1, by omega, by go_num, Lib.hid (below_drewN hB.out _), hK, Lib.hid (by rw [HN.out, hA.out, HX2.out]; rfl)⟩
          case measure => simp [intOf]; omega
      · have h1i : ¬ (M : Int) < (z : Int) := by omega
        have d1 : decide (M < z) = false := decide_eq_false h1
        have HX2 := Lib.hid (show inB b x = true by rw [HX.out, decide_eq_true (by omega)]; rfl)
        clear h1
        go_wp2
        go_quiet ((go_at_call 67; exact Calls.quiet_of_same (HC.out _)))
        go_wp2
        go_roundw
        case rel => exact ⟨k + 1, by omega, by go_num, Lib.hid (below_drewN hB.out _), hK, Lib.hid (by rw [HN.out, hA.out, HX2.out]; rfl)⟩
        case measure => simp [intOf]; omega
    · obtain rfl : k = l.length := by omega
      have HT := Lib.hid (show l.all (inB b) = true by have := hA.out; rwa [List.take_length] at this)
      go_wp2
      go_ret
      exact ⟨ret_bool (by rw [HF.out, HT.out, HR.out]; rfl), hB.out⟩
end Go.Proofs.YtciknejchglmoaaDoor

namespace Go.Proofs.YtciknejchglmoaaDoor
open Go.RowKit

def fitsV (n : Int) (l : List Int) : Bool := if checkedK n l ≠ 0 then false else fitB n.toNat l
theorem checkedK_ok {n : Int} {l : List Int} (h : checkedK n l = 0) : ∃ b : Nat, n = (b : Int) ∧ b < 8 ∧ quantB l = true := by
  unfold checkedK at h
  split at h
  · cases h
  · split at h
    · cases h
    · exact ⟨n.toNat, by omega, by omega, by simpa using ‹¬ quantB l = false›⟩

set_option maxHeartbeats 1000000 in
theorem bfits_any (A : Option Addr) (c : Nat) (n : Int) (l : List Int) (w : World) (hS : RI w A c l) (hG : GF w) :
    Calls Tryd.prog 17 #[.int .i64 n, .slice A l.length c] w fun e w' => e = .returned (.tuple #[.bool (fitsV n l), .int .i64 (checkedK n l)]) ∧ Below w.heap.size w w' := by
  have HC := Lib.hid (checked17_any A c n l w hS)
  by_cases h : checkedK n l = 0
  · obtain ⟨b, rfl, h8, hq⟩ := checkedK_ok h
    have HV := Lib.hid (show fitsV (b : Int) l = fitB b l by unfold fitsV; rw [if_neg (by simp [h])]; rfl)
    rw [h] at HC ⊢
    have c0 := hG.dim b h8
    have c1 := hG.most b h8
    have c2 := hG.esc b h8
    have hb8 : (b : Int) < 8 := by omega
    have HF := Lib.hid (fun W (hW : RI W A c l) => fits_any A c b l W hW hq)
    have HS := Lib.hid hS
    clear h hq hS hG
    go_enter Tryd.func17, Tryd.ntmps17
    go_wp2_with (first | (go_at_call 46; refine HC.out.mono ?_; rintro e w2 ⟨rfl, rfl⟩) | (go_at_call 47; refine (HF.out _ HS.out).mono ?_; rintro e w3 ⟨rfl, b3⟩))
    go_ret2
    exact ⟨by rw [HV.out]; rfl, b3⟩
  · have HV := Lib.hid (show fitsV n l = false by unfold fitsV; rw [if_pos h])
    have hne : (checkedK n l == 0) = false := by simp [h]
    generalize checkedK n l = E at *
    clear h
    go_enter Tryd.func17, Tryd.ntmps17
    go_wp2_with (first | (go_at_call 46; refine HC.out.mono ?_; rintro e w2 ⟨rfl, rfl⟩))
    go_ret2
    exact ⟨by rw [HV.out]; rfl, Below.refl _ _⟩

/-- The symbol of digits. -/
def symD (m : Nat) (ds : List Int) : Nat := ds.foldl (fun s d => s * (m + 1) + d.toNat) 0
theorem symD_take (m : Nat) (ds : List Int) (k : Nat) (h : k < ds.length) : symD m (ds.take (k + 1)) = symD m (ds.take k) * (m + 1) + (nth 0 ds k).toNat := by
  rw [take_succ_nth 0 ds k h]; simp [symD]
theorem symD_from (m : Nat) : ∀ (ds : List Int) (s : Nat), (∀ d ∈ ds, 0 ≤ d ∧ d ≤ m) → ds.foldl (fun s d => s * (m + 1) + d.toNat) s + 1 ≤ (s + 1) * (m + 1) ^ ds.length
  | [], s, _ => by simp
  | d :: ds, s, h => by
    have h1 := h d List.mem_cons_self
    have ih := symD_from m ds (s * (m + 1) + d.toNat) (fun x hx => h x (List.mem_cons_of_mem _ hx))
    have h2 : s * (m + 1) + d.toNat + 1 ≤ (s + 1) * (m + 1) := by rw [Nat.add_mul, Nat.one_mul]; omega
    have h3 := Nat.mul_le_mul_right ((m + 1) ^ ds.length) h2
    rw [List.foldl_cons, List.length_cons, Nat.pow_succ, Nat.mul_comm ((m + 1) ^ ds.length), ← Nat.mul_assoc]
    omega
theorem symD_lt {m : Nat} {ds : List Int} (h : ∀ d ∈ ds, 0 ≤ d ∧ d ≤ m) : symD m ds < (m + 1) ^ ds.length := by
  have := symD_from m ds 0 h
  unfold symD
  omega
theorem symD_bd {m : Nat} {ds : List Int} (h : ∀ d ∈ ds, 0 ≤ d ∧ d ≤ m) (hm : m ≤ 31) (hl : ds.length ≤ 4) (k : Nat) : symD m (ds.take k) ≤ 1048576 := by
  have h1 := symD_lt (m := m) (ds := ds.take k) (fun d hd => h d (List.mem_of_mem_take hd))
  have h2 : (m + 1) ^ (ds.take k).length ≤ 32 ^ (ds.take k).length := Nat.pow_le_pow_left (by omega) _
  have h3 : 32 ^ (ds.take k).length ≤ 32 ^ 4 := Nat.pow_le_pow_right (by decide) (by rw [List.length_take]; omega)
  have h4 : 32 ^ 4 = 1048576 := by decide
  omega

set_option maxHeartbeats 1000000 in
theorem symbol_any (A : Option Addr) (c b : Nat) (ds : List Int) (w : World) (hS : RI w A c ds) (hd : ∀ d ∈ ds, 0 ≤ d ∧ d ≤ (mostB b : Int)) (hl : ds.length ≤ 4) :
    Calls Tryd.prog 86 #[.agg (formC b), .slice A ds.length c] w fun e w' => e = .returned (.int .i64 (symD (mostB b) ds)) ∧ Below w.heap.size w w' := by
  have hn := hS.len
  have hm := mostB_le b
  have HB := Lib.hid (symD_bd hd hm hl)
  have HT := Lib.hid (symD_take (mostB b) ds)
  have HX := Lib.hid (fun k => nth_bound hd (by omega) k)
  have hba := below_alloc (Below.refl w.heap.size w) (.cells (formC b) 71)
  unfold formC at hba ⊢
  generalize hD : dimB b = D at *
  generalize hM : mostB b = M at *
  generalize hE : escB b = E at *
  have HS := Lib.hid hS
  obtain ⟨g, hg⟩ : ∃ g, w.heap.size = g := ⟨_, rfl⟩
  have hB0 : Blk (w.alloc (.cells (#[.int .i64 (D : Int), .int .i64 (M : Int), .bool E]) 71)) g #[.int .i64 (D : Int), .int .i64 (M : Int), .bool E] 71 := by rw [← hg]; exact heap_alloc_new w _
  clear hD hM hE hd
  go_enter Tryd.func86, Tryd.ntmps86
  go_wp2
  go_loopw [5, 10] (fun sv iv wr => ∃ k : Nat, k ≤ ds.length ∧ iv = .int .i64 (k : Int) ∧ sv = .int .i64 (symD M (ds.take k) : Nat) ∧ Hid (Below w.heap.size w wr) ∧ Blk wr g #[.int .i64 (D : Int), .int .i64 (M : Int), .bool E] 71) (fun _ iv _ => ds.length - (intOf iv).toNat)
  case atStart => exact ⟨0, Nat.zero_le _, rfl, rfl, Lib.hid hba, hB0⟩
  case round =>
    clear hba hB0
    obtain ⟨k, hk, rfl, rfl, hB, hK⟩ := hrel
    have k1 := hK.cell 1 rfl
    by_cases hlt : k < ds.length
    · obtain ⟨ad, rfl, hc⟩ := rd_int (HS.out.below hB.out) k hlt
      have hki : (k : Int) < (ds.length : Int) := by omega
      have HN := Lib.hid (HT.out k hlt)
      have hx := HX.out k
      have hb1 := HB.out k
      generalize nth 0 ds k = x at hc HN hx
      generalize symD M (ds.take k) = s at HN hb1
      obtain ⟨y, rfl⟩ : ∃ y : Nat, x = (y : Int) := ⟨x.toNat, by omega⟩
      have hwk : IntKind.i64.wrap ((k : Int) + 1) = (k : Int) + 1 := IntWalk.i64_in _ (by omega)
      have hw1 : IntKind.i64.wrap ((M : Int) + 1) = (M : Int) + 1 := IntWalk.i64_in _ (by omega)
      obtain ⟨q, hq⟩ : ∃ q, s * (M + 1) = q := ⟨_, rfl⟩
      have hqi : (s : Int) * ((M : Int) + 1) = (q : Int) := by rw [← hq]; simp
      have hqb : q ≤ 1048576 * 32 := by rw [← hq]; exact Nat.mul_le_mul hb1 (by omega)
      have hw2 : IntKind.i64.wrap ((s : Int) * ((M : Int) + 1)) = (q : Int) := by rw [hqi]; exact IntWalk.i64_in _ (by omega)
      have hw3 : IntKind.i64.wrap ((q : Int) + (y : Int)) = (q : Int) + (y : Int) := IntWalk.i64_in _ (by omega)
      have HQ := Lib.hid hq
      clear hq hqi
      go_wp2
      go_roundw
      case rel => exact ⟨k + 1, by omega, by go_num, by rw [HN.out, HQ.out]; simp, hB, hK⟩
      case measure => simp [intOf]; omega
    · obtain rfl : k = ds.length := by omega
      go_wp2
      go_ret
      exact ⟨ret_int (by rw [List.take_length]), hB.out⟩
end Go.Proofs.YtciknejchglmoaaDoor

namespace Go.Proofs.YtciknejchglmoaaDoor
open Go.RowKit

theorem gamma_same (v : Nat) (w : World) (hv : v ≤ 1000000) :
    Calls Tryd.prog 93 #[.int .i64 (v : Int)] w fun e w' => e = .returned (.int .i64 ((2 * Nat.log2 v + 1 : Nat) : Int)) ∧ w' = w :=
  (gamma_any v w hv).mono fun _ _ ⟨h1, h2⟩ => ⟨h1, h2.symm⟩
theorem besB_length (b : Nat) (v : Int) : (besB b v).length = if v = 0 then 0 else if escpB b v = true then 1 + (2 * Nat.log2 (v.natAbs - mostB b + 1) + 1) else 1 := by
  unfold besB
  split
  · rfl
  · split
    · rw [List.length_cons, gamB_length]; omega
    · rfl

set_option maxHeartbeats 2000000 in
theorem beside_any (b : Nat) (v : Int) (w : World) (hv : -1023 ≤ v ∧ v ≤ 1023) :
    Calls Tryd.prog 73 #[.agg (formC b), .int .i64 v] w fun e w' => e = .returned (.int .i64 ((besB b v).length : Int)) ∧ Below w.heap.size w w' := by
  have hm := mostB_le b
  have HL := Lib.hid (besB_length b v)
  have HP := Lib.hid (show escpB b v = (escB b && decide (mostB b ≤ v.natAbs)) from rfl)
  have hba := Lib.hid (below_alloc (Below.refl w.heap.size w) (.cells (formC b) 71))
  have HZ := Lib.hid (fun W => size_same v W (by omega))
  have hzb : v.natAbs ≤ 1023 := by omega
  have h00 : v.natAbs = 0 → v = 0 := fun h => by omega
  unfold formC at hba ⊢
  generalize (besB b v).length = L at *
  generalize escpB b v = P at *
  generalize hD : dimB b = D at *
  generalize hM : mostB b = M at *
  generalize hE : escB b = E at *
  generalize hz : v.natAbs = z at *
  obtain ⟨g, hg⟩ : ∃ g, w.heap.size = g := ⟨_, rfl⟩
  have hB0 : Blk (w.alloc (.cells (#[.int .i64 (D : Int), .int .i64 (M : Int), .bool E]) 71)) g #[.int .i64 (D : Int), .int .i64 (M : Int), .bool E] 71 := by rw [← hg]; exact heap_alloc_new w _
  have k1 := hB0.cell 1 rfl
  have k2 := hB0.cell 2 rfl
  clear hD hM hE hB0
  by_cases h0 : v = 0
  · have HX := Lib.hid (show L = 0 by rw [HL.out, if_pos h0])
    subst h0
    go_enter Tryd.func73, Tryd.ntmps73
    go_wp2
    go_ret
    exact ⟨ret_int (by rw [HX.out]; rfl), hg ▸ hba.out⟩
  · have hx0 : L = if P = true then 1 + (2 * Nat.log2 (z - M + 1) + 1) else 1 := by rw [HL.out, if_neg h0]
    have hv0 : (v == 0) = false := by simp [h0]
    clear h0 h00 hz
    rw [HP.out] at hx0
    cases E
    · have HX := Lib.hid (show L = 1 by rw [hx0]; rfl)
      clear hx0
      go_enter Tryd.func73, Tryd.ntmps73
      go_wp2
      go_quiet ((go_at_call 67; exact Calls.quiet_of_same (HZ.out _)))
      go_wp2
      go_ret
      exact ⟨ret_int (by rw [HX.out]; rfl), below_drewN hba.out _⟩
    · by_cases h1 : M ≤ z
      · have d1 : decide (M ≤ z) = true := decide_eq_true h1
        have HX := Lib.hid (show L = 1 + (2 * Nat.log2 (z - M + 1) + 1) by rw [hx0, d1]; rfl)
        have hw1 : IntKind.i64.wrap ((z : Int) - (M : Int)) = ((z - M : Nat) : Int) := by rw [Int.ofNat_sub h1]; exact IntWalk.i64_in _ (by omega)
        have hw2 : IntKind.i64.wrap (((z - M : Nat) : Int) + 1) = ((z - M + 1 : Nat) : Int) := by rw [Int.natCast_succ]; exact IntWalk.i64_in _ (by omega)
        have HG := Lib.hid (fun W => gamma_same (z - M + 1) W (by omega))
        have hlb := log2_le (v := z - M + 1) (n := 20) (by omega)
        generalize Nat.log2 (z - M + 1) = y at HX HG hlb
        obtain ⟨q, hq⟩ : ∃ q, z - M = q := ⟨_, rfl⟩
        rw [hq] at hw1 hw2 HG
        obtain ⟨q1, hq1⟩ : ∃ q1, q + 1 = q1 := ⟨_, rfl⟩
        rw [hq1] at hw2 HG
        obtain ⟨y1, hy1⟩ : ∃ y1, 2 * y + 1 = y1 := ⟨_, rfl⟩
        rw [hy1] at HG HX
        have hw3 : IntKind.i64.wrap (1 + (y1 : Int)) = ((1 + y1 : Nat) : Int) := by rw [Int.natCast_add]; exact IntWalk.i64_in _ (by omega)
        clear hx0 hq hq1 hy1
        go_enter Tryd.func73, Tryd.ntmps73
        go_wp2
        go_quiet ((go_at_call 67; exact Calls.quiet_of_same (HZ.out _)))
        go_wp2
        obtain ⟨W1, hW1⟩ : ∃ W1, (w.alloc (.cells (#[.int .i64 (D : Int), .int .i64 (M : Int), .bool true]) 71)).drewN nq = W1 := ⟨_, rfl⟩
        have k1' : W1.cell? ⟨g, 1, none⟩ = some (.int .i64 M) := by rw [← hW1]; exact k1
        have hb1 : Below w.heap.size w W1 := by rw [← hW1]; exact below_drewN hba.out _
        simp only [hW1]
        clear hW1 k1 k2 hba
        go_quiet ((first | (go_at_call 67; exact Calls.quiet_of_same (HZ.out _)) | (go_at_call 93; exact Calls.quiet_of_same (HG.out _))))
        go_wp2
        go_ret
        exact ⟨ret_int (by rw [HX.out]; omega), below_drewN hb1 _⟩
      · have d1 : decide (M ≤ z) = false := decide_eq_false h1
        have HX := Lib.hid (show L = 1 by rw [hx0, d1]; rfl)
        clear hx0
        go_enter Tryd.func73, Tryd.ntmps73
        go_wp2
        go_quiet ((go_at_call 67; exact Calls.quiet_of_same (HZ.out _)))
        go_wp2
        go_ret
        exact ⟨ret_int (by rw [HX.out]; rfl), below_drewN hba.out _⟩

/-- What digits returns: the closure over a form. -/
theorem digits_any (b : Nat) (w : World) :
    Calls Tryd.prog 85 #[.agg (formC b)] w fun e w' => e = .returned (.func (.func 106) #[] #[.pointer (some ⟨w.heap.size, 0, none⟩)]) ∧ Blk w' w.heap.size (formC b) 71 ∧ Below w.heap.size w w' := by
  unfold formC
  go_enter Tryd.func85, Tryd.ntmps85
  go_wp2
  go_ret
  exact ⟨rfl, heap_alloc_new w _, below_alloc (Below.refl _ _) _⟩
set_option maxHeartbeats 1000000 in
theorem digits1_any (b g : Nat) (v : Int) (w : World) (hB : Blk w g (formC b) 71) (hv : -1023 ≤ v ∧ v ≤ 1023) :
    Calls Tryd.prog 106 #[.int .i64 v, .pointer (some ⟨g, 0, none⟩)] w fun e w' => e = .returned (.int .i64 (digB b v : Int)) ∧ Below w.heap.size w w' := by
  have hm := mostB_le b
  have k1 : w.cell? ⟨g, 1, none⟩ = some (.int .i64 (mostB b : Int)) := hB.cell 1 rfl
  have HD := Lib.hid (show digB b v = min v.natAbs (mostB b) from rfl)
  have HZ := Lib.hid (fun W => size_same v W (by omega))
  generalize digB b v = d at *
  generalize mostB b = M at *
  generalize v.natAbs = z at *
  go_enter Tryd.func106, Tryd.ntmps106
  go_wp2
  go_quiet ((go_at_call 67; exact Calls.quiet_of_same (HZ.out _)))
  go_wp2
  all_goals
    go_ret
    exact ⟨ret_int (by rw [HD.out]; omega), below_drewN (Below.refl _ _) _⟩
end Go.Proofs.YtciknejchglmoaaDoor

namespace Go.Proofs.YtciknejchglmoaaDoor
open Go.RowKit

def digsB (b : Nat) (g : List Int) : List Int := g.map fun v => (digB b v : Int)
theorem symG_symD (b : Nat) (g : List Int) : symG b g = symD (mostB b) (digsB b g) := by
  unfold symG symD digsB
  rw [List.foldl_map]
  simp
theorem digsB_length (b : Nat) (g : List Int) : (digsB b g).length = g.length := by simp [digsB]
theorem digsB_in (b : Nat) (g : List Int) : ∀ d ∈ digsB b g, 0 ≤ d ∧ d ≤ (mostB b : Int) := by
  intro d hd
  obtain ⟨v, _, rfl⟩ := List.mem_map.1 hd
  have : digB b v ≤ mostB b := Nat.min_le_right _ _
  omega
theorem digsB_take (b : Nat) (g : List Int) (k : Nat) (h : k < g.length) : (digsB b g).take (k + 1) = (digsB b g).take k ++ [(digB b (nth 0 g k) : Int)] := by
  have e : nth 0 (digsB b g) k = (digB b (nth 0 g k) : Int) := by
    rw [nth_eq 0 _ k (by rw [digsB_length]; exact h), nth_eq 0 g k h]; simp [digsB]
  rw [take_succ_nth 0 _ k (by rw [digsB_length]; exact h), e]

set_option maxHeartbeats 2000000 in
set_option maxRecDepth 100000 in
theorem symbolOf_any (A : Option Addr) (c b : Nat) (l : List Int) (w : World) (hS : RI w A c l) (hq : ∀ v ∈ l, -1023 ≤ v ∧ v ≤ 1023) (h4 : l.length ≤ 4) :
    Calls Tryd.prog 65 #[.agg (formC b), .slice A l.length c] w fun e w' => e = .returned (.int .i64 (symG b l)) ∧ Below w.heap.size w w' := by
  have hn := hS.len
  have HS := Lib.hid hS
  have HQ := Lib.hid (fun k => nth_bound hq (by decide) k)
  have HG := Lib.hid (symG_symD b l)
  have HT := Lib.hid (digsB_take b l)
  have HD := Lib.hid (fun W => (digits_any b W).mono (R' := fun e w' => ∃ g2, e = .returned (.func (.func 106) #[] #[.pointer (some ⟨g2, 0, none⟩)]) ∧ Blk w' g2 (formC b) 71 ∧ Below W.heap.size W w') fun _ _ h => ⟨_, h⟩)
  have HY := Lib.hid (fun A' c' W (hW : RI W A' c' (digsB b l)) => symbol_any A' c' b (digsB b l) W hW (digsB_in b l) (by rw [digsB_length]; exact h4))
  have HL := Lib.hid (digsB_length b l)
  have HM := Lib.hid (fun g v W (hB : Blk W g (formC b) 71) (hv : -1023 ≤ v ∧ v ≤ 1023) => digits1_any b g v W hB hv)
  have hba := below_alloc (Below.refl w.heap.size w) (.cells (formC b) 71)
  obtain ⟨g, hg⟩ : ∃ g, w.heap.size = g := ⟨_, rfl⟩
  have hB0 : Blk (w.alloc (.cells (formC b) 71)) g (formC b) 71 := by rw [← hg]; exact heap_alloc_new w _
  have k0 : (w.alloc (.cells (formC b) 71)).cell? ⟨g, 0, none⟩ = some (.int .i64 (dimB b : Int)) := hB0.cell 0 rfl
  have k1 : (w.alloc (.cells (formC b) 71)).cell? ⟨g, 1, none⟩ = some (.int .i64 (mostB b : Int)) := hB0.cell 1 rfl
  have k2 : (w.alloc (.cells (formC b) 71)).cell? ⟨g, 2, none⟩ = some (.bool (escB b)) := hB0.cell 2 rfl
  clear hq
  go_enter Tryd.func65, Tryd.ntmps65
  go_wp2_with (first | (go_at_call 85; refine (HD.out _).mono ?_; rintro e W1 ⟨g2, rfl, hB1, b1⟩))
  have hBf := hB0.below b1
  have HW := Lib.hid (show Below w.heap.size w W1 from below2 hba b1)
  have HF := Lib.hid (show Blk W1 g2 (formC b) 71 ∧ Blk W1 g (formC b) 71 from ⟨hB1, hBf⟩)
  clear k0 k1 k2 hB0 hba HD b1 hB1 hBf
  go_loopw [6, 13] (fun sv iv wr => ∃ k : Nat, k ≤ l.length ∧ iv = .int .i64 (k : Int) ∧ Hid (OwnI 3 .i64 W1.heap.size wr sv ((digsB b l).take k)) ∧ Below W1.heap.size W1 wr) (fun _ iv _ => l.length - (intOf iv).toNat)
  case atStart => exact ⟨0, Nat.zero_le _, rfl, Lib.hid (OwnI.nil _ _ _ _), Below.refl _ _⟩
  case round =>
    obtain ⟨k, hk, rfl, hO, hB⟩ := hrel
    by_cases hlt : k < l.length
    · obtain ⟨ad, rfl, hc⟩ := rd_int ((HS.out.below HW.out).below hB) k hlt
      have hki : (k : Int) < (l.length : Int) := by omega
      have HN := Lib.hid (HT.out k hlt)
      have HX := Lib.hid (HQ.out k)
      generalize nth 0 l k = x at hc HN HX
      have hwk : IntKind.i64.wrap ((k : Int) + 1) = (k : Int) + 1 := IntWalk.i64_in _ (by omega)
      have hlk : ((digsB b l).take k).length ≤ 4 := by rw [List.length_take]; have := HL.out; omega
      go_wp2_with (first
        | (go_at_call 106; refine (HM.out g2 x _ (HF.out.1.below hB) HX.out).mono ?_; rintro e w2 ⟨rfl, b2⟩)
        | (at_builtin; (refine append_one (w0 := W1) W1.heap.size rfl (.tmp 17) (.tmp 21) 25 3 .i64 8 rfl Tryd.underlying25 infoI (by decide) _ ((digsB b l).take k) (digB b x : Int) rfl rfl (hO.out.below b2) (below2 hB b2) (Nat.le_trans hB.size b2.size) (by omega) ?_); intro v1 w4 hO4 hB4 _ _; have HO4 := Lib.hid hO4; clear hO4))
      go_roundw
      case rel => exact ⟨k + 1, by omega, by go_num, by rw [HN.out]; exact HO4, hB4⟩
      case measure => simp [intOf]; omega
    · obtain rfl : k = l.length := by omega
      have HT2 := Lib.hid (show (digsB b l).take l.length = digsB b l from List.take_of_length_le (by rw [HL.out]; exact Nat.le_refl _))
      rw [HT2.out] at hO
      obtain ⟨A2, c2, rfl⟩ := hO.out.slice
      have hR := own_sl hO.out
      have hf := HF.out.2.below hB
      have k0 : wr.cell? ⟨g, 0, none⟩ = some (.int .i64 (dimB b : Int)) := hf.cell 0 rfl
      have k1 : wr.cell? ⟨g, 1, none⟩ = some (.int .i64 (mostB b : Int)) := hf.cell 1 rfl
      have k2 : wr.cell? ⟨g, 2, none⟩ = some (.bool (escB b)) := hf.cell 2 rfl
      go_wp2_with (first | (go_at_call 86; refine (HY.out A2 c2 _ hR).mono ?_; rintro e w3 ⟨rfl, b3⟩))
      go_ret
      exact ⟨ret_int (by rw [HG.out]), below2 (below2 HW.out hB) b3⟩
end Go.Proofs.YtciknejchglmoaaDoor

namespace Go.Proofs.YtciknejchglmoaaDoor
open Go.RowKit
section
variable {P : Program} (t e : TypeId) {i : TypeInfo} (ht : P.underlying t = some (.slice e)) (hi : P.info? e = some i) (A : Option Addr) (n c : Nat)
include ht hi
/-- 'xs[:hi]'. -/
theorem cut_to (hi' : Nat) (h2 : hi' ≤ n) (hnc : n ≤ c) :
    ∃ A' : Option Addr, (∀ W : World, (Instr.slice t (.slice A n c) none (some (.int .i64 (hi' : Int))) none).run P W = .ok (.slice A' hi' c) W) ∧
      ∀ {α : Type} (k : Kd α) (ok : Nat → Prop) (w : World) (xs : List α), k.size = i.size → xs.length = n → Sl k ok w A c xs → Sl k ok w A' c (xs.take hi') := by
  refine ⟨if c = 0 then A else A.map (·.add (0 * i.size)), fun W => ?_, fun k ok w xs hk hx h => ?_⟩
  · have hel : P.elem t = e := by simp [Program.elem, ht]
    have hu : P.underlying t = some (.slice (P.elem t)) := by rw [hel]; exact ht
    rw [run_slice_h W t A n c hu .i64 (hi' : Int) (Int.natCast_nonneg _) (by omega), hel]
    simp [sizeOf, typeInfo, hi, sliced, Result.andThen]
  · refine ⟨by rw [List.length_take]; have := h.le; omega, h.cap, ?_⟩
    by_cases hc : c = 0
    · have : xs.take hi' = [] := List.eq_nil_of_length_eq_zero (by rw [List.length_take]; omega)
      rw [this]
      exact Kd.Rd.nil _ _ _ _
    · rw [if_neg hc, ← hk]
      have := (h.rd.take hi').drop 0
      rwa [List.drop_zero] at this
end
/-- 'xs[m:]' as a rule for the walk, and what it reads as. -/
theorem cut_from {P : Program} (t e : TypeId) {i : TypeInfo} (ht : P.underlying t = some (.slice e)) (hi : P.info? e = some i) (A : Option Addr) (n c m : Nat) (hm : m ≤ n) :
    ∃ A' : Option Addr, (∀ W : World, (Instr.slice t (.slice A n c) (some (.int .i64 (m : Int))) none none).run P W = .ok (.slice A' (n - m) (c - m)) W) ∧
      ∀ {α : Type} (k : Kd α) (ok : Nat → Prop) (w : World) (xs : List α), k.size = i.size → xs.length = n → Sl k ok w A c xs → Sl k ok w A' (c - m) (xs.drop m) := by
  refine ⟨if c = m then A else A.map (·.add (m * i.size)), fun W => ?_, fun k ok w xs hk hx h => ?_⟩
  · have hel : P.elem t = e := by simp [Program.elem, ht]
    have hu : P.underlying t = some (.slice (P.elem t)) := by rw [hel]; exact ht
    rw [run_slice_l W t A n c hu .i64 (m : Int) (Int.natCast_nonneg _) (by omega), hel]
    simp [sizeOf, typeInfo, hi, sliced, Result.andThen]
  · refine ⟨by rw [List.length_drop]; have := h.le; omega, by have := h.cap; omega, ?_⟩
    by_cases hc : c = m
    · have : xs.drop m = [] := List.drop_of_length_le (by have := h.le; omega)
      rw [this]
      exact Kd.Rd.nil _ _ _ _
    · rw [if_neg hc, ← hk]
      exact h.rd.drop m
theorem info_parts' {P : Program} {e : TypeId} {z : Option Value} {s b : Nat} (h : (P.info? e).map (fun i => (i.zero, i.size, i.bytes)) = some (z, s, b)) : ∃ i0, P.info? e = some i0 ∧ i0.zero = z ∧ i0.size = s ∧ i0.bytes = b := by
  obtain ⟨i0, hi, hzz⟩ := Option.map_eq_some_iff.1 h
  simp only [Prod.mk.injEq] at hzz
  exact ⟨i0, hi, hzz⟩
end Go.Proofs.YtciknejchglmoaaDoor

namespace Go.Proofs.YtciknejchglmoaaDoor
open Go.RowKit
attribute [local go_sem] Oper.semAt_some

/-- 'xs[lo:hi:hi]' of a part that is not empty, with its address. -/
theorem cut_grp (lo d n c : Nat) (ad : Addr) (hd : 1 ≤ d) (h2 : lo + d ≤ n) (hnc : n ≤ c) (W : World) :
    (Instr.slice 25 (.slice (some ad) n c) (some (.int .i64 (lo : Int))) (some (.int .i64 ((lo + d : Nat) : Int))) (some (.int .i64 ((lo + d : Nat) : Int)))).run Tryd.prog W = .ok (.slice (some (ad.add lo)) d d) W := by
  obtain ⟨i, hi, hz⟩ := Option.map_eq_some_iff.1 infoI
  have hel : Tryd.prog.elem 25 = 3 := by simp [Program.elem, Tryd.underlying25]
  have hu : Tryd.prog.underlying 25 = some (.slice (Tryd.prog.elem 25)) := by rw [hel]; exact Tryd.underlying25
  have h1 : i.size = 1 := by simp at hz; exact hz.2.1
  rw [run_slice_lhm W 25 (some ad) n c hu .i64 .i64 .i64 (lo : Int) ((lo + d : Nat) : Int) ((lo + d : Nat) : Int) (Int.natCast_nonneg _) (by omega) (Int.le_refl _) (by omega), hel]
  have e1 : ¬ (lo + d = lo) := by omega
  have e2 : lo + d - lo = d := by omega
  simp [sizeOf, typeInfo, hi, sliced, Result.andThen, h1]
  omega
theorem grp_sl {α : Type} {k : Kd α} {ok : Nat → Prop} {w : World} {ad : Addr} {c : Nat} {xs : List α} (h : Sl k ok w (some ad) c xs) (lo d : Nat) (h2 : lo + d ≤ xs.length) : Sl k ok w (some (ad.add (lo * k.size))) d ((xs.take (lo + d)).drop lo) := by
  refine ⟨by rw [List.length_drop, List.length_take]; omega, by have := h.cap; have := h.le; omega, ?_⟩
  exact (h.rd.take (lo + d)).drop lo

set_option maxHeartbeats 1000000 in
theorem groups_any (A : Option Addr) (c n b : Nat) (w : World) :
    Calls Tryd.prog 64 #[.agg (formC b), .slice A n c] w fun e w' => ∃ g1 g2, e = .returned (.func (.func 84) #[] #[.pointer (some ⟨g1, 0, none⟩), .pointer (some ⟨g2, 0, none⟩)]) ∧ Hid (g1 = w.heap.size) ∧ Hid (g2 = g1 + 1) ∧ Hid (w'.heap.size = g2 + 1) ∧ Blk w' g1 (formC b) 71 ∧ Blk w' g2 #[.slice A n c] 25 ∧ Below w.heap.size w w' := by
  have h1 : Blk (w.alloc (.cells (formC b) 71)) w.heap.size (formC b) 71 := heap_alloc_new w _
  have h2 := h1.below (below_alloc (Below.refl _ _) (.cells #[.slice A n c] 25))
  have h3 : Blk ((w.alloc (.cells (formC b) 71)).alloc (.cells #[.slice A n c] 25)) (w.alloc (.cells (formC b) 71)).heap.size #[.slice A n c] 25 := heap_alloc_new _ _
  have h4 := below_alloc (below_alloc (Below.refl w.heap.size w) (.cells (formC b) 71)) (.cells #[.slice A n c] 25)
  have h5 : (w.alloc (.cells (formC b) 71)).heap.size = w.heap.size + 1 := by simp
  rw [h5] at h3
  go_enter Tryd.func64, Tryd.ntmps64
  go_wp2
  go_ret
  exact ⟨_, _, rfl, Lib.hid rfl, Lib.hid (by simp), Lib.hid (by simp), h2, h3, h4⟩

/-- What comes next. -/
def NextG (q : Nat) (pre : List Nat) (x : Nat) : Prop := x < q ∧ pre = List.range x
/-- A group as a value. -/
def grpV (A : Option Addr) (d j : Nat) : Value := .slice (A.map fun ad => ad.add (j * d)) d d

set_option maxHeartbeats 2000000 in
set_option maxRecDepth 100000 in
theorem groups1_yields (g1 g2 b : Nat) (A : Option Addr) (c : Nat) (l : List Int) (w : World) (ok : Nat → Prop) (hS : RI w A c l) (hF : Blk w g1 (formC b) 71) (hB : Blk w g2 #[.slice A l.length c] 25) (ok1 : ok g1) (ok2 : ok g2) (n : Nat) (hn : 1 ≤ n) (hlm : l.length ≤ 100000000) :
    YieldsN Fence.wide n Tryd.prog 84 #[.pointer (some ⟨g1, 0, none⟩), .pointer (some ⟨g2, 0, none⟩)] (fun x : Nat => #[grpV A (dimB b) x]) ok (fun _ => False) (fun xs => xs = List.range (l.length / dimB b)) (fun _ => True) (NextG (l.length / dimB b)) w := by
  intro y J Jx W hW hJ hJx hY h0
  have hBW := hB.below hW
  have hFW := hF.below hW
  have hlen := hS.len
  have hle := hS.le
  have hd := dimB_pos b
  have HA : Hid (0 < l.length → ∃ ad, A = some ad) := Lib.hid fun h => by
    obtain ⟨ad, h1, _⟩ := rd_int hS 0 h
    exact ⟨ad, h1⟩
  refine callsIn_of_wp Tryd.func84 rfl trivial ?_ rfl
  simp only [Tryd.ntmps84, List.size_toArray, List.length_cons, List.length_nil, Nat.reduceAdd, Nat.reduceSub, Array.replicate_succ, Array.replicate_zero, List.push_toArray, List.append_toArray, List.nil_append, List.cons_append]
  gi_wp2
  have H0 : Hid (J (List.range 0) W) := Lib.hid h0
  have HY := Lib.hid hY
  clear h0 hY
  have HD := Lib.hid hd
  obtain ⟨D, hD⟩ : ∃ D, dimB b = D := ⟨_, rfl⟩
  obtain ⟨q, hq⟩ : ∃ q, l.length / dimB b = q := ⟨_, rfl⟩
  simp only [hD] at hd
  rw [hq] at HY
  rw [hD] at HY
  have HQ : Hid (∀ j, j < q → j * D + D ≤ l.length) := Lib.hid fun j h => by rw [← hD]; exact grp_in (by rw [hq]; exact h)
  have HQ2 : Hid (∀ j, ¬ j < q → j * D + D > l.length) := Lib.hid fun j h => by
    have h1 : q + 1 ≤ j + 1 := by omega
    have h2 := Nat.mul_le_mul_right D h1
    have h3 : l.length < (q + 1) * D := by rw [← hq, ← hD, Nat.add_mul, Nat.one_mul, Nat.mul_comm]; have := Nat.div_add_mod l.length (dimB b); have := Nat.mod_lt l.length (show 0 < dimB b by omega); omega
    simp only [Nat.add_mul, Nat.one_mul] at h2 h3
    omega
  have HQ3 : Hid (q ≤ l.length) := Lib.hid (by rw [← hq]; exact Nat.div_le_self _ _)
  gi_loopw [4] (fun iv wr => ∃ j : Nat, j ≤ q ∧ iv = .int .i64 ((j * D : Nat) : Int) ∧ Hid (J (List.range j) wr) ∧ Keep ok W wr) (fun iv _ => l.length + 4 - (intOf iv).toNat)
  case atStart => exact ⟨0, Nat.zero_le _, by simp, H0, Keep.refl _ _⟩
  case round =>
    clear H0
    obtain ⟨j, hj, rfl, HJ, hkp⟩ := hrel
    have kf : wr.cell? ⟨g1, 0, none⟩ = some (.int .i64 (D : Int)) := by rw [← hD]; exact (hFW.keep hkp ok1).cell 0 rfl
    have kb : wr.cell? ⟨g2, 0, none⟩ = some (.slice A l.length c) := (hBW.keep hkp ok2).cell 0 rfl
    have HM : Hid ((j + 1) * D = j * D + D) := Lib.hid (by rw [Nat.add_mul, Nat.one_mul])
    by_cases hlt : j < q
    · have hle2 := HQ.out j hlt
      obtain ⟨ad, rfl⟩ := HA.out (by omega)
      obtain ⟨fn, tmps, assign, body, hy, hRd⟩ := HY.out (List.range j) j _ HJ.out ⟨hlt, rfl⟩
      replace hy : (Instr.yield y #[.slice (some (ad.add (j * D))) D D]).run Tryd.prog wr = .ok (.round y fn tmps assign body) wr := hy
      obtain ⟨p, hp⟩ : ∃ p, j * D = p := ⟨_, rfl⟩
      rw [hp] at hle2 hy HM ⊢
      have hcut := fun W => cut_grp p D l.length c ad (by omega) hle2 hle W
      have hwp : IntKind.i64.wrap ((p : Int) + (D : Int)) = ((p + D : Nat) : Int) := by rw [Int.natCast_add]; exact IntWalk.i64_in _ (by omega)
      obtain ⟨s, hs⟩ : ∃ s, p + D = s := ⟨_, rfl⟩
      rw [hs] at hcut hwp hle2 HM
      have hsi : (s : Int) ≤ (l.length : Int) := by omega
      have HS' := Lib.hid (show p + D = s from hs)
      clear hs hp
      gi_wp2
      refine hRd.mono ?_
      rintro e W3 (⟨rfl, hJ3, hk3⟩ | ⟨rfl, hJx3⟩)
      · have kf3 : W3.cell? ⟨g1, 0, none⟩ = some (.int .i64 (D : Int)) := by rw [← hD]; exact (hFW.keep (hkp.trans hk3) ok1).cell 0 rfl
        gi_wp2
        go_roundw
        case rel => exact ⟨j + 1, by omega, by rw [HM.out], by rw [List.range_succ]; exact Lib.hid hJ3, hkp.trans hk3⟩
        case measure => have := HS'.out; simp [intOf]; omega
      · gi_wp2
        refine bodyPost_ret (results_none rfl _ _ _) rfl ?_
        exact ⟨⟨_, rfl⟩, .inr ⟨_, trivial, hJx3⟩⟩
    · obtain rfl : j = q := by omega
      have h2 := HQ2.out j hlt
      have h3 := HQ3.out
      have h4 : j * D ≤ l.length := by rw [← hq, ← hD]; exact Nat.div_mul_le_self _ _
      obtain ⟨p, hp⟩ : ∃ p, j * D = p := ⟨_, rfl⟩
      rw [hp] at h2 h4 ⊢
      have hwp : IntKind.i64.wrap ((p : Int) + (D : Int)) = ((p + D : Nat) : Int) := by rw [Int.natCast_add]; exact IntWalk.i64_in _ (by omega)
      obtain ⟨s, hs⟩ : ∃ s, p + D = s := ⟨_, rfl⟩
      rw [hs] at hwp
      have hsi : ¬ (s : Int) ≤ (l.length : Int) := by omega
      clear hs hp
      gi_wp2
      go_end0
      exact ⟨⟨_, rfl⟩, .inl (by rw [← hD, hq]; exact HJ.out)⟩
end Go.Proofs.YtciknejchglmoaaDoor

namespace Go.Proofs.YtciknejchglmoaaDoor
open Go.ChangeShapes Go.WideShapes Go.ChangeAt Go.WideMaps Go.WideElems Go.RowKit Go.Deep

theorem own : ownKnob Tryd.prog.godebug = none := by kernel_rfl
theorem sl_cells {α : Type} (k : Kd α) (h1 : k.size = 1) {w : World} {a : Addr} {c : Nat} {xs : List α} (V : Nat → Value) (hle : xs.length ≤ c) (hc : c ≤ maxLen) (hcell : ∀ i, i < xs.length → w.cell? (a.add i) = some (V i)) (hK : ∀ i, i < xs.length → k.K AnyB w (nth k.dflt xs i) [V i]) :
    Sl k AnyB w (some a) c xs := by
  refine ⟨hle, by simpa [maxLen] using hc, fun j hj => ?_⟩
  have hcj := hcell j hj
  refine ⟨a, [V j], rfl, trivial, by have := World.block_lt_of_cell? w _ hcj; rwa [add_block] at this, hK j hj, fun i v hv => ?_⟩
  have hi : i = 0 := by
    rcases Nat.eq_zero_or_pos i with h | h
    · exact h
    · rw [List.getElem?_eq_none (by simp; omega)] at hv; cases hv
  subst hi
  injection hv with hv
  rw [h1, Nat.mul_one, Nat.add_zero, ← hv]
  exact hcj

section
variable {H : Type} {enc : TypeId × Value → H} {W : World}
/-- A []int. -/
theorem open_I {fuel : Nat} {v : Value} {x : DataW H × List MemPlace} (h : DataW.trod enc Tryd.prog W 0 (fun _ => true) true fuel 25 [v] = some x) :
    ∃ A c xs, v = .slice A xs.length c ∧ RI W A c xs ∧ ((∀ n ∈ x.1.weights Tryd.prog 25, n ≤ reachBytes) → xs.length ≤ 140737488355328) := by
  rcases open_ints Tryd.underlying25 Tryd.underlying3 (by kernel_rfl) h with ⟨hcs, _⟩ | ⟨a, len, cap, zs, hcs, _, hl, hm, hz, hx, hcell, _⟩
  · injection hcs with hv _
    exact ⟨none, 0, [], hv, ⟨Nat.le_refl _, by omega, Kd.Rd.nil _ _ _ _⟩, fun _ => by simp⟩
  · injection hcs with hv _
    have hz' : zs.length = cap := by simpa using hz
    have hlen : (zs.take len).length = len := by rw [List.length_take]; omega
    refine ⟨some a, cap, zs.take len, by rw [hlen]; exact hv, sl_cells (kInt .i64) rfl (fun i => .int .i64 (nth 0 zs i)) (by rw [hlen]; exact hl) hm (fun i hi => ?_) (fun i hi => ?_), fun hw => ?_⟩
    · rw [hlen] at hi
      rw [hcell i (by omega)]
      rfl
    · rw [hlen] at hi
      show [Value.int .i64 (nth 0 zs i)] = [.int .i64 (nth 0 (zs.take len) i)]
      rw [nth_take _ _ _ _ hi]
    · rw [hlen]
      have hb : Tryd.prog.bytesOf 3 = 8 := by kernel_rfl
      have := hw ((zs.take len).length * 8 + (zs.drop len).length * 8) (by rw [hx]; simp [DataW.weights, Tryd.underlying25, hb, lits, Nat.add_mul])
      have hr : reachBytes = 140737488351232 := rfl
      rw [hlen] at this
      omega

/-- A []byte. -/
theorem open_Y {fuel : Nat} {v : Value} {x : DataW H × List MemPlace} (h : DataW.trod enc Tryd.prog W 0 (fun _ => true) true fuel 38 [v] = some x) :
    ∃ A c xs, v = .slice A xs.length c ∧ RY W A c xs ∧ (∀ x ∈ xs, 0 ≤ x ∧ x < 256) ∧ ((∀ n ∈ x.1.weights Tryd.prog 38, n ≤ reachBytes) → xs.length ≤ 140737488355328) := by
  rcases open_ints Tryd.underlying38 Tryd.underlying5 (by kernel_rfl) h with ⟨hcs, _⟩ | ⟨a, len, cap, zs, hcs, _, hl, hm, hz, hx, hcell, hwf⟩
  · injection hcs with hv _
    exact ⟨none, 0, [], hv, ⟨Nat.le_refl _, by omega, Kd.Rd.nil _ _ _ _⟩, (fun x hx => by cases hx), fun _ => by simp⟩
  · injection hcs with hv _
    have hz' : zs.length = cap := by simpa using hz
    have hlen : (zs.take len).length = len := by rw [List.length_take]; omega
    refine ⟨some a, cap, zs.take len, by rw [hlen]; exact hv, sl_cells (kInt .u8) rfl (fun i => .int .u8 (nth 0 zs i)) (by rw [hlen]; exact hl) hm (fun i hi => ?_) (fun i hi => ?_), fun y hy => ?_, fun hw => ?_⟩
    · rw [hlen] at hi
      rw [hcell i (by omega)]
      rfl
    · rw [hlen] at hi
      show [Value.int .u8 (nth 0 zs i)] = [.int .u8 (nth 0 (zs.take len) i)]
      rw [nth_take _ _ _ _ hi]
    · have := hwf y (List.mem_of_mem_take hy)
      simp [Lit.wf, IntKind.min, IntKind.max, IntKind.signed, IntKind.bits] at this
      omega
    · rw [hlen]
      have hb : Tryd.prog.bytesOf 5 = 1 := by kernel_rfl
      have := hw ((zs.take len).length * 1 + (zs.drop len).length * 1) (by rw [hx]; simp [DataW.weights, Tryd.underlying38, hb, lits])
      have hr : reachBytes = 140737488351232 := rfl
      rw [hlen] at this
      omega
end
end Go.Proofs.YtciknejchglmoaaDoor

namespace Go.Proofs.YtciknejchglmoaaDoor
open Go.RowKit

/-- A table as text. -/
def txtK (b : Nat) : ByteArray := ⟨((tabK b).map fun k => UInt8.ofNat (k + 96)).toArray⟩
structure GT (w : World) : Prop where
  txt : ∀ b, b < 8 → w.cell? ⟨1, b, none⟩ = some (.string (txtK b))
theorem GT.below {w w' : World} (h : GT w) (hb : Below w.heap.size w w') : GT w' := ⟨fun b h8 => cell_below hb (h.txt b h8)⟩
theorem tabK_le (b k : Nat) (h8 : b < 8) (h : k < (tabK b).length) : 1 ≤ nth 0 (tabK b) k ∧ nth 0 (tabK b) k ≤ 16 := by
  rcases Nat.eq_zero_or_pos b with rfl | h1
  · exact absurd h (by simp [tabK])
  · exact tab_bound b h1 h8 (by rw [← tabK_length b h1 h8]; exact h)
theorem txtK_size (b : Nat) : (txtK b).size = (tabK b).length := by simp [txtK, ByteArray.size]
theorem txtK_at (b j : Nat) (h8 : b < 8) (h : j < (tabK b).length) : ((txtK b).data.toList.getD j 0).toNat = nth 0 (tabK b) j + 96 := by
  have h1 := tabK_le b j h8 h
  rw [nth_eq 0 _ j h] at h1 ⊢
  have e : (txtK b).data.toList = (tabK b).map fun k => UInt8.ofNat (k + 96) := by simp [txtK]
  rw [e, List.getD_eq_getElem?_getD, List.getElem?_eq_getElem (by rw [List.length_map]; exact h)]
  simp
  omega
def bytK (b : Nat) : List Int := (tabK b).map fun k => ((k + 96 : Nat) : Int)
theorem bytK_length (b : Nat) : (bytK b).length = (tabK b).length := by simp [bytK]
theorem bytK_nth (b j : Nat) (h : j < (tabK b).length) : nth 0 (bytK b) j = ((nth 0 (tabK b) j + 96 : Nat) : Int) := by
  rw [nth_eq 0 _ j (by rw [bytK_length]; exact h), nth_eq 0 _ j h]; simp [bytK]
theorem tabK_len256 (b : Nat) : (tabK b).length ≤ 256 := by
  rcases Nat.lt_or_ge b 8 with h | h
  · have : b = 0 ∨ b = 1 ∨ b = 2 ∨ b = 3 ∨ b = 4 ∨ b = 5 ∨ b = 6 ∨ b = 7 := by omega
    rcases this with rfl | rfl | rfl | rfl | rfl | rfl | rfl | rfl <;> decide +kernel
  · have e : tabK b = tabK 7 := by
      match b, h with
      | n + 8, _ => rfl
    rw [e]; decide +kernel
/-- []byte of a table. -/
theorem conv_tab (b : Nat) (h8 : b < 8) (w : World) : ∃ A c W, (convert 9 38 (.string (txtK b))).run Tryd.prog w = .ok (.slice A (tabK b).length c) W ∧ RY W A c (bytK b) ∧ Below w.heap.size w W := by
  have h := Go.Lib.run_convert_string_bytes (P := Tryd.prog) w 9 38 5 (txtK b) Tryd.underlying9 Tryd.underlying38 Tryd.underlying5
  rw [txtK_size] at h
  have hl := tabK_len256 b
  refine ⟨_, _, _, h, sl_cells (kInt .u8) rfl (fun i => .int .u8 (nth 0 (bytK b) i)) (by rw [bytK_length]; exact grownCap_ge _ _ _ _) (grownCap_le_maxLen _ _ _ _ (by simp [maxLen]; omega)) (fun i hi => ?_) (fun i hi => rfl), rfl, rfl, rfl, ?_, fun k hk => ?_⟩
  · rw [bytK_length] at hi
    have h1 := Go.Lib.bytesWorld_cell w 5 (txtK b) i (by rw [txtK_size]; exact hi)
    rw [txtK_at b i h8 hi] at h1
    rw [bytK_nth b i hi, add_plain]
    exact h1
  · rw [Go.Lib.bytesWorld_size]; omega
  · exact Go.Lib.bytesWorld_at_old w _ _ k hk

set_option maxHeartbeats 1000000 in
set_option maxRecDepth 100000 in
theorem lengths17_any (b : Nat) (w : World) (hG : GT w) (h8 : b < 8) :
    Calls Tryd.prog 43 #[.int .i64 (b : Int)] w fun e w' => ∃ v, e = .returned v ∧ OwnI 3 .i64 w.heap.size w' v (tabKI b) ∧ Below w.heap.size w w' := by
  have c0 := hG.txt b h8
  have hb8 : (b : Int) < 8 := by omega
  obtain ⟨A, c, W, hcv, hRY, hB0⟩ := conv_tab b h8 w
  have hl := tabK_len256 b
  have HB := Lib.hid (bytK_nth b)
  have HBL := Lib.hid (bytK_length b)
  have HL := Lib.hid (tabK_le b)
  have HT := Lib.hid (show ∀ k, k < (tabK b).length → (tabKI b).take (k + 1) = (tabKI b).take k ++ [((nth 0 (tabK b) k : Nat) : Int)] from fun k h => by rw [take_succ_nth 0 _ k (by unfold tabKI; rw [List.length_map]; exact h), tabKI_nth b k h])
  have HTL := Lib.hid (show (tabKI b).length = (tabK b).length by unfold tabKI; rw [List.length_map])
  have HBB := Lib.hid hB0
  have HRY := Lib.hid hRY
  clear hRY hB0
  go_enter Tryd.func43, Tryd.ntmps43
  go_wp2
  go_loopw [3, 11] (fun v i wr => ∃ k : Nat, k ≤ (tabK b).length ∧ i = .int .i64 (k : Int) ∧ Hid (OwnI 3 .i64 W.heap.size wr v ((tabKI b).take k)) ∧ Below W.heap.size W wr) (fun _ i _ => (tabK b).length - (intOf i).toNat)
  case atStart => exact ⟨0, Nat.zero_le _, rfl, Lib.hid (OwnI.nil _ _ _ _), Below.refl _ _⟩
  case round =>
    obtain ⟨k, hk, rfl, hO, hB⟩ := hrel
    by_cases hlt : k < (tabK b).length
    · obtain ⟨ad, rfl, hc⟩ := rd_int (HRY.out.below hB) k (by rw [HBL.out]; exact hlt)
      rw [HB.out k hlt] at hc
      have hki : (k : Int) < ((tabK b).length : Int) := by omega
      have HN := Lib.hid (HT.out k hlt)
      have hy := HL.out k h8 hlt
      generalize nth 0 (tabK b) k = y at hc HN hy
      have hw0 : IntKind.u8.wrap (((y + 96 : Nat) : Int) - 97) = ((y - 1 : Nat) : Int) := by
        have e : ((y + 96 : Nat) : Int) - 97 = ((y - 1 : Nat) : Int) := by omega
        rw [e]
        show ((y - 1 : Nat) : Int) % 256 = _
        omega
      obtain ⟨z, hz⟩ : ∃ z, y - 1 = z := ⟨_, rfl⟩
      obtain ⟨y2, hy2⟩ : ∃ y2, y + 96 = y2 := ⟨_, rfl⟩
      rw [hz, hy2] at hw0
      rw [hy2] at hc
      have hw1 : IntKind.i64.wrap (z : Int) = (z : Int) := IntWalk.i64_in _ (by omega)
      have ez : (z : Int) + 1 = (y : Int) := by omega
      have hw2 : IntKind.i64.wrap ((z : Int) + 1) = (y : Int) := by rw [ez]; exact IntWalk.i64_in _ (by omega)
      clear ez
      have hwk : IntKind.i64.wrap ((k : Int) + 1) = (k : Int) + 1 := IntWalk.i64_in _ (by omega)
      have hlk : ((tabKI b).take k).length ≤ 256 := by rw [List.length_take]; have := HTL.out; omega
      clear hz hy2
      go_wp2_with (at_builtin; (refine append_one (w0 := W) W.heap.size rfl (.tmp 15) (.tmp 20) 25 3 .i64 8 rfl Tryd.underlying25 infoI (by decide) _ ((tabKI b).take k) (y : Int) rfl rfl hO.out hB hB.size (by omega) ?_); intro v1 w4 hO4 hB4 _ _; have HO4 := Lib.hid hO4; clear hO4)
      go_roundw
      case rel => exact ⟨k + 1, by omega, by go_num, by rw [HN.out]; exact HO4, hB4⟩
      case measure => simp [intOf]; omega
    · obtain rfl : k = (tabK b).length := by omega
      have HT2 := Lib.hid (show (tabKI b).take (tabK b).length = tabKI b from List.take_of_length_le (by rw [HTL.out]; exact Nat.le_refl _))
      go_wp2
      go_ret
      exact ⟨_, rfl, by rw [← HT2.out]; exact hO.out.mono HBB.out.size, below2 HBB.out hB⟩
end Go.Proofs.YtciknejchglmoaaDoor

namespace Go.Proofs.YtciknejchglmoaaDoor
open Go.RowKit

/-- A book of the reference, as cells. -/
abbrev bookC (b : Nat) (A1 : Option Addr) (n1 c1 : Nat) (A2 : Option Addr) (n2 c2 : Nat) : Array Value := #[.int .i64 (dimB b), .int .i64 (mostB b), .int .i64 (fallB b), .bool (escB b), .slice A1 n1 c1, .slice A2 n2 c2]
theorem ris_any (n : Int) (w : World) : Calls Tryd.prog 41 #[.int .i64 n] w fun e w' => e = .returned (.bool (thereB n)) ∧ w = w' := by
  have h7 : decide (n < 8) = decide (n ≤ 7) := by by_cases h : n < 8 <;> simp [h] <;> omega
  by_cases h : 0 ≤ n
  · have h1 : decide (0 ≤ n) = true := decide_eq_true h
    have HB := Lib.hid (show thereB n = decide (n ≤ 7) by unfold thereB; rw [h1, h7]; rfl)
    clear h h7
    go_enter Tryd.func41, Tryd.ntmps41
    go_wp2
    go_ret
    exact ⟨ret_bool HB.out.symm, rfl⟩
  · have h1 : decide (0 ≤ n) = false := decide_eq_false h
    have HB := Lib.hid (show thereB n = false by unfold thereB; rw [h1]; rfl)
    clear h h7
    go_enter Tryd.func41, Tryd.ntmps41
    go_wp2
    go_ret
    exact ⟨ret_bool HB.out.symm, rfl⟩
theorem rabs_any (v : Int) (w : World) (hv : -1000000 ≤ v ∧ v ≤ 1000000) : Calls Tryd.prog 72 #[.int .i64 v] w fun e w' => e = .returned (.int .i64 (v.natAbs : Int)) ∧ w = w' := by
  have hw : IntKind.i64.wrap (-v) = -v := IntWalk.i64_in _ (by omega)
  go_enter Tryd.func72, Tryd.ntmps72
  go_wp2
  all_goals
    go_ret
    exact ⟨ret_int (by omega), rfl⟩
theorem rabs_same (v : Int) (w : World) (hv : -1000000 ≤ v ∧ v ≤ 1000000) : Calls Tryd.prog 72 #[.int .i64 v] w fun e w' => e = .returned (.int .i64 (v.natAbs : Int)) ∧ w' = w :=
  (rabs_any v w hv).mono fun _ _ ⟨h1, h2⟩ => ⟨h1, h2.symm⟩
set_option maxHeartbeats 1000000 in
theorem rvalues_any (A : Option Addr) (c : Nat) (l : List Int) (w : World) (hS : RI w A c l) :
    Calls Tryd.prog 48 #[.slice A l.length c] w fun e w' => e = .returned (.bool (quantB l)) ∧ w = w' := by
  have hn := hS.len
  have HQ := Lib.hid (quantB_all l)
  go_enter Tryd.func48, Tryd.ntmps48
  go_wp2
  go_loopw [7] (fun iv wr => ∃ k : Nat, k ≤ l.length ∧ iv = .int .i64 (k : Int) ∧ w = wr ∧ Hid ((l.take k).all isQ = true)) (fun iv _ => l.length - (intOf iv).toNat)
  case atStart => exact ⟨0, Nat.zero_le _, rfl, rfl, Lib.hid rfl⟩
  case round =>
    obtain ⟨k, hk, rfl, rfl, hA⟩ := hrel
    by_cases hlt : k < l.length
    · obtain ⟨ad, rfl, hc⟩ := rd_int hS k hlt
      have hki : (k : Int) < (l.length : Int) := by omega
      have HN := Lib.hid (all_take_q l isQ k hlt)
      have HNO := Lib.hid (all_no_q (p := isQ) hlt)
      generalize nth 0 l k = x at hc HN HNO
      have hwk : IntKind.i64.wrap ((k : Int) + 1) = (k : Int) + 1 := IntWalk.i64_in _ (by omega)
      by_cases h1 : x < -1023
      · have HX := Lib.hid (show isQ x = false by simp [isQ]; omega)
        go_wp2
        go_ret
        exact ⟨ret_bool (by rw [HQ.out, HNO.out HX.out]), rfl⟩
      · have d1 : decide (x < -1023) = false := decide_eq_false h1
        by_cases h2 : 1023 < x
        · have HX := Lib.hid (show isQ x = false by simp [isQ]; omega)
          have d2 : decide (1023 < x) = true := decide_eq_true h2
          clear h1 h2
          go_wp2
          go_ret
          exact ⟨ret_bool (by rw [HQ.out, HNO.out HX.out]), rfl⟩
        · have HX := Lib.hid (show isQ x = true by simp [isQ]; omega)
          have d2 : decide (1023 < x) = false := decide_eq_false h2
          clear h1 h2
          go_wp2
          go_roundw
          case rel => exact ⟨k + 1, by omega, by go_num, trivial, Lib.hid (by rw [HN.out, hA.out, HX.out]; rfl)⟩
          case measure => simp [intOf]; omega
    · obtain rfl : k = l.length := by omega
      have HT := Lib.hid (show l.all isQ = true by have := hA.out; rwa [List.take_length] at this)
      go_wp2
      go_ret
      exact ⟨ret_bool (by rw [HQ.out, HT.out]), rfl⟩

set_option maxHeartbeats 2000000 in
set_option maxRecDepth 100000 in
theorem rhas_any (A A1 A2 : Option Addr) (c n1 c1 n2 c2 b : Nat) (l : List Int) (w : World) (hS : RI w A c l) (hq : quantB l = true) :
    Calls Tryd.prog 49 #[.agg (bookC b A1 n1 c1 A2 n2 c2), .slice A l.length c] w fun e w' => e = .returned (.bool (fitB b l)) ∧ Below w.heap.size w w' := by
  have hn := hS.len
  have hd := dimB_pos b
  have hm := mostB_le b
  have HQ := Lib.hid (quantB_nth hq)
  obtain ⟨R, hR⟩ : ∃ R, l.length % dimB b = R := ⟨_, rfl⟩
  have HF := Lib.hid (show fitB b l = (l.all (inB b) && decide (R = 0)) by rw [← hR]; rfl)
  have HI := Lib.hid (show ∀ v, inB b v = (decide (v.natAbs ≤ mostB b) || escB b) from fun _ => rfl)
  have hrem : IntKind.i64.wrap ((l.length : Int).tmod (dimB b : Int)) = (R : Int) := by
    rw [Int.tmod_eq_emod_of_nonneg (by omega)]
    have h2 : l.length % dimB b < dimB b := Nat.mod_lt _ (by omega)
    rw [← Int.natCast_emod, hR]
    exact IntWalk.i64_in _ (by omega)
  have HR := Lib.hid (show (((l.length : Int) % (dimB b : Int)) == 0) = decide (R = 0) by rw [← Int.natCast_emod, hR]; exact Bool.eq_iff_iff.2 (by rw [beq_iff_eq, decide_eq_true_iff]; omega))
  have hd0 : ((dimB b : Int) == 0) = false := by simp; omega
  have hba := below_alloc (Below.refl w.heap.size w) (.cells (bookC b A1 n1 c1 A2 n2 c2) 74)
  unfold bookC at hba ⊢
  generalize hD : dimB b = D at *
  generalize hM : mostB b = M at *
  generalize hE : escB b = E at *
  generalize fallB b = F at *
  clear hq hD hM hE hR
  have HS := Lib.hid hS
  obtain ⟨g, hg⟩ : ∃ g, w.heap.size = g := ⟨_, rfl⟩
  have hB0 : Blk (w.alloc (.cells (#[.int .i64 (D : Int), .int .i64 (M : Int), .int .i64 (F : Int), .bool E, .slice A1 n1 c1, .slice A2 n2 c2]) 74)) g #[.int .i64 (D : Int), .int .i64 (M : Int), .int .i64 (F : Int), .bool E, .slice A1 n1 c1, .slice A2 n2 c2] 74 := by rw [← hg]; exact heap_alloc_new w _
  go_enter Tryd.func49, Tryd.ntmps49
  go_wp2
  go_loopw [9] (fun iv wr => ∃ k : Nat, k ≤ l.length ∧ iv = .int .i64 (k : Int) ∧ Hid (Below w.heap.size w wr) ∧ Blk wr g #[.int .i64 (D : Int), .int .i64 (M : Int), .int .i64 (F : Int), .bool E, .slice A1 n1 c1, .slice A2 n2 c2] 74 ∧ Hid ((l.take k).all (inB b) = true)) (fun iv _ => l.length - (intOf iv).toNat)
  case atStart => exact ⟨0, Nat.zero_le _, rfl, Lib.hid hba, hB0, Lib.hid rfl⟩
  case round =>
    clear hba hB0
    obtain ⟨k, hk, rfl, hB, hK, hA⟩ := hrel
    have k0 := hK.cell 0 rfl
    have k1 := hK.cell 1 rfl
    have k3 := hK.cell 3 rfl
    by_cases hlt : k < l.length
    · obtain ⟨ad, rfl, hc⟩ := rd_int (HS.out.below hB.out) k hlt
      have hki : (k : Int) < (l.length : Int) := by omega
      have HN := Lib.hid (all_take_q l (inB b) k hlt)
      have HNO := Lib.hid (all_no_q (p := inB b) hlt)
      have HX := Lib.hid (HI.out (nth 0 l k))
      have HZ := Lib.hid (HQ.out k)
      generalize nth 0 l k = x at hc HN HNO HX HZ
      have hwk : IntKind.i64.wrap ((k : Int) + 1) = (k : Int) + 1 := IntWalk.i64_in _ (by omega)
      have HC := Lib.hid (fun W => rabs_same x W (by have := HZ.out; omega))
      obtain ⟨z, hz⟩ : ∃ z, x.natAbs = z := ⟨_, rfl⟩
      rw [hz] at HC HX
      by_cases h1 : M < z
      · have h1i : (M : Int) < (z : Int) := by omega
        have HX2 := Lib.hid (show inB b x = E by rw [HX.out, decide_eq_false (by omega)]; rfl)
        clear h1
        cases E
        · go_wp2
          go_quiet ((go_at_call 72; exact Calls.quiet_of_same (HC.out _)))
          go_wp2
          go_ret
          exact ⟨ret_bool (by rw [HF.out, HNO.out HX2.out]; rfl), below_drewN hB.out _⟩
        · go_wp2
          go_quiet ((go_at_call 72; exact Calls.quiet_of_same (HC.out _)))
          go_wp2
          go_roundw
          case rel => exact ⟨k + 1, by omega, by go_num, Lib.hid (below_drewN hB.out _), hK, Lib.hid (by rw [HN.out, hA.out, HX2.out]; rfl)⟩
          case measure => simp [intOf]; omega
      · have h1i : ¬ (M : Int) < (z : Int) := by omega
        have d1 : decide (M < z) = false := decide_eq_false h1
        have HX2 := Lib.hid (show inB b x = true by rw [HX.out, decide_eq_true (by omega)]; rfl)
        clear h1
        go_wp2
        go_quiet ((go_at_call 72; exact Calls.quiet_of_same (HC.out _)))
        go_wp2
        go_roundw
        case rel => exact ⟨k + 1, by omega, by go_num, Lib.hid (below_drewN hB.out _), hK, Lib.hid (by rw [HN.out, hA.out, HX2.out]; rfl)⟩
        case measure => simp [intOf]; omega
    · obtain rfl : k = l.length := by omega
      have HT := Lib.hid (show l.all (inB b) = true by have := hA.out; rwa [List.take_length] at this)
      go_wp2
      go_ret
      exact ⟨ret_bool (by rw [HF.out, HT.out, HR.out]; rfl), hB.out⟩
end Go.Proofs.YtciknejchglmoaaDoor

namespace Go.Proofs.YtciknejchglmoaaDoor
open Go.RowKit

theorem pow_bd {m k : Nat} (hm : m ≤ 31) (hk : k ≤ 4) : (m + 1) ^ k ≤ 1048576 := by
  have h2 : (m + 1) ^ k ≤ 32 ^ k := Nat.pow_le_pow_left (by omega) _
  have h3 : 32 ^ k ≤ 32 ^ 4 := Nat.pow_le_pow_right (by decide) hk
  have h4 : 32 ^ 4 = 1048576 := by decide
  omega
set_option maxHeartbeats 1000000 in
theorem rsymbols_any (A1 A2 : Option Addr) (n1 c1 n2 c2 b : Nat) (w : World) :
    Calls Tryd.prog 88 #[.agg (bookC b A1 n1 c1 A2 n2 c2)] w fun e w' => e = .returned (.int .i64 (symsB b : Nat)) ∧ Below w.heap.size w w' := by
  have hd := dimB_pos b
  have hm := mostB_le b
  have HX := Lib.hid (show symsB b = (mostB b + 1) ^ dimB b from rfl)
  have hba := below_alloc (Below.refl w.heap.size w) (.cells (bookC b A1 n1 c1 A2 n2 c2) 74)
  unfold bookC at hba ⊢
  generalize hD : dimB b = D at *
  generalize hM : mostB b = M at *
  generalize escB b = E at *
  generalize fallB b = F at *
  obtain ⟨g, hg⟩ : ∃ g, w.heap.size = g := ⟨_, rfl⟩
  have hB0 : Blk (w.alloc (.cells (#[.int .i64 (D : Int), .int .i64 (M : Int), .int .i64 (F : Int), .bool E, .slice A1 n1 c1, .slice A2 n2 c2]) 74)) g #[.int .i64 (D : Int), .int .i64 (M : Int), .int .i64 (F : Int), .bool E, .slice A1 n1 c1, .slice A2 n2 c2] 74 := by rw [← hg]; exact heap_alloc_new w _
  have k0 := hB0.cell 0 rfl
  clear hD hM
  go_enter Tryd.func88, Tryd.ntmps88
  go_wp2
  go_loopw [3, 6] (fun sv iv wr => ∃ k : Nat, k ≤ D ∧ iv = .int .i64 (k : Int) ∧ sv = .int .i64 (((M + 1) ^ k : Nat) : Int) ∧ Hid (Below w.heap.size w wr) ∧ Blk wr g #[.int .i64 (D : Int), .int .i64 (M : Int), .int .i64 (F : Int), .bool E, .slice A1 n1 c1, .slice A2 n2 c2] 74) (fun _ iv _ => D - (intOf iv).toNat)
  case atStart => exact ⟨0, Nat.zero_le _, rfl, rfl, Lib.hid hba, hB0⟩
  case round =>
    clear hba hB0 k0
    obtain ⟨k, hk, rfl, rfl, hB, hK⟩ := hrel
    have k1 := hK.cell 1 rfl
    by_cases hlt : k < D
    · have hki : (k : Int) < (D : Int) := by omega
      have HN := Lib.hid (Nat.pow_succ (m := k) (n := M + 1))
      have hb2 := pow_bd (k := k + 1) hm (by omega)
      rw [Nat.pow_succ] at hb2
      generalize (M + 1) ^ k = s at HN hb2
      have hwk : IntKind.i64.wrap ((k : Int) + 1) = (k : Int) + 1 := IntWalk.i64_in _ (by omega)
      have hw1 : IntKind.i64.wrap ((M : Int) + 1) = (M : Int) + 1 := IntWalk.i64_in _ (by omega)
      obtain ⟨q, hq⟩ : ∃ q, s * (M + 1) = q := ⟨_, rfl⟩
      have hqi : (s : Int) * ((M : Int) + 1) = (q : Int) := by rw [← hq]; simp
      rw [hq] at hb2
      have hw2 : IntKind.i64.wrap ((s : Int) * ((M : Int) + 1)) = (q : Int) := by rw [hqi]; exact IntWalk.i64_in _ (by omega)
      have HQ := Lib.hid hq
      clear hq hqi
      go_wp2
      go_roundw
      case rel => exact ⟨k + 1, by omega, by go_num, by rw [HN.out, HQ.out], hB, hK⟩
      case measure => simp [intOf]; omega
    · obtain rfl : k = D := by omega
      go_wp2
      go_ret
      exact ⟨ret_int (by rw [HX.out]), hB.out⟩

theorem cntE_le {F : Nat} (hF : F ≤ 14) : ∀ e, 1 ≤ cntE F e ∧ cntE F e ≤ 1048576
  | 0 => ⟨by show 1 ≤ 1048576; decide, Nat.le_refl _⟩
  | e + 1 => by
    have ih := cntE_le hF e
    have h1 : cntE F e * F ≤ 1048576 * 14 := Nat.mul_le_mul ih.2 hF
    show 1 ≤ max 1 (cntE F e * F / 16) ∧ max 1 (cntE F e * F / 16) ≤ 1048576
    omega
theorem fallB_le (b : Nat) : fallB b ≤ 14 := by unfold fallB; split <;> omega
set_option maxHeartbeats 1000000 in
theorem rcount_any (A1 A2 : Option Addr) (n1 c1 n2 c2 b x : Nat) (w : World) (hx : x ≤ 1000) :
    Calls Tryd.prog 89 #[.agg (bookC b A1 n1 c1 A2 n2 c2), .int .i64 (x : Int)] w fun e w' => e = .returned (.int .i64 (cntE (fallB b) x : Nat)) ∧ Below w.heap.size w w' := by
  have hf := fallB_le b
  have HC := Lib.hid (cntE_le hf)
  have HS := Lib.hid (show ∀ e, cntE (fallB b) (e + 1) = max 1 (cntE (fallB b) e * fallB b / 16) from fun _ => rfl)
  have hba := below_alloc (Below.refl w.heap.size w) (.cells (bookC b A1 n1 c1 A2 n2 c2) 74)
  unfold bookC at hba ⊢
  generalize dimB b = D at *
  generalize mostB b = M at *
  generalize escB b = E at *
  generalize fallB b = F at *
  obtain ⟨g, hg⟩ : ∃ g, w.heap.size = g := ⟨_, rfl⟩
  have hB0 : Blk (w.alloc (.cells (#[.int .i64 (D : Int), .int .i64 (M : Int), .int .i64 (F : Int), .bool E, .slice A1 n1 c1, .slice A2 n2 c2]) 74)) g #[.int .i64 (D : Int), .int .i64 (M : Int), .int .i64 (F : Int), .bool E, .slice A1 n1 c1, .slice A2 n2 c2] 74 := by rw [← hg]; exact heap_alloc_new w _
  go_enter Tryd.func89, Tryd.ntmps89
  go_wp2
  go_loopw [5, 7] (fun sv iv wr => ∃ k : Nat, k ≤ x ∧ iv = .int .i64 (k : Int) ∧ sv = .int .i64 ((cntE F k : Nat) : Int) ∧ Hid (Below w.heap.size w wr) ∧ Blk wr g #[.int .i64 (D : Int), .int .i64 (M : Int), .int .i64 (F : Int), .bool E, .slice A1 n1 c1, .slice A2 n2 c2] 74) (fun _ iv _ => x - (intOf iv).toNat)
  case atStart => exact ⟨0, Nat.zero_le _, rfl, rfl, Lib.hid hba, hB0⟩
  case round =>
    clear hba hB0
    obtain ⟨k, hk, rfl, rfl, hB, hK⟩ := hrel
    have k2 := hK.cell 2 rfl
    by_cases hlt : k < x
    · have hki : (k : Int) < (x : Int) := by omega
      have HN := Lib.hid (HS.out k)
      have hb2 := (HC.out k).2
      generalize cntE F k = s at HN hb2
      have hwk : IntKind.i64.wrap ((k : Int) + 1) = (k : Int) + 1 := IntWalk.i64_in _ (by omega)
      obtain ⟨q, hq⟩ : ∃ q, s * F = q := ⟨_, rfl⟩
      have hqi : (s : Int) * (F : Int) = (q : Int) := by rw [← hq]; simp
      have hqb : q ≤ 1048576 * 14 := by rw [← hq]; exact Nat.mul_le_mul hb2 hf
      have hw2 : IntKind.i64.wrap ((s : Int) * (F : Int)) = (q : Int) := by rw [hqi]; exact IntWalk.i64_in _ (by omega)
      obtain ⟨r, hr⟩ : ∃ r, q / 16 = r := ⟨_, rfl⟩
      have hq2 : (q : Int).tdiv 16 = (r : Int) := by rw [Int.tdiv_eq_ediv_of_nonneg (by omega)]; omega
      have hw3 : IntKind.i64.wrap (r : Int) = (r : Int) := IntWalk.i64_in _ (by omega)
      have HQ := Lib.hid (show max 1 (s * F / 16) = max 1 r by rw [hq, hr])
      clear hq hqi hr
      go_wp2
      all_goals
        go_roundw
        case rel => exact ⟨k + 1, by omega, by go_num, by rw [HN.out, HQ.out]; simp; omega, hB, hK⟩
        case measure => simp [intOf]; omega
    · obtain rfl : k = x := by omega
      go_wp2
      go_ret
      exact ⟨ret_int rfl, hB.out⟩
end Go.Proofs.YtciknejchglmoaaDoor

namespace Go.Proofs.YtciknejchglmoaaDoor
open Go.RowKit

theorem sumE_le (m : Nat) : ∀ k s, sumE m k s ≤ k * m
  | 0, _ => Nat.zero_le _
  | k + 1, s => by
    have h := sumE_le m k (s / (m + 1))
    have h1 : s % (m + 1) ≤ m := by have := Nat.mod_lt s (show 0 < m + 1 by omega); omega
    show s % (m + 1) + sumE m k (s / (m + 1)) ≤ (k + 1) * m
    rw [Nat.add_mul, Nat.one_mul]; omega
set_option maxHeartbeats 1000000 in
theorem rsum_any (A1 A2 : Option Addr) (n1 c1 n2 c2 b s : Nat) (w : World) (hs : s ≤ 1048576) :
    Calls Tryd.prog 90 #[.agg (bookC b A1 n1 c1 A2 n2 c2), .int .i64 (s : Int)] w fun e w' => e = .returned (.int .i64 (sumE (mostB b) (dimB b) s : Nat)) ∧ Below w.heap.size w w' := by
  have hd := dimB_pos b
  have hm := mostB_le b
  have hba := below_alloc (Below.refl w.heap.size w) (.cells (bookC b A1 n1 c1 A2 n2 c2) 74)
  unfold bookC at hba ⊢
  generalize dimB b = D at *
  generalize mostB b = M at *
  generalize escB b = E at *
  generalize fallB b = F at *
  have HL := Lib.hid (show sumE M D s ≤ 4 * 31 from Nat.le_trans (sumE_le M D s) (Nat.mul_le_mul hd.2 hm))
  have HS := Lib.hid (show ∀ k s, sumE M (k + 1) s = s % (M + 1) + sumE M k (s / (M + 1)) from fun _ _ => rfl)
  have HZ := Lib.hid (show ∀ s, sumE M 0 s = 0 from fun _ => rfl)
  obtain ⟨g, hg⟩ : ∃ g, w.heap.size = g := ⟨_, rfl⟩
  have hB0 : Blk (w.alloc (.cells (#[.int .i64 (D : Int), .int .i64 (M : Int), .int .i64 (F : Int), .bool E, .slice A1 n1 c1, .slice A2 n2 c2]) 74)) g #[.int .i64 (D : Int), .int .i64 (M : Int), .int .i64 (F : Int), .bool E, .slice A1 n1 c1, .slice A2 n2 c2] 74 := by rw [← hg]; exact heap_alloc_new w _
  have k0 := hB0.cell 0 rfl
  go_enter Tryd.func90, Tryd.ntmps90
  go_wp2
  go_loopw [1, 5, 8] (fun xv ev iv wr => ∃ k x e : Nat, k ≤ D ∧ x ≤ 1048576 ∧ iv = .int .i64 (k : Int) ∧ xv = .int .i64 (x : Int) ∧ ev = .int .i64 (e : Int) ∧ Hid (e + sumE M (D - k) x = sumE M D s) ∧ Hid (Below w.heap.size w wr) ∧ Blk wr g #[.int .i64 (D : Int), .int .i64 (M : Int), .int .i64 (F : Int), .bool E, .slice A1 n1 c1, .slice A2 n2 c2] 74) (fun _ _ iv _ => D - (intOf iv).toNat)
  case atStart => exact ⟨0, s, 0, Nat.zero_le _, hs, rfl, rfl, rfl, Lib.hid (by simp), Lib.hid hba, hB0⟩
  case round =>
    clear hba hB0 k0
    obtain ⟨k, x, e, hk, hx, rfl, rfl, rfl, hE, hB, hK⟩ := hrel
    have k1 := hK.cell 1 rfl
    by_cases hlt : k < D
    · have hki : (k : Int) < (D : Int) := by omega
      have HN := Lib.hid (HS.out (D - (k + 1)) x)
      have he : e + x % (M + 1) ≤ 200 := by
        have h1 := hE.out
        have h2 := HL.out
        have h3 := HN.out
        rw [show D - (k + 1) + 1 = D - k by omega] at h3
        omega
      have hwk : IntKind.i64.wrap ((k : Int) + 1) = (k : Int) + 1 := IntWalk.i64_in _ (by omega)
      obtain ⟨P, hP⟩ : ∃ P, M + 1 = P := ⟨_, rfl⟩
      have hw1 : IntKind.i64.wrap ((M : Int) + 1) = (P : Int) := by rw [← hP, Int.natCast_succ]; exact IntWalk.i64_in _ (by omega)
      have hPn : ¬ P = 0 := by omega
      rw [hP] at HN he
      obtain ⟨r, hr⟩ : ∃ r, x % P = r := ⟨_, rfl⟩
      obtain ⟨q, hq⟩ : ∃ q, x / P = q := ⟨_, rfl⟩
      have hqx : q ≤ x := by rw [← hq]; exact Nat.div_le_self _ _
      have hrr : IntKind.i64.wrap ((x : Int).tmod (P : Int)) = (r : Int) := by
        rw [Int.tmod_eq_emod_of_nonneg (by omega), ← Int.natCast_emod, hr]; exact IntWalk.i64_in _ (by omega)
      have hqq : IntKind.i64.wrap ((x : Int).tdiv (P : Int)) = (q : Int) := by
        rw [Int.tdiv_eq_ediv_of_nonneg (by omega), ← Int.natCast_ediv, hq]; exact IntWalk.i64_in _ (by omega)
      have hmm : ((x : Int) % (P : Int)) = (r : Int) := by rw [← Int.natCast_emod, hr]
      have hqd : ((x : Int).tdiv (P : Int)) = (q : Int) := by rw [Int.tdiv_eq_ediv_of_nonneg (by omega), ← Int.natCast_ediv, hq]
      have hwq : IntKind.i64.wrap (q : Int) = (q : Int) := IntWalk.i64_in _ (by omega)
      rw [hr] at he
      have hw3 : IntKind.i64.wrap ((e : Int) + (r : Int)) = (e : Int) + (r : Int) := IntWalk.i64_in _ (by omega)
      have HQ := Lib.hid (show x % P = r ∧ x / P = q from ⟨hr, hq⟩)
      clear hr hq hP
      go_wp2
      go_roundw
      case rel =>
        refine ⟨k + 1, q, e + r, by omega, by omega, by go_num, rfl, by go_num, Lib.hid ?_, hB, hK⟩
        have h3 := HN.out
        rw [show D - (k + 1) + 1 = D - k by omega, HQ.out.1, HQ.out.2] at h3
        have := hE.out
        omega
      case measure => simp [intOf]; omega
    · obtain rfl : k = D := by omega
      have hE2 := Lib.hid (show sumE M k s = e by have h1 := hE.out; have h2 := HZ.out x; rw [Nat.sub_self, h2] at h1; omega)
      go_wp2
      go_ret
      exact ⟨ret_int (by rw [hE2.out]), hB.out⟩

theorem symG_take (b : Nat) (l : List Int) (k : Nat) (h : k < l.length) : symG b (l.take (k + 1)) = symG b (l.take k) * (mostB b + 1) + min (nth 0 l k).natAbs (mostB b) := by
  rw [take_succ_nth 0 l k h, symG_snoc]; rfl
theorem symG_bd (b : Nat) (l : List Int) (hl : l.length ≤ 4) (k : Nat) : symG b (l.take k) ≤ 1048576 := by
  have h1 := symG_lt b (l.take k)
  have h2 := pow_bd (m := mostB b) (k := (l.take k).length) (mostB_le b) (by rw [List.length_take]; omega)
  omega
set_option maxHeartbeats 2000000 in
theorem rsymbol_any (A A1 A2 : Option Addr) (c n1 c1 n2 c2 b : Nat) (l : List Int) (w : World) (hS : RI w A c l) (hq : ∀ v ∈ l, -1023 ≤ v ∧ v ≤ 1023) (hl : l.length ≤ 4) :
    Calls Tryd.prog 94 #[.agg (bookC b A1 n1 c1 A2 n2 c2), .slice A l.length c] w fun e w' => e = .returned (.int .i64 (symG b l : Nat)) ∧ Below w.heap.size w w' := by
  have hn := hS.len
  have hm := mostB_le b
  have HB := Lib.hid (symG_bd b l hl)
  have HT := Lib.hid (symG_take b l)
  have HX := Lib.hid (fun k => nth_bound hq (by omega) k)
  have hba := below_alloc (Below.refl w.heap.size w) (.cells (bookC b A1 n1 c1 A2 n2 c2) 74)
  unfold bookC at hba ⊢
  generalize dimB b = D at *
  generalize hM : mostB b = M at *
  generalize escB b = E at *
  generalize fallB b = F at *
  have HS := Lib.hid hS
  obtain ⟨g, hg⟩ : ∃ g, w.heap.size = g := ⟨_, rfl⟩
  have hB0 : Blk (w.alloc (.cells (#[.int .i64 (D : Int), .int .i64 (M : Int), .int .i64 (F : Int), .bool E, .slice A1 n1 c1, .slice A2 n2 c2]) 74)) g #[.int .i64 (D : Int), .int .i64 (M : Int), .int .i64 (F : Int), .bool E, .slice A1 n1 c1, .slice A2 n2 c2] 74 := by rw [← hg]; exact heap_alloc_new w _
  clear hM hq
  go_enter Tryd.func94, Tryd.ntmps94
  go_wp2
  go_loopw [5, 10] (fun sv iv wr => ∃ k : Nat, k ≤ l.length ∧ iv = .int .i64 (k : Int) ∧ sv = .int .i64 (symG b (l.take k) : Nat) ∧ Hid (Below w.heap.size w wr) ∧ Blk wr g #[.int .i64 (D : Int), .int .i64 (M : Int), .int .i64 (F : Int), .bool E, .slice A1 n1 c1, .slice A2 n2 c2] 74) (fun _ iv _ => l.length - (intOf iv).toNat)
  case atStart => exact ⟨0, Nat.zero_le _, rfl, rfl, Lib.hid hba, hB0⟩
  case round =>
    clear hba hB0
    obtain ⟨k, hk, rfl, rfl, hB, hK⟩ := hrel
    have k1 := hK.cell 1 rfl
    by_cases hlt : k < l.length
    · obtain ⟨ad, rfl, hc⟩ := rd_int (HS.out.below hB.out) k hlt
      have hki : (k : Int) < (l.length : Int) := by omega
      have HN := Lib.hid (HT.out k hlt)
      have hx := HX.out k
      have hb1 := HB.out k
      generalize nth 0 l k = x at hc HN hx
      generalize symG b (l.take k) = s at HN hb1
      have HZ := Lib.hid (fun W => rabs_same x W (by omega))
      have hzb : x.natAbs ≤ 1023 := by omega
      generalize x.natAbs = z at HZ HN hzb
      have hwk : IntKind.i64.wrap ((k : Int) + 1) = (k : Int) + 1 := IntWalk.i64_in _ (by omega)
      have hw1 : IntKind.i64.wrap ((M : Int) + 1) = (M : Int) + 1 := IntWalk.i64_in _ (by omega)
      obtain ⟨q, hq⟩ : ∃ q, s * (M + 1) = q := ⟨_, rfl⟩
      have hqi : (s : Int) * ((M : Int) + 1) = (q : Int) := by rw [← hq]; simp
      have hqb : q ≤ 1048576 * 32 := by rw [← hq]; exact Nat.mul_le_mul hb1 (by omega)
      have hw2 : IntKind.i64.wrap ((s : Int) * ((M : Int) + 1)) = (q : Int) := by rw [hqi]; exact IntWalk.i64_in _ (by omega)
      have HQ := Lib.hid hq
      clear hq hqi hx
      by_cases hzm : z ≤ M
      · have hw3 : IntKind.i64.wrap ((q : Int) + (z : Int)) = (q : Int) + (z : Int) := IntWalk.i64_in _ (by omega)
        have hmin : (if (z : Int) ≤ (M : Int) then (z : Int) else (M : Int)) = (z : Int) := if_pos (by omega)
        go_wp2
        go_quiet ((go_at_call 72; exact Calls.quiet_of_same (HZ.out _)))
        go_wp2
        go_roundw
        case rel => exact ⟨k + 1, by omega, by go_num, by rw [HN.out, HQ.out, Nat.min_eq_left hzm]; simp, Lib.hid (below_drewN hB.out _), hK⟩
        case measure => simp [intOf]; omega
      · have hw3 : IntKind.i64.wrap ((q : Int) + (M : Int)) = (q : Int) + (M : Int) := IntWalk.i64_in _ (by omega)
        have hmin : (if (z : Int) ≤ (M : Int) then (z : Int) else (M : Int)) = (M : Int) := if_neg (by omega)
        go_wp2
        go_quiet ((go_at_call 72; exact Calls.quiet_of_same (HZ.out _)))
        go_wp2
        go_roundw
        case rel => exact ⟨k + 1, by omega, by go_num, by rw [HN.out, HQ.out, Nat.min_eq_right (by omega)]; simp, Lib.hid (below_drewN hB.out _), hK⟩
        case measure => simp [intOf]; omega
    · obtain rfl : k = l.length := by omega
      go_wp2
      go_ret
      exact ⟨ret_int (by rw [List.take_length]), hB.out⟩
end Go.Proofs.YtciknejchglmoaaDoor

namespace Go.Proofs.YtciknejchglmoaaDoor
open Go.RowKit

theorem ex_check : checkN [2, 1, 3, 3] = 0 := by decide
theorem ex_codes : codesR [2, 1, 3, 3] = [2, 0, 6, 7] := by decide
theorem ex_complete : completeB [2, 1, 3, 3] = true := by decide
theorem ex_lenE : lengthsE [5, 1, 1, 1] 16 = 0 := by decide
theorem ex_lenE2 : lengthsE [5, 1, 1, 1] 2 = 0 := by decide
theorem ex_counts : countsB [5, 1, 1, 1] = true := by decide
theorem ex_sorted : sortedC [5, 1, 1, 1] = [(1, [1]), (1, [2]), (1, [3]), (5, [0])] := by decide
theorem ex_row1 : rowI [(1, [1]), (1, [2]), (1, [3]), (5, [0])] 1 = [(1, [1]), (1, [2]), (1, [3]), (2, [1, 2]), (5, [0]), (6, [3, 0])] := by
  simp [rowI, mergeI, pairsI]
theorem ex_row2 : rowI [(1, [1]), (1, [2]), (1, [3]), (5, [0])] 2 = [(1, [1]), (1, [2]), (1, [3]), (2, [1, 2]), (3, [3, 1, 2]), (5, [0]), (11, [0, 3, 0])] := by
  rw [rowI, ex_row1]; simp [mergeI, pairsI]
theorem ex_row3 : rowI [(1, [1]), (1, [2]), (1, [3]), (5, [0])] 3 = [(1, [1]), (1, [2]), (1, [3]), (2, [1, 2]), (3, [3, 1, 2]), (5, [0]), (8, [3, 1, 2, 0])] := by
  rw [rowI, ex_row2]; simp [mergeI, pairsI]
theorem ex_rows : ∀ k, rowI [(1, [1]), (1, [2]), (1, [3]), (5, [0])] (k + 3) = [(1, [1]), (1, [2]), (1, [3]), (2, [1, 2]), (3, [3, 1, 2]), (5, [0]), (8, [3, 1, 2, 0])]
  | 0 => ex_row3
  | k + 1 => by
    rw [show k + 1 + 3 = (k + 3) + 1 by omega, rowI, ex_rows k]; simp [mergeI, pairsI]
theorem ex_coins : (coinsK [5, 1, 1, 1] 4).length = 4 := by decide
theorem ex_lenV : lengthsV [5, 1, 1, 1] 16 = [1, 3, 3, 2] := by
  unfold lengthsV
  rw [if_neg (by rw [ex_lenE]; decide), ex_sorted, show [(5 : Int), 1, 1, 1].length = 4 from rfl, ex_coins, if_neg (by decide), show (16 : Int).toNat - 1 = 12 + 3 by decide, ex_rows]
  decide
theorem ex_lenV2 : lengthsV [5, 1, 1, 1] 2 = [2, 2, 2, 2] := by
  unfold lengthsV
  rw [if_neg (by rw [ex_lenE2]; decide), ex_sorted, show [(5 : Int), 1, 1, 1].length = 4 from rfl, ex_coins, if_neg (by decide), show (2 : Int).toNat - 1 = 1 by decide, ex_row1]
  decide
theorem ex_enc : encodeR [2, 1, 3, 3] [0, 1, 3] = ([true, false, false, true, true, true], 0) := by decide
theorem ex_pack : packB [true, false, false, true, true, true] = [156] := by decide
theorem ex_dec : decodeR [2, 1, 3, 3] [156] 6 3 = ([0, 1, 3], 0) := by decide
theorem ex_over : checkN [1, 1, 1] = 4 := by decide
end Go.Proofs.YtciknejchglmoaaDoor

namespace Go.Proofs.YtciknejchglmoaaDoor
open Go.RowKit

theorem sameL_refl (xs : List Int) : sameL xs xs = true := by simp [sameL]
/-- A row of the call's own, as it is read. -/
theorem own_ri {e : TypeId} {ik : IntKind} {base : Nat} {w : World} {v : Value} {xs : List Int} (h : OwnI e ik base w v xs) : ∃ A c, v = .slice A xs.length c ∧ Sl (kInt ik) AnyB w A c xs := by
  obtain ⟨A, c, e, hs⟩ := h.rd
  exact ⟨A, c, e, hs.any⟩

theorem lit_ri (W : World) (e : TypeId) (k : IntKind) (xs : List Int) (hm : xs.length ≤ 9223372036854775807) :
    Sl (kInt k) AnyB (W.alloc (.cells (nums k xs).toArray e)) (some ⟨W.heap.size, 0, none⟩) xs.length xs := by
  obtain ⟨A, c, e1, h⟩ := own_ri (own_lit W e k xs hm)
  injection e1 with e1 e2 e3
  subst e1 e3
  exact h
/-- A literal's block is new. -/
theorem lit_be (W : World) (e : TypeId) (k : IntKind) (xs : List Int) : Below W.heap.size W (W.alloc (.cells (nums k xs).toArray e)) := below_alloc (Below.refl _ _) _
theorem codes_ex (w : World) : Calls Tryd.prog 63 #[.slice (some ⟨w.heap.size, 0, none⟩) 4 4] (w.alloc (.cells #[.int .i64 2, .int .i64 1, .int .i64 3, .int .i64 3] 3)) fun e w' => ∃ A c, e = .returned (.tuple #[.slice A 4 c, .int .i64 0]) ∧ RI w' A c [2, 0, 6, 7] ∧ Below w.heap.size w w' := by
  refine (codes_any _ 4 [2, 1, 3, 3] _ (lit_ri w 3 .i64 [2, 1, 3, 3] (by decide))).mono ?_
  rintro e w' ⟨v, rfl, hO, hb⟩
  obtain ⟨A, c, rfl, h⟩ := own_ri hO
  rw [ex_codes] at h ⊢
  rw [ex_check]
  exact ⟨A, c, rfl, h, below2 (lit_be ..) hb⟩
theorem check_ex (w : World) : Calls Tryd.prog 82 #[.slice (some ⟨w.heap.size, 0, none⟩) 3 3] (w.alloc (.cells #[.int .i64 1, .int .i64 1, .int .i64 1] 3)) fun e w' => e = .returned (.int .i64 4) ∧ Below w.heap.size w w' := by
  refine (check_any _ 3 [1, 1, 1] _ (lit_ri w 3 .i64 [1, 1, 1] (by decide))).mono ?_
  rintro e w' ⟨rfl, hb⟩
  rw [ex_over]
  exact ⟨rfl, below2 (lit_be ..) hb⟩
end Go.Proofs.YtciknejchglmoaaDoor

namespace Go.Proofs.YtciknejchglmoaaDoor
open Go.RowKit

/-- The lengths of the words of all steps. -/
def tabS : List Nat := [15, 15, 15, 15, 15, 15, 14, 14, 14, 14, 14, 14, 14, 14, 14, 14, 14, 14, 14, 14, 14, 14, 14, 14, 14, 14, 14, 14, 14, 14, 14, 14, 14, 14, 13, 13, 13, 13, 13, 13, 13, 13, 13, 13, 13, 13, 13, 13, 13, 13, 13, 13, 12, 12, 12, 12, 12, 12, 12, 12, 12, 12, 12, 12, 12, 11, 11, 11, 11, 11, 11, 11, 11, 11, 10, 10, 10, 10, 10, 10, 9, 9, 9, 9, 9, 8, 8, 8, 7, 7, 7, 6, 6, 5, 3, 1, 3, 5, 6, 6, 7, 7, 7, 8, 8, 8, 9, 9, 9, 9, 9, 10, 10, 10, 10, 10, 10, 11, 11, 11, 11, 11, 11, 11, 11, 11, 12, 12, 12, 12, 12, 12, 12, 12, 12, 12, 12, 12, 12, 13, 13, 13, 13, 13, 13, 13, 13, 13, 13, 13, 13, 13, 13, 13, 13, 13, 13, 13, 13, 14, 14, 14, 14, 14, 14, 14, 14, 14, 14, 14, 14, 14, 14, 14, 14, 14, 14, 14, 14, 14, 14, 14, 14, 14, 14, 15, 15, 15, 15, 15, 15]
def tabI : List Int := tabS.map Int.ofNat
set_option maxRecDepth 100000 in
theorem tabS_length : tabS.length = 191 := by decide
set_option maxRecDepth 100000 in
theorem tabI_length : tabI.length = 191 := by decide
set_option maxRecDepth 100000 in
theorem tabS_all : tabS.all (fun x => decide (1 ≤ x) && decide (x ≤ 15)) = true := by decide
theorem tabI_nth (k : Nat) (h : k < 191) : nth 0 tabI k = ((nth 0 tabS k : Nat) : Int) := by
  rw [nth_eq 0 _ k (by rw [tabI_length]; exact h), nth_eq 0 _ k (by rw [tabS_length]; exact h)]
  simp [tabI]
theorem tabS_bound (k : Nat) (h : k < 191) : 1 ≤ nth 0 tabS k ∧ nth 0 tabS k ≤ 15 := by
  have := List.all_eq_true.1 tabS_all _ (nth_mem 0 tabS k (by rw [tabS_length]; exact h))
  simpa using this
/-- The table as it is laid. -/
def tabB : ByteArray := { data := #[111, 111, 111, 111, 111, 111, 110, 110, 110, 110, 110, 110, 110, 110, 110, 110, 110, 110, 110, 110, 110, 110, 110, 110, 110, 110, 110, 110, 110, 110, 110, 110, 110, 110, 109, 109, 109, 109, 109, 109, 109, 109, 109, 109, 109, 109, 109, 109, 109, 109, 109, 109, 108, 108, 108, 108, 108, 108, 108, 108, 108, 108, 108, 108, 108, 107, 107, 107, 107, 107, 107, 107, 107, 107, 106, 106, 106, 106, 106, 106, 105, 105, 105, 105, 105, 104, 104, 104, 103, 103, 103, 102, 102, 101, 99, 97, 99, 101, 102, 102, 103, 103, 103, 104, 104, 104, 105, 105, 105, 105, 105, 106, 106, 106, 106, 106, 106, 107, 107, 107, 107, 107, 107, 107, 107, 107, 108, 108, 108, 108, 108, 108, 108, 108, 108, 108, 108, 108, 108, 109, 109, 109, 109, 109, 109, 109, 109, 109, 109, 109, 109, 109, 109, 109, 109, 109, 109, 109, 109, 110, 110, 110, 110, 110, 110, 110, 110, 110, 110, 110, 110, 110, 110, 110, 110, 110, 110, 110, 110, 110, 110, 110, 110, 110, 110, 111, 111, 111, 111, 111, 111] }
set_option maxRecDepth 100000 in
theorem tabB_all : ∀ k : Fin 191, (tabB.data[k.val]?.getD 0).toNat = 96 + nth 0 tabS k.val := by decide +kernel
theorem tabB_at (k : Nat) (h : k < tabB.size) : (tabB[k].toNat : Int) = 96 + ((nth 0 tabS k : Nat) : Int) := by
  have h2 : k < 191 := h
  have h3 := tabB_all ⟨k, h2⟩
  have h4 : tabB.data[k]?.getD 0 = tabB[k] := by
    have h5 : k < tabB.data.size := h
    rw [Array.getElem?_eq_getElem h5]; rfl
  simp only at h3
  rw [h4] at h3
  omega
/-- The length of a step's word. -/
def stepL (d : Int) : Nat := nth 0 tabS (d + 95).toNat

def isB (s : Int) : Bool := decide (0 ≤ s) && decide (s ≤ 95)
end Go.Proofs.YtciknejchglmoaaDoor

namespace Go.Proofs.YtciknejchglmoaaDoor
open Go.RowKit

abbrev RB (w : World) (A : Option Addr) (c : Nat) (us : List Bool) : Prop := Sl kBool AnyB w A c us
/-- The scales of the bands that are not used are 0, of the first ones. -/
def freeB (ss : List Int) (us : List Bool) (k : Nat) : Bool := (List.range k).all fun i => nth 0 ss i == 0 || nth false us i
theorem freeB_succ (ss : List Int) (us : List Bool) (k : Nat) : freeB ss us (k + 1) = (freeB ss us k && (nth 0 ss k == 0 || nth false us k)) := by
  unfold freeB
  rw [List.range_succ, List.all_append]; simp
def checkedE (ss : List Int) (us : List Bool) : Int :=
  if ss.length ≠ us.length ∨ 128 < us.length then 1 else if ss.all isB = false then 6 else if freeB ss us ss.length = false then 4 else 0
theorem all_take_succ (ss : List Int) (k : Nat) (h : k < ss.length) : (ss.take (k + 1)).all isB = ((ss.take k).all isB && isB (nth 0 ss k)) := by
  rw [take_succ_nth 0 ss k h, List.all_append]; simp
theorem all_no {ss : List Int} {k : Nat} (h : k < ss.length) (hk : isB (nth 0 ss k) = false) : ss.all isB = false := by
  cases he : ss.all isB
  · rfl
  · have := List.all_eq_true.1 he _ (nth_mem 0 ss k h)
    rw [hk] at this; cases this

end Go.Proofs.YtciknejchglmoaaDoor

namespace Go.Proofs.YtciknejchglmoaaDoor
open Go.RowKit
attribute [local go_sem] Oper.semAt_some

/-- The last band that is used ahead of one, or -1. -/
def befK (us : List Bool) : Nat → Int
  | 0 => -1
  | k + 1 => if nth false us k = true then (k : Int) else befK us k
/-- The bands that are used among the first ones, each with the one before it. -/
def walkK (us : List Bool) : Nat → List (Nat × Int)
  | 0 => []
  | k + 1 => if nth false us k = true then walkK us k ++ [(k, befK us k)] else walkK us k
theorem walkK_hit {us : List Bool} {k : Nat} (h : nth false us k = true) : walkK us (k + 1) = walkK us k ++ [(k, befK us k)] ∧ befK us (k + 1) = (k : Int) := by
  constructor
  · show (if _ then _ else _) = _; rw [if_pos h]
  · show (if _ then _ else _) = _; rw [if_pos h]
theorem walkK_miss {us : List Bool} {k : Nat} (h : nth false us k = false) : walkK us (k + 1) = walkK us k ∧ befK us (k + 1) = befK us k := by
  constructor
  · show (if _ then _ else _) = _; rw [if_neg (by rw [h]; decide)]
  · show (if _ then _ else _) = _; rw [if_neg (by rw [h]; decide)]
/-- What comes next. -/
def NextW (us : List Bool) (pre : List (Nat × Int)) (x : Nat × Int) : Prop := ∃ k, k < us.length ∧ nth false us k = true ∧ pre = walkK us k ∧ x = (k, befK us k)
theorem befK_lt (us : List Bool) : ∀ k, befK us k = -1 ∨ ∃ j : Nat, befK us k = (j : Int) ∧ j < k ∧ nth false us j = true
  | 0 => .inl rfl
  | k + 1 => by
    cases h : nth false us k
    · rw [(walkK_miss h).2]
      rcases befK_lt us k with h1 | ⟨j, h1, h2, h3⟩
      · exact .inl h1
      · exact .inr ⟨j, h1, by omega, h3⟩
    · rw [(walkK_hit h).2]
      exact .inr ⟨k, rfl, by omega, h⟩

end Go.Proofs.YtciknejchglmoaaDoor

namespace Go.Proofs.YtciknejchglmoaaDoor
open Go.RowKit
attribute [local go_sem] Oper.semAt_some

/-- What bands cost. -/
def stepC (ss : List Int) (x : Nat × Int) : Nat := if x.2 < 0 then 7 else stepL (nth 0 ss x.1 - nth 0 ss x.2.toNat)
def costP (ss : List Int) (pre : List (Nat × Int)) : Nat := (pre.map (stepC ss)).sum
theorem costP_snoc (ss : List Int) (pre : List (Nat × Int)) (x : Nat × Int) : costP ss (pre ++ [x]) = costP ss pre + stepC ss x := by simp [costP]
def costS (ss : List Int) (us : List Bool) : Int × Int := if checkedE ss us ≠ 0 then (0, checkedE ss us) else (costP ss (walkK us us.length), 0)
theorem checked_ok {ss : List Int} {us : List Bool} (h : checkedE ss us = 0) : ss.length = us.length ∧ us.length ≤ 128 ∧ (∀ s ∈ ss, 0 ≤ s ∧ s ≤ 95) ∧ freeB ss us ss.length = true := by
  unfold checkedE at h
  split at h
  · cases h
  · rename_i h1
    split at h
    · cases h
    · rename_i h2
      split at h
      · cases h
      · rename_i h3
        refine ⟨by omega, by omega, fun s hs => ?_, by simpa using h3⟩
        have h4 : ss.all isB = true := by simpa using h2
        have := List.all_eq_true.1 h4 s hs
        simpa [isB] using this
theorem nth_range {ss : List Int} (h : ∀ s ∈ ss, 0 ≤ s ∧ s ≤ 95) (k : Nat) : 0 ≤ nth 0 ss k ∧ nth 0 ss k ≤ 95 := nth_bound h (by decide) k
theorem stepL_le (d : Int) : stepL d ≤ 15 := by
  unfold stepL
  rcases Nat.lt_or_ge (d + 95).toNat 191 with h | h
  · exact (tabS_bound _ h).2
  · have := nth_none 0 tabS (d + 95).toNat (by rw [tabS_length]; exact h)
    rw [this]; omega
theorem stepC_le (ss : List Int) (x : Nat × Int) : stepC ss x ≤ 15 := by
  unfold stepC; split
  · omega
  · exact stepL_le _
theorem costP_le (ss : List Int) : ∀ pre, costP ss pre ≤ 15 * pre.length
  | [] => by simp [costP]
  | x :: pre => by
    have := costP_le ss pre
    have h2 := stepC_le ss x
    have e : costP ss (x :: pre) = stepC ss x + costP ss pre := by simp [costP]
    rw [e, List.length_cons]; omega
theorem walkK_len (us : List Bool) : ∀ k, (walkK us k).length ≤ k
  | 0 => Nat.le_refl _
  | k + 1 => by
    have := walkK_len us k
    unfold walkK; split
    · simp; omega
    · omega

structure CoI (w : World) (ss : List Int) (A : Option Addr) (c n g1 g7 : Nat) (pre : List (Nat × Int)) (W : World) : Prop where
  box : Blk W g1 #[.slice A n c] 25
  cnt : Blk W g7 #[.int .i64 (costP ss pre : Int)] 3
  low : Below w.heap.size w W

theorem keepsU {B : Nat} {W W' : World} {o : Nat → Prop} (hu : Upd o W W') (hg : ∀ b, b < W.heap.size → o b → b < B) : KeepsFrom B W W' :=
  ⟨hu.size, fun k x hB hx _ => (hu.blk k (Array.getElem?_eq_some_iff.1 hx).1 (fun e => by have := hg k (Array.getElem?_eq_some_iff.1 hx).1 e; omega)).trans hx⟩
theorem CoI.below {w W W' : World} {ss : List Int} {A : Option Addr} {c n g1 g7 : Nat} {pre : List (Nat × Int)} (h : CoI w ss A c n g1 g7 pre W) (hb : Below W.heap.size W W') : CoI w ss A c n g1 g7 pre W' :=
  ⟨h.box.below hb, h.cnt.below hb, below2 h.low hb⟩
theorem CoI.round {w W W' : World} {ss : List Int} {A : Option Addr} {c n g1 g7 : Nat} {pre : List (Nat × Int)} {x : Nat × Int} {V : Int} (h : CoI w ss A c n g1 g7 pre W) (h17 : g1 < g7) (hw : w.heap.size ≤ g7)
    (e : W' = W.setCell ⟨g7, 0, none⟩ (.int .i64 V)) (hV : V = (costP ss pre : Int) + (stepC ss x : Int)) : CoI w ss A c n g1 g7 (pre ++ [x]) W' ∧ Upd (fun b => b = g7) W W' := by
  subst e
  have hu : Upd (fun b => b = g7) W (W.setCell ⟨g7, 0, none⟩ (.int .i64 V)) := Upd.setCell (fun b => b = g7) _ g7 0 _ rfl
  refine ⟨⟨h.box.keep (hu.keep (ok := fun b => b ≠ g7) fun b h => h) (by omega), ?_, h.low.grown (grown_setCell W g7 0 _) h.low.size (fun r e => by cases e; exact hw)⟩, hu⟩
  have := h.cnt.set 0 (.int .i64 V)
  rw [hV] at this
  rw [costP_snoc]
  rw [hV]
  have e2 : (((costP ss pre + stepC ss x : Nat)) : Int) = (costP ss pre : Int) + (stepC ss x : Int) := by omega
  rw [e2]
  exact this

end Go.Proofs.YtciknejchglmoaaDoor
