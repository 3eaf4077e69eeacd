/- prefix: the numbers of awake's examples. Plain; no program is named. · prefix: Lengths in general; awake's examples hold. · What the arguments of a law read as: []int, []byte. -/
import Derived.Test.YtlbgkkkcbnagbaaKj
import Derived.Test.YtlbgkkkcbnagbaaKf
import Derived.Test.YtlbgkkkcbnagbaaKi
import Derived.Test.YtlbgkkkcbnagbaaKa
import Derived.Lib.SmallJoins
import Derived.LaidMore
import Derived.Stop.Joined
namespace Go.Proofs.Ytlbgkkkcbnagbaa
open Go.RowKit

theorem ex_check : checkN [2, 1, 3, 3] = 0 := by decide
theorem ex_codes : codesR [2, 1, 3, 3] = [2, 0, 6, 7] := by decide
theorem ex_complete : completeB [2, 1, 3, 3] = true := by decide
theorem ex_lenE : lengthsE [5, 1, 1, 1] 16 = 0 := by decide
theorem ex_lenE2 : lengthsE [5, 1, 1, 1] 2 = 0 := by decide
theorem ex_counts : countsB [5, 1, 1, 1] = true := by decide
theorem ex_sorted : sortedC [5, 1, 1, 1] = [(1, [1]), (1, [2]), (1, [3]), (5, [0])] := by decide
theorem ex_row1 : rowI [(1, [1]), (1, [2]), (1, [3]), (5, [0])] 1 = [(1, [1]), (1, [2]), (1, [3]), (2, [1, 2]), (5, [0]), (6, [3, 0])] := by
  simp [rowI, mergeI, pairsI]
theorem ex_row2 : rowI [(1, [1]), (1, [2]), (1, [3]), (5, [0])] 2 = [(1, [1]), (1, [2]), (1, [3]), (2, [1, 2]), (3, [3, 1, 2]), (5, [0]), (11, [0, 3, 0])] := by
  rw [rowI, ex_row1]; simp [mergeI, pairsI]
theorem ex_row3 : rowI [(1, [1]), (1, [2]), (1, [3]), (5, [0])] 3 = [(1, [1]), (1, [2]), (1, [3]), (2, [1, 2]), (3, [3, 1, 2]), (5, [0]), (8, [3, 1, 2, 0])] := by
  rw [rowI, ex_row2]; simp [mergeI, pairsI]
theorem ex_rows : ∀ k, rowI [(1, [1]), (1, [2]), (1, [3]), (5, [0])] (k + 3) = [(1, [1]), (1, [2]), (1, [3]), (2, [1, 2]), (3, [3, 1, 2]), (5, [0]), (8, [3, 1, 2, 0])]
  | 0 => ex_row3
  | k + 1 => by
    rw [show k + 1 + 3 = (k + 3) + 1 by omega, rowI, ex_rows k]; simp [mergeI, pairsI]
theorem ex_coins : (coinsK [5, 1, 1, 1] 4).length = 4 := by decide
theorem ex_lenV : lengthsV [5, 1, 1, 1] 16 = [1, 3, 3, 2] := by
  unfold lengthsV
  rw [if_neg (by rw [ex_lenE]; decide), ex_sorted, show [(5 : Int), 1, 1, 1].length = 4 from rfl, ex_coins, if_neg (by decide), show (16 : Int).toNat - 1 = 12 + 3 by decide, ex_rows]
  decide
theorem ex_lenV2 : lengthsV [5, 1, 1, 1] 2 = [2, 2, 2, 2] := by
  unfold lengthsV
  rw [if_neg (by rw [ex_lenE2]; decide), ex_sorted, show [(5 : Int), 1, 1, 1].length = 4 from rfl, ex_coins, if_neg (by decide), show (2 : Int).toNat - 1 = 1 by decide, ex_row1]
  decide
theorem ex_enc : encodeR [2, 1, 3, 3] [0, 1, 3] = ([true, false, false, true, true, true], 0) := by decide
theorem ex_pack : packB [true, false, false, true, true, true] = [156] := by decide
theorem ex_dec : decodeR [2, 1, 3, 3] [156] 6 3 = ([0, 1, 3], 0) := by decide
theorem ex_over : checkN [1, 1, 1] = 4 := by decide
end Go.Proofs.Ytlbgkkkcbnagbaa

namespace Go.Proofs.Ytlbgkkkcbnagbaa
open Go.RowKit

theorem lengths_all (A : Option Addr) (c : Nat) (cs : List Int) (most : Int) (w : World) (hS : RI w A c cs) :
    Calls Try.prog 22 #[.slice A cs.length c, .int .i64 most] w fun e w' => ∃ v, e = .returned (.tuple #[v, .int .i64 (lengthsE cs most)]) ∧ OwnI 3 .i64 w.heap.size w' v (lengthsV cs most) ∧ Below w.heap.size w w' := by
  by_cases h : countsB cs = false ∨ most < 1 ∨ 16 < most
  · refine (lengths_no A c cs most w hS h).mono ?_
    rintro e w' ⟨rfl, hb⟩
    have e1 : lengthsE cs most = 1 := by unfold lengthsE; rw [if_pos h]
    have e2 : lengthsV cs most = [] := by unfold lengthsV; rw [if_pos (by rw [e1]; decide)]
    exact ⟨_, by rw [e1], by rw [e2]; exact OwnI.nil _ _ _ _, hb⟩
  · have h1 : countsB cs = true := by
      cases hc : countsB cs
      · exact absurd (.inl hc) h
      · rfl
    have h2 : 1 ≤ most ∧ most ≤ 16 := by omega
    obtain ⟨m, rfl⟩ : ∃ m : Nat, most = (m : Int) := ⟨most.toNat, by omega⟩
    exact lengths_any A c cs m w hS h1 (by omega) (by omega)
theorem sameL_refl (xs : List Int) : sameL xs xs = true := by simp [sameL]
/-- A row of the call's own, as it is read. -/
theorem own_ri {e : TypeId} {ik : IntKind} {base : Nat} {w : World} {v : Value} {xs : List Int} (h : OwnI e ik base w v xs) : ∃ A c, v = .slice A xs.length c ∧ Sl (kInt ik) AnyB w A c xs := by
  obtain ⟨A, c, e, hs⟩ := h.rd
  exact ⟨A, c, e, hs.any⟩

theorem lit_ri (W : World) (e : TypeId) (k : IntKind) (xs : List Int) (hm : xs.length ≤ 9223372036854775807) :
    Sl (kInt k) AnyB (W.alloc (.cells (nums k xs).toArray e)) (some ⟨W.heap.size, 0, none⟩) xs.length xs := by
  obtain ⟨A, c, e1, h⟩ := own_ri (own_lit W e k xs hm)
  injection e1 with e1 e2 e3
  subst e1 e3
  exact h
/-- A literal's block is new. -/
theorem lit_be (W : World) (e : TypeId) (k : IntKind) (xs : List Int) : Below W.heap.size W (W.alloc (.cells (nums k xs).toArray e)) := below_alloc (Below.refl _ _) _
theorem codes_ex (w : World) : Calls Try.prog 17 #[.slice (some ⟨w.heap.size, 0, none⟩) 4 4] (w.alloc (.cells #[.int .i64 2, .int .i64 1, .int .i64 3, .int .i64 3] 3)) fun e w' => ∃ A c, e = .returned (.tuple #[.slice A 4 c, .int .i64 0]) ∧ RI w' A c [2, 0, 6, 7] ∧ Below w.heap.size w w' := by
  refine (codes_any _ 4 [2, 1, 3, 3] _ (lit_ri w 3 .i64 [2, 1, 3, 3] (by decide))).mono ?_
  rintro e w' ⟨v, rfl, hO, hb⟩
  obtain ⟨A, c, rfl, h⟩ := own_ri hO
  rw [ex_codes] at h ⊢
  rw [ex_check]
  exact ⟨A, c, rfl, h, below2 (lit_be ..) hb⟩
theorem lens_ex (w : World) : Calls Try.prog 22 #[.slice (some ⟨w.heap.size, 0, none⟩) 4 4, .int .i64 16] (w.alloc (.cells #[.int .i64 5, .int .i64 1, .int .i64 1, .int .i64 1] 3)) fun e w' => ∃ A c, e = .returned (.tuple #[.slice A 4 c, .int .i64 0]) ∧ RI w' A c [1, 3, 3, 2] ∧ Below w.heap.size w w' := by
  refine (lengths_all _ 4 [5, 1, 1, 1] 16 _ (lit_ri w 3 .i64 [5, 1, 1, 1] (by decide))).mono ?_
  rintro e w' ⟨v, rfl, hO, hb⟩
  obtain ⟨A, c, rfl, h⟩ := own_ri hO
  rw [ex_lenV] at h ⊢
  rw [ex_lenE]
  exact ⟨A, c, rfl, h, below2 (lit_be ..) hb⟩
theorem lens_ex2 (w : World) : Calls Try.prog 22 #[.slice (some ⟨w.heap.size, 0, none⟩) 4 4, .int .i64 2] (w.alloc (.cells #[.int .i64 5, .int .i64 1, .int .i64 1, .int .i64 1] 3)) fun e w' => ∃ A c, e = .returned (.tuple #[.slice A 4 c, .int .i64 0]) ∧ RI w' A c [2, 2, 2, 2] ∧ Below w.heap.size w w' := by
  refine (lengths_all _ 4 [5, 1, 1, 1] 2 _ (lit_ri w 3 .i64 [5, 1, 1, 1] (by decide))).mono ?_
  rintro e w' ⟨v, rfl, hO, hb⟩
  obtain ⟨A, c, rfl, h⟩ := own_ri hO
  rw [ex_lenV2] at h ⊢
  rw [ex_lenE2]
  exact ⟨A, c, rfl, h, below2 (lit_be ..) hb⟩
theorem comp_ex (w : World) : Calls Try.prog 15 #[.slice (some ⟨w.heap.size, 0, none⟩) 4 4] (w.alloc (.cells #[.int .i64 2, .int .i64 1, .int .i64 3, .int .i64 3] 3)) fun e w' => e = .returned (.tuple #[.bool true, .int .i64 0]) ∧ Below w.heap.size w w' := by
  refine (complete_any _ 4 [2, 1, 3, 3] _ (lit_ri w 3 .i64 [2, 1, 3, 3] (by decide))).mono ?_
  rintro e w' ⟨rfl, hb⟩
  rw [ex_complete, ex_check]
  exact ⟨rfl, below2 (lit_be ..) hb⟩
theorem check_ex (w : World) : Calls Try.prog 19 #[.slice (some ⟨w.heap.size, 0, none⟩) 3 3] (w.alloc (.cells #[.int .i64 1, .int .i64 1, .int .i64 1] 3)) fun e w' => e = .returned (.int .i64 4) ∧ Below w.heap.size w w' := by
  refine (check_any _ 3 [1, 1, 1] _ (lit_ri w 3 .i64 [1, 1, 1] (by decide))).mono ?_
  rintro e w' ⟨rfl, hb⟩
  rw [ex_over]
  exact ⟨rfl, below2 (lit_be ..) hb⟩
theorem enc_ex (w : World) : Calls Try.prog 24 #[.slice (some ⟨w.heap.size, 0, none⟩) 4 4, .slice (some ⟨w.heap.size + 1, 0, none⟩) 3 3] ((w.alloc (.cells #[.int .i64 2, .int .i64 1, .int .i64 3, .int .i64 3] 3)).alloc (.cells #[.int .i64 0, .int .i64 1, .int .i64 3] 3)) fun e w' => ∃ A c, e = .returned (.tuple #[.slice A 1 c, .int .i64 6, .int .i64 0]) ∧ RY w' A c [156] ∧ Below w.heap.size w w' := by
  have hb1 := below_alloc (lit_be w 3 .i64 [2, 1, 3, 3]) (.cells (nums .i64 [0, 1, 3]).toArray 3)
  have h2 := lit_ri (w.alloc (.cells (nums .i64 [2, 1, 3, 3]).toArray 3)) 3 .i64 [0, 1, 3] (by decide)
  rw [World.size_alloc] at h2
  refine (encode_any _ _ 4 3 [2, 1, 3, 3] [0, 1, 3] _ ((lit_ri w 3 .i64 [2, 1, 3, 3] (by decide)).below (below_alloc (Below.refl _ _) _)) h2 (by decide)).mono ?_
  rintro e w' ⟨v, rfl, hO, hb⟩
  obtain ⟨A, c, rfl, h⟩ := own_ri hO
  rw [ex_enc, ex_pack] at h
  rw [ex_enc, ex_pack]
  exact ⟨A, c, rfl, h, below2 hb1 hb⟩
theorem dec_ex (B : Option Addr) (d : Nat) (w : World) (hB : RY w B d [156]) : Calls Try.prog 27 #[.slice (some ⟨w.heap.size, 0, none⟩) 4 4, .slice B 1 d, .int .i64 6, .int .i64 3] (w.alloc (.cells #[.int .i64 2, .int .i64 1, .int .i64 3, .int .i64 3] 3)) fun e w' => ∃ A c, e = .returned (.tuple #[.slice A 3 c, .int .i64 0]) ∧ RI w' A c [0, 1, 3] ∧ Below w.heap.size w w' := by
  refine (decode_any _ B 4 d [2, 1, 3, 3] [156] 6 3 _ (lit_ri w 3 .i64 [2, 1, 3, 3] (by decide)) (hB.below (lit_be ..)) (by decide) (by decide)).mono ?_
  rintro e w' ⟨v, rfl, hO, hb⟩
  obtain ⟨A, c, rfl, h⟩ := own_ri hO
  rw [ex_dec] at h ⊢
  exact ⟨A, c, rfl, h, below2 (lit_be ..) hb⟩
theorem ints_ex (A : Option Addr) (c : Nat) (xs : List Int) (m : Nat) (hm : xs.length = m) (hl : m ≤ 100) (w : World) (hA : RI w A c xs) : Calls Try.prog 21 #[.slice A m c, .slice (some ⟨w.heap.size, 0, none⟩) m m] (w.alloc (.cells (nums .i64 xs).toArray 3)) fun e w' => e = .returned (.bool true) ∧ Below w.heap.size w w' := by
  subst hm
  refine (ints_ref A _ c xs.length xs xs _ (hA.below (lit_be ..)) (lit_ri w 3 .i64 xs (by omega))).mono ?_
  rintro e w' ⟨rfl, hb⟩
  exact ⟨by rw [show sameL xs xs = true by simp [sameL]], below2 (lit_be ..) hb⟩

theorem ints_e4 (x y z u : Int) (A : Option Addr) (c : Nat) (w : World) (hA : RI w A c [x, y, z, u]) : Calls Try.prog 21 #[.slice A 4 c, .slice (some ⟨w.heap.size, 0, none⟩) 4 4] (w.alloc (.cells #[.int .i64 x, .int .i64 y, .int .i64 z, .int .i64 u] 3)) fun e w' => e = .returned (.bool true) ∧ Below w.heap.size w w' :=
  ints_ex A c [x, y, z, u] 4 rfl (by decide) w hA
theorem ints_e3 (x y z : Int) (A : Option Addr) (c : Nat) (w : World) (hA : RI w A c [x, y, z]) : Calls Try.prog 21 #[.slice A 3 c, .slice (some ⟨w.heap.size, 0, none⟩) 3 3] (w.alloc (.cells #[.int .i64 x, .int .i64 y, .int .i64 z] 3)) fun e w' => e = .returned (.bool true) ∧ Below w.heap.size w w' :=
  ints_ex A c [x, y, z] 3 rfl (by decide) w hA

set_option maxHeartbeats 4000000 in
set_option maxRecDepth 100000 in
theorem awake_any (w : World) : Calls Try.prog 14 #[] w fun e w' => e = .returned (.bool true) ∧ Below w.heap.size w w' := by
  go_enter Try.func14, Try.ntmps14
  go_wp2_with fail
  refine (codes_ex _).mono ?_
  rintro e w1 ⟨A1, c1, rfl, H1, b1⟩
  go_wp2_with fail
  refine (lens_ex _).mono ?_
  rintro e w2 ⟨A2, c2, rfl, H2, b⟩
  replace H1 := H1.below b; replace b1 := below2 b1 b; clear b
  go_wp2_with fail
  refine (lens_ex2 _).mono ?_
  rintro e w3 ⟨A3, c3, rfl, H3, b⟩
  replace H1 := H1.below b; replace H2 := H2.below b; replace b1 := below2 b1 b; clear b
  go_wp2_with fail
  refine (comp_ex _).mono ?_
  rintro e w4 ⟨rfl, b⟩
  replace H1 := H1.below b; replace H2 := H2.below b; replace H3 := H3.below b; replace b1 := below2 b1 b; clear b
  go_wp2_with fail
  refine (enc_ex _).mono ?_
  rintro e w5 ⟨A5, c5, rfl, H5, b⟩
  replace H1 := H1.below b; replace H2 := H2.below b; replace H3 := H3.below b; replace b1 := below2 b1 b; clear b
  go_wp2_with fail
  refine (dec_ex A5 c5 _ H5).mono ?_
  rintro e w6 ⟨A6, c6, rfl, H6, b⟩
  replace H1 := H1.below b; replace H2 := H2.below b; replace H3 := H3.below b; replace b1 := below2 b1 b; clear b H5
  go_wp2_with fail
  refine (ints_e4 _ _ _ _ A1 c1 _ H1).mono ?_
  rintro e w7 ⟨rfl, b⟩
  replace H2 := H2.below b; replace H3 := H3.below b; replace H6 := H6.below b; replace b1 := below2 b1 b; clear b H1
  go_wp2_with fail
  refine (ints_e4 _ _ _ _ A2 c2 _ H2).mono ?_
  rintro e w8 ⟨rfl, b⟩
  replace H3 := H3.below b; replace H6 := H6.below b; replace b1 := below2 b1 b; clear b H2
  go_wp2_with fail
  refine (ints_e4 _ _ _ _ A3 c3 _ H3).mono ?_
  rintro e w9 ⟨rfl, b⟩
  replace H6 := H6.below b; replace b1 := below2 b1 b; clear b H3
  go_wp2_with fail
  refine (ints_e3 _ _ _ A6 c6 _ H6).mono ?_
  rintro e w10 ⟨rfl, b⟩
  replace b1 := below2 b1 b; clear b H6
  go_wp2_with fail
  refine (check_ex _).mono ?_
  rintro e w11 ⟨rfl, b⟩
  replace b1 := below2 b1 b; clear b
  go_wp2
  go_ret
  exact ⟨rfl, b1⟩
end Go.Proofs.Ytlbgkkkcbnagbaa

namespace Go.Proofs.Ytlbgkkkcbnagbaa
open Go.ChangeShapes Go.WideShapes Go.ChangeAt Go.WideMaps Go.WideElems Go.RowKit Go.Deep

theorem own : ownKnob Try.prog.godebug = none := by kernel_rfl
theorem sl_cells {α : Type} (k : Kd α) (h1 : k.size = 1) {w : World} {a : Addr} {c : Nat} {xs : List α} (V : Nat → Value) (hle : xs.length ≤ c) (hc : c ≤ maxLen) (hcell : ∀ i, i < xs.length → w.cell? (a.add i) = some (V i)) (hK : ∀ i, i < xs.length → k.K AnyB w (nth k.dflt xs i) [V i]) :
    Sl k AnyB w (some a) c xs := by
  refine ⟨hle, by simpa [maxLen] using hc, fun j hj => ?_⟩
  have hcj := hcell j hj
  refine ⟨a, [V j], rfl, trivial, by have := World.block_lt_of_cell? w _ hcj; rwa [add_block] at this, hK j hj, fun i v hv => ?_⟩
  have hi : i = 0 := by
    rcases Nat.eq_zero_or_pos i with h | h
    · exact h
    · rw [List.getElem?_eq_none (by simp; omega)] at hv; cases hv
  subst hi
  injection hv with hv
  rw [h1, Nat.mul_one, Nat.add_zero, ← hv]
  exact hcj

section
variable {H : Type} {enc : TypeId × Value → H} {W : World}
/-- A []int. -/
theorem open_I {fuel : Nat} {v : Value} {x : DataW H × List MemPlace} (h : DataW.trod enc Try.prog W 0 (fun _ => true) true fuel 22 [v] = some x) :
    ∃ A c xs, v = .slice A xs.length c ∧ RI W A c xs ∧ ((∀ n ∈ x.1.weights Try.prog 22, n ≤ reachBytes) → xs.length ≤ 140737488355328) := by
  rcases open_ints Try.underlying22 Try.underlying3 (by kernel_rfl) h with ⟨hcs, _⟩ | ⟨a, len, cap, zs, hcs, _, hl, hm, hz, hx, hcell, _⟩
  · injection hcs with hv _
    exact ⟨none, 0, [], hv, ⟨Nat.le_refl _, by omega, Kd.Rd.nil _ _ _ _⟩, fun _ => by simp⟩
  · injection hcs with hv _
    have hz' : zs.length = cap := by simpa using hz
    have hlen : (zs.take len).length = len := by rw [List.length_take]; omega
    refine ⟨some a, cap, zs.take len, by rw [hlen]; exact hv, sl_cells (kInt .i64) rfl (fun i => .int .i64 (nth 0 zs i)) (by rw [hlen]; exact hl) hm (fun i hi => ?_) (fun i hi => ?_), fun hw => ?_⟩
    · rw [hlen] at hi
      rw [hcell i (by omega)]
      rfl
    · rw [hlen] at hi
      show [Value.int .i64 (nth 0 zs i)] = [.int .i64 (nth 0 (zs.take len) i)]
      rw [nth_take _ _ _ _ hi]
    · rw [hlen]
      have hb : Try.prog.bytesOf 3 = 8 := by kernel_rfl
      have := hw ((zs.take len).length * 8 + (zs.drop len).length * 8) (by rw [hx]; simp [DataW.weights, Try.underlying22, hb, lits, Nat.add_mul])
      have hr : reachBytes = 140737488351232 := rfl
      rw [hlen] at this
      omega

/-- A []byte. -/
theorem open_Y {fuel : Nat} {v : Value} {x : DataW H × List MemPlace} (h : DataW.trod enc Try.prog W 0 (fun _ => true) true fuel 34 [v] = some x) :
    ∃ A c xs, v = .slice A xs.length c ∧ RY W A c xs ∧ (∀ x ∈ xs, 0 ≤ x ∧ x < 256) ∧ ((∀ n ∈ x.1.weights Try.prog 34, n ≤ reachBytes) → xs.length ≤ 140737488355328) := by
  rcases open_ints Try.underlying34 Try.underlying5 (by kernel_rfl) h with ⟨hcs, _⟩ | ⟨a, len, cap, zs, hcs, _, hl, hm, hz, hx, hcell, hwf⟩
  · injection hcs with hv _
    exact ⟨none, 0, [], hv, ⟨Nat.le_refl _, by omega, Kd.Rd.nil _ _ _ _⟩, (fun x hx => by cases hx), fun _ => by simp⟩
  · injection hcs with hv _
    have hz' : zs.length = cap := by simpa using hz
    have hlen : (zs.take len).length = len := by rw [List.length_take]; omega
    refine ⟨some a, cap, zs.take len, by rw [hlen]; exact hv, sl_cells (kInt .u8) rfl (fun i => .int .u8 (nth 0 zs i)) (by rw [hlen]; exact hl) hm (fun i hi => ?_) (fun i hi => ?_), fun y hy => ?_, fun hw => ?_⟩
    · rw [hlen] at hi
      rw [hcell i (by omega)]
      rfl
    · rw [hlen] at hi
      show [Value.int .u8 (nth 0 zs i)] = [.int .u8 (nth 0 (zs.take len) i)]
      rw [nth_take _ _ _ _ hi]
    · have := hwf y (List.mem_of_mem_take hy)
      simp [Lit.wf, IntKind.min, IntKind.max, IntKind.signed, IntKind.bits] at this
      omega
    · rw [hlen]
      have hb : Try.prog.bytesOf 5 = 1 := by kernel_rfl
      have := hw ((zs.take len).length * 1 + (zs.drop len).length * 1) (by rw [hx]; simp [DataW.weights, Try.underlying34, hb, lits])
      have hr : reachBytes = 140737488351232 := rfl
      rw [hlen] at this
      omega
end
end Go.Proofs.Ytlbgkkkcbnagbaa
