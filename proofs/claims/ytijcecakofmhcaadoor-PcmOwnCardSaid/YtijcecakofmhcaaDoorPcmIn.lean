/- The laws of pcm: what the arguments read as. -/
import Derived.Test.YtijcecakofmhcaaDoorPcmLawB
import Derived.Test.YtijcecakofmhcaaDoorCut
import Derived.Lib.SmallJoins
import Derived.LaidMore
import Derived.Stop.Joined
namespace Go.Proofs.YtijcecakofmhcaaDoor
open Go.ChangeShapes Go.WideShapes Go.ChangeAt Go.WideMaps Go.WideElems Go.RowKit Go.Deep

theorem sl_cells {α : Type} (k : Kd α) (h1 : k.size = 1) {w : World} {a : Addr} {c : Nat} {xs : List α} (V : Nat → Value) (hle : xs.length ≤ c) (hc : c ≤ maxLen) (hcell : ∀ i, i < xs.length → w.cell? (a.add i) = some (V i)) (hK : ∀ i, i < xs.length → k.K AnyB w (nth k.dflt xs i) [V i]) :
    Sl k AnyB w (some a) c xs := by
  refine ⟨hle, by simpa [maxLen] using hc, fun j hj => ?_⟩
  have hcj := hcell j hj
  refine ⟨a, [V j], rfl, trivial, by have := World.block_lt_of_cell? w _ hcj; rwa [add_block] at this, hK j hj, fun i v hv => ?_⟩
  have hi : i = 0 := by
    rcases Nat.eq_zero_or_pos i with h | h
    · exact h
    · rw [List.getElem?_eq_none (by simp; omega)] at hv; cases hv
  subst hi
  injection hv with hv
  rw [h1, Nat.mul_one, Nat.add_zero, ← hv]
  exact hcj

section
variable {H : Type} {enc : TypeId × Value → H} {W : World}
/-- A []int. -/
theorem open_I {fuel : Nat} {v : Value} {x : DataW H × List MemPlace} (h : DataW.trod enc Tryd.prog W 0 (fun _ => true) true fuel 36 [v] = some x) :
    ∃ A c xs, v = .slice A xs.length c ∧ RI W A c xs ∧ ((∀ n ∈ x.1.weights Tryd.prog 36, n ≤ reachBytes) → xs.length ≤ 140737488355328) := by
  rcases open_ints Tryd.underlying36 Tryd.underlying3 (by kernel_rfl) h with ⟨hcs, _⟩ | ⟨a, len, cap, zs, hcs, _, hl, hm, hz, hx, hcell, _⟩
  · injection hcs with hv _
    exact ⟨none, 0, [], hv, ⟨Nat.le_refl _, by omega, Kd.Rd.nil _ _ _ _⟩, fun _ => by simp⟩
  · injection hcs with hv _
    have hz' : zs.length = cap := by simpa using hz
    have hlen : (zs.take len).length = len := by rw [List.length_take]; omega
    refine ⟨some a, cap, zs.take len, by rw [hlen]; exact hv, sl_cells (kInt .i64) rfl (fun i => .int .i64 (nth 0 zs i)) (by rw [hlen]; exact hl) hm (fun i hi => ?_) (fun i hi => ?_), fun hw => ?_⟩
    · rw [hlen] at hi
      rw [hcell i (by omega)]
      rfl
    · rw [hlen] at hi
      show [Value.int .i64 (nth 0 zs i)] = [.int .i64 (nth 0 (zs.take len) i)]
      rw [nth_take _ _ _ _ hi]
    · rw [hlen]
      have hb : Tryd.prog.bytesOf 3 = 8 := by kernel_rfl
      have := hw ((zs.take len).length * 8 + (zs.drop len).length * 8) (by rw [hx]; simp [DataW.weights, Tryd.underlying36, hb, lits, Nat.add_mul])
      have hr : reachBytes = 140737488351232 := rfl
      rw [hlen] at this
      omega

theorem weightsAll_mem {P : Program} {e : TypeId} : ∀ {l : List (DataW H)} {d : DataW H}, d ∈ l → ∀ n ∈ d.weights P e, n ∈ DataW.weightsAll P e l
  | _ :: _, _, .head _, n, hn => by simp only [DataW.weightsAll, List.mem_append]; exact .inl hn
  | _ :: _, _, .tail _ h, n, hn => by simp only [DataW.weightsAll, List.mem_append]; exact .inr (weightsAll_mem h n hn)

/-- A [][]int. -/
theorem open_II {fuel : Nat} {v : Value} {x : DataW H × List MemPlace} (h : DataW.trod enc Tryd.prog W 0 (fun _ => true) true fuel 22 [v] = some x) :
    ∃ A c s, v = .slice A s.length c ∧ R2 W A c s ∧ ((∀ n ∈ x.1.weights Tryd.prog 22, n ≤ reachBytes) → Fits s) := by
  rcases open_slice1 Tryd.underlying22 (by kernel_rfl) h with ⟨hcs, _⟩ | ⟨a, len, cap, m, n, V, D, Pl, hcs, _, hl, hm, hmm, hx, hel⟩
  · injection hcs with hv _
    exact ⟨none, 0, [], hv, ⟨Nat.le_refl _, by omega, Kd.Rd.nil _ _ _ _⟩, fun _ => ⟨by simp, fun c hc => by cases hc⟩⟩
  · injection hcs with hv _
    have hmc : m = cap := by simpa using hmm
    have each : ∀ i, ∃ p : Option Addr × Nat × List Int, i < len → V i = .slice p.1 p.2.2.length p.2.1 ∧ RI W p.1 p.2.1 p.2.2 ∧ ((∀ n ∈ (D i).weights Tryd.prog 36, n ≤ reachBytes) → p.2.2.length ≤ 140737488355328) := fun i => by
      by_cases hi : i < len
      · obtain ⟨A, c, xs, h1, h2, h3⟩ := open_I (hel i (by omega)).2
        exact ⟨(A, c, xs), fun _ => ⟨h1, h2, h3⟩⟩
      · exact ⟨(none, 0, []), fun h => absurd h hi⟩
    obtain ⟨f, hf⟩ := Classical.axiomOfChoice each
    have hlen : ((List.range len).map fun i => (f i).2.2).length = len := by simp
    have hnth : ∀ i, i < len → nth [] ((List.range len).map fun i => (f i).2.2) i = (f i).2.2 := fun i hi => by
      rw [nth_eq [] _ i (by rw [hlen]; exact hi)]; simp
    refine ⟨some a, cap, (List.range len).map fun i => (f i).2.2, by rw [hlen]; exact hv, sl_cells (kSl (kInt .i64)) rfl V (by rw [hlen]; exact hl) hm (fun i hi => ?_) (fun i hi => ?_), fun hw => ?_⟩
    · rw [hlen] at hi
      exact (hel i (by omega)).1
    · rw [hlen] at hi
      obtain ⟨h1, h2, _⟩ := hf i hi
      have key : (kSl (kInt .i64)).K AnyB W (f i).2.2 [V i] := by rw [h1]; exact ⟨_, _, rfl, h2⟩
      show (kSl (kInt .i64)).K AnyB W (nth [] ((List.range len).map fun i => (f i).2.2) i) [V i]
      rw [hnth i hi]
      exact key
    · have hb : Tryd.prog.bytesOf 36 = 24 := by kernel_rfl
      have hr : reachBytes = 140737488351232 := rfl
      rw [hx] at hw
      have hsub : ∀ i, i < len → ∀ n ∈ (D i).weights Tryd.prog 36, n ≤ reachBytes := fun i hi n hn => by
        refine hw n ?_
        simp only [DataW.weights, Tryd.underlying22, List.mem_cons, List.mem_append]
        exact .inr (.inl (weightsAll_mem (List.mem_map.2 ⟨i, List.mem_range.2 hi, rfl⟩) n hn))
      refine ⟨?_, fun c hc => ?_⟩
      · rw [hlen]
        have := hw ((len + (m - len)) * 24) (by simp [DataW.weights, Tryd.underlying22, hb])
        omega
      · obtain ⟨i, hi, rfl⟩ := List.mem_map.1 hc
        have hi := List.mem_range.1 hi
        exact (hf i hi).2.2 (hsub i hi)
/-- A sound. -/
theorem open_S {r : Reach} {b0 : Nat} {v : Value} {d : DataW H} {p : List MemPlace} (hv : Value.okWide Tryd.prog W r b0 24 v) (h : DataW.Trod enc Tryd.prog W 0 (fun _ => true) true 24 v d p) :
    ∃ (x : Int) (A : Option Addr) (c : Nat) (s : List (List Int)), v = .agg #[.int .i64 x, .slice A s.length c] ∧ R2 W A c s ∧ ((∀ n ∈ d.weights Tryd.prog 24, n ≤ reachBytes) → Fits s) := by
  obtain ⟨v0, v1, y0, y1, n, rfl, rfl, rfl, h0, h1⟩ := Joins.open_agg2 (P := Tryd.prog) Tryd.underlying24 (by kernel_rfl) (by kernel_rfl) hv h
  obtain ⟨A, c, s, rfl, h2, h3⟩ := open_II h1
  obtain ⟨k, e1, _⟩ := DataW.trod_int (P := Tryd.prog) Tryd.underlying3 h0
  injection e1 with e1 _
  subst e1
  refine ⟨k, A, c, s, rfl, h2, fun hw => h3 fun n hn => hw n ?_⟩
  simp only [DataW.weights, Tryd.underlying24]
  simp [DataW.weightsEach, hn]
/-- A []byte. -/
theorem open_Y {fuel : Nat} {v : Value} {x : DataW H × List MemPlace} (h : DataW.trod enc Tryd.prog W 0 (fun _ => true) true fuel 25 [v] = some x) :
    ∃ A c xs, v = .slice A xs.length c ∧ RY W A c xs ∧ Bytes xs ∧ ((∀ n ∈ x.1.weights Tryd.prog 25, n ≤ reachBytes) → xs.length ≤ 140737488355328) := by
  rcases open_ints Tryd.underlying25 Tryd.underlying5 (by kernel_rfl) h with ⟨hcs, _⟩ | ⟨a, len, cap, zs, hcs, _, hl, hm, hz, hx, hcell, hwf⟩
  · injection hcs with hv _
    exact ⟨none, 0, [], hv, ⟨Nat.le_refl _, by omega, Kd.Rd.nil _ _ _ _⟩, (fun x hx => by cases hx), fun _ => by simp⟩
  · injection hcs with hv _
    have hz' : zs.length = cap := by simpa using hz
    have hlen : (zs.take len).length = len := by rw [List.length_take]; omega
    refine ⟨some a, cap, zs.take len, by rw [hlen]; exact hv, sl_cells (kInt .u8) rfl (fun i => .int .u8 (nth 0 zs i)) (by rw [hlen]; exact hl) hm (fun i hi => ?_) (fun i hi => ?_), fun y hy => ?_, fun hw => ?_⟩
    · rw [hlen] at hi
      rw [hcell i (by omega)]
      rfl
    · rw [hlen] at hi
      show [Value.int .u8 (nth 0 zs i)] = [.int .u8 (nth 0 (zs.take len) i)]
      rw [nth_take _ _ _ _ hi]
    · have := hwf y (List.mem_of_mem_take hy)
      simp [Lit.wf, IntKind.min, IntKind.max, IntKind.signed, IntKind.bits] at this
      omega
    · rw [hlen]
      have hb : Tryd.prog.bytesOf 5 = 1 := by kernel_rfl
      have := hw ((zs.take len).length * 1 + (zs.drop len).length * 1) (by rw [hx]; simp [DataW.weights, Tryd.underlying25, hb, lits])
      have hr : reachBytes = 140737488351232 := rfl
      rw [hlen] at this
      omega
/-- A [2]int. -/
theorem open_P2 {r : Reach} {b0 : Nat} {v : Value} {d : DataW H} {p : List MemPlace} (hv : Value.okWide Tryd.prog W r b0 37 v) (h : DataW.Trod enc Tryd.prog W 0 (fun _ => true) true 37 v d p) :
    ∃ a b : Int, v = .agg #[.int .i64 a, .int .i64 b] := by
  simp only [Value.okWide, Tryd.underlying37] at hv
  obtain ⟨cs, rfl, hc, _⟩ := hv
  have c2 : Tryd.prog.cellsOf 37 = 2 := by kernel_rfl
  have c1 : Tryd.prog.cellsOf 3 = 1 := by kernel_rfl
  rw [c2] at hc
  obtain ⟨fuel, hf⟩ := h
  obtain ⟨xs, m1, rfl, hx1, hlen, hn, hel⟩ := DataW.trod_array Tryd.underlying37 hf
  obtain ⟨l⟩ := cs
  match l, hc with
  | [y0, y1], _ =>
    have e0 := hel 0 (by decide)
    have e1 := hel 1 (by decide)
    rw [c1, List.getElem?_eq_getElem (by omega)] at e0 e1
    obtain ⟨k0, z0, _⟩ := DataW.trod_int (P := Tryd.prog) Tryd.underlying3 e0
    obtain ⟨k1, z1, _⟩ := DataW.trod_int (P := Tryd.prog) Tryd.underlying3 e1
    simp [Value.cells] at z0 z1
    exact ⟨k0, k1, by rw [z0, z1]⟩
end
end Go.Proofs.YtijcecakofmhcaaDoor
