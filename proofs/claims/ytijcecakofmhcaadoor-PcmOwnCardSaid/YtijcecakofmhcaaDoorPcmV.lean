/- pcm: fmtChunk, Wave: what each call returns. -/
import Derived.Test.YtijcecakofmhcaaDoorPcmU
import Derived.Lib.SlBytesConst
namespace Go.Proofs.YtijcecakofmhcaaDoor
open Go.RowKit

theorem lit_sl (W : World) (e : TypeId) (k : IntKind) (xs : List Int) (hm : xs.length ≤ 9223372036854775807) :
    Sl (kInt k) (fun b => b = W.heap.size) (W.alloc (.cells (nums k xs).toArray e)) (some ⟨W.heap.size, 0, none⟩) xs.length xs := by
  obtain ⟨A, c, e1, h⟩ := (own_lit W e k xs hm).rd
  injection e1 with e1 e2 e3
  subst e1 e3
  exact h.weak fun b _ hb => by have := Option.some.inj hb.2; exact this.symm
theorem little_new (base : Nat) (u : Value) (xs : List Int) (m : Nat) (l : List Int) (W : World) (hv : OwnI 5 .u8 base W u xs) (hb : base ≤ W.heap.size) (hm : m ≤ 8) (hl : xs.length + l.length * 8 ≤ 1000000) :
    Calls Tryd.prog 53 #[u, .int .i64 m, .slice (some ⟨W.heap.size, 0, none⟩) l.length l.length] (W.alloc (.cells (nums .i64 l).toArray 3)) fun e w' => ∃ v, e = .returned v ∧ Grew 5 .u8 base W u w' v (xs ++ leL m l) := by
  have hs := lit_sl W 3 .i64 l (by omega)
  have hv1 := hv.below (below_alloc (Below.refl W.heap.size W) (.cells (nums .i64 l).toArray 3))
  have hsz : W.heap.size ≤ (W.alloc (.cells (nums .i64 l).toArray 3)).heap.size := (below_alloc (Below.refl W.heap.size W) _).size
  refine (little_any base u xs m _ _ l _ _ hv1 hs (fun b _ hb h => by have := (hv.lt b h).2; omega) (by omega) hm hl).mono ?_
  rintro e w' ⟨v, rfl, hG⟩
  exact ⟨v, rfl, ((Grew.refl hv).then_ (below_alloc (Below.refl W.heap.size W) _) hb).trans hG⟩

def fmtL (ch rate : Int) : List Int := [102, 109, 116, 32] ++ leL 4 [16] ++ leL 2 [1, ch] ++ leL 4 [rate, 2 * ch * rate] ++ leL 2 [2 * ch, 16]

theorem row_sl {w : World} {g : Nat} {k : IntKind} {xs : List Int} {e : TypeId} {sh : Nat × Nat} (h : w.heap[g]? = some (.cells (nums k xs).toArray e sh)) (hm : xs.length ≤ maxLen) :
    Sl (kInt k) (fun b => b = g) w (some ⟨g, 0, none⟩) xs.length xs := by
  refine ⟨Nat.le_refl _, by simpa [maxLen] using hm, fun j hj => ⟨_, [.int k (nth 0 xs j)], rfl, rfl, (Array.getElem?_eq_some_iff.1 h).1, rfl, fun i v hv => ?_⟩⟩
  match i, hv with
  | 0, hv =>
    simp at hv
    subst hv
    have := (cell_of_row w g j (nums k xs).toArray e sh h).trans (by simpa using nums_get k xs j hj)
    simpa [kInt, add_plain] using this
/-- A literal full slice, another literal behind it: 'little' of both. -/
theorem little_lit (W W0 : World) (g : Nat) (hg : g = W.heap.size) (xs : List Int) (m : Nat) (l : List Int) (sh : Nat × Nat) (hW : W = W0.alloc (.cells (nums .u8 xs).toArray 5 sh)) (hm0 : 0 < m) (hl0 : 0 < l.length) (hm : m ≤ 8) (hl : xs.length + l.length * 8 ≤ 1000000) :
    Calls Tryd.prog 53 #[.slice (some ⟨W0.heap.size, 0, none⟩) xs.length xs.length, .int .i64 m, .slice (some ⟨g, 0, none⟩) l.length l.length] (W.alloc (.cells (nums .i64 l).toArray 3))
      fun e w' => ∃ u, e = .returned u ∧ OwnI 5 .u8 W0.heap.size w' u (xs ++ leL m l) ∧ Below W0.heap.size W0 w' := by
  subst hg
  have hs := lit_sl W 3 .i64 l (by omega)
  have hB := below_alloc (Below.refl W.heap.size W) (.cells (nums .i64 l).toArray 3)
  have hA := below_alloc (Below.refl W0.heap.size W0) (.cells (nums .u8 xs).toArray 5 sh)
  rw [← hW] at hA
  have hr : Sl (kInt .u8) (fun b => b = W0.heap.size) W (some ⟨W0.heap.size, 0, none⟩) xs.length xs := row_sl (by rw [hW]; exact heap_alloc_new W0 _) (by simp only [maxLen]; omega)
  refine (little_full ⟨W0.heap.size, 0, none⟩ xs m _ _ l _ _ _ (hr.below hB) hs hm0 hl0 hm hl).mono ?_
  rintro e w' ⟨u, rfl, hO, hC⟩
  exact ⟨u, rfl, hO.mono (below2 hA hB).size, below2 (below2 hA hB) hC⟩

set_option maxHeartbeats 1000000 in
set_option maxRecDepth 100000 in
theorem fmtChunk_any (ch rate : Int) (w : World) (h1 : 1 ≤ ch) (h2 : ch ≤ 2) (h3 : 0 ≤ rate) (h4 : rate ≤ 48000) :
    Calls Tryd.prog 54 #[.int .i64 ch, .int .i64 rate] w fun e w' => ∃ v, e = .returned v ∧ OwnI 5 .u8 w.heap.size w' v (fmtL ch rate) ∧ Below w.heap.size w w' := by
  have hm : 0 ≤ 2 * ch * rate ∧ 2 * ch * rate ≤ 192000 := by
    have hc : ch = 1 ∨ ch = 2 := by omega
    rcases hc with rfl | rfl <;> omega
  have kc := fun (w : World) (C : Array Value) (n c : Nat) => Lib.run_convert_bytes_const (P := Tryd.prog) w 25 5 C n c Tryd.underlying25 Tryd.underlying5
  go_enter Tryd.func54, Tryd.ntmps54
  have t1 : True := trivial
  have t2 : True := trivial
  have t3 : True := trivial
  go_wp2_with (first | (go_at_call 53; have _t := t1; refine (little_lit (w.alloc (.cells (nums .u8 [102, 109, 116, 32]).toArray 5 (4, 5))) w _ (World.size_alloc _ _).symm [102, 109, 116, 32] 4 [16] (4, 5) rfl (by decide) (by decide) (by decide) (by decide)).mono ?_; clear t1; rintro e w1 ⟨u1, rfl, hO1, hB1⟩) | (go_at_call 53; have _t := t2; refine (little_new w.heap.size u1 _ 2 [1, ch] w1 hO1 hB1.size (by decide) (by simp [leL_length])).mono ?_; clear t2; rintro e w2 ⟨u2, rfl, G2⟩; have B2 := hB1.trans G2.below) | (go_at_call 53; have _t := t3; refine (little_new w.heap.size u2 _ 4 [rate, 2 * ch * rate] w2 G2.own B2.size (by decide) (by simp [leL_length])).mono ?_; clear t3; rintro e w3 ⟨u3, rfl, G3⟩; have B3 := B2.trans G3.below) | (go_at_call 53; go_loud (refine (little_new w.heap.size u3 _ 2 [2 * ch, 16] w3 G3.own B3.size (by decide) (by simp [leL_length])).mono ?_); rintro e w4 ⟨u4, rfl, G4⟩; have B4 := B3.trans G4.below))
  go_ret
  exact ⟨_, rfl, G4.own, B4⟩
end Go.Proofs.YtijcecakofmhcaaDoor
