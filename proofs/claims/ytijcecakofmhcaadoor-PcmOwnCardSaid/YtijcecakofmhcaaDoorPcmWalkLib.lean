/- The laws of pcm: what the walks share. -/
import Derived.Test.YtijcecakofmhcaaDoorPcmLaid
import Derived.Test.YtijcecakofmhcaaDoorPcmAwake
import Derived.Test.YtijcecakofmhcaaDoorPcmR
import Derived.Test.YtijcecakofmhcaaDoorPcmRefE
namespace Go.Proofs.YtijcecakofmhcaaDoor
open Go.RowKit

theorem sameB_self (r : Int) (s : List (List Int)) : sameB r s r s = true := by simp [sameB]
theorem ints_b (A : Option Addr) (c : Nat) (xs : List Int) (B : Option Addr) (d : Nat) (ys : List Int) (w : World) (h : Sl (kInt .i64) AnyB w A c xs) (h2 : Sl (kInt .i64) AnyB w B d ys) :
    Calls Tryd.prog 24 #[.slice A xs.length c, .slice B ys.length d] w fun e w' => e = .returned (.bool (decide (xs = ys))) ∧ Below w.heap.size w w' :=
  (ints_any A c xs B d ys w h h2).mono fun _ _ h => ⟨h.1, let ⟨m, hm⟩ := h.2; hm ▸ below_drewN (Below.refl _ _) m⟩
/-- A sound against itself. -/
theorem same_self (r : Int) (s : List (List Int)) (A : Option Addr) (c : Nat) (B : Option Addr) (d : Nat) (w : World) (h : R2 w A c s) (h2 : R2 w B d s) :
    Calls Tryd.prog 19 #[.agg #[.int .i64 r, .slice A s.length c], .agg #[.int .i64 r, .slice B s.length d]] w fun e w' => e = .returned (.bool true) ∧ Below w.heap.size w w' :=
  (refSame_any r A c s r B d s w h h2).mono fun e w' h => ⟨by rw [h.1, sameB_self], h.2⟩
theorem ints_self (A : Option Addr) (c : Nat) (xs : List Int) (B : Option Addr) (d : Nat) (w : World) (h : Sl (kInt .i64) AnyB w A c xs) (h2 : Sl (kInt .i64) AnyB w B d xs) :
    Calls Tryd.prog 24 #[.slice A xs.length c, .slice B xs.length d] w fun e w' => e = .returned (.bool true) ∧ Below w.heap.size w w' :=
  (ints_b A c xs B d xs w h h2).mono fun e w' h => ⟨by rw [h.1]; simp, h.2⟩
theorem bytes_self (A : Option Addr) (c : Nat) (xs : List Int) (B : Option Addr) (d : Nat) (w : World) (h : Sl (kInt .u8) AnyB w A c xs) (h2 : Sl (kInt .u8) AnyB w B d xs) :
    Calls Tryd.prog 18 #[.slice A xs.length c, .slice B xs.length d] w fun e w' => e = .returned (.bool true) ∧ Below w.heap.size w w' :=
  (same1_b A c xs B d xs w h h2).mono fun e w' h => ⟨by rw [h.1]; simp, h.2⟩
/-- One sound as the argument of few. -/
theorem few1 (W : World) (x : Int) (A : Option Addr) (c : Nat) (s : List (List Int)) (hS : R2 W A c s) (hF : Fits s) :
    Calls Tryd.prog 12 #[.slice (some ⟨W.heap.size, 0, none⟩) 1 1] (W.alloc (.cells #[.int .i64 x, .slice A s.length c] 24)) fun e w' => e = .returned (.bool (smallB s 20000)) ∧ Below W.heap.size W w' := by
  have hb := below_alloc (Below.refl W.heap.size W) (.cells #[.int .i64 x, .slice A s.length c] 24)
  have hB : Blk (W.alloc (.cells #[.int .i64 x, .slice A s.length c] 24)) W.heap.size #[.int .i64 x, .slice A s.length c] 24 := heap_alloc_new W _
  have hs : Snds (W.alloc (.cells #[.int .i64 x, .slice A s.length c] 24)) W.heap.size 1 (fun _ => x) (fun _ => A) (fun _ => c) (fun _ => s) := by
    refine ⟨fun j hj => ?_, fun j hj => ?_, fun _ _ => hS.below hb⟩
    · obtain rfl : j = 0 := by omega
      exact hB.cell 0 rfl
    · obtain rfl : j = 0 := by omega
      exact hB.cell 1 rfl
  refine (few_any W.heap.size 1 _ _ _ _ _ hs (fun _ _ => hF) (by decide)).mono fun e w' h => ⟨?_, below2 hb h.2⟩
  rw [h.1]
  simp [fewB]
/-- Two sounds as the arguments of few. -/
theorem few2 (W : World) (x : Int) (A : Option Addr) (c : Nat) (s : List (List Int)) (y : Int) (B : Option Addr) (d : Nat) (t : List (List Int)) (hS : R2 W A c s) (hF : Fits s) (hT : R2 W B d t) (hFt : Fits t) :
    Calls Tryd.prog 12 #[.slice (some ⟨W.heap.size, 0, none⟩) 2 2] (W.alloc (.cells #[.int .i64 x, .slice A s.length c, .int .i64 y, .slice B t.length d] 24)) fun e w' => e = .returned (.bool (smallB s 20000 && smallB t 20000)) ∧ Below W.heap.size W w' := by
  have hb := below_alloc (Below.refl W.heap.size W) (.cells #[.int .i64 x, .slice A s.length c, .int .i64 y, .slice B t.length d] 24)
  have hB : Blk (W.alloc (.cells #[.int .i64 x, .slice A s.length c, .int .i64 y, .slice B t.length d] 24)) W.heap.size #[.int .i64 x, .slice A s.length c, .int .i64 y, .slice B t.length d] 24 := heap_alloc_new W _
  have hs : Snds (W.alloc (.cells #[.int .i64 x, .slice A s.length c, .int .i64 y, .slice B t.length d] 24)) W.heap.size 2 (fun j => if j = 0 then x else y) (fun j => if j = 0 then A else B) (fun j => if j = 0 then c else d) (fun j => if j = 0 then s else t) := by
    refine ⟨fun j hj => ?_, fun j hj => ?_, fun j hj => ?_⟩ <;>
    · match j, hj with
      | 0, _ => first | exact hB.cell 0 rfl | exact hB.cell 1 rfl | exact hS.below hb
      | 1, _ => first | exact hB.cell 2 rfl | exact hB.cell 3 rfl | exact hT.below hb
  refine (few_any W.heap.size 2 _ _ _ _ _ hs (fun j hj => ?_) (by decide)).mono fun e w' h => ⟨?_, below2 hb h.2⟩
  · match j, hj with
    | 0, _ => exact hF
    | 1, _ => exact hFt
  · rw [h.1]
    simp [fewB, List.range_succ]
end Go.Proofs.YtijcecakofmhcaaDoor
