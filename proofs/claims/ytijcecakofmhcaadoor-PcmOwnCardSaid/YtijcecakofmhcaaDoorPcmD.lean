/- pcm: change, with a function that makes a new list of a list: what the call returns. -/
import Derived.Test.YtijcecakofmhcaaDoorLibT
import Derived.Test.YtijcecakofmhcaaDoorPcmB
import Derived.Test.YtijcecakofmhcaaDoorSlices
namespace Go.Proofs.YtijcecakofmhcaaDoor
open Go.RowKit

theorem infoS : (Tryd.prog.info? 36).map (fun i => (i.zero, i.size, i.bytes)) = some (some (.slice none 0 0), 1, 24) := by kernel_rfl

theorem sizeS : (Tryd.prog.info? 24).map (·.size) = some 2 := by kernel_rfl

/-- A function that makes a new list of a list, and may keep a state of its own in block bk. Inv j: the state when it has been called j times; F: the lists. -/
def Makes (fn : FuncId) (caps : Array Value) (bk n0 : Nat) (Inv : Nat → World → Prop) (s : List (List Int)) (F : Nat → List Int) : Prop :=
  ∀ (j : Nat) (A : Option Addr) (w : World), j < s.length → Inv j w → Sl (kInt .i64) (fun b => b ≠ bk) w A (nth [] s j).length (nth [] s j) → n0 ≤ w.heap.size →
    Calls Tryd.prog fn (#[.slice A (nth [] s j).length (nth [] s j).length] ++ caps) w fun e w' => ∃ v, e = .returned v ∧ OwnI 3 .i64 w.heap.size w' v (F j) ∧ w.grownBy w' (some bk) ∧ Inv (j + 1) w'
/-- The state is not touched by what others do in blocks from n0 on. -/
def InvKept (n0 : Nat) (Inv : Nat → World → Prop) : Prop := ∀ j a b, Inv j a → Keep (· < n0) a b → Inv j b
theorem Makes.at {fn : FuncId} {caps : Array Value} {bk n0 : Nat} {Inv : Nat → World → Prop} {s : List (List Int)} {F : Nat → List Int} (h : Makes fn caps bk n0 Inv s F)
    (j : Nat) (A : Option Addr) (w : World) (hj : j < s.length) (hi : Inv j w) (hr : Sl (kInt .i64) (fun b => b ≠ bk) w A (nth [] s j).length (nth [] s j)) (hn : n0 ≤ w.heap.size) (args : Array Value) (ha : args = #[.slice A (nth [] s j).length (nth [] s j).length] ++ caps) :
    Calls Tryd.prog fn args w fun e w' => ∃ v, e = .returned v ∧ OwnI 3 .i64 w.heap.size w' v (F j) ∧ w.grownBy w' (some bk) ∧ Inv (j + 1) w' := by
  rw [ha]; exact h j A w hj hi hr hn
/-- A sound and an error that are returned; the sound lies in blocks from n0 on. -/
def RetS (n0 : Nat) (R : Int × List (List Int) × Int) (e : Ending) (w' : World) : Prop :=
  ∃ A c, e = .returned (.tuple #[.agg #[.int .i64 R.1, .slice A R.2.1.length c], .int .i64 R.2.2]) ∧ Sl (kSl (kInt .i64)) (fun b => n0 ≤ b) w' A c R.2.1
theorem RetS.none (n0 : Nat) (e : Int) (w' : World) : RetS n0 (0, [], e) (.returned (.tuple #[.agg #[.int .i64 0, .slice Option.none 0 0], .int .i64 e])) w' := ⟨Option.none, 0, rfl, Nat.le_refl _, by omega, Kd.Rd.nil _ _ _ _⟩
theorem RetT.toS {n0 : Nat} {R : Int × List (List Int) × Int} {e : Ending} {w' : World} (h : RetT n0 R e w') : RetS n0 R e w' := let ⟨A, c, h1, h2⟩ := h; ⟨A, c, h1, h2.ofT⟩
theorem grown_trans {a b c : World} {row : Option Nat} (h : a.grownBy b row) (k : b.grownBy c row) : a.grownBy c row := World.grownBy.trans h k
theorem grown_of_below {w w1 : World} (h : Below w.heap.size w w1) (row : Option Nat) : w.grownBy w1 row := ⟨h.os, h.tape, h.output, h.size, fun i hi _ => h.block i hi⟩
theorem grown_row {a b c : World} {row r2 : Option Nat} (h : a.grownBy b row) (k : b.grownBy c r2) (hr : ∀ g, r2 = some g → a.heap.size ≤ g) : a.grownBy c row :=
  ⟨k.os.trans h.os, k.tape.trans h.tape, k.output.trans h.output, Nat.le_trans h.size k.size, fun i hi hne => (k.block i (Nat.lt_of_lt_of_le hi h.size) (fun e => by have := hr i e.symm; omega)).trans (h.block i hi hne)⟩
section
variable {w wr w5 w6 : World} {v : Value} {xs : List (List Int)} {ok : Nat → Prop} {B bk n0 : Nat} {e : TypeId}
theorem change_own (h : OwnK kT e B (fun b => n0 ≤ b ∧ ok b) wr v xs) (hg : wr.grownBy w5 (some bk)) (hbk : bk < n0) (_hz : B ≤ wr.heap.size) (hB : n0 ≤ B) : OwnK kT e B (fun b => n0 ≤ b ∧ ok b) w5 v xs :=
  h.keep (Keep.of_grown hg) (fun b hb he => by have := h.base_le b hb; have := Option.some.inj he; omega) (fun b hb he => by have := hb.1; have := Option.some.inj he; omega) ⟨hg.os, hg.tape, hg.output⟩
theorem change_ne (h : OwnK kT e B ok wr v xs) {g : Nat} (hg : g < B) : some g ≠ v.ownBlock := fun he => by have := h.base_le g he.symm; omega
theorem change_new (h : OwnK kT e B ok wr v xs) {g1 g2 g3 b : Nat} (hb : wr.heap.size ≤ b) (l1 : g1 < wr.heap.size) (l2 : g2 < wr.heap.size) (l3 : g3 < wr.heap.size) (hs : n0 ≤ wr.heap.size) :
    (n0 ≤ b ∧ b ≠ g1 ∧ b ≠ g2 ∧ b ≠ g3) ∧ v.ownBlock ≠ some b := ⟨⟨by omega, by omega, by omega, by omega⟩, fun he => by have := (h.lt b he).2; omega⟩
theorem change_blk {g : Nat} {cs : Array Value} {t : TypeId} {row : Option Nat} (h : Blk wr g cs t) (hg : wr.grownBy w5 (some bk)) (hg6 : w5.grownBy w6 row) (h1 : some g ≠ some bk) (h2 : some g ≠ row) : Blk w6 g cs t :=
  (h.keep (Keep.of_grown hg) h1).keep (Keep.of_grown hg6) h2
end
end Go.Proofs.YtijcecakofmhcaaDoor
