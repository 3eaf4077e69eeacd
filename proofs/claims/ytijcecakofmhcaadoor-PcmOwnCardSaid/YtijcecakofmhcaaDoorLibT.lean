/- Slices of ints that may be written: what they read as, and that none of their cells is shared with a string. -/
import Derived.Test.YtijcecakofmhcaaDoorLibB
namespace Go.Proofs.YtijcecakofmhcaaDoor
open Go.RowKit

structure SlT (ok : Nat → Prop) (w : World) (A : Option Addr) (c : Nat) (xs : List Int) : Prop where
  sl : Sl (kInt .i64) ok w A c xs
  thaw : ∀ j, j < xs.length → ∀ ad, A = some ad → w.frozen? (ad.add j) = false
section
variable {ok ok' : Nat → Prop} {w w' : World} {A : Option Addr} {c : Nat} {xs : List Int}
theorem SlT.keep (h : SlT ok w A c xs) (hk : Keep ok w w') : SlT ok w' A c xs := ⟨h.sl.keep hk, fun j hj ad e => by
  obtain ⟨ad', cs, e', ho, hl, _⟩ := h.sl.rd j hj
  obtain rfl : ad' = ad := Option.some.inj (e'.symm.trans e)
  have hb := add_block ad' j
  rw [World.frozen?_of_block (w := w) (by rw [hb]; exact hk.blk _ hl ho)]
  exact h.thaw j hj _ e⟩
theorem SlT.below (h : SlT ok w A c xs) (hb : Below w.heap.size w w') : SlT ok w' A c xs := ⟨h.sl.below hb, fun j hj ad e => by
  obtain ⟨ad', cs, e', ho, hl, _⟩ := h.sl.rd j hj
  obtain rfl : ad' = ad := Option.some.inj (e'.symm.trans e)
  have hab := add_block ad' j
  rw [World.frozen?_of_block (w := w) (by rw [hab]; exact hb.block _ hl)]
  exact h.thaw j hj _ e⟩
theorem SlT.weak (h : SlT ok w A c xs) (hk : ∀ b, b < w.heap.size → ok b → ok' b) : SlT ok' w A c xs := ⟨h.sl.weak hk, h.thaw⟩
end
/-- Lists of ints that may be written. -/
def kT : Kd (List Int) where
  size := 1
  dflt := []
  K := fun ok w xs cs => ∃ A c, cs = [.slice A xs.length c] ∧ SlT ok w A c xs
  len := fun ⟨_, _, h, _⟩ => by rw [h]; rfl
  keep := fun hk ⟨A, c, h, hr⟩ => ⟨A, c, h, hr.keep hk⟩
  weak := fun hk ⟨A, c, h, hr⟩ => ⟨A, c, h, hr.weak hk⟩
theorem Sl.ofT {ok : Nat → Prop} {w : World} {A : Option Addr} {c : Nat} {s : List (List Int)} (h : Sl kT ok w A c s) : Sl (kSl (kInt .i64)) ok w A c s :=
  ⟨h.le, h.cap, fun j hj => by
    obtain ⟨ad, cs, e, ho, hl, ⟨A', c', rfl, hs⟩, hc⟩ := h.rd j hj
    exact ⟨ad, _, e, ho, hl, ⟨A', c', rfl, hs.sl⟩, hc⟩⟩
theorem OwnI.rdT {e : TypeId} {base : Nat} {w : World} {v : Value} {xs : List Int} (h : OwnI e .i64 base w v xs) : ∃ A c, v = .slice A xs.length c ∧ SlT (fun b => base ≤ b ∧ v.ownBlock = some b) w A c xs := by
  obtain ⟨A, c, hv, hs⟩ := h.rd
  refine ⟨A, c, hv, hs, fun j hj ad e' => ?_⟩
  obtain ⟨g, cap, hf, _, _⟩ := h.form (by omega)
  rw [hv] at hf
  injection hf with h1 h2 h3
  subst h1
  obtain rfl := Option.some.inj e'
  rw [add_plain]
  rw [hv] at h
  exact (h.at_ j hj).2
theorem lit_sl2T {ok : Nat → Prop} (W : World) (e : TypeId) {A1 A2 : Option Addr} {c1 c2 : Nat} {xs ys : List Int} (h1 : SlT ok W A1 c1 xs) (h2 : SlT ok W A2 c2 ys) (hok : ok W.heap.size) :
    Sl kT ok (W.alloc (.cells #[.slice A1 xs.length c1, .slice A2 ys.length c2] e)) (some ⟨W.heap.size, 0, none⟩) 2 [xs, ys] := by
  have hb := below_alloc (Below.refl W.heap.size W) (.cells #[.slice A1 xs.length c1, .slice A2 ys.length c2] e)
  refine ⟨Nat.le_refl _, by omega, fun j hj => ?_⟩
  match j, hj with
  | 0, _ =>
    refine ⟨_, _, rfl, hok, by simp, ⟨A1, c1, rfl, h1.below hb⟩, fun i v hv => ?_⟩
    match i, hv with
    | 0, hv =>
      simp at hv
      subst hv
      simp [kT, Addr.add, nth]
  | 1, _ =>
    refine ⟨_, _, rfl, hok, by simp, ⟨A2, c2, rfl, h2.below hb⟩, fun i v hv => ?_⟩
    match i, hv with
    | 0, hv =>
      simp at hv
      subst hv
      simp [kT, Addr.add, nth]
theorem lit_sl1T {ok : Nat → Prop} (W : World) (e : TypeId) {A1 : Option Addr} {c1 : Nat} {xs : List Int} (h1 : SlT ok W A1 c1 xs) (hok : ok W.heap.size) :
    Sl kT ok (W.alloc (.cells #[.slice A1 xs.length c1] e)) (some ⟨W.heap.size, 0, none⟩) 1 [xs] := by
  have hb := below_alloc (Below.refl W.heap.size W) (.cells #[.slice A1 xs.length c1] e)
  refine ⟨Nat.le_refl _, by omega, fun j hj => ?_⟩
  obtain rfl : j = 0 := by simp at hj; omega
  refine ⟨_, _, rfl, hok, by simp, ⟨A1, c1, rfl, h1.below hb⟩, fun i v hv => ?_⟩
  match i, hv with
  | 0, hv =>
    simp at hv
    subst hv
    simp [kT, Addr.add, nth]
theorem rd_T {ok : Nat → Prop} {w : World} {A : Option Addr} {c : Nat} {s : List (List Int)} (h : Sl kT ok w A c s) (j : Nat) (hj : j < s.length) :
    ∃ ad A' c', A = some ad ∧ ok ad.block ∧ w.cell? (ad.add j) = some (.slice A' (nth [] s j).length c') ∧ SlT ok w A' c' (nth [] s j) := by
  obtain ⟨ad, cs, e, ho, _, ⟨A', c', rfl, hr⟩, hc⟩ := h.rd j hj
  exact ⟨ad, A', c', e, ho, by have := hc 0 _ rfl; simpa [kT] using this, hr⟩
/-- A sound and an error, the sound in memory of its own that may be written. -/
def RetT (n0 : Nat) (R : Int × List (List Int) × Int) (e : Ending) (w' : World) : Prop :=
  ∃ A c, e = .returned (.tuple #[.agg #[.int .i64 R.1, .slice A R.2.1.length c], .int .i64 R.2.2]) ∧ Sl kT (fun b => n0 ≤ b) w' A c R.2.1
theorem RetT.none (n0 : Nat) (e : Int) (w' : World) : RetT n0 (0, [], e) (.returned (.tuple #[.agg #[.int .i64 0, .slice Option.none 0 0], .int .i64 e])) w' := ⟨Option.none, 0, rfl, Nat.le_refl _, by omega, Kd.Rd.nil _ _ _ _⟩
theorem OwnK.formT {e : TypeId} {base : Nat} {ok : Nat → Prop} {w : World} {v : Value} {xs : List (List Int)} (h : OwnK kT e base ok w v xs) (h0 : 0 < xs.length) : ∃ g cap, v = .slice (some ⟨g, 0, none⟩) xs.length cap ∧ base ≤ g ∧ g < w.heap.size := by
  obtain ⟨cells, ho, _⟩ := h
  rcases ho.2 with ⟨_, h1⟩ | ⟨g, cap, cur, rfl, hb, hh, _⟩
  · omega
  · exact ⟨g, cap, rfl, hb, (Array.getElem?_eq_some_iff.1 hh).1⟩
theorem OwnK.atT {e : TypeId} {base : Nat} {ok : Nat → Prop} {w : World} {g n cap : Nat} {xs : List (List Int)} (h : OwnK kT e base ok w (.slice (some ⟨g, 0, none⟩) n cap) xs) (j : Nat) (hj : j < xs.length) :
    ∃ A c, w.cell? ⟨g, j, none⟩ = some (.slice A (nth [] xs j).length c) ∧ w.frozen? ⟨g, j, none⟩ = false := by
  obtain ⟨cells, ho, hr⟩ := h
  obtain ⟨A, c, hc, _⟩ := hr.2 j hj
  have hc : (cells.drop (j * 1)).take 1 = [.slice A (nth [] xs j).length c] := hc
  have hg : cells[j]? = some (.slice A (nth [] xs j).length c) := by
    have := congrArg (fun l : List Value => l[0]?) hc
    simpa using this
  refine ⟨A, c, ?_, ?_⟩
  · have := World.ownsRow.cells ho (g := g) rfl j _ hg
    rwa [add_plain] at this
  · rcases ho.2 with ⟨h', _⟩ | ⟨g', cap', cur, h', _, hh, _⟩
    · cases h'
    · have : g = g' := by injection h' with h'; injection h' with h'; injection h' with h'
      subst this
      simp [World.frozen?, hh]
theorem OwnK.nilT {e : TypeId} {base : Nat} {ok : Nat → Prop} {w : World} {g n cap : Nat} {xs : List (List Int)} (h : OwnK kT e base ok w (.slice (some ⟨g, 0, none⟩) n cap) xs) (j : Nat) (hj : j < xs.length) :
    OwnK kT e base ok (w.setCell ⟨g, j, none⟩ (.slice none 0 0)) (.slice (some ⟨g, 0, none⟩) n cap) (xs.set j []) ∧ w.grownBy (w.setCell ⟨g, j, none⟩ (.slice none 0 0)) (some g) := by
  obtain ⟨cells, ho, hr⟩ := h
  have hn : n = xs.length := by
    rcases ho.2 with ⟨h', _⟩ | ⟨g', cap', cur, h', _⟩
    · cases h'
    · injection h'
  subst hn
  have hs := World.ownsRow.stored ho j (.slice none 0 0)
  have hlen : cells.length = xs.length := by rw [hr.1]; exact Nat.mul_one _
  refine ⟨⟨cells.set j (.slice none 0 0), by rw [List.length_set]; exact hs.1, ?_⟩, hs.2⟩
  have hk := hr.keep (w' := w.setCell ⟨g, j, none⟩ (.slice none 0 0)) ((Keep.of_grown hs.2).weak fun b hb => Ne.symm hb.2)
  have hz : kT.K (fun b => ok b ∧ (Value.slice (some ⟨g, 0, none⟩) xs.length cap).ownBlock ≠ some b) (w.setCell ⟨g, j, none⟩ (.slice none 0 0)) [] [.slice none 0 0] :=
    ⟨none, 0, rfl, ⟨Nat.le_refl _, by omega, Kd.Rd.nil _ _ _ _⟩, fun i hi => absurd hi (by simp)⟩
  rcases Reps.set hk j hz with h1 | h1
  · have he : cells.take (j * 1) ++ [.slice none 0 0] ++ cells.drop (j * 1 + 1) = cells.set j (.slice none 0 0) := by
      rw [Nat.mul_one, List.set_eq_take_append_cons_drop, if_pos (by omega)]; simp
    rw [← he]
    exact h1
  · omega
end Go.Proofs.YtijcecakofmhcaaDoor
