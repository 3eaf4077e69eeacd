/- The laws of pcm: few. -/
import Derived.Test.YtijcecakofmhcaaDoorPcmRefB
namespace Go.Proofs.YtijcecakofmhcaaDoor
open Go.RowKit

/-- Sounds that lie side by side in block g. -/
structure Snds (w : World) (g n : Nat) (rs : Nat → Int) (As : Nat → Option Addr) (cs : Nat → Nat) (ss : Nat → List (List Int)) : Prop where
  c0 : ∀ j, j < n → w.cell? ⟨g, j * 2, none⟩ = some (.int .i64 (rs j))
  c1 : ∀ j, j < n → w.cell? ⟨g, j * 2 + 1, none⟩ = some (.slice (As j) (ss j).length (cs j))
  rd : ∀ j, j < n → R2 w (As j) (cs j) (ss j)
theorem Snds.below {w w' : World} {g n : Nat} {rs : Nat → Int} {As : Nat → Option Addr} {cs : Nat → Nat} {ss : Nat → List (List Int)} (h : Snds w g n rs As cs ss) (hb : Below w.heap.size w w') : Snds w' g n rs As cs ss :=
  ⟨fun j hj => cell_below hb (h.c0 j hj), fun j hj => cell_below hb (h.c1 j hj), fun j hj => (h.rd j hj).below hb⟩
/-- No sound is larger than any machine's. -/
def Fits (s : List (List Int)) : Prop := s.length ≤ 140737488355328 ∧ ∀ c ∈ s, c.length ≤ 140737488355328
def fewB (ss : Nat → List (List Int)) (n : Nat) : Bool := (List.range n).all fun j => smallB (ss j) 20000
theorem fewB_succ (ss : Nat → List (List Int)) (n : Nat) : fewB ss (n + 1) = (fewB ss n && smallB (ss n) 20000) := by simp [fewB, List.range_succ]
theorem fewB_no {ss : Nat → List (List Int)} {n k : Nat} (hk : k < n) (h : smallB (ss k) 20000 = false) : fewB ss n = false := by
  unfold fewB; rw [List.all_eq_false]; exact ⟨k, List.mem_range.2 hk, by simp [h]⟩

set_option maxHeartbeats 1000000 in
set_option maxRecDepth 100000 in
theorem few_any (g n : Nat) (rs : Nat → Int) (As : Nat → Option Addr) (cs : Nat → Nat) (ss : Nat → List (List Int)) (w : World) (hS : Snds w g n rs As cs ss) (hF : ∀ j, j < n → Fits (ss j)) (hn : n ≤ 8) :
    Calls Tryd.prog 12 #[.slice (some ⟨g, 0, none⟩) n n] w fun e w' => e = .returned (.bool (fewB ss n)) ∧ Below w.heap.size w w' := by
  go_enter Tryd.func12, Tryd.ntmps12
  go_wp2
  go_loopw [7] (fun i wr => ∃ k : Nat, k ≤ n ∧ i = .int .i64 k ∧ Hid (fewB ss k = true) ∧ Below w.heap.size w wr) (fun i _ => n - (intOf i).toNat)
  case atStart => exact ⟨0, Nat.zero_le _, rfl, rfl, Below.refl _ _⟩
  case round =>
    obtain ⟨k, hk, rfl, hall, hB⟩ := hrel
    by_cases hlt : k < n
    · have hS1 := hS.below hB
      have c0 := hS1.c0 k hlt
      have c1 := hS1.c1 k hlt
      have hR := hS1.rd k hlt
      have hf := hF k hlt
      have hfs := Lib.hid (fewB_succ ss k)
      have hno := Lib.hid (fewB_no (ss := ss) hlt)
      obtain ⟨r, hr⟩ : ∃ r, rs k = r := ⟨_, rfl⟩
      obtain ⟨s, hs⟩ : ∃ s, ss k = s := ⟨_, rfl⟩
      rw [hs] at c1 hR hf hfs hno
      rw [hr] at c0
      clear hr hs hS1
      cases hb : smallB s 20000
      · have HP := Lib.hid (hno.out hb)
        have HB := Lib.hid hb
        clear hb hfs hno
        go_wp2_with (go_at_call 39; refine (small_any r (As k) (cs k) s 20000 _ (hR.below (below_alloc (Below.refl _ _) _)) (by decide) (by decide) hf.1 hf.2).mono ?_; rintro e w2 ⟨rfl, b2⟩; rw [HB.out])
        go_ret
        rw [HP.out]
        exact ⟨rfl, below2 (below_alloc hB _) b2⟩
      · have HP := Lib.hid (hfs.out.trans (by rw [hall.out, hb]))
        have HB := Lib.hid hb
        clear hb hfs hno
        go_wp2_with (go_at_call 39; refine (small_any r (As k) (cs k) s 20000 _ (hR.below (below_alloc (Below.refl _ _) _)) (by decide) (by decide) hf.1 hf.2).mono ?_; rintro e w2 ⟨rfl, b2⟩; rw [HB.out])
        go_roundw
        case rel => exact ⟨k + 1, by omega, by go_num, HP, below2 (below_alloc hB _) b2⟩
        case measure => simp [intOf]; omega
    · obtain rfl : k = n := by omega
      go_wp2
      go_ret
      rw [hall.out]
      exact ⟨rfl, hB⟩
end Go.Proofs.YtijcecakofmhcaaDoor
