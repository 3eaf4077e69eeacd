/- The law BookSigns of layer 17 (book): it returns true for every input, at every world in which book's two tables read as the program's text lays them. The row, and its tied card. -/
import Derived.Test.YtciknejchglmoaaDoorKo
import Derived.Test.YtciknejchglmoaaDoorKn
import Derived.Test.YtciknejchglmoaaDoorCards
import Derived.Test.YtciknejchglmoaaDoorTie
import Derived.SevenTiedAt
import Derived.OpenShut
import Derived.Carry
import Derived.SizedLaws
namespace Go.Proofs.YtciknejchglmoaaDoor
open Go.RowKit

/-- The sum of the shares of some lengths. -/
def shrK (ls : List Int) : Nat := (ls.map fun k => 2 ^ (16 - k.toNat)).sum
theorem shrK_take (ls : List Int) (k : Nat) (h : k < ls.length) : shrK (ls.take (k + 1)) = shrK (ls.take k) + 2 ^ (16 - (nth 0 ls k).toNat) := by
  rw [take_succ_nth 0 ls k h]; simp [shrK]
theorem shrK_le (ls : List Int) : ∀ k, k ≤ ls.length → shrK (ls.take k) ≤ k * 65536
  | 0, _ => by simp [shrK]
  | k + 1, h => by
    have h1 := shrK_le ls k (by omega)
    have h2 : 2 ^ (16 - (nth 0 ls k).toNat) ≤ 2 ^ 16 := Nat.pow_le_pow_right (by decide) (by omega)
    rw [shrK_take ls k h]
    omega
theorem W64 (x : Int) : IntKind.i64.wrap x = wrap64 x := IntWalk.i64_left x
set_option maxHeartbeats 2000000 in
theorem complete_any (A : Option Addr) (c : Nat) (ls : List Int) (w : World) (hS : RI w A c ls) (hl : ls.length ≤ 256) (hb : ∀ k, k < ls.length → 1 ≤ nth 0 ls k ∧ nth 0 ls k ≤ 16) :
    Calls Tryd.prog 28 #[.slice A ls.length c] w fun e w' => e = .returned (.bool (decide (shrK ls = 65536))) ∧ Below w.heap.size w w' := by
  have HS := Lib.hid hS
  have HB := Lib.hid hb
  have HL := Lib.hid hl
  clear hS hb hl
  go_enter Tryd.func28, Tryd.ntmps28
  go_wp2
  go_loopw [3, 5, 8] (fun sv kv iv wr => ∃ k : Nat, iv = .int .i64 (k : Int) ∧ k ≤ ls.length ∧ sv = .int .i64 (shrK (ls.take k) : Nat) ∧ Hid (Below w.heap.size w wr)) (fun _ _ iv _ => ls.length - (intOf iv).toNat)
  case atStart => exact ⟨0, rfl, by omega, by simp [shrK], Lib.hid (Below.refl _ _)⟩
  case round =>
    obtain ⟨k, rfl, hk, rfl, hB⟩ := hrel
    have hle := shrK_le ls k hk
    by_cases hlt : k < ls.length
    · have hli : (k : Int) < (ls.length : Int) := by omega
      obtain ⟨h1, h16⟩ := HB.out k hlt
      obtain ⟨ad, rfl, k0⟩ := rd_int (HS.out.below hB.out) k hlt
      have hst := shrK_take ls k hlt
      have hle2 := shrK_le ls (k + 1) hlt
      rw [hst] at hle2
      have HST := Lib.hid hst
      generalize nth 0 ls k = x at *
      have hl := HL.out
      obtain ⟨d, rfl⟩ : ∃ d : Nat, x = (d : Int) := ⟨x.toNat, by omega⟩
      rw [Int.toNat_natCast] at hle2 HST
      have hd1 : decide ((d : Int) < 1) = false := decide_eq_false (by omega)
      have hd2 : decide ((16 : Int) < (d : Int)) = false := decide_eq_false (by omega)
      obtain ⟨q, hq⟩ : ∃ q, 16 - d = q := ⟨_, rfl⟩
      rw [hq] at hle2 HST
      have hp : (2 : Nat) ^ q ≤ 65536 := by have := Nat.pow_le_pow_right (show 0 < 2 by decide) (show q ≤ 16 by omega); simpa using this
      have hw1 : IntKind.i64.wrap (16 - (d : Int)) = (q : Int) := by rw [IntWalk.i64_in _ (by omega)]; omega
      have hk1 : IntKind.i64.wrap ((k : Int) + 1) = ((k + 1 : Nat) : Int) := by rw [IntWalk.i64_in _ (by omega)]; omega
      have hq16 : q ≤ 16 := by omega
      have hqn : ¬ (q : Int) < 0 := by omega
      have hq64 : (q : Int) < 64 := by omega
      clear hst
      generalize shrK (ls.take k) = S at *
      have hpc : (2 : Int) ^ q = ((2 ^ q : Nat) : Int) := by simp
      obtain ⟨P, hP⟩ : ∃ P, 2 ^ q = P := ⟨_, rfl⟩
      rw [hP] at hpc hp hle2 HST
      have hs1 : IntKind.i64.wrap ((2 : Int) ^ q) = (P : Int) := by rw [hpc]; exact IntWalk.i64_in _ (by omega)
      have hs2 : IntKind.i64.wrap ((S : Int) + (P : Int)) = ((S + P : Nat) : Int) := by rw [IntWalk.i64_in _ (by omega)]; omega
      have HV := Lib.hid (show wrap64 ((S : Int) + wrap64 ((2 : Int) ^ q)) = ((S + P : Nat) : Int) by rw [← W64, ← W64, hs1, hs2])
      clear hpc hs1 hs2 hle hle2 hp hP
      go_wp2
      go_roundw
      case rel => exact ⟨k + 1, rfl, by omega, by rw [HST.out]; exact congrArg (Value.int .i64) HV.out, hB⟩
      case measure => simp [intOf] <;> omega
    · obtain rfl : k = ls.length := by omega
      rw [List.take_length] at hle ⊢
      go_wp2
      go_ret
      exact ⟨ret_bool (by rw [Bool.eq_iff_iff]; simp; omega), hB.out⟩
end Go.Proofs.YtciknejchglmoaaDoor

namespace Go.Proofs.YtciknejchglmoaaDoor
open Go.RowKit

/-- The sum of a symbol's last digits. -/
def dsum (m : Nat) : Nat → Nat → Nat
  | 0, _ => 0
  | k + 1, s => s % (m + 1) + dsum m k (s / (m + 1))
theorem dsum_le (m : Nat) : ∀ k s, dsum m k s ≤ k * m
  | 0, _ => by simp [dsum]
  | k + 1, s => by
    have h1 := dsum_le m k (s / (m + 1))
    have h2 := Nat.mod_lt s (show 0 < m + 1 by omega)
    show s % (m + 1) + dsum m k (s / (m + 1)) ≤ (k + 1) * m
    rw [Nat.succ_mul]; omega
theorem nth_setK (xs : List Int) (i j : Nat) (v : Int) (h : i < xs.length) : nth 0 (xs.set i v) j = if i = j then v else nth 0 xs j := by
  by_cases e : i = j
  · subst e; rw [if_pos rfl]; simp [nth, List.getD_eq_getElem?_getD, h]
  · rw [if_neg e]; simp [nth, List.getD_eq_getElem?_getD, List.getElem?_set_ne e]
/-- What holds of the two lists when some symbols are done. -/
structure RisP (lo hi : Nat → Int) (ds : Nat → Nat) (N k : Nat) (L G : List Int) : Prop where
  ll : L.length = N
  gl : G.length = N
  low : ∀ e, e < N → nth 0 L e = 0 ∨ lo e ≤ nth 0 L e
  lb : ∀ e, e < N → 0 ≤ nth 0 L e ∧ nth 0 L e ≤ 16
  high : ∀ e, e < N → 0 ≤ nth 0 G e ∧ nth 0 G e ≤ hi e
  met : ∀ s, s < k → nth 0 L (ds s) ≠ 0
theorem RisP.start (lo hi : Nat → Int) (ds : Nat → Nat) (N : Nat) (h : ∀ e, e < N → 0 ≤ hi e) : RisP lo hi ds N 0 (List.replicate N 0) (List.replicate N 0) := by
  have hz : ∀ e, e < N → nth 0 (List.replicate N (0 : Int)) e = 0 := fun e h => by rw [nth_eq 0 _ e (by simpa using h)]; simp
  exact ⟨by simp, by simp, fun e h => .inl (hz e h), fun e h => by rw [hz e h]; omega, fun e h2 => by rw [hz e h2]; exact ⟨Int.le_refl _, h e h2⟩, fun s h => by omega⟩
theorem RisP.step {lo hi : Nat → Int} {ds : Nat → Nat} {N k : Nat} {L G : List Int} (h : RisP lo hi ds N k L G) {x : Int} (he : ds k < N) (hx : lo (ds k) ≤ x ∧ x ≤ hi (ds k) ∧ 1 ≤ x ∧ x ≤ 16) :
    RisP lo hi ds N (k + 1) (if nth 0 L (ds k) = 0 ∨ x < nth 0 L (ds k) then L.set (ds k) x else L) (G.set (ds k) (max (nth 0 G (ds k)) x)) := by
  have hgl : ds k < G.length := by rw [h.gl]; exact he
  have hll : ds k < L.length := by rw [h.ll]; exact he
  have hhigh : ∀ e, e < N → 0 ≤ nth 0 (G.set (ds k) (max (nth 0 G (ds k)) x)) e ∧ nth 0 (G.set (ds k) (max (nth 0 G (ds k)) x)) e ≤ hi e := fun e h2 => by
    have h3 := h.high e h2
    rw [nth_setK _ _ _ _ hgl]
    split
    · rename_i e1; subst e1; omega
    · exact h3
  by_cases hc : nth 0 L (ds k) = 0 ∨ x < nth 0 L (ds k)
  · rw [if_pos hc]
    refine ⟨by rw [List.length_set, h.ll], by rw [List.length_set, h.gl], fun e h2 => ?_, fun e h2 => ?_, hhigh, fun s h2 => ?_⟩
    · rw [nth_setK _ _ _ _ hll]
      split
      · rename_i e1; subst e1; exact .inr hx.1
      · exact h.low e h2
    · rw [nth_setK _ _ _ _ hll]
      split
      · omega
      · exact h.lb e h2
    · rw [nth_setK _ _ _ _ hll]
      split
      · omega
      · rename_i e1
        rcases Nat.lt_or_ge s k with h3 | h3
        · exact h.met s h3
        · obtain rfl : s = k := by omega
          exact absurd rfl e1
  · rw [if_neg hc]
    refine ⟨h.ll, by rw [List.length_set, h.gl], h.low, h.lb, hhigh, fun s h2 => ?_⟩
    rcases Nat.lt_or_ge s k with h3 | h3
    · exact h.met s h3
    · obtain rfl : s = k := by omega
      exact fun h4 => hc (.inl h4)

theorem max_if (a b : Int) : max a b = if a < b then b else a := by
  split <;> omega
theorem one_set {g N e : Nat} {v : Int} {L G : List Int} {W1 wr : World} (h7 : OwnI 3 .i64 g wr (.slice (some ⟨g, 0, none⟩) N N) L) (h8 : OwnI 3 .i64 (g + 1) wr (.slice (some ⟨g + 1, 0, none⟩) N N) G) (hU : Upd (fun x => x = g ∨ x = g + 1) W1 wr) :
    OwnI 3 .i64 g (wr.setCell ⟨g + 1, e, none⟩ (.int .i64 v)) (.slice (some ⟨g, 0, none⟩) N N) L ∧ OwnI 3 .i64 (g + 1) (wr.setCell ⟨g + 1, e, none⟩ (.int .i64 v)) (.slice (some ⟨g + 1, 0, none⟩) N N) (G.set e v) ∧ Upd (fun x => x = g ∨ x = g + 1) W1 (wr.setCell ⟨g + 1, e, none⟩ (.int .i64 v)) := by
  obtain ⟨a, b⟩ := h8.set e v
  refine ⟨ownI_keep h7 (Keep.of_grown1 b) (fun x e => by cases e; show ¬ g = g + 1; omega), a, hU.trans (Upd.of_grown (o := fun x => x = g ∨ x = g + 1) b (fun r e => by cases e; exact .inr rfl)) fun _ _ h => h⟩
theorem two_set {g N e : Nat} {x v : Int} {L G : List Int} {W1 wr : World} (h7 : OwnI 3 .i64 g wr (.slice (some ⟨g, 0, none⟩) N N) L) (h8 : OwnI 3 .i64 (g + 1) wr (.slice (some ⟨g + 1, 0, none⟩) N N) G) (hU : Upd (fun x => x = g ∨ x = g + 1) W1 wr) :
    OwnI 3 .i64 g ((wr.setCell ⟨g, e, none⟩ (.int .i64 x)).setCell ⟨g + 1, e, none⟩ (.int .i64 v)) (.slice (some ⟨g, 0, none⟩) N N) (L.set e x) ∧ OwnI 3 .i64 (g + 1) ((wr.setCell ⟨g, e, none⟩ (.int .i64 x)).setCell ⟨g + 1, e, none⟩ (.int .i64 v)) (.slice (some ⟨g + 1, 0, none⟩) N N) (G.set e v) ∧ Upd (fun x => x = g ∨ x = g + 1) W1 ((wr.setCell ⟨g, e, none⟩ (.int .i64 x)).setCell ⟨g + 1, e, none⟩ (.int .i64 v)) := by
  obtain ⟨a, b⟩ := h7.set e x
  exact one_set a (ownI_keep h8 (Keep.of_grown1 b) (fun x e => by cases e; show ¬ g + 1 = g; omega)) (hU.trans (Upd.of_grown (o := fun x => x = g ∨ x = g + 1) b (fun r e => by cases e; exact .inl rfl)) fun _ _ h => h)

set_option maxHeartbeats 4000000 in
set_option maxRecDepth 100000 in
theorem rising_any (A : Option Addr) (c : Nat) (ls : List Int) (D M : Nat) (lo hi : Nat → Int) (w : World) (hS : RI w A c ls) (hl : ls.length ≤ 256) (hD : 1 ≤ D ∧ D ≤ 8) (hM : 1 ≤ M ∧ M ≤ 100)
    (h1 : ∀ s, s < ls.length → s / (M + 1) ^ D = 0 ∧ lo (dsum M D s) ≤ nth 0 ls s ∧ nth 0 ls s ≤ hi (dsum M D s) ∧ 1 ≤ nth 0 ls s ∧ nth 0 ls s ≤ 16)
    (h2 : ∀ e, e < D * M + 1 → 0 ≤ hi e ∧ ∃ s, s < ls.length ∧ dsum M D s = e) (h3 : ∀ e, 1 ≤ e → e < D * M + 1 → hi (e - 1) ≤ lo e) :
    Calls Tryd.prog 29 #[.slice A ls.length c, .int .i64 (D : Int), .int .i64 (M : Int)] w fun e w' => e = .returned (.bool true) ∧ Below w.heap.size w w' := by
  have hQ8 : D * M ≤ 800 := Nat.le_trans (Nat.mul_le_mul hD.2 hM.2) (by decide)
  have HDL := Lib.hid (fun s => dsum_le M D s)
  obtain ⟨Q, hQ⟩ : ∃ Q, D * M = Q := ⟨_, rfl⟩
  have hmul : IntKind.i64.wrap ((D : Int) * (M : Int)) = (Q : Int) := by rw [← Int.natCast_mul, hQ]; exact IntWalk.i64_in _ (by omega)
  rw [hQ] at hQ8 HDL h2 h3
  obtain ⟨N, hN⟩ : ∃ N, Q + 1 = N := ⟨_, rfl⟩
  rw [hN] at h2 h3
  have hadd : IntKind.i64.wrap ((Q : Int) + 1) = (N : Int) := by rw [IntWalk.i64_in _ (by omega)]; omega
  have g1 : decide ((M : Int) < 1) = false := decide_eq_false (by omega)
  have g2 : decide ((100 : Int) < (M : Int)) = false := decide_eq_false (by omega)
  have g3 : decide ((D : Int) < 1) = false := decide_eq_false (by omega)
  have g4 : decide ((8 : Int) < (D : Int)) = false := decide_eq_false (by omega)
  have hn0 : (0 : Int) ≤ (N : Int) := by omega
  have hmk := make_row (P := Tryd.prog) 25 3 .i64 8 Tryd.underlying25 infoI (by decide) N (by omega)
  obtain ⟨P, hP⟩ : ∃ P, M + 1 = P := ⟨_, rfl⟩
  rw [hP] at h1
  have hwP : IntKind.i64.wrap ((M : Int) + 1) = (P : Int) := by rw [IntWalk.i64_in _ (by omega)]; omega
  have hPn : ¬ P = 0 := by omega
  have hP0 : ((P : Int) == 0) = false := by simp [hPn]
  obtain ⟨g7, hg7⟩ : ∃ g7, w.heap.size = g7 := ⟨_, rfl⟩
  obtain ⟨W0, hW0⟩ : ∃ W0, w.alloc (.cells (madeCells #[.int .i64 0] N) 3) = W0 := ⟨_, rfl⟩
  have hz0 : W0.heap.size = g7 + 1 := by rw [← hW0, World.size_alloc, hg7]
  have hO7 := own_made w 3 .i64 N (by omega)
  have hb0 := below_alloc (Below.refl w.heap.size w) (.cells (madeCells #[.int .i64 0] N) 3)
  rw [hW0] at hO7 hb0
  rw [hg7] at hO7
  obtain ⟨W1, hW1⟩ : ∃ W1, W0.alloc (.cells (madeCells #[.int .i64 0] N) 3) = W1 := ⟨_, rfl⟩
  have hz1 : W1.heap.size = g7 + 2 := by rw [← hW1, World.size_alloc, hz0]
  have hO8 := own_made W0 3 .i64 N (by omega)
  have hb1 := below_alloc (Below.refl W0.heap.size W0) (.cells (madeCells #[.int .i64 0] N) 3)
  rw [hW1] at hO8 hb1
  rw [hz0] at hO8
  replace hO7 := hO7.below hb1
  have hS1 : Sl (kInt .i64) (fun x => x < g7) W1 A c ls := ((hS.weak (ok' := fun x => x < w.heap.size) (fun x hx _ => hx)).below (below2 hb0 hb1)).weak fun x _ h => by omega
  have HO7 := Lib.hid hO7; have HO8 := Lib.hid hO8; have HS := Lib.hid hS1
  have HB := Lib.hid (below2 hb0 hb1)
  have HZ := Lib.hid (show w.heap.size = g7 ∧ W1.heap.size = g7 + 2 from ⟨hg7, hz1⟩)
  have HL := Lib.hid hl
  have H1 := Lib.hid h1; have H2 := Lib.hid h2; have H3 := Lib.hid h3
  have HR := Lib.hid (RisP.start lo hi (dsum M D) N fun e h => (h2 e h).1)
  have HDM := Lib.hid (And.intro hD hM)
  have HQN := Lib.hid (show Q + 1 = N ∧ Q ≤ 800 from ⟨hN, hQ8⟩)
  have HP := Lib.hid hP
  have HPN := Lib.hid hPn
  clear hO7 hO8 hS1 hS hb0 hb1 hl h1 h2 h3 hQ hN hP hQ8 hD hM
  go_enter Tryd.func29, Tryd.ntmps29
  go_wp2
  clear hmk hW0 hW1 hz0 hz1 hg7
  go_loopw [9, 10, 11, 12, 40] (fun sv kv ev lv iv wr => ∃ (k : Nat) (L G : List Int), iv = .int .i64 (k : Int) ∧ k ≤ ls.length ∧ Hid (OwnI 3 .i64 g7 wr (.slice (some ⟨g7, 0, none⟩) N N) L) ∧ Hid (OwnI 3 .i64 (g7 + 1) wr (.slice (some ⟨g7 + 1, 0, none⟩) N N) G) ∧ Hid (RisP lo hi (dsum M D) N k L G) ∧ Hid (Upd (fun x => x = g7 ∨ x = g7 + 1) W1 wr)) (fun _ _ _ _ iv _ => ls.length - (intOf iv).toNat)
  case atStart => exact ⟨0, _, _, rfl, Nat.zero_le _, HO7, HO8, HR, Lib.hid (Upd.refl _ _)⟩
  case round =>
    obtain ⟨k, L, G, rfl, hk, hO7, hO8, hR, hU⟩ := hrel
    by_cases hlt : k < ls.length
    · have hli : (k : Int) < (ls.length : Int) := by omega
      obtain ⟨q1, q2, q3, q4, q5⟩ := H1.out k hlt
      obtain ⟨ad, hAD, k0⟩ := rd_int (HS.out.keep (hU.out.keep (ok := fun x => x < g7) fun x h h2 => by omega)) k hlt
      subst hAD
      have HX := Lib.hid (show lo (dsum M D k) ≤ nth 0 ls k ∧ nth 0 ls k ≤ hi (dsum M D k) ∧ 1 ≤ nth 0 ls k ∧ nth 0 ls k ≤ 16 from ⟨q2, q3, q4, q5⟩)
      generalize nth 0 ls k = x at k0 HX
      have HT := Lib.hid (HDL.out k)
      have HQ0 := Lib.hid q1
      have HK6 := Lib.hid (show k ≤ 256 by have := HL.out; omega)
      have hk1 : IntKind.i64.wrap ((k : Int) + 1) = ((k + 1 : Nat) : Int) := by rw [IntWalk.i64_in _ (by have := HK6.out; omega)]; omega
      clear q1 q2 q3 q4 q5
      go_wp2
      go_loopw [11, 12, 47] (fun ev lv iv W2 => ∃ (j e y : Nat), iv = .int .i64 (j : Int) ∧ j ≤ D ∧ ev = .int .i64 (e : Int) ∧ lv = .int .i64 (y : Int) ∧ Hid (y = k / P ^ j) ∧ Hid (e + dsum M (D - j) y = dsum M D k) ∧ y ≤ 256 ∧ W2 = wr) (fun _ _ iv _ => D - (intOf iv).toNat)
      case atStart => exact ⟨0, 0, k, rfl, Nat.zero_le _, rfl, rfl, Lib.hid (by simp), Lib.hid (by simp), HK6.out, rfl⟩
      case round =>
        obtain ⟨j, e, y, rfl, hj, rfl, rfl, hY, hE, hy, rfl⟩ := hrel
        by_cases hjl : j < D
        · have hji : (j : Int) < (D : Int) := by omega
          have hj1 : IntKind.i64.wrap ((j : Int) + 1) = ((j + 1 : Nat) : Int) := by rw [IntWalk.i64_in _ (by have := HDM.out; omega)]; omega
          have hmq : y % P < P := Nat.mod_lt _ (by omega)
          have hxq : y / P ≤ y := Nat.div_le_self _ _
          have HE2 := Lib.hid (show e + y % P + dsum M (D - (j + 1)) (y / P) = dsum M D k by
            have h9 := hE.out
            rw [show D - j = (D - (j + 1)) + 1 by omega] at h9
            have h8 : dsum M (D - (j + 1) + 1) y = y % (M + 1) + dsum M (D - (j + 1)) (y / (M + 1)) := rfl
            rw [h8, HP.out] at h9
            omega)
          have HY2 := Lib.hid (show y / P = k / P ^ (j + 1) by rw [hY.out, Nat.div_div_eq_div_mul, Nat.pow_succ])
          have hrr0 : (y : Int).tmod (P : Int) = ((y % P : Nat) : Int) := by rw [Int.tmod_eq_emod_of_nonneg (by omega), ← Int.natCast_emod]
          have hmm : ((y : Int) % (P : Int)) = ((y % P : Nat) : Int) := by rw [← Int.natCast_emod]
          have hqq : ((y : Int).tdiv (P : Int)) = ((y / P : Nat) : Int) := by rw [Int.tdiv_eq_ediv_of_nonneg (by omega), ← Int.natCast_ediv]
          generalize y % P = xr at hmq HE2 hrr0 hmm
          generalize y / P = xq at hxq HE2 HY2 hqq
          have hrr : IntKind.i64.wrap ((y : Int).tmod (P : Int)) = (xr : Int) := by rw [hrr0]; exact IntWalk.i64_in _ (by have := HP.out; have := HDM.out; omega)
          have hwq : IntKind.i64.wrap (xq : Int) = (xq : Int) := IntWalk.i64_in _ (by omega)
          have hwr : IntKind.i64.wrap (xr : Int) = (xr : Int) := IntWalk.i64_in _ (by have := HP.out; have := HDM.out; omega)
          have hea : IntKind.i64.wrap ((e : Int) + (xr : Int)) = ((e + xr : Nat) : Int) := by rw [IntWalk.i64_in _ (by have := HE2.out; have := HT.out; have := HQN.out; omega)]; omega
          clear hjl hmq hE hY
          go_wp2
          go_roundw
          case rel => exact ⟨j + 1, e + xr, xq, by first | rfl | go_num, by omega, by first | rfl | go_num, rfl, HY2, HE2, by omega, by first | rfl | trivial⟩
          case measure => simp [intOf] <;> omega
        · obtain rfl : j = D := by omega
          have hy0 : y = 0 := by rw [hY.out, HQ0.out]
          have he0 : e = dsum M j k := by have h9 := hE.out; rw [Nat.sub_self] at h9; exact h9
          subst hy0
          have hTN : dsum M j k < N := by have := HT.out; have := HQN.out; omega
          have HSTEP := Lib.hid (hR.out.step hTN HX.out)
          rw [← he0] at hTN HSTEP
          obtain ⟨c7, f7⟩ := hO7.out.at_ e (by rw [hR.out.ll]; exact hTN)
          obtain ⟨c8, f8⟩ := hO8.out.at_ e (by rw [hR.out.gl]; exact hTN)
          obtain ⟨y7, hy7⟩ : ∃ y, nth 0 L e = y := ⟨_, rfl⟩
          obtain ⟨y8, hy8⟩ : ∃ y, nth 0 G e = y := ⟨_, rfl⟩
          rw [hy7] at c7 HSTEP
          rw [hy8] at c8 HSTEP
          have hei : (e : Int) < (N : Int) := by omega
          have he0i : (0 : Int) ≤ (e : Int) := by omega
          clear hy7 hy8 hjl hE hY hj hy he0
          have hcs : (y7 = 0) ∨ ((y7 == 0) = false ∧ decide (x < y7) = true) ∨ ((y7 == 0) = false ∧ decide (x < y7) = false) := by
            by_cases h0 : y7 = 0
            · exact .inl h0
            · by_cases h9 : x < y7
              · exact .inr (.inl ⟨by simp [h0], decide_eq_true h9⟩)
              · exact .inr (.inr ⟨by simp [h0], decide_eq_false h9⟩)
          rcases hcs with rfl | ⟨d1, d2⟩ | ⟨d1, d2⟩
          · have HW := Lib.hid (two_set (x := x) (v := if y8 < x then x else y8) (e := e) hO7.out hO8.out hU.out)
            go_wp2
            go_roundw
            case rel => exact ⟨k + 1, _, _, rfl, by omega, Lib.hid HW.out.1, Lib.hid HW.out.2.1, Lib.hid (by have h9 := HSTEP.out; rw [if_pos (.inl rfl)] at h9; rw [max_if] at h9; exact h9), Lib.hid HW.out.2.2⟩
            case measure => simp [intOf] <;> omega
          · have HW := Lib.hid (two_set (x := x) (v := if y8 < x then x else y8) (e := e) hO7.out hO8.out hU.out)
            have HD2 := Lib.hid (of_decide_eq_true d2)
            go_wp2
            go_roundw
            case rel => exact ⟨k + 1, _, _, rfl, by omega, Lib.hid HW.out.1, Lib.hid HW.out.2.1, Lib.hid (by have h9 := HSTEP.out; rw [if_pos (.inr HD2.out)] at h9; rw [max_if] at h9; exact h9), Lib.hid HW.out.2.2⟩
            case measure => simp [intOf] <;> omega
          · have HW := Lib.hid (one_set (v := if y8 < x then x else y8) (e := e) hO7.out hO8.out hU.out)
            have HD2 := Lib.hid (show ¬ (y7 = 0 ∨ x < y7) from fun h => h.elim (fun h => by rw [h] at d1; cases d1) (of_decide_eq_false d2))
            go_wp2
            go_roundw
            case rel => exact ⟨k + 1, _, _, rfl, by omega, Lib.hid HW.out.1, Lib.hid HW.out.2.1, Lib.hid (by have h9 := HSTEP.out; rw [if_neg HD2.out] at h9; rw [max_if] at h9; exact h9), Lib.hid HW.out.2.2⟩
            case measure => simp [intOf] <;> omega
    · obtain rfl : k = ls.length := by omega
      have HB2 := Lib.hid (HB.out.trans (hU.out.below (n := w.heap.size) HB.out.size (fun x _ e => by have := HZ.out; omega)))
      have HN := Lib.hid HQN.out
      go_wp2
      go_loopw [13] (fun ev W2 => ∃ e : Nat, ev = .int .i64 (e : Int) ∧ 1 ≤ e ∧ e ≤ N ∧ Hid (Below wr.heap.size wr W2)) (fun ev _ => N - (intOf ev).toNat)
      case atStart => exact ⟨1, rfl, Nat.le_refl _, by have := HN.out; omega, Lib.hid (Below.refl _ _)⟩
      case round =>
        obtain ⟨e, rfl, he1, heN, hB⟩ := hrel
        have HB3 := Lib.hid (below2 HB2.out hB.out)
        by_cases hlt2 : e < N
        · have hei : (e : Int) < (N : Int) := by omega
          obtain ⟨q, rfl⟩ : ∃ q, e = q + 1 := ⟨e - 1, by omega⟩
          have hw1 : IntKind.i64.wrap (((q + 1 : Nat) : Int) - 1) = (q : Int) := by rw [IntWalk.i64_in _ (by have := HN.out; omega)]; omega
          have hw2 : IntKind.i64.wrap (((q + 1 : Nat) : Int) + 1) = ((q + 1 + 1 : Nat) : Int) := by rw [IntWalk.i64_in _ (by have := HN.out; omega)]; omega
          have hqN : (q : Int) < (N : Int) := by omega
          have hq0 : (0 : Int) ≤ (q : Int) := by omega
          obtain ⟨c7, _⟩ := (hO7.out.below hB.out).at_ (q + 1) (by rw [hR.out.ll]; exact hlt2)
          obtain ⟨c8, _⟩ := (hO8.out.below hB.out).at_ q (by rw [hR.out.gl]; omega)
          have hle : nth 0 G q ≤ nth 0 L (q + 1) := by
            have h4 := (hR.out.high q (by omega)).2
            have h5 := H3.out (q + 1) (by omega) hlt2
            rw [Nat.add_sub_cancel] at h5
            obtain ⟨_, s, hs, hse⟩ := H2.out (q + 1) hlt2
            have h6 := hR.out.met s hs
            rw [hse] at h6
            have h7 := (hR.out.low (q + 1) hlt2).resolve_left h6
            omega
          have hd : decide (nth 0 L (q + 1) < nth 0 G q) = false := decide_eq_false (by omega)
          have hnl : ¬ nth 0 L (q + 1) < nth 0 G q := by omega
          generalize nth 0 L (q + 1) = a7 at *
          generalize nth 0 G q = a8 at *
          obtain ⟨Z, hZ⟩ : ∃ Z, q + 1 = Z := ⟨_, rfl⟩
          have HZZ := Lib.hid hZ
          rw [hZ] at hw1 hw2 c7 hei hlt2 he1 heN ⊢
          clear hle hZ
          go_wp2_with fail
          go_quiet (fail)
          go_wp2
          go_roundw
          case rel => exact ⟨Z + 1, by first | rfl | go_num, by omega, by omega, Lib.hid (below_drewN hB.out _)⟩
          case measure => simp [intOf] <;> omega
        · obtain rfl : e = N := by omega
          go_wp2
          go_ret
          exact ⟨rfl, HB3.out⟩
end Go.Proofs.YtciknejchglmoaaDoor

namespace Go.Proofs.YtciknejchglmoaaDoor
open Go.RowKit

/-- The least length of the symbols with a sum. -/
def loK : Nat → List Int
  | 1 => [2, 3, 5, 6, 7]
  | 2 => [3, 4, 5, 6, 8, 9, 10, 11, 12]
  | 3 => [2, 3, 4, 5, 5, 6, 7, 8, 9]
  | 4 => [3, 4, 4, 5, 5, 6, 7, 7, 8, 8, 9, 9, 10, 10, 11]
  | 5 => [5, 5, 5, 6, 6, 6, 6, 7, 7, 7, 8, 8, 8, 8, 9, 9, 9, 10, 10, 10, 11, 11, 11, 11, 12]
  | 6 => [4, 4, 5, 5, 6, 6, 6, 7, 7, 8, 8, 9, 9, 9, 10, 10, 11, 11, 11, 12, 12, 13, 13, 13, 14, 14, 15, 15, 16, 16, 16]
  | 7 => [3, 3, 3, 4, 4, 4, 4, 4, 5, 5, 5, 5, 5, 6, 6, 6, 6, 6, 6, 7, 7, 7, 7, 7, 8, 8, 8, 8, 9, 9, 9, 9]
  | _ => []
/-- The greatest length of the symbols with a sum. -/
def hiK : Nat → List Int
  | 1 => [2, 3, 5, 7, 7]
  | 2 => [3, 4, 5, 7, 8, 9, 10, 12, 12]
  | 3 => [2, 3, 4, 5, 6, 6, 7, 9, 9]
  | 4 => [3, 4, 4, 5, 5, 6, 7, 7, 8, 8, 9, 10, 10, 11, 11]
  | 5 => [5, 5, 5, 6, 6, 6, 6, 7, 7, 7, 8, 8, 8, 9, 9, 9, 9, 10, 10, 10, 11, 11, 11, 12, 12]
  | 6 => [4, 4, 5, 5, 6, 6, 7, 7, 7, 8, 8, 9, 9, 9, 10, 10, 11, 11, 11, 12, 12, 13, 13, 14, 14, 14, 15, 15, 16, 16, 16]
  | 7 => [3, 3, 3, 4, 4, 4, 4, 4, 5, 5, 5, 5, 5, 6, 6, 6, 6, 6, 6, 7, 7, 7, 7, 7, 8, 8, 8, 8, 9, 9, 9, 9]
  | _ => []
/-- A symbol with a sum. -/
def wtK : Nat → List Nat
  | 1 => [0, 1, 3, 7, 15]
  | 2 => [0, 1, 2, 5, 8, 17, 26, 53, 80]
  | 3 => [0, 1, 2, 3, 4, 9, 14, 19, 24]
  | 4 => [0, 1, 2, 3, 4, 5, 6, 7, 15, 23, 31, 39, 47, 55, 63]
  | 5 => [0, 1, 2, 3, 4, 5, 6, 7, 8, 9, 10, 11, 12, 25, 38, 51, 64, 77, 90, 103, 116, 129, 142, 155, 168]
  | 6 => [0, 1, 2, 3, 4, 5, 6, 7, 8, 9, 10, 11, 12, 13, 14, 15, 31, 47, 63, 79, 95, 111, 127, 143, 159, 175, 191, 207, 223, 239, 255]
  | 7 => [0, 1, 2, 3, 4, 5, 6, 7, 8, 9, 10, 11, 12, 13, 14, 15, 16, 17, 18, 19, 20, 21, 22, 23, 24, 25, 26, 27, 28, 29, 30, 31]
  | _ => []
def risC (b : Nat) : Bool :=
  ((List.range (symsB b)).all fun s => decide (s / (mostB b + 1) ^ dimB b = 0) && decide (nth 0 (loK b) (dsum (mostB b) (dimB b) s) ≤ nth 0 (tabKI b) s) && decide (nth 0 (tabKI b) s ≤ nth 0 (hiK b) (dsum (mostB b) (dimB b) s)) && decide (1 ≤ nth 0 (tabKI b) s) && decide (nth 0 (tabKI b) s ≤ 16)) &&
  ((List.range (dimB b * mostB b + 1)).all fun e => decide (0 ≤ nth 0 (hiK b) e) && decide (nth 0 (wtK b) e < symsB b) && decide (dsum (mostB b) (dimB b) (nth 0 (wtK b) e) = e) && (decide (e = 0) || decide (nth 0 (hiK b) (e - 1) ≤ nth 0 (loK b) e)))
set_option maxRecDepth 100000 in
theorem risC_ok (b : Nat) (h1 : 1 ≤ b) (h8 : b < 8) : risC b = true ∧ shrK (tabKI b) = 65536 ∧ 1 ≤ mostB b ∧ symsB b ≤ 256 := by
  have : b = 1 ∨ b = 2 ∨ b = 3 ∨ b = 4 ∨ b = 5 ∨ b = 6 ∨ b = 7 := by omega
  rcases this with rfl | rfl | rfl | rfl | rfl | rfl | rfl <;> decide +kernel
theorem ris_facts (b : Nat) (h1 : 1 ≤ b) (h8 : b < 8) :
    (∀ s, s < (tabKI b).length → s / (mostB b + 1) ^ dimB b = 0 ∧ nth 0 (loK b) (dsum (mostB b) (dimB b) s) ≤ nth 0 (tabKI b) s ∧ nth 0 (tabKI b) s ≤ nth 0 (hiK b) (dsum (mostB b) (dimB b) s) ∧ 1 ≤ nth 0 (tabKI b) s ∧ nth 0 (tabKI b) s ≤ 16) ∧
    (∀ e, e < dimB b * mostB b + 1 → 0 ≤ nth 0 (hiK b) e ∧ ∃ s, s < (tabKI b).length ∧ dsum (mostB b) (dimB b) s = e) ∧
    (∀ e, 1 ≤ e → e < dimB b * mostB b + 1 → nth 0 (hiK b) (e - 1) ≤ nth 0 (loK b) e) := by
  have h := (risC_ok b h1 h8).1
  unfold risC at h
  rw [Bool.and_eq_true, List.all_eq_true, List.all_eq_true] at h
  obtain ⟨ha, hb⟩ := h
  rw [tabKI_length b h1 h8]
  refine ⟨fun s hs => ?_, fun e he => ?_, fun e h0 he => ?_⟩
  · have := ha s (List.mem_range.2 hs)
    simp only [Bool.and_eq_true, decide_eq_true_eq] at this
    exact ⟨this.1.1.1.1, this.1.1.1.2, this.1.1.2, this.1.2, this.2⟩
  · have := hb e (List.mem_range.2 he)
    simp only [Bool.and_eq_true, decide_eq_true_eq] at this
    exact ⟨this.1.1.1, _, this.1.1.2, this.1.2⟩
  · have := hb e (List.mem_range.2 he)
    simp only [Bool.and_eq_true, Bool.or_eq_true, decide_eq_true_eq] at this
    exact this.2.resolve_left (by omega)
/-- The absolute values. -/
def absL (l : List Int) : List Int := l.map fun v => (v.natAbs : Int)
theorem absL_length (l : List Int) : (absL l).length = l.length := by simp [absL]
theorem quantB_abs (l : List Int) : quantB (absL l) = quantB l := by
  unfold quantB absL
  rw [List.all_map]
  congr 1; funext v
  simp only [Function.comp_def]
  rw [Bool.eq_iff_iff]; simp; omega
theorem fitB_abs (b : Nat) (l : List Int) : fitB b (absL l) = fitB b l := by
  unfold fitB
  rw [absL_length]
  congr 1
  unfold absL
  rw [List.all_map]
  congr 1
theorem digB_abs (b : Nat) (v : Int) : digB b (v.natAbs : Int) = digB b v := by unfold digB; rw [Int.natAbs_natCast]
theorem symG_abs (b : Nat) (l : List Int) : symG b (absL l) = symG b l := by
  unfold symG absL
  rw [List.foldl_map]
  congr 1
theorem besB_abs (b : Nat) (v : Int) : (besB b (v.natAbs : Int)).length = (besB b v).length := by
  unfold besB escpB
  by_cases h : v = 0
  · subst h; rfl
  · rw [if_neg h, if_neg (by omega), Int.natAbs_natCast]; rfl
theorem flat_abs (b : Nat) : ∀ l : List Int, ((absL l).flatMap (besB b)).length = (l.flatMap (besB b)).length
  | [] => rfl
  | v :: l => by
    have ih := flat_abs b l
    show (((v.natAbs : Int) :: absL l).flatMap (besB b)).length = _
    rw [List.flatMap_cons, List.flatMap_cons, List.length_append, List.length_append, ih, besB_abs]
theorem grpK_abs (d : Nat) (l : List Int) (j : Nat) : grpK d (absL l) j = absL (grpK d l j) := by
  unfold grpK absL
  rw [List.map_take, List.map_drop]
theorem lstB_abs (b : Nat) (l : List Int) : ∀ k, (lstB b (absL l) k).length = (lstB b l k).length
  | 0 => rfl
  | k + 1 => by
    rw [lstB_succ, lstB_succ, List.length_append, List.length_append, lstB_abs b l k, grpK_abs]
    unfold grpB wrdB
    rw [symG_abs, List.length_append, List.length_append, flat_abs]
theorem bkC_absL (n : Int) (l : List Int) : bkC n (absL l) = bkC n l := by
  have hc : checkedK n (absL l) = checkedK n l := by unfold checkedK; rw [quantB_abs]
  unfold bkC rowK
  rw [hc, fitB_abs, absL_length, lstB_abs]
/-- The cost depends on the absolute values alone. -/
theorem bkC_abs {l m : List Int} (h : absL l = absL m) (n : Int) : bkC n l = bkC n m := by rw [← bkC_absL n l, h, bkC_absL]
theorem absL_set (l : List Int) (i : Nat) (h : i < l.length) : absL (l.set i (-(nth 0 l i))) = absL l := by
  unfold absL
  apply List.ext_getElem
  · simp
  · intro j h1 h2
    simp only [List.getElem_map, List.getElem_set]
    split
    · rename_i e; subst e; rw [nth_eq 0 l i h]; simp
    · rfl
end Go.Proofs.YtciknejchglmoaaDoor

namespace Go.Proofs.YtciknejchglmoaaDoor
open Go.RowKit

set_option maxHeartbeats 8000000 in
set_option maxRecDepth 100000 in
theorem bookSigns_walk (n0 : Int) (A1 : Option Addr) (c1 : Nat) (s1 : List Int) (A2 : Option Addr) (c2 : Nat) (s2 : List Bool) (W : World) (hG : GF W) (hT : GT W) (hR1 : RI W A1 c1 s1) (hR2 : RB W A2 c2 s2) :
    Calls Tryd.prog 7 #[.int .i64 n0, .slice A1 s1.length c1, .slice A2 s2.length c2] W fun e W' => e = .returned (.bool true) ∧ Below W.heap.size W W' := by
  have HS := Lib.hid (GS.of hG hT)
  have HR := Lib.hid (And.intro hR1 hR2)
  clear hG hT hR1 hR2
  by_cases h6 : 600 < s1.length ∨ 600 < s2.length
  · have hcs : decide ((600 : Int) < (s1.length : Int)) = true ∨ (decide ((600 : Int) < (s1.length : Int)) = false ∧ decide ((600 : Int) < (s2.length : Int)) = true) := by
      by_cases h : 600 < s1.length
      · exact .inl (decide_eq_true (by omega))
      · exact .inr ⟨decide_eq_false (by omega), decide_eq_true (by omega)⟩
    clear h6
    rcases hcs with g1 | ⟨g1, g2⟩
    all_goals
      go_enter Tryd.func7, Tryd.ntmps7
      go_wp2_with fail
      refine (awake17_any _ HS.out.f HS.out.t).mono ?_
      rintro e w2 ⟨rfl, b⟩
      go_wp2_with fail
      go_ret
      exact ⟨rfl, b⟩
  · have g1 : decide ((600 : Int) < (s1.length : Int)) = false := decide_eq_false (by omega)
    have g2 : decide ((600 : Int) < (s2.length : Int)) = false := decide_eq_false (by omega)
    have HL := Lib.hid (show s1.length ≤ 600 ∧ s2.length ≤ 600 by omega)
    clear h6
    go_enter Tryd.func7, Tryd.ntmps7
    go_wp2_with fail
    refine (copy17_any A1 c1 s1 _ HR.out.1 (by have := HL.out; omega)).mono ?_
    rintro e w1 ⟨v7, rfl, hO, b⟩
    have HB1 := Lib.hid b
    have HR1 := Lib.hid (show Sl (kInt .i64) (fun x => x < W.heap.size) w1 A1 c1 s1 from ((HR.out.1.weak (ok' := fun x => x < W.heap.size) (fun x hx _ => hx)).below b))
    have HR2 := Lib.hid (show Sl kBool (fun x => x < W.heap.size) w1 A2 c2 s2 from ((HR.out.2.weak (ok' := fun x => x < W.heap.size) (fun x hx _ => hx)).below b))
    have HS1 := Lib.hid (HS.out.below b)
    obtain ⟨A7, c7, rfl, _⟩ := hO.rd
    have HO := Lib.hid hO
    clear b hO
    go_wp2_with fail
    go_loopw [8, 31] (fun kv iv wr => ∃ (k : Nat) (X : List Int), iv = .int .i64 (k : Int) ∧ k ≤ s1.length ∧ Hid (X.length = s1.length ∧ absL X = absL s1) ∧ Hid (OwnI 3 .i64 W.heap.size wr (.slice A7 s1.length c7) X) ∧ Hid (Upd (fun x => W.heap.size ≤ x) w1 wr)) (fun _ iv _ => s1.length - (intOf iv).toNat)
    case atStart => exact ⟨0, s1, rfl, Nat.zero_le _, Lib.hid ⟨rfl, rfl⟩, HO, Lib.hid (Upd.refl _ _)⟩
    case round =>
      obtain ⟨k, X, rfl, hk, hX, hO, hU⟩ := hrel
      by_cases hlt : k < s1.length
      · have hli : (k : Int) < (s1.length : Int) := by omega
        have hk1 : IntKind.i64.wrap ((k : Int) + 1) = ((k + 1 : Nat) : Int) := by rw [IntWalk.i64_in _ (by have := HL.out; omega)]; omega
        by_cases hl2 : k < s2.length
        · have d2 : decide ((k : Int) < (s2.length : Int)) = true := decide_eq_true (by omega)
          obtain ⟨ad, hAD, k2⟩ := rd_bool (HR2.out.keep (hU.out.keep (ok := fun x => x < W.heap.size) fun x h h2 => by omega)) k hl2
          subst hAD
          cases htb : nth false s2 k
          · rw [htb] at k2
            clear htb
            go_wp2
            go_roundw
            case rel => exact ⟨k + 1, X, by first | rfl | go_num, by omega, hX, hO, hU⟩
            case measure => simp [intOf] <;> omega
          · rw [htb] at k2
            clear htb
            obtain ⟨g, cap, hf, hg, _⟩ := hO.out.form (by rw [hX.out.1]; omega)
            injection hf with e1 e2 e3
            subst e1 e3
            obtain ⟨k7, f7⟩ := hO.out.at_ k (by rw [hX.out.1]; exact hlt)
            have HSET := Lib.hid (hO.out.set k (-(nth 0 X k)))
            have HAB := Lib.hid (absL_set X k (by rw [hX.out.1]; exact hlt))
            generalize nth 0 X k = x at k7 HSET HAB
            clear e2
            by_cases h1 : -1023 ≤ x
            · have b1 : decide ((-1023 : Int) ≤ x) = true := decide_eq_true h1
              by_cases h2 : x ≤ 1023
              · have b2 : decide (x ≤ (1023 : Int)) = true := decide_eq_true h2
                have hng : IntKind.i64.wrap (-x) = -x := IntWalk.i64_in _ (by omega)
                clear h1 h2
                go_wp2
                go_roundw
                case rel => exact ⟨k + 1, _, by first | rfl | go_num, by omega, Lib.hid ⟨by rw [List.length_set, hX.out.1], HAB.out.trans hX.out.2⟩, Lib.hid HSET.out.1, Lib.hid (hU.out.trans (Upd.of_grown (o := fun x => W.heap.size ≤ x) HSET.out.2 (fun r e => by cases e; exact hg)) fun _ _ h => h)⟩
                case measure => simp [intOf] <;> omega
              · have b2 : decide (x ≤ (1023 : Int)) = false := decide_eq_false h2
                clear h1 h2
                go_wp2
                go_roundw
                case rel => exact ⟨k + 1, X, by first | rfl | go_num, by omega, hX, hO, hU⟩
                case measure => simp [intOf] <;> omega
            · have b1 : decide ((-1023 : Int) ≤ x) = false := decide_eq_false h1
              clear h1
              go_wp2
              go_roundw
              case rel => exact ⟨k + 1, X, by first | rfl | go_num, by omega, hX, hO, hU⟩
              case measure => simp [intOf] <;> omega
        · have d2 : decide ((k : Int) < (s2.length : Int)) = false := decide_eq_false (by omega)
          go_wp2
          go_roundw
          case rel => exact ⟨k + 1, X, by first | rfl | go_num, by omega, hX, hO, hU⟩
          case measure => simp [intOf] <;> omega
      · obtain rfl : k = s1.length := by omega
        obtain ⟨A, c, e7, h7⟩ := own_ri hO.out
        injection e7 with e1 e2 e3
        subst e1 e3
        have hBC := bkC_abs hX.out.2 n0
        have HXL := Lib.hid hX.out.1
        have h1 := HR1.out.keep (hU.out.keep (ok := fun x => x < W.heap.size) fun x h h2 => by omega)
        have hS := HS1.out.upd hU.out (fun x h h2 => by omega)
        have BX := HB1.out.trans (hU.out.below (n := W.heap.size) HB1.out.size (fun x _ h => h))
        obtain ⟨⟨cn, ce⟩, hcc⟩ : ∃ z, bkC n0 s1 = z := ⟨_, rfl⟩
        rw [hcc] at hBC
        have HBC := Lib.hid hBC; have HCC := Lib.hid hcc
        clear hBC hcc e2 hlt hk hO hX hU
        go_wp2_with fail
        refine (bCost_any A1 c1 n0 s1 _ h1.any hS.f hS.t (by have := HL.out; omega)).mono ?_
        rw [HCC.out]
        rintro e w3 ⟨rfl, b⟩
        replace hS := hS.below b; replace h7 := h7.below b; replace BX := below2 BX b; clear b h1
        go_wp2_with fail
        have hco := bCost_any A7 c7 n0 X _ h7 hS.f hS.t (by rw [HXL.out]; have := HL.out; omega)
        rw [HXL.out, HBC.out] at hco
        refine hco.mono ?_
        rintro e w4 ⟨rfl, b⟩
        replace hS := hS.below b; replace BX := below2 BX b; clear b h7 hco
        by_cases h9 : n0 < 0 ∨ 8 ≤ n0
        · have HN := Lib.hid h9
          clear h9
          go_wp2_with fail
          refine (shape_no n0 _ HN.out).mono ?_
          rintro e w5 ⟨rfl, rfl⟩
          go_wp2_with fail
          refine (blengths_no n0 _ HN.out).mono ?_
          rintro e w6 ⟨rfl, rfl⟩
          go_wp2_with fail
          refine (awake17_any _ hS.f hS.t).mono ?_
          rintro e w8 ⟨rfl, b⟩
          go_wp2_with fail
          go_ret
          exact ⟨rfl, below2 BX b⟩
        · obtain ⟨b, rfl⟩ : ∃ b : Nat, n0 = (b : Int) := ⟨n0.toNat, by omega⟩
          have h8 : b < 8 := by omega
          have H8 := Lib.hid h8
          clear h9
          go_wp2_with fail
          refine (shape_ok b _ hS.f h8).mono ?_
          rintro e w5 ⟨rfl, b5⟩
          replace hS := hS.below b5; replace BX := below2 BX b5; clear b5
          go_wp2_with fail
          refine (blengths_ok b _ hS.t H8.out).mono ?_
          rintro e w6 ⟨v6, rfl, hO6, b6⟩
          obtain ⟨A6, c6, rfl, h6⟩ := own_ri hO6
          replace hS := hS.below b6; replace BX := below2 BX b6; clear b6 hO6 h8
          rcases Nat.eq_zero_or_pos b with rfl | hb1
          · rw [show (tabKI 0).length = 0 from rfl]
            go_wp2_with fail
            refine (awake17_any _ hS.f hS.t).mono ?_
            rintro e w8 ⟨rfl, b⟩
            go_wp2_with fail
            go_ret
            exact ⟨rfl, below2 BX b⟩
          · have hb0 : ((b : Int) == 0) = false := by simp; omega
            have hb0n : ¬ b = 0 := by omega
            obtain ⟨r1, r2, r3, r4⟩ := risC_ok b hb1 H8.out
            obtain ⟨q1, q2, q3⟩ := ris_facts b hb1 H8.out
            have hdm := dimB_pos b
            have hml := mostB_le b
            have hlen := tabKI_length b hb1 H8.out
            have HCO := Lib.hid (fun W (h : RI W A6 c6 (tabKI b)) => complete_any A6 c6 (tabKI b) W h (by rw [hlen]; exact r4) (fun k hk => (q1 k hk).2.2.2))
            have HRI := Lib.hid (fun W (h : RI W A6 c6 (tabKI b)) => rising_any A6 c6 (tabKI b) (dimB b) (mostB b) (fun e => nth 0 (loK b) e) (fun e => nth 0 (hiK b) e) W h (by rw [hlen]; exact r4) (by omega) (by omega) q1 q2 q3)
            rw [decide_eq_true r2] at HCO
            clear r1 r2 r3 r4 q1 q2 q3 hdm hml hlen hb1
            go_wp2_with fail
            refine (HCO.out _ h6).mono ?_
            rintro e w7 ⟨rfl, b7⟩
            replace hS := hS.below b7; replace h6 := h6.below b7; replace BX := below2 BX b7; clear b7
            go_wp2_with fail
            refine (HRI.out _ h6).mono ?_
            rintro e w9 ⟨rfl, b9⟩
            replace hS := hS.below b9; replace BX := below2 BX b9; clear b9
            go_wp2_with fail
            refine (awake17_any _ hS.f hS.t).mono ?_
            rintro e w8 ⟨rfl, b⟩
            go_wp2_with fail
            go_ret
            exact ⟨rfl, below2 BX b⟩
end Go.Proofs.YtciknejchglmoaaDoor

namespace Go.Proofs.YtciknejchglmoaaDoor
open Go.ChangeShapes Go.WideShapes Go.ChangeAt Go.WideMaps Go.WideElems Go.RowKit Go.Deep

theorem laidOut_bookSigns : laidOutB Tryd.prog = true := by kernel_rfl
set_option maxRecDepth 100000 in
theorem lifted_bookSigns (os : Os) (started : os.Started) (H : Type) (enc : TypeId × Value → H) :
    ReturnsInHanded {} Tryd.checked os 7 .any (fun w args => (Rows.bookSignsSpec.pre enc Tryd.prog Tryd.f7 [] false w args ∧ laidMetH Tryd.prog laidBk w) ∧ sizedMet enc Tryd.prog Tryd.f7 (OpenSpec.ofChange Rows.bookSignsSpec) false w args)
      (Rows.bookSignsSpec.post enc Tryd.prog Tryd.f7 false true false false) := by
  refine returnsInHanded_of_change_and (C := Tryd.checked) (X := fun w _ => laidMetH Tryd.prog laidBk w) (fun _ _ _ hh h => h.of_heap hh) ownBk started (by kernel_rfl) Tryd.func7
    (ChangeSpec.witness_shaped (enc := enc) (C := Tryd.checked) (os := os) (X := fun w _ => laidMetH Tryd.prog laidBk w) false (World.doorLaid Tryd.prog 400 os) #[.int .i64 0, .slice none 0 0, .slice none 0 0] 8 rfl (World.shaped_of_RefB (by kernel_rfl) (by kernel_rfl)) (by kernel_rfl) (by kernel_rfl) (by kernel_rfl) (door_bk os _)) ?_
  intro W base args ds gs before hval0 hW _ hsz0 hL _
  obtain ⟨hG, hT⟩ := gf_of_laid hL
  have hval : ∀ (j : Nat) t v, Tryd.f7.params[j]? = some t → args[j]? = some v → Value.okWide Tryd.prog W .any base t v := hval0
  have hW' := hW
  obtain ⟨p, q, hA0, hV, rfl, hfz, hnd⟩ := hW
  have hA : DataW.TrodAll enc Tryd.prog W 0 (fun _ => true) true Tryd.f7.params.toList args.toList ds p := hA0
  have hsz : (DataW.weightsEach Tryd.prog (Tryd.f7.params.toList ++ Rows.bookSignsSpec.plain.varTypes Tryd.prog) (ds ++ gs)).all (· ≤ reachBytes) = true := hsz0
  rw [Tryd.params7] at hA hval hsz
  obtain ⟨v0, vs0, d0, ds0, p0, q0, hargs, rfl, rfl, h0, r0⟩ := trodAll_cons hA
  obtain ⟨v1, vs1, d1, ds1, p1, q1, rfl, rfl, rfl, h1, r1⟩ := trodAll_cons r0
  obtain ⟨v2, vs2, d2, ds2, p2, q2, rfl, rfl, rfl, h2, r2⟩ := trodAll_cons r1
  obtain ⟨rfl, rfl, rfl⟩ := trodAll_nil r2
  obtain rfl : args = #[v0, v1, v2] := by cases args; simp_all
  obtain ⟨rfl, rfl⟩ := trodVars_none hV
  have lt0 : ∀ x ∈ p0, x.block < W.heap.size := by obtain ⟨m, hm⟩ := h0; exact DataW.trod_lt m _ _ _ hm
  have y0 : ∀ m ∈ d0.weights Tryd.prog 3, m ≤ reachBytes := fun m hm => of_decide_eq_true (List.all_eq_true.1 hsz m (DataW.weights_mem_each (j := 0) rfl rfl m hm))
  obtain ⟨a0, rfl, _, _, w0⟩ := open_int Tryd.underlying3 (hval 0 3 v0 rfl rfl) h0
  have lt1 : ∀ x ∈ p1, x.block < W.heap.size := by obtain ⟨m, hm⟩ := h1; exact DataW.trod_lt m _ _ _ hm
  have y1 : ∀ m ∈ d1.weights Tryd.prog 25, m ≤ reachBytes := fun m hm => of_decide_eq_true (List.all_eq_true.1 hsz m (DataW.weights_mem_each (j := 1) rfl rfl m hm))
  obtain ⟨B1, l1, e1, rfl⟩ := okWide_slice Tryd.underlying25 (hval 1 25 v1 rfl rfl)
  obtain ⟨A1, c1, s1, hv1, hR1, hB1⟩ : ∃ A c xs, Value.slice B1 l1 e1 = .slice A xs.length c ∧ RI W A c xs ∧ ((∀ m ∈ d1.weights Tryd.prog 25, m ≤ reachBytes) → xs.length ≤ 140737488355328) := by obtain ⟨fuel, hf⟩ := h1; exact open_I hf
  have lt2 : ∀ x ∈ p2, x.block < W.heap.size := by obtain ⟨m, hm⟩ := h2; exact DataW.trod_lt m _ _ _ hm
  have y2 : ∀ m ∈ d2.weights Tryd.prog 52, m ≤ reachBytes := fun m hm => of_decide_eq_true (List.all_eq_true.1 hsz m (DataW.weights_mem_each (j := 2) rfl rfl m hm))
  obtain ⟨B2, l2, e2, rfl⟩ := okWide_slice Tryd.underlying52 (hval 2 52 v2 rfl rfl)
  obtain ⟨A2, c2, s2, hv2, hR2⟩ : ∃ A c xs, Value.slice B2 l2 e2 = .slice A xs.length c ∧ RB W A c xs := by obtain ⟨fuel, hf⟩ := h2; exact open_B hf
  have hwalk := bookSigns_walk a0 A1 c1 s1 A2 c2 s2 W hG hT hR1 hR2
  rw [← hv1] at hwalk
  rw [← hv2] at hwalk
  refine hwalk.mono fun e W' ⟨he, bel⟩ => ?_
  subst he
  exact ⟨_, rfl, _, _, _, [], _, [], hW', trodAll_mk1 (shut_bool Tryd.underlying4 _), (trodAll_cons_mk (Below.trod laidOut_bookSigns (by kernel_rfl) (of_decide_eq_true (by kernel_rfl)) h0 bel lt0) (trodAll_cons_mk (Below.trod laidOut_bookSigns (by kernel_rfl) (of_decide_eq_true (by kernel_rfl)) h1 bel lt1) (trodAll_cons_mk (Below.trod laidOut_bookSigns (by kernel_rfl) (of_decide_eq_true (by kernel_rfl)) h2 bel lt2) trodAll_mk0))), rfl, bel.frame _, fun h => by cases h⟩
theorem bookSigns_said : Rows.BookSignsSaid :=
  OpenClaim.holds_of_wide 7 Tryd.f7 rfl rfl rfl rfl rfl rfl rfl ⟨rfl, rfl, rfl, rfl, rfl⟩ rfl rfl rfl rfl rfl (by kernel_rfl) Tryd.func7 (by kernel_rfl)
    (of_decide_eq_true (by kernel_rfl)) (by unfold Func.isWrapper; first | (rw [if_pos (by decide +kernel)]; kernel_rfl) | (rw [if_neg (by decide +kernel)]; exact ⟨rfl, rfl⟩))
    (fun os started H enc _ => lifted_bookSigns os started H enc)
theorem bookSigns_card : Rows.BookSignsCardSaid :=
  Claim7.holds_tied_plain_at .later [] [.wider, .data] true Rows.bookSignsCard.stood.harness false
    bookSigns_said (fun _ h => by cases h) (by kernel_rfl) (fun _ h => by cases h) bookSigns_row_tie rfl ⟨rfl, rfl⟩ (by kernel_rfl) rfl
    (fun f fn hf hfn => by
      obtain rfl : f = 7 := Option.some.inj ((show Tryd.prog.funcNamed "shawm/shawmlaw17.BookSigns" = some 7 by kernel_rfl).symm.trans hf) |>.symm
      obtain rfl : fn = Tryd.f7 := (Option.some.inj (Tryd.func7.symm.trans hfn)).symm
      exact ⟨by kernel_rfl, fun j t ht => by
        rw [Tryd.params7] at ht
        have hm : t ∈ [3, 25, 52] := by simpa using Array.mem_of_getElem? ht
        have hall : ([3, 25, 52].all fun u => !Tryd.prog.wantsStandIn u) = true := by kernel_rfl
        exact (show Tryd.prog.wantsStandIn t = false by simpa using List.all_eq_true.1 hall t hm)⟩)
    (by kernel_rfl)
#print axioms bookSigns_card
end Go.Proofs.YtciknejchglmoaaDoor
