/- The reference's books: Read: what it returns, and where the tape is then. · The statements' Copy: what it returns; the two tables, below a limit. · The document's rows of bits: Bits; rows of bools compared; the statements' Holds, Right, Few: what each call returns. · The statements' Holds, Right, Few, few: what each call returns. · The statements' Bytes: Right, Begun; Room: Begun: what each call returns. · The statements' Bytes: Begun: what it returns. · The statements' Room: Begun: what it returns. · The statements about books: awake: what it returns. · What the arguments of a law read as: []bool, the statements' Bytes and Room. · The laws of book: the two variables that the rows list. -/
import Derived.Test.YtciknejchglmoaaDoorKn
import Derived.Test.YtciknejchglmoaaDoorKl
import Derived.Test.YtciknejchglmoaaDoorKh
import Derived.Test.YtciknejchglmoaaDoorKj
import Derived.Test.YtciknejchglmoaaDoorKm
import Derived.Test.YtciknejchglmoaaDoorKf
import Derived.Test.YtciknejchglmoaaDoorKb
import Derived.Test.YtciknejchglmoaaDoorKc
import Derived.Deep.Grids
import Derived.Test.YtciknejchglmoaaDoorRows
import Derived.OpenShut
import Derived.MakeChecks
namespace Go.Proofs.YtciknejchglmoaaDoor
open Go.RowKit

theorem rRead_5 (g : Nat) (n m : Int) (w : World) (h : n < 0 ∨ 8 ≤ n) :
    Calls Tryd.prog 26 #[.pointer (some ⟨g, 0, none⟩), .int .i64 n, .int .i64 m] w fun e w' => e = .returned (.tuple #[.slice none 0 0, .int .i64 5]) ∧ w = w' := by
  have HT := Lib.hid (ris_any n w)
  rw [show thereB n = false by simp [thereB]; omega] at HT
  clear h
  go_enter Tryd.func26, Tryd.ntmps26
  go_wp2_with (go_at_call 41; refine HT.out.mono ?_; rintro e w2 ⟨rfl, rfl⟩)
  go_ret2
  exact ⟨rfl, rfl⟩
set_option maxHeartbeats 1000000 in
set_option maxRecDepth 100000 in
theorem rRead_4 (g b : Nat) (m : Int) (w : World) (h8 : b < 8) (h : m < 0 ∨ 4096 < m ∨ m.toNat % dimB b ≠ 0) :
    Calls Tryd.prog 26 #[.pointer (some ⟨g, 0, none⟩), .int .i64 (b : Int), .int .i64 m] w fun e w' => e = .returned (.tuple #[.slice none 0 0, .int .i64 4]) ∧ Below w.heap.size w w' := by
  have HT := Lib.hid (ris_any b w)
  rw [show thereB (b : Int) = true by simp [thereB]; omega] at HT
  have HO := Lib.hid (rone_any b w h8)
  unfold bookM bookC at HO
  have hd := dimB_pos b
  by_cases h1 : m < 0
  · have d1 : decide (m < 0) = true := decide_eq_true h1
    clear h
    go_enter Tryd.func26, Tryd.ntmps26
    go_wp2_with (first
      | (go_at_call 41; refine HT.out.mono ?_; rintro e w2 ⟨rfl, rfl⟩)
      | (go_at_call 44; refine HO.out.mono ?_; rintro e w3 ⟨A1, c1, A2, c2, rfl, hs1, hs2, b3⟩))
    go_ret2
    exact ⟨rfl, below_alloc b3 _⟩
  · have d1 : decide (m < 0) = false := decide_eq_false h1
    by_cases h2 : 4096 < m
    · have d2 : decide (4096 < m) = true := decide_eq_true h2
      clear h
      go_enter Tryd.func26, Tryd.ntmps26
      go_wp2_with (first
        | (go_at_call 41; refine HT.out.mono ?_; rintro e w2 ⟨rfl, rfl⟩)
        | (go_at_call 44; refine HO.out.mono ?_; rintro e w3 ⟨A1, c1, A2, c2, rfl, hs1, hs2, b3⟩))
      go_ret2
      exact ⟨rfl, below_alloc b3 _⟩
    · have d2 : decide (4096 < m) = false := decide_eq_false h2
      obtain ⟨n, rfl⟩ : ∃ n : Nat, m = (n : Int) := ⟨m.toNat, by omega⟩
      have h3 : n % dimB b ≠ 0 := by rcases h with h | h | h <;> first | omega | simpa using h
      have hn4 : ¬ 4096 < n := by omega
      generalize dimB b = D at *
      have hlt : n % D < D := Nat.mod_lt _ (by omega)
      have ht : (n : Int).tmod (D : Int) = ((n % D : Nat) : Int) := by rw [Int.tmod_eq_emod_of_nonneg (by omega), ← Int.natCast_emod]
      have hm : (n : Int) % (D : Int) = ((n % D : Nat) : Int) := by rw [← Int.natCast_emod]
      generalize n % D = r at *
      have hw : IntKind.i64.wrap ((n : Int).tmod (D : Int)) = (r : Int) := by rw [ht]; exact IntWalk.i64_in _ (by omega)
      have hwr : IntKind.i64.wrap (r : Int) = (r : Int) := IntWalk.i64_in _ (by omega)
      have hD0 : ((D : Int) == 0) = false := by simp; omega
      have hDn : ¬ D = 0 := by omega
      have hr0 : ((r : Int) != 0) = true := by simp [h3]
      clear h h1 h2
      go_enter Tryd.func26, Tryd.ntmps26
      go_wp2_with (first
        | (go_at_call 41; refine HT.out.mono ?_; rintro e w2 ⟨rfl, rfl⟩)
        | (go_at_call 44; refine HO.out.mono ?_; rintro e w3 ⟨A1, c1, A2, c2, rfl, hs1, hs2, b3⟩))
      go_ret2
      exact ⟨rfl, below_alloc b3 _⟩
set_option maxHeartbeats 4000000 in
set_option maxRecDepth 100000 in
theorem rRead_k (o : Nat → Prop) (g i b n : Nat) (l : List Bool) (w : World) (h : Tr o w g l i 0) (ho : ∀ x, o x → x < w.heap.size) (h8 : b < 8) (hn : n ≤ 4096) (hd : n % dimB b = 0) :
    Calls Tryd.prog 26 #[.pointer (some ⟨g, 0, none⟩), .int .i64 (b : Int), .int .i64 (n : Int)] w
      fun e w' => ∃ v, e = .returned (.tuple #[v, .int .i64 (bkRE b n (l.drop i))]) ∧ OwnI 3 .i64 w.heap.size w' v (bkRL b n (l.drop i)) ∧ (∃ E, Tr o w' g l (i + bkRN b n (l.drop i)) E) ∧ Upd (fun x => x = g) w w' := by
  have HT := Lib.hid (ris_any b w)
  rw [show thereB (b : Int) = true by simp [thereB]; omega] at HT
  have HO := Lib.hid (rone_any b w h8)
  have hdp := dimB_pos b
  have hlt := h.lt
  have hn4 : ¬ 4096 < n := by omega
  have hni : ¬ (4096 : Int) < (n : Int) := by omega
  have hn0 : (0 : Int) ≤ (n : Int) := by omega
  have ht : (n : Int).tmod (dimB b : Int) = 0 := by rw [Int.tmod_eq_emod_of_nonneg (by omega), ← Int.natCast_emod, hd]; rfl
  have hm : (n : Int) % (dimB b : Int) = 0 := by rw [← Int.natCast_emod, hd]; rfl
  have hw : IntKind.i64.wrap ((n : Int).tmod (dimB b : Int)) = 0 := by rw [ht]; rfl
  have hD0 : ((dimB b : Int) == 0) = false := by simp; omega
  have hDn : ¬ dimB b = 0 := by omega
  have HTK := Lib.hid (fun A1 c1 A2 c2 W (h : Tr o W g l i 0) ho h1 h2 => rtake_any o g i n b A1 c1 A2 c2 l W h ho h1 h2 h8 hn hd)
  have HK := Lib.hid (fun (j : Nat) (E : Int) W (h : Tr o W g l j E) => tok_any o g j l E W h)
  have HH := Lib.hid h
  have HHO := Lib.hid ho
  have HILE := Lib.hid h.le
  have HLT := Lib.hid hlt
  have HRN := Lib.hid (show bkRE b n (l.drop i) ≠ 0 → bkRL b n (l.drop i) = [] ∧ bkRN b n (l.drop i) = 0 from fun h9 => ⟨by unfold bkRL; rw [if_pos h9], by unfold bkRN; rw [if_pos h9]⟩)
  generalize bkRE b n (l.drop i) = RE at HTK HRN ⊢
  generalize bkRL b n (l.drop i) = RL at HTK HRN ⊢
  generalize bkRN b n (l.drop i) = RN at HTK HRN ⊢
  obtain ⟨nn, hnn⟩ : ∃ nn, (tabKI b).length = nn := ⟨_, rfl⟩
  unfold bookM bookC at HO HTK
  rw [hnn] at HO HTK
  clear h ho h8 hn hd hlt hnn
  by_cases hE : RE = 0
  · subst hE
    go_enter Tryd.func26, Tryd.ntmps26
    go_wp2_with (first
      | (go_at_call 41; refine HT.out.mono ?_; rintro e w2 ⟨rfl, rfl⟩)
      | (go_at_call 44; refine HO.out.mono ?_; rintro e w3 ⟨A1, c1, A2, c2, rfl, hs1, hs2, b3⟩; have HB3 := Lib.hid (below_alloc b3 (.cells #[.int .i64 (dimB b), .int .i64 (mostB b), .int .i64 (fallB b), .bool (escB b), .slice A1 nn c1, .slice A2 nn c2] 74)); have HT3 := Lib.hid (HH.out.below HB3.out); obtain ⟨_, _, _, q1, q2, q3, q4, _⟩ := HT3.out.cells; have hz := HLT.out; have HS1 := Lib.hid ((hs1.below (below_alloc (Below.refl w3.heap.size w3) (.cells #[.int .i64 (dimB b), .int .i64 (mostB b), .int .i64 (fallB b), .bool (escB b), .slice A1 nn c1, .slice A2 nn c2] 74))).weak (ok' := fun x => x ≠ g) (fun x _ h => by omega)); have HS2 := Lib.hid ((hs2.below (below_alloc (Below.refl w3.heap.size w3) (.cells #[.int .i64 (dimB b), .int .i64 (mostB b), .int .i64 (fallB b), .bool (escB b), .slice A1 nn c1, .slice A2 nn c2] 74))).weak (ok' := fun x => x ≠ g) (fun x _ h => by omega)); clear hs1 hs2 b3)
      | (go_at_call 60; refine (HTK.out A1 c1 A2 c2 _ HT3.out (fun x hx => by have := HHO.out x hx; have := HB3.out.size; omega) HS1.out HS2.out).mono ?_; rintro e w4 ⟨v4, L4, rfl, hO4, ⟨j4, hr4, he4⟩, hl4, hn4', hu4⟩; have HK4 := Lib.hid (HK.out _ _ _ hr4))
      | (go_at_call 61; refine HK4.out.mono ?_; rintro e w5 ⟨rfl, rfl⟩))
    go_ret2
    obtain rfl := hl4 trivial
    obtain rfl := he4 trivial
    exact ⟨_, rfl, hO4.mono HB3.out.size, ⟨_, hr4⟩, (Upd.of_below HB3.out (fun x => x = g)).trans hu4 fun _ _ h => h⟩
  · have hEb : (RE == 0) = false := by simp [hE]
    obtain ⟨e1, e2⟩ := HRN.out hE
    subst e1 e2
    clear hE
    go_enter Tryd.func26, Tryd.ntmps26
    go_wp2_with (first
      | (go_at_call 41; refine HT.out.mono ?_; rintro e w2 ⟨rfl, rfl⟩)
      | (go_at_call 44; refine HO.out.mono ?_; rintro e w3 ⟨A1, c1, A2, c2, rfl, hs1, hs2, b3⟩; have HB3 := Lib.hid (below_alloc b3 (.cells #[.int .i64 (dimB b), .int .i64 (mostB b), .int .i64 (fallB b), .bool (escB b), .slice A1 nn c1, .slice A2 nn c2] 74)); have HT3 := Lib.hid (HH.out.below HB3.out); obtain ⟨_, _, _, q1, q2, q3, q4, _⟩ := HT3.out.cells; have hz := HLT.out; have HS1 := Lib.hid ((hs1.below (below_alloc (Below.refl w3.heap.size w3) (.cells #[.int .i64 (dimB b), .int .i64 (mostB b), .int .i64 (fallB b), .bool (escB b), .slice A1 nn c1, .slice A2 nn c2] 74))).weak (ok' := fun x => x ≠ g) (fun x _ h => by omega)); have HS2 := Lib.hid ((hs2.below (below_alloc (Below.refl w3.heap.size w3) (.cells #[.int .i64 (dimB b), .int .i64 (mostB b), .int .i64 (fallB b), .bool (escB b), .slice A1 nn c1, .slice A2 nn c2] 74))).weak (ok' := fun x => x ≠ g) (fun x _ h => by omega)); clear hs1 hs2 b3)
      | (go_at_call 60; refine (HTK.out A1 c1 A2 c2 _ HT3.out (fun x hx => by have := HHO.out x hx; have := HB3.out.size; omega) HS1.out HS2.out).mono ?_; rintro e w4 ⟨v4, L4, rfl, hO4, ⟨j4, hr4, he4⟩, hl4, hn4', hu4⟩; have HK4 := Lib.hid (HK.out _ _ _ hr4); obtain ⟨_, _, y0, y1, y2, p1, p2, _⟩ := hr4.cells; have HM := Lib.hid (hr4.moved i HILE.out); clear hr4 he4 hl4 hO4)
      | (go_at_call 61; refine HK4.out.mono ?_; rintro e w5 ⟨rfl, rfl⟩))
    have q2' := HM.out.1.cells
    obtain ⟨_, _, r0, r1, r2, _⟩ := q2'
    go_quiet (fail)
    go_wp2
    go_ret2
    exact ⟨_, rfl, OwnI.nil _ _ _ _, ⟨_, HM.out.1.below (below_drewN (Below.refl _ _) _)⟩, (((Upd.of_below HB3.out (fun x => x = g)).trans hu4 fun _ _ h => h).trans HM.out.2 fun _ _ h => h).trans (Upd.drewN (fun x => x = g) _ _) fun _ _ h => h⟩
theorem rRead_any (o : Nat → Prop) (g i : Nat) (n m : Int) (l : List Bool) (w : World) (h : Tr o w g l i 0) :
    Calls Tryd.prog 26 #[.pointer (some ⟨g, 0, none⟩), .int .i64 n, .int .i64 m] w
      fun e w' => ∃ v, e = .returned (.tuple #[v, .int .i64 (brdE n m (l.drop i))]) ∧ OwnI 3 .i64 w.heap.size w' v (brdL n m (l.drop i)) ∧ (∃ E, Tr o w' g l (i + brdN n m (l.drop i)) E) ∧ Upd (fun x => x = g) w w' := by
  by_cases h5 : n < 0 ∨ 8 ≤ n
  · have hE : brdE n m (l.drop i) = 5 := by unfold brdE; rw [if_pos h5]
    have hL : brdL n m (l.drop i) = [] := by unfold brdL; rw [hE, if_pos (by decide)]
    have hN : brdN n m (l.drop i) = 0 := by unfold brdN; rw [hE, if_pos (by decide)]
    refine (rRead_5 g n m w h5).mono ?_
    rintro e w' ⟨rfl, rfl⟩
    rw [hE, hL, hN]
    exact ⟨_, rfl, OwnI.nil _ _ _ _, ⟨0, h⟩, Upd.refl _ _⟩
  · obtain ⟨b, rfl⟩ : ∃ b : Nat, n = (b : Int) := ⟨n.toNat, by omega⟩
    have h8 : b < 8 := by omega
    by_cases h4 : m < 0 ∨ 4096 < m ∨ m.toNat % dimB b ≠ 0
    · have hE : brdE (b : Int) m (l.drop i) = 4 := by unfold brdE; rw [if_neg h5, if_pos (by rw [Int.toNat_natCast]; exact h4)]
      have hL : brdL (b : Int) m (l.drop i) = [] := by unfold brdL; rw [hE, if_pos (by decide)]
      have hN : brdN (b : Int) m (l.drop i) = 0 := by unfold brdN; rw [hE, if_pos (by decide)]
      refine (rRead_4 g b m w h8 h4).mono ?_
      rintro e w' ⟨rfl, hb⟩
      rw [hE, hL, hN]
      exact ⟨_, rfl, OwnI.nil _ _ _ _, ⟨0, h.below hb⟩, Upd.of_below hb _⟩
    · obtain ⟨k, rfl⟩ : ∃ k : Nat, m = (k : Int) := ⟨m.toNat, by omega⟩
      rw [Int.toNat_natCast] at h4
      have hE : brdE (b : Int) (k : Int) (l.drop i) = bkRE b k (l.drop i) := by unfold brdE; rw [if_neg h5, if_neg (by rw [Int.toNat_natCast, Int.toNat_natCast]; exact h4), Int.toNat_natCast, Int.toNat_natCast]
      have hk : k ≤ 4096 := by omega
      have hd : k % dimB b = 0 := by omega
      have hL : brdL (b : Int) (k : Int) (l.drop i) = bkRL b k (l.drop i) := by
        unfold brdL; rw [hE, Int.toNat_natCast, Int.toNat_natCast]
        split
        · rename_i h9; unfold bkRL; rw [if_pos h9]
        · rfl
      have hN : brdN (b : Int) (k : Int) (l.drop i) = bkRN b k (l.drop i) := by
        unfold brdN; rw [hE, Int.toNat_natCast, Int.toNat_natCast]
        split
        · rename_i h9; unfold bkRN; rw [if_pos h9]
        · rfl
      rw [hE, hL, hN]
      refine (rRead_k (fun x => o x ∧ x < w.heap.size) g i b k l w h.cut (fun _ h => h.2) h8 hk hd).mono ?_
      rintro e w' ⟨v, rfl, hO, ⟨E, hR⟩, hu⟩
      exact ⟨v, rfl, hO, ⟨E, hR.weak fun _ _ h => h.1⟩, hu⟩
end Go.Proofs.YtciknejchglmoaaDoor

namespace Go.Proofs.YtciknejchglmoaaDoor
open Go.RowKit

/-- Both tables of the package, below a limit. -/
structure GS (base : Nat) (w : World) : Prop where
  f : GF w
  t : GT w
  lf : 0 < base
  lt : 1 < base
theorem GS.of {w : World} (hG : GF w) (hT : GT w) : GS w.heap.size w :=
  ⟨hG, hT, World.block_lt_of_cell? w _ (hG.dim 0 (by omega)), World.block_lt_of_cell? w _ (hT.txt 0 (by omega))⟩
theorem GS.below {base : Nat} {w w' : World} (h : GS base w) (hb : Below w.heap.size w w') : GS base w' := ⟨h.f.below hb, h.t.below hb, h.lf, h.lt⟩
theorem GS.upd {base : Nat} {w w' : World} {o : Nat → Prop} (h : GS base w) (hu : Upd o w w') (ho : ∀ x, x < base → ¬ o x) : GS base w' :=
  ⟨h.f.keep (hu.keep (ok := fun x => x < base) fun x h => ho x h) h.lf, h.t.keep (hu.keep (ok := fun x => x < base) fun x h => ho x h) h.lt, h.lf, h.lt⟩
set_option maxHeartbeats 1000000 in
theorem copy17_any (A : Option Addr) (c : Nat) (l : List Int) (w : World) (hS : RI w A c l) (hlm : l.length ≤ 1000000) :
    Calls Tryd.prog 16 #[.slice A l.length c] w fun e w' => ∃ v, e = .returned v ∧ OwnI 3 .i64 w.heap.size w' v l ∧ Below w.heap.size w w' := by
  have HS := Lib.hid hS
  have HLM := Lib.hid hlm
  clear hS hlm
  go_enter Tryd.func16, Tryd.ntmps16
  go_wp2_with (at_builtin; (refine append_row (w0 := w) w.heap.size rfl (.tmp 3) (.tmp 4) 25 3 .i64 8 rfl Tryd.underlying25 infoI (by decide) _ [] l A c rfl rfl (own_lit w 3 .i64 [] (by decide)) (HS.out.below (below_alloc (Below.refl _ _) _)) (below_alloc (Below.refl _ _) _) (by simp) (by have := HLM.out; simp; omega) ?_); intro v1 w4 hO4 hB4 _ _; have HO4 := Lib.hid hO4; have HB4 := Lib.hid hB4; clear hO4 hB4)
  go_ret
  exact ⟨_, rfl, HO4.out, HB4.out⟩
end Go.Proofs.YtciknejchglmoaaDoor

namespace Go.Proofs.YtciknejchglmoaaDoor
open Go.RowKit

def sameBo (a b : List Bool) : Bool := decide (a = b)
theorem sameBo_end {a b : List Bool} (hl : a.length = b.length) (h : ∀ j, j < a.length → nth false a j = nth false b j) : sameBo a b = true := by
  refine decide_eq_true (List.ext_getElem hl fun i h1 h2 => ?_)
  have := h i h1
  rwa [nth_eq false a i h1, nth_eq false b i h2] at this
set_option maxHeartbeats 2000000 in
set_option maxRecDepth 100000 in
theorem tbits_any (A : Option Addr) (c : Nat) (b : List Int) (n : Nat) (w : World) (hS : RY w A c b) (hb : ∀ x ∈ b, 0 ≤ x ∧ x < 256) (h8 : n ≤ 8 * b.length) (hm : b.length ≤ 10000000) :
    Calls Tryd.prog 57 #[.slice A b.length c, .int .i64 (n : Int)] w fun e w' => ∃ x, e = .returned x ∧ OwnI 5 .u8 w.heap.size w' x (bitsI (ofB b n)) ∧ Below w.heap.size w w' := by
  have hw8 : IntKind.i64.wrap (8 * (b.length : Int)) = 8 * (b.length : Int) := IntWalk.i64_in _ (by omega)
  have HX := Lib.hid hb
  have HL := Lib.hid (ofB_length b n)
  have HS := Lib.hid hS
  clear hb hS
  go_enter Tryd.func57, Tryd.ntmps57
  go_wp2
  go_loopw [5, 6] (fun v i wr => ∃ k : Nat, k ≤ n ∧ i = .int .i64 (k : Int) ∧ Hid (OwnI 5 .u8 w.heap.size wr v (bitsI ((ofB b n).take k))) ∧ Hid (Below w.heap.size w wr)) (fun _ i _ => n - (intOf i).toNat)
  case atStart => exact ⟨0, Nat.zero_le _, rfl, Lib.hid (OwnI.nil _ _ _ _), Lib.hid (Below.refl _ _)⟩
  case round =>
    obtain ⟨k, hk, rfl, hO, hB⟩ := hrel
    by_cases hlt : k < n
    · obtain ⟨ad, rfl, hc⟩ := rd_int (HS.out.below hB.out) (k / 8) (by omega)
      have hxb := HX.out _ (nth_mem 0 b (k / 8) (by omega))
      have hx := bitB_and8 b k hxb.1 hxb.2
      have HTK := Lib.hid (show bitsI ((ofB b n).take (k + 1)) = bitsI ((ofB b n).take k) ++ [b2i (bitB b k)] by
        rw [take_succ_nth false _ k (by rw [HL.out]; exact hlt), ofB_nth _ _ _ hlt]; simp [bitsI])
      have hlen : (bitsI ((ofB b n).take k)).length ≤ 100000000 := by rw [bitsI_length, List.length_take]; omega
      obtain ⟨q, hq⟩ : ∃ q, k / 8 = q := ⟨_, rfl⟩
      obtain ⟨t, ht⟩ : ∃ t, 7 - k % 8 = t := ⟨_, rfl⟩
      rw [hq, ht] at hx
      rw [hq] at hc
      have hql : q < b.length := by omega
      have hqli : (q : Int) < (b.length : Int) := by omega
      have hqd : (k : Int) / 8 = (q : Int) := by omega
      have htd : 7 - (k : Int) % 8 = (t : Int) := by omega
      have ht7 : t ≤ 7 := by omega
      have hd1 : decide ((k : Int) < (n : Int)) = true := decide_eq_true (by omega)
      have hd2 : decide ((k : Int) < 8 * (b.length : Int)) = true := decide_eq_true (by omega)
      have hd1N : decide (k < n) = true := decide_eq_true hlt
      have hd2N : decide (k < 8 * b.length) = true := decide_eq_true (by omega)
      generalize b2i (bitB b k) = y at hx HTK
      have HLT := Lib.hid hlt
      clear hxb hq ht hlt
      go_wp2_with (at_builtin; (refine append_one (w0 := w) w.heap.size rfl (.tmp 19) (.tmp 30) 48 5 .u8 1 rfl Tryd.underlying48 infoY (by decide) u5 (bitsI ((ofB b n).take k)) y rfl rfl hO.out hB.out hB.out.size (by omega) ?_); intro v1 w4 hO4 hB4 _ _; have HO4 := Lib.hid hO4; have HB4 := Lib.hid hB4; clear hO4 hB4)
      go_roundw
      case rel => exact ⟨k + 1, HLT.out, by go_num, by rw [HTK.out]; exact HO4, HB4⟩
      case measure => have := HLT.out; simp [intOf]; omega
    · obtain rfl : k = n := by omega
      have hd1 : decide ((k : Int) < (k : Int)) = false := decide_eq_false (by omega)
      have HT := Lib.hid (show (ofB b k).take k = ofB b k from List.take_of_length_le (by rw [HL.out]; exact Nat.le_refl _))
      go_wp2
      go_ret
      exact ⟨_, rfl, by rw [← HT.out]; exact hO.out, hB.out⟩
end Go.Proofs.YtciknejchglmoaaDoor

namespace Go.Proofs.YtciknejchglmoaaDoor
open Go.RowKit

def holdsB (bs row : List Bool) : Bool := decide (bs.length = row.length) && sameL (packB bs) (packB row)
theorem holdsB_refl (bs : List Bool) : holdsB bs bs = true := by simp [holdsB, sameL]

set_option maxHeartbeats 1000000 in
set_option maxRecDepth 100000 in
theorem holds_any (o : Nat → Prop) (g : Nat) (bs row : List Bool) (R : Option Addr) (c : Nat) (w : World) (h : Wr o w g bs) (hR : RY w R c (bitsI row)) (hl : bs.length ≤ 2000000) (_ : row.length ≤ 2000000) :
    Calls Tryd.prog 34 #[.pointer (some ⟨g, 0, none⟩), .slice R row.length c] w fun e w' => e = .returned (.bool (holdsB bs row)) ∧ Below w.heap.size w w' := by
  have HW := Lib.hid (wlen_any o g bs w h)
  by_cases hlen : bs.length = row.length
  · have hb : ((bs.length : Int) == (row.length : Int)) = true := by simp [hlen]
    have HB := Lib.hid (wbytes_any o g bs w h hl)
    have HP := Lib.hid (fun W (hb : Below w.heap.size w W) => tbytes_any R c row W (hR.below hb) (by omega))
    have HE := Lib.hid (show holdsB bs row = sameL (packB bs) (packB row) by unfold holdsB; rw [decide_eq_true hlen]; rfl)
    have HSM := Lib.hid (fun (A B : Option Addr) (c d : Nat) (a b : List Int) (w : World) (hS : RY w A c a) (hT : RY w B d b) => samebytes_any A B c d a b w hS hT)
    clear hlen h hR
    go_enter Tryd.func34, Tryd.ntmps34
    go_wp2_with (first
      | (go_at_call 35; refine HW.out.mono ?_; rintro e w2 ⟨rfl, rfl⟩)
      | (go_at_call 37; refine HB.out.mono ?_; rintro e w3 ⟨v3, rfl, hO3, b3⟩; obtain ⟨A3, c3, rfl, hL3⟩ := own_ri hO3; have HL3 := Lib.hid hL3; clear hO3 hL3)
      | (go_at_call 70; refine (HP.out _ b3).mono ?_; rintro e w4 ⟨v4, rfl, hO4, b4⟩; obtain ⟨A4, c4, rfl, hL4⟩ := own_ri hO4; have HL4 := Lib.hid hL4; clear hO4 hL4)
      | (go_at_call 69; refine (HSM.out _ _ _ _ _ _ _ (HL3.out.below b4) HL4.out).mono ?_; rintro e w5 ⟨rfl, b5⟩))
    go_ret
    exact ⟨ret_bool HE.out.symm, below2 (below2 b3 b4) b5⟩
  · have hb : ((bs.length : Int) == (row.length : Int)) = false := by simp; omega
    have HE := Lib.hid (show holdsB bs row = false by unfold holdsB; rw [decide_eq_false hlen]; rfl)
    clear hlen h hR
    go_enter Tryd.func34, Tryd.ntmps34
    go_wp2_with (go_at_call 35; refine HW.out.mono ?_; rintro e w2 ⟨rfl, rfl⟩)
    go_ret
    exact ⟨ret_bool HE.out.symm, Below.refl _ _⟩

set_option maxHeartbeats 400000 in
theorem rfew_any (A : Option Addr) (n c : Nat) (L : Int) (w : World) :
    Calls Tryd.prog 30 #[.agg #[.slice A n c, .int .i64 L]] w fun e w' => e = .returned (.bool (decide (n ≤ 50))) ∧ Below w.heap.size w w' := by
  by_cases h : n ≤ 50
  · have hd : decide ((n : Int) ≤ 50) = true := decide_eq_true (by omega)
    have HD := Lib.hid (show decide (n ≤ 50) = true from decide_eq_true h)
    clear h
    go_enter Tryd.func30, Tryd.ntmps30
    go_wp2
    go_ret
    exact ⟨by rw [HD.out]; rfl, below_alloc (Below.refl _ _) _⟩
  · have hd : decide ((n : Int) ≤ 50) = false := decide_eq_false (by omega)
    have HD := Lib.hid (show decide (n ≤ 50) = false from decide_eq_false h)
    clear h
    go_enter Tryd.func30, Tryd.ntmps30
    go_wp2
    go_ret
    exact ⟨by rw [HD.out]; rfl, below_alloc (Below.refl _ _) _⟩
end Go.Proofs.YtciknejchglmoaaDoor

namespace Go.Proofs.YtciknejchglmoaaDoor
open Go.RowKit

def rightB (n : Nat) (N At : Int) : Bool := decide (n ≤ 2000) && decide (0 ≤ N) && decide (N ≤ 8 * (n : Int)) && decide (0 ≤ At) && decide (At ≤ N)

set_option maxHeartbeats 2000000 in
set_option maxRecDepth 100000 in
theorem right17_any (A : Option Addr) (n c : Nat) (N At : Int) (w : World) :
    Calls Tryd.prog 23 #[.agg #[.slice A n c, .int .i64 N, .int .i64 At]] w fun e w' => e = .returned (.bool (rightB n N At)) ∧ Below w.heap.size w w' := by
  have hrb : ∀ r, rightB n N At = r → Hid (rightB n N At = r) := fun _ h => Lib.hid h
  by_cases q1 : n ≤ 2000
  · have d1 : decide ((n : Int) ≤ 2000) = true := decide_eq_true (by omega)
    have hw8 : IntKind.i64.wrap (8 * (n : Int)) = 8 * (n : Int) := IntWalk.i64_in _ (by omega)
    by_cases q2 : (0 : Int) ≤ N
    · have d2 : decide (0 ≤ N) = true := decide_eq_true (by omega)
      by_cases q3 : N ≤ 8 * (n : Int)
      · have d3 : decide (N ≤ 8 * (n : Int)) = true := decide_eq_true (by omega)
        by_cases q4 : (0 : Int) ≤ At
        · have d4 : decide (0 ≤ At) = true := decide_eq_true (by omega)
          by_cases q5 : At ≤ N
          · have d5 : decide (At ≤ N) = true := decide_eq_true (by omega)
            have HR := hrb true (by unfold rightB; simp [q1, q2, q3, q4, q5])
            clear hrb q1 q2 q3 q4 q5
            go_enter Tryd.func23, Tryd.ntmps23
            go_wp2
            go_ret
            exact ⟨ret_bool HR.out.symm, below_alloc (Below.refl _ _) _⟩
          · have d5 : decide (At ≤ N) = false := decide_eq_false (by omega)
            have HR := hrb false (by unfold rightB; simp [q1, q2, q3, q4, q5])
            clear hrb q1 q2 q3 q4 q5
            go_enter Tryd.func23, Tryd.ntmps23
            go_wp2
            go_ret
            exact ⟨ret_bool HR.out.symm, below_alloc (Below.refl _ _) _⟩
        · have d4 : decide (0 ≤ At) = false := decide_eq_false (by omega)
          have HR := hrb false (by unfold rightB; simp [q1, q2, q3, q4])
          clear hrb q1 q2 q3 q4
          go_enter Tryd.func23, Tryd.ntmps23
          go_wp2
          go_ret
          exact ⟨ret_bool HR.out.symm, below_alloc (Below.refl _ _) _⟩
      · have d3 : decide (N ≤ 8 * (n : Int)) = false := decide_eq_false (by omega)
        have HR := hrb false (by unfold rightB; simp [q1, q2, q3])
        clear hrb q1 q2 q3
        go_enter Tryd.func23, Tryd.ntmps23
        go_wp2
        go_ret
        exact ⟨ret_bool HR.out.symm, below_alloc (Below.refl _ _) _⟩
    · have d2 : decide (0 ≤ N) = false := decide_eq_false (by omega)
      have HR := hrb false (by unfold rightB; simp [q1, q2])
      clear hrb q1 q2
      go_enter Tryd.func23, Tryd.ntmps23
      go_wp2
      go_ret
      exact ⟨ret_bool HR.out.symm, below_alloc (Below.refl _ _) _⟩
  · have d1 : decide ((n : Int) ≤ 2000) = false := decide_eq_false (by omega)
    have HR := hrb false (by unfold rightB; simp [q1])
    clear hrb q1
    go_enter Tryd.func23, Tryd.ntmps23
    go_wp2
    go_ret
    exact ⟨ret_bool HR.out.symm, below_alloc (Below.refl _ _) _⟩
end Go.Proofs.YtciknejchglmoaaDoor

namespace Go.Proofs.YtciknejchglmoaaDoor
open Go.RowKit

set_option maxHeartbeats 2000000 in
set_option maxRecDepth 100000 in
theorem bbegun_any (A : Option Addr) (c : Nat) (b : List Int) (m i : Nat) (w : World) (hS : RY w A c b) (hb : ∀ x ∈ b, 0 ≤ x ∧ x < 256) (hm : b.length ≤ 2000) (h8 : m ≤ 8 * b.length) (hi : i ≤ m) :
    Calls Tryd.prog 24 #[.agg #[.slice A b.length c, .int .i64 (m : Int), .int .i64 (i : Int)]] w
      fun e w' => ∃ gr gt k, e = .returned (.tuple #[.pointer (some ⟨gr, 0, none⟩), .pointer (some ⟨gt, 0, none⟩)]) ∧ Rr (fun x => w.heap.size ≤ x ∧ x < k) w' gr (ofB b m) i ∧ Tr (fun x => k ≤ x) w' gt (ofB b m) i 0 ∧ w.heap.size ≤ k ∧ Below w.heap.size w w' := by
  have hba := below_alloc (Below.refl w.heap.size w) (.cells #[.slice A b.length c, .int .i64 (m : Int), .int .i64 (i : Int)] 40)
  have HBA := Lib.hid hba
  have hbx : Blk (w.alloc (.cells #[.slice A b.length c, .int .i64 (m : Int), .int .i64 (i : Int)] 40)) w.heap.size #[.slice A b.length c, .int .i64 (m : Int), .int .i64 (i : Int)] 40 := heap_alloc_new w _
  have HBX := Lib.hid hbx
  have HOP := Lib.hid (ropen_ok A c b m _ (hS.below hba) hb (by omega) h8 (by omega))
  have HLN := Lib.hid (ofB_length b m)
  have HS := Lib.hid hS
  have HBT := Lib.hid (fun W (h : Below w.heap.size w W) => tbits_any A c b m W (hS.below h) hb h8 (by omega))
  have HZ := Lib.hid (show (w.alloc (.cells #[.slice A b.length c, .int .i64 (m : Int), .int .i64 (i : Int)] 40)).heap.size = w.heap.size + 1 from World.size_alloc _ _)
  have HSE := Lib.hid (show seekE (ofB b m) (i : Int) = 0 ∧ seekI (ofB b m) 0 (i : Int) = i by unfold seekE seekI; rw [if_neg (by rw [ofB_length]; omega), if_neg (by rw [ofB_length]; omega)]; simp)
  clear hba hbx hS hb
  go_enter Tryd.func24, Tryd.ntmps24
  go_wp2_with (first
    | (go_at_call 36; refine HOP.out.mono ?_; rintro e w2 ⟨g, rfl, hR2, b2, hg2⟩; have HR2 := Lib.hid hR2; have hx := (HBX.out.below b2).cell 2 rfl; clear hR2)
    | (go_at_call 38; refine (rseek_any _ g 0 (i : Int) (ofB b m) _ HR2.out).mono ?_; rw [HSE.out.1, HSE.out.2]; rintro e w3 ⟨rfl, hR3, hu3⟩))
  have hz := HZ.out
  obtain ⟨gx, hgx⟩ : ∃ gx, w.heap.size = gx := ⟨_, rfl⟩
  have hgg : g ≠ gx := by omega
  have hB3 := (HBX.out.below b2).keep (hu3.keep (ok := fun x => x ≠ g) fun _ h => h) (by omega)
  rw [hgx] at hB3
  have hb03 : Below w.heap.size w w3 := (below2 HBA.out b2).trans (hu3.below (below2 HBA.out b2).size (fun x _ e => by omega))
  have HB03 := Lib.hid hb03
  have HB3 := Lib.hid hB3
  have HR3 := Lib.hid hR3
  have HNN := Lib.hid (show w.heap.size = gx ∧ gx ≤ g from ⟨hgx, by omega⟩)
  simp only [hgx]
  clear hu3 hx b2 HOP HBA hz hB3 hR3 hb03 hgx hg2
  have hHeld0 : (fun W : World => W.cell? ⟨gx, 0, none⟩ = some (.slice A b.length c) ∧ W.cell? ⟨gx, 1, none⟩ = some (.int .i64 (m : Int)) ∧ W.cell? ⟨gx, 2, none⟩ = some (.int .i64 (i : Int))) w3 := ⟨HB3.out.cell 0 rfl, HB3.out.cell 1 rfl, HB3.out.cell 2 rfl⟩
  refine wp_region_G 11 (fun W : World => W.cell? ⟨gx, 0, none⟩ = some (.slice A b.length c) ∧ W.cell? ⟨gx, 1, none⟩ = some (.int .i64 (m : Int)) ∧ W.cell? ⟨gx, 2, none⟩ = some (.int .i64 (i : Int))) (by kernel_rfl) hHeld0 (fun hHeld => ?_)
  refine wpAnyG_takeL (i := 0) (.pointer (some ⟨g, 0, none⟩)) [10, 11] rfl (by kernel_rfl) (fun _ _ _ h => h) hHeld (by rfl) ?_ ?_
  · (intro W' hSw; (try dsimp only at hSw); go_simp)
  try simp only [Act.put, List.setIfInBounds_toArray, List.set_cons_zero, List.set_cons_succ]
  refine wpAnyG_takeL (i := 1) (.pointer (some ⟨gx, 0, none⟩)) [2, 5, 8, 9, 11] rfl (by kernel_rfl) (fun _ _ _ h => h) hHeld (by rfl) ?_ ?_
  · (intro W' hSw; (try dsimp only at hSw); go_simp)
  try simp only [Act.put, List.setIfInBounds_toArray, List.set_cons_zero, List.set_cons_succ]
  refine wpAnyG_takeL (i := 2) (.slice A b.length c) [5, 8, 9, 11] rfl (by kernel_rfl) (fun _ _ _ h => h) hHeld (by rfl) ?_ ?_
  · (intro W' hSw; (try dsimp only at hSw); go_simp)
  try simp only [Act.put, List.setIfInBounds_toArray, List.set_cons_zero, List.set_cons_succ]
  refine wpAnyG_takeL (i := 3) (.pointer (some ⟨gx, 1, none⟩)) [4, 5, 8, 9, 11] rfl (by kernel_rfl) (fun _ _ _ h => h) hHeld (by rfl) ?_ ?_
  · (intro W' hSw; (try dsimp only at hSw); go_simp)
  try simp only [Act.put, List.setIfInBounds_toArray, List.set_cons_zero, List.set_cons_succ]
  refine wpAnyG_takeL (i := 4) (.int .i64 m) [5, 8, 9, 11] rfl (by kernel_rfl) (fun _ _ _ h => h) hHeld (by rfl) ?_ ?_
  · (intro W' hSw; (try dsimp only at hSw); go_simp)
  try simp only [Act.put, List.setIfInBounds_toArray, List.set_cons_zero, List.set_cons_succ]
  refine wpAnyG_takeL (i := 6) (.pointer (some ⟨gx, 2, none⟩)) [7, 8, 9, 11] rfl (by kernel_rfl) (fun _ _ _ h => h) hHeld (by rfl) ?_ ?_
  · (intro W' hSw; (try dsimp only at hSw); go_simp)
  try simp only [Act.put, List.setIfInBounds_toArray, List.set_cons_zero, List.set_cons_succ]
  refine wpAnyG_takeL (i := 7) (.int .i64 i) [8, 9, 11] rfl (by kernel_rfl) (fun _ _ _ h => h) hHeld (by rfl) ?_ ?_
  · (intro W' hSw; (try dsimp only at hSw); go_simp)
  try simp only [Act.put, List.setIfInBounds_toArray, List.set_cons_zero, List.set_cons_succ]
  clear hHeld
  refine wpAnyG_oneL (i := 5) (by kernel_rfl) rfl (fun K hK => ?_)
  (go_simp; go_at_call 57; refine (HBT.out _ (HB03.out.drew)).mono ?_; rintro e w4 ⟨v4, rfl, hO4, b4⟩)
  obtain ⟨A4, c4, rfl, hL4⟩ := hO4.rd
  have b34 : Below w3.heap.size w3 w4 := (Below.refl _ _).drew.trans b4
  have HB4 := Lib.hid (HB3.out.below b34)
  have hHeld4 : (fun W : World => W.cell? ⟨gx, 0, none⟩ = some (.slice A b.length c) ∧ W.cell? ⟨gx, 1, none⟩ = some (.int .i64 (m : Int)) ∧ W.cell? ⟨gx, 2, none⟩ = some (.int .i64 (i : Int))) w4 := ⟨HB4.out.cell 0 rfl, HB4.out.cell 1 rfl, HB4.out.cell 2 rfl⟩
  refine hK.out _ _ (fun _ => hHeld4) ?_
  clear hK K
  try simp only [Act.put, List.setIfInBounds_toArray, List.set_cons_zero, List.set_cons_succ]
  refine wpAnyG_takeL (i := 8) (.agg #[.slice A4 (bitsI (ofB b m)).length c4, .int .i64 i, .int .i64 0]) [9, 11] rfl (by kernel_rfl) (fun _ _ _ h => h) hHeld4 (by rfl) ?_ ?_
  · (intro W' hSw; (try dsimp only at hSw); go_simp)
  try simp only [Act.put, List.setIfInBounds_toArray, List.set_cons_zero, List.set_cons_succ]
  refine wpAnyG_takeL (i := 10) (.pointer (some ⟨g, 0, none⟩)) [11] rfl (by kernel_rfl) (fun _ _ _ h => h) hHeld4 (by rfl) ?_ ?_
  · (intro W' hSw; (try dsimp only at hSw); go_simp)
  try simp only [Act.put, List.setIfInBounds_toArray, List.set_cons_zero, List.set_cons_succ]
  clear hHeld4
  refine wpAnyG_oneL (i := 9) (by kernel_rfl) rfl (fun K hK => ?_)
  go_simp
  refine hK.out _ _ (fun _ => ?_) ?_
  · exact ⟨(HB4.out.below (below_alloc (Below.refl _ _) _)).cell 0 rfl, (HB4.out.below (below_alloc (Below.refl _ _) _)).cell 1 rfl, (HB4.out.below (below_alloc (Below.refl _ _) _)).cell 2 rfl⟩
  clear hK K
  try simp only [Act.put, List.setIfInBounds_toArray, List.set_cons_zero, List.set_cons_succ]
  refine wpAnyG_oneL (i := 11) (by kernel_rfl) rfl (fun K hK => ?_)
  go_simp
  refine hK.out _ _ (fun h => Bool.noConfusion (show true = false from h)) ?_
  clear hK K
  refine wpAnyG_done (by kernel_rfl) ?_ _
  go_wp2
  go_ret2
  have hln := HLN.out
  have hz := HZ.out
  have hbl : (bitsI (ofB b m)).length = (ofB b m).length := bitsI_length _
  have hL5 := hL4.below (below_alloc (Below.refl w4.heap.size w4) (.cells #[.slice A4 (bitsI (ofB b m)).length c4, .int .i64 (i : Int), .int .i64 0] 50))
  refine ⟨g, w4.heap.size, rfl, w3.heap.size, ?_, ⟨A4, c4, ?_, ?_, by omega, by omega, b34.size⟩, HB03.out.size, (below2 HB03.out b34).alloc (below2 HB03.out b34).size _⟩
  · exact ((HR3.out.weak (o' := fun x => w.heap.size ≤ x ∧ x < w3.heap.size) (fun x hx h => ⟨by omega, hx⟩)).below b34).below (below_alloc (Below.refl _ _) _)
  · rw [← hbl]; exact heap_alloc_new w4 _
  · exact (hL4.weak (ok' := fun x => w3.heap.size ≤ x ∧ x ≠ w4.heap.size) (fun x hx h => ⟨h.1, by omega⟩)).below (below_alloc (Below.refl _ _) _)
end Go.Proofs.YtciknejchglmoaaDoor

namespace Go.Proofs.YtciknejchglmoaaDoor
open Go.RowKit

/-- A row of zeros is made, as one step of a drawn region: from here on the world is a letter. -/
theorem step_made {P : Program} {ops : Array Oper} {Q : Exit → Act → World → Prop} {E : Prop} {K : Act → World → Prop} {o : Oper} {a : Act} {W : World} (t e : TypeId) (x y : Operand) (ik : IntKind) (n : Nat) (hgd : o.guard = none) (ho : o.op = .makeSlice t x y)
    (hx : a.eval x = .int .i64 (n : Int)) (hy : a.eval y = .int .i64 (n : Int)) (hn : n ≤ 9223372036854775807)
    (hmk : (Instr.makeSlice t (.int .i64 (n : Int)) (.int .i64 (n : Int))).run P W = .ok (.slice (some ⟨W.heap.size, 0, none⟩) n n) (W.alloc (.cells (madeCells #[.int ik 0] n) e)))
    (h : ∀ (g : Nat) (w1 : World), Hid (g = W.heap.size ∧ w1.heap.size = g + 1) → OwnI e ik W.heap.size w1 (.slice (some ⟨g, 0, none⟩) n n) (List.replicate n 0) → Below W.heap.size W w1 → K (a.put o.dst (.slice (some ⟨g, 0, none⟩) n n)) w1) :
    if Region.wanted o (yielded ops a.tmps) = true then Oper.wp P o a W K Q else E := by
  rw [if_pos (by simp [Region.wanted, hgd])]
  unfold Oper.wp execOp
  simp only [ho, hx, hy, Sem.run_bind, hmk, Result.andThen_ok, Sem.run_pure]
  exact h _ _ (Lib.hid ⟨rfl, World.size_alloc _ _⟩) (own_made W e ik n hn) ((Below.refl _ _).alloc (Nat.le_refl _) _)

/-- The bytes, and how many bits, that a writer begins with. -/
def roomL (b : List Int) (L : Int) : List Int := if 0 ≤ L ∧ L ≤ 4000 then List.replicate 131072 0 else b
def roomN (b : List Int) (L : Int) : Nat := if 0 ≤ L ∧ L ≤ 4000 then 1048576 - L.toNat else 8 * b.length
def roomBits (b : List Int) (L : Int) : List Bool := ofB (roomL b L) (roomN b L)
theorem roomBits_length (b : List Int) (L : Int) : (roomBits b L).length = roomN b L := ofB_length _ _
theorem roomN_le {b : List Int} {L : Int} (h : b.length ≤ 50) : roomN b L ≤ 1048576 := by unfold roomN; split <;> omega

/-- What is left to do, behind the bytes. -/
theorem room_end {w W4 W5 W6 : World} {g n : Nat} {b : List Int} {v : Value} (hw0 : w.heap.size ≤ g) (hb04 : Below w.heap.size w W4) (hw : Wr (fun x => x = g ∨ W4.heap.size ≤ x) W5 g (ofB b n)) (hu : Upd (fun x => x = g) W4 W5) (hgl : g < W4.heap.size)
    (hO : OwnI 5 .u8 W5.heap.size W6 v (bitsI (ofB b n))) (hb : Below W5.heap.size W5 W6) :
    ∃ R e k, v = .slice R (ofB b n).length e ∧ Wr (fun x => w.heap.size ≤ x ∧ x < k) W6 g (ofB b n) ∧ Sl (kInt .u8) (fun x => k ≤ x) W6 R e (bitsI (ofB b n)) ∧ w.heap.size ≤ k ∧ Below w.heap.size w W6 := by
  obtain ⟨R, e, rfl, hs⟩ := hO.rd
  have h1 := hb04.size
  have h2 := hu.size
  have hbw : Below w.heap.size w W5 := hb04.trans (hu.below h1 (fun x _ e => by omega))
  refine ⟨R, e, W5.heap.size, by rw [bitsI_length], (hw.weak (fun x hx h => ⟨by rcases h with h | h <;> omega, hx⟩)).below hb, hs.weak (fun x _ h => h.1), by omega, below2 hbw hb⟩

set_option maxHeartbeats 2000000 in
set_option maxRecDepth 100000 in
theorem rbegun_any (A : Option Addr) (c : Nat) (b : List Int) (L : Int) (w : World) (hS : RY w A c b) (hb : ∀ x ∈ b, 0 ≤ x ∧ x < 256) (hm : b.length ≤ 50) :
    Calls Tryd.prog 31 #[.agg #[.slice A b.length c, .int .i64 L]] w
      fun e w' => ∃ g R d k, e = .returned (.tuple #[.pointer (some ⟨g, 0, none⟩), .slice R (roomBits b L).length d]) ∧ Wr (fun x => w.heap.size ≤ x ∧ x < k) w' g (roomBits b L) ∧ Sl (kInt .u8) (fun x => k ≤ x) w' R d (bitsI (roomBits b L)) ∧ w.heap.size ≤ k ∧ Below w.heap.size w w' := by
  have hba := below_alloc (Below.refl w.heap.size w) (.cells #[.slice A b.length c, .int .i64 L] 57)
  have HBA := Lib.hid hba
  have hbx : Blk (w.alloc (.cells #[.slice A b.length c, .int .i64 L] 57)) w.heap.size #[.slice A b.length c, .int .i64 L] 57 := heap_alloc_new w _
  have HBX := Lib.hid hbx
  have HZ := Lib.hid (show (w.alloc (.cells #[.slice A b.length c, .int .i64 L] 57)).heap.size = w.heap.size + 1 from World.size_alloc _ _)
  have HS := Lib.hid hS
  have HX := Lib.hid hb
  have hw8 : IntKind.i64.wrap (8 * (b.length : Int)) = ((8 * b.length : Nat) : Int) := by rw [IntWalk.i64_in _ (by omega)]; omega
  clear hba hbx hS hb
  by_cases hin : 0 ≤ L ∧ L ≤ 4000
  · obtain ⟨M, hM⟩ : ∃ M, 1048576 - L.toNat = M := ⟨_, rfl⟩
    obtain ⟨zs, hzs⟩ : ∃ zs : List Int, List.replicate 131072 (0 : Int) = zs := ⟨_, rfl⟩
    have hzl : zs.length = 131072 := by rw [← hzs]; exact List.length_replicate
    have hzb : ∀ x ∈ zs, 0 ≤ x ∧ x < 256 := fun x hx => by rw [← hzs] at hx; have := List.eq_of_mem_replicate hx; omega
    have HRB := Lib.hid (show roomBits b L = ofB zs M by unfold roomBits roomL roomN; rw [if_pos hin, if_pos hin, hM, hzs])
    have HFE := Lib.hid (show fullE 0 M = 0 ∧ fullB [] (ofB zs M) = ofB zs M by
      unfold fullE fullB; rw [if_neg (by omega), if_neg (by rw [ofB_length]; show ¬ 1048576 < 0 + M; omega)]; exact ⟨rfl, List.nil_append _⟩)
    have HZS := Lib.hid hzs
    have HZL := Lib.hid hzl
    have HZB := Lib.hid hzb
    clear hzl hzb hzs
    rw [HRB.out]
    have hd0 : decide (0 ≤ L) = true := decide_eq_true hin.1
    have hd1 : decide (L ≤ 4000) = true := decide_eq_true hin.2
    have hwM : IntKind.i64.wrap (1048576 - L) = (M : Int) := by rw [IntWalk.i64_in _ (by omega)]; omega
    have HM := Lib.hid (show M ≤ 8 * 131072 by omega)
    have HMK := Lib.hid (make_row (P := Tryd.prog) 38 5 .u8 1 Tryd.underlying38 infoY (by decide) 131072 (by decide))
    clear hin hM
    go_enter Tryd.func31, Tryd.ntmps31
    go_wp2_with (go_at_call 45; refine (wnew_any _).mono ?_; rintro e w2 ⟨g, rfl, hW2, b2, hg2⟩; have hB2 := HBX.out.below b2; have x0 := hB2.cell 0 rfl; have x1 := hB2.cell 1 rfl; have HW2 := Lib.hid hW2; have HB2 := Lib.hid b2; have HG2 := Lib.hid hg2; have HBB := Lib.hid hB2; clear hW2 b2 hg2 hB2)
    go_quiet (fail)
    go_wp2
    obtain ⟨gx, hgx⟩ : ∃ gx, w.heap.size = gx := ⟨_, rfl⟩
    have HBN := Lib.hid (HBB.out.below (below_drewN (Below.refl w2.heap.size w2) nq))
    rw [hgx] at HBN HBB
    simp only [hgx]
    have HGX := Lib.hid hgx
    clear hgx x0 x1
    have hHeld0 : (fun W : World => W.cell? ⟨gx, 1, none⟩ = some (.int .i64 L)) (w2.drewN nq) := HBN.out.cell 1 rfl
    refine wp_region_G 5 (fun W : World => W.cell? ⟨gx, 1, none⟩ = some (.int .i64 L)) (by kernel_rfl) hHeld0 (fun hHeld => ?_)
    refine wpAnyG_takeL (i := 1) (.pointer (some ⟨gx, 1, none⟩)) [2, 3, 5] rfl (by kernel_rfl) (fun _ _ _ h => h) hHeld (by rfl) ?_ ?_
    · (intro W' hSw; (try dsimp only at hSw); go_simp)
    try simp only [Act.put, List.setIfInBounds_toArray, List.set_cons_zero, List.set_cons_succ]
    refine wpAnyG_takeL (i := 2) (.int .i64 L) [3, 5] rfl (by kernel_rfl) (fun _ _ _ h => h) hHeld (by rfl) ?_ ?_
    · (intro W' hSw; (try dsimp only at hSw); go_simp)
    try simp only [Act.put, List.setIfInBounds_toArray, List.set_cons_zero, List.set_cons_succ]
    refine wpAnyG_takeL (i := 3) (.int .i64 M) [5] rfl (by kernel_rfl) (fun _ _ _ h => h) hHeld (by rfl) ?_ ?_
    · (intro W' hSw; (try dsimp only at hSw); go_simp)
    try simp only [Act.put, List.setIfInBounds_toArray, List.set_cons_zero, List.set_cons_succ]
    clear hHeld
    refine wpAnyG_oneL (i := 0) (by kernel_rfl) rfl (fun K hK => ?_)
    refine step_made 38 5 _ _ .u8 131072 rfl rfl rfl rfl (by decide) (HMK.out _) (fun gz W4 HGZ hOz hB4 => ?_)
    have hBk := Lib.hid ((HBB.out.below (below_drewN (Below.refl w2.heap.size w2) (nq + 1))).below hB4)
    refine hK.out _ _ (fun _ => hBk.out.cell 1 rfl) ?_
    clear hK K
    try simp only [Act.put, List.setIfInBounds_toArray, List.set_cons_zero, List.set_cons_succ]
    refine wpAnyG_oneL (i := 4) (by kernel_rfl) rfl (fun K hK => ?_)
    go_simp
    refine hK.out _ _ (fun _ => hBk.out.cell 1 rfl) ?_
    clear hK K
    try simp only [Act.put, List.setIfInBounds_toArray, List.set_cons_zero, List.set_cons_succ]
    refine wpAnyG_oneL (i := 5) (by kernel_rfl) rfl (fun K hK => ?_)
    go_simp
    refine hK.out _ _ (fun h => Bool.noConfusion (show true = false from h)) ?_
    clear hK K
    refine wpAnyG_done (by kernel_rfl) ?_ _
    have hgw : w.heap.size ≤ g := by have := HG2.out; have := HZ.out; omega
    have hb24 : Below w2.heap.size w2 W4 := below2 (below_drewN (Below.refl w2.heap.size w2) (nq + 1)) hB4
    rw [HZS.out] at hOz
    have hb04 := below2 (below2 HBA.out HB2.out) hb24
    have hW4 := HW2.out.below hb24
    obtain ⟨A9, c9, hv9, hs9⟩ := hOz.rd
    have hgl := HW2.out.lt
    injection hv9 with hA9 hl9 hc9
    subst hA9 hc9
    have hSg := hs9.weak (ok' := fun x => ¬ x = g) (fun x hx h e => by have := h.1; have h3 : (w2.drewN nq).drew.heap.size = w2.heap.size := rfl; omega)
    have HA := wappend_any (fun x => x = g) g M _ _ zs [] W4 hW4 hSg HZB.out (by have := HZL.out; omega) (by have := HZL.out; have := HM.out; omega) (Nat.zero_le _)
    rw [show ([] : List Bool).length = 0 from rfl, HFE.out.1, HFE.out.2, HZL.out] at HA
    have HAA := Lib.hid HA
    have HSG := Lib.hid hSg
    have HW4 := Lib.hid hW4
    have HB04 := Lib.hid hb04
    have HGW := Lib.hid hgw
    have HBT := Lib.hid (fun W A c (h : RY W A c zs) => tbits_any A c zs M W h HZB.out (by have := HZL.out; have := HM.out; omega) (by have := HZL.out; omega))
    rw [HZL.out] at HBT
    clear HA hSg hW4 hb04 hgw hOz hs9 hb24 hBk hHeld0 hl9 hgl hB4
    go_wp2_with (first
      | (go_at_call 62; refine HAA.out.mono ?_; rintro e w5 ⟨rfl, hW5, hu5⟩; have HS5 := Lib.hid ((HSG.out.keep (hu5.keep (ok := fun x => ¬ x = g) fun _ h => h)).any))
      | (go_at_call 57; refine (HBT.out _ _ _ HS5.out).mono ?_; rintro e w6 ⟨v6, rfl, hO6, b6⟩))
    go_ret2
    obtain ⟨R, e9, k, hv, r1, r2, r3, r4⟩ := room_end HGW.out HB04.out hW5 hu5 HW4.out.lt hO6 b6
    exact ⟨g, R, e9, k, ret_two rfl hv, r1, r2, r3, r4⟩
  · have HRB := Lib.hid (show roomBits b L = ofB b (8 * b.length) by unfold roomBits roomL roomN; rw [if_neg hin, if_neg hin])
    have HFE := Lib.hid (show fullE 0 (8 * b.length) = 0 ∧ fullB [] (ofB b (8 * b.length)) = ofB b (8 * b.length) by
      unfold fullE fullB; rw [if_neg (by omega), if_neg (by rw [ofB_length]; simp; omega)]; exact ⟨rfl, by simp⟩)
    rw [HRB.out]
    have script : ∀ (_ : (decide (0 ≤ L) = false) ∨ (decide (0 ≤ L) = true ∧ decide (L ≤ 4000) = false)), True := fun _ => trivial
    clear script
    have hcs : decide (0 ≤ L) = false ∨ (decide (0 ≤ L) = true ∧ decide (L ≤ 4000) = false) := by
      by_cases h0 : 0 ≤ L
      · exact .inr ⟨decide_eq_true h0, decide_eq_false (by omega)⟩
      · exact .inl (decide_eq_false h0)
    clear hin
    rcases hcs with hd0 | ⟨hd0, hd1⟩
    all_goals
      go_enter Tryd.func31, Tryd.ntmps31
      go_wp2_with (go_at_call 45; refine (wnew_any _).mono ?_; rintro e w2 ⟨g, rfl, hW2, b2, hg2⟩; have hB2 := HBX.out.below b2; have x0 := hB2.cell 0 rfl; have x1 := hB2.cell 1 rfl; have HW2 := Lib.hid hW2; have HB2 := Lib.hid b2; have HG2 := Lib.hid hg2; clear hW2 b2 hg2 hB2)
      go_quiet (fail)
      have hgw : w.heap.size ≤ g := by have := HG2.out; have := HZ.out; omega
      have hb02 : Below w.heap.size w (w2.drewN nq) := below_drewN (below2 HBA.out HB2.out) nq
      have hW4 := HW2.out.below (below_drewN (Below.refl w2.heap.size w2) nq)
      have hSg := (HS.out.weak (ok' := fun x => ¬ x = g) (fun x hx _ e => by omega)).below hb02
      have HA := wappend_any (fun x => x = g) g (8 * b.length) A c b [] (w2.drewN nq) hW4 hSg HX.out (by omega) (Nat.le_refl _) (Nat.zero_le _)
      rw [show ((8 * b.length : Nat) : Int) = 8 * (b.length : Int) by omega, show ([] : List Bool).length = 0 from rfl, HFE.out.1, HFE.out.2] at HA
      have HAA := Lib.hid HA
      have HSG := Lib.hid hSg
      have HW4 := Lib.hid hW4
      have HB02 := Lib.hid hb02
      have HGW := Lib.hid hgw
      have HBT := Lib.hid (fun W (h : RY W A c b) => tbits_any A c b (8 * b.length) W h HX.out (Nat.le_refl _) (by omega))
      rw [show ((8 * b.length : Nat) : Int) = 8 * (b.length : Int) by omega] at HBT
      clear HA hSg hW4 hb02 hgw
      go_wp2_with (first
        | (go_at_call 62; refine HAA.out.mono ?_; rintro e w5 ⟨rfl, hW5, hu5⟩; have HS5 := Lib.hid ((HSG.out.keep (hu5.keep (ok := fun x => ¬ x = g) fun _ h => h)).any))
        | (go_at_call 57; refine (HBT.out _ HS5.out).mono ?_; rintro e w6 ⟨v6, rfl, hO6, b6⟩))
      go_ret2
      obtain ⟨R, e9, k, hv, r1, r2, r3, r4⟩ := room_end HGW.out HB02.out hW5 hu5 HW4.out.lt hO6 b6
      exact ⟨g, R, e9, k, ret_two rfl hv, r1, r2, r3, r4⟩
end Go.Proofs.YtciknejchglmoaaDoor

namespace Go.Proofs.YtciknejchglmoaaDoor
open Go.RowKit

theorem packB_in (bs : List Bool) : ∀ x ∈ packB bs, 0 ≤ x ∧ x < 256 := fun x hx => by
  simp only [packB, List.mem_map, List.mem_range] at hx
  obtain ⟨j, _, rfl⟩ := hx
  have := byteB_lt bs j
  exact ⟨Int.natCast_nonneg _, by show ((byteB bs j : Nat) : Int) < 256; omega⟩
def exL : List Int := [0, 1, 0, -1]
/-- The bits of the example. -/
def exB : List Bool := fullB [] (bkW 1 exL)
set_option maxRecDepth 100000 in
theorem eb_cost : bkC 7 [-40] = (17, 0) := by decide +kernel
set_option maxRecDepth 100000 in
theorem eb_fits : fitsV 2 [0, 1, 0, 3] = false ∧ checkedK 2 [0, 1, 0, 3] = 0 := by decide +kernel
set_option maxRecDepth 100000 in
theorem eb_best : bestV [0, 0] = (0, 0) ∧ bestE [0, 0] = 0 := by decide +kernel
set_option maxRecDepth 100000 in
theorem eb_wr : writeK 1 exL 0 = 0 ∧ exB.length = 7 := by decide +kernel
set_option maxRecDepth 100000 in
theorem eb_pk : (packB exB).length = 1 ∧ ofB (packB exB) 7 = exB := by decide +kernel
set_option maxRecDepth 100000 in
theorem eb_rd : brdE 1 4 exB = 0 ∧ brdL 1 4 exB = exL := by decide +kernel
set_option maxRecDepth 100000 in
theorem eb_tab : (tabKI 1).length = 16 ∧ nth 0 (tabKI 1) 0 = 2 ∧ nth 0 (tabKI 1) 15 = 7 := by decide +kernel

theorem cost_ex (w : World) (hG : GF w) (hT : GT w) : Calls Tryd.prog 19 #[.int .i64 7, .slice (some ⟨w.heap.size, 0, none⟩) 1 1] (w.alloc (.cells #[.int .i64 (-40)] 3)) fun e w' => e = .returned (.tuple #[.int .i64 17, .int .i64 0]) ∧ Below w.heap.size w w' := by
  have b1 := lit_be w 3 .i64 [-40]
  refine (bCost_any _ 1 7 [-40] _ (lit_ri w 3 .i64 [-40] (by decide)) (hG.below b1) (hT.below b1) (by decide)).mono ?_
  rintro e w' ⟨rfl, hb⟩
  rw [eb_cost]
  exact ⟨rfl, below2 b1 hb⟩
theorem fits_ex (w : World) (hG : GF w) : Calls Tryd.prog 17 #[.int .i64 2, .slice (some ⟨w.heap.size, 0, none⟩) 4 4] (w.alloc (.cells #[.int .i64 0, .int .i64 1, .int .i64 0, .int .i64 3] 3)) fun e w' => e = .returned (.tuple #[.bool false, .int .i64 0]) ∧ Below w.heap.size w w' := by
  have b1 := lit_be w 3 .i64 [0, 1, 0, 3]
  refine (bfits_any _ 4 2 [0, 1, 0, 3] _ (lit_ri w 3 .i64 [0, 1, 0, 3] (by decide)) (hG.below b1)).mono ?_
  rintro e w' ⟨rfl, hb⟩
  rw [eb_fits.1, eb_fits.2]
  exact ⟨rfl, below2 b1 hb⟩
theorem best_ex (w : World) (hG : GF w) (hT : GT w) : Calls Tryd.prog 21 #[.slice (some ⟨w.heap.size, 0, none⟩) 2 2] (w.alloc (.cells #[.int .i64 0, .int .i64 0] 3)) fun e w' => e = .returned (.tuple #[.int .i64 0, .int .i64 0, .int .i64 0]) ∧ Below w.heap.size w w' := by
  have b1 := lit_be w 3 .i64 [0, 0]
  refine (bBest_any _ 2 [0, 0] _ (lit_ri w 3 .i64 [0, 0] (by decide)) (hG.below b1) (hT.below b1) (by decide)).mono ?_
  rintro e w' ⟨rfl, hb⟩
  rw [eb_best.1, eb_best.2]
  exact ⟨rfl, below2 b1 hb⟩
theorem same_ex (A : Option Addr) (c : Nat) (w : World) (hA : RI w A c exL) : Calls Tryd.prog 14 #[.slice A 4 c, .slice (some ⟨w.heap.size, 0, none⟩) 4 4] (w.alloc (.cells #[.int .i64 0, .int .i64 1, .int .i64 0, .int .i64 (-1)] 3)) fun e w' => e = .returned (.bool true) ∧ Below w.heap.size w w' := by
  have b1 := lit_be w 3 .i64 exL
  refine (same17_any A _ c 4 exL exL _ (hA.below b1) (lit_ri w 3 .i64 exL (by decide))).mono ?_
  rintro e w' ⟨rfl, hb⟩
  exact ⟨by rw [show sameL exL exL = true by simp [sameL]], below2 b1 hb⟩
theorem write_ex (o : Nat → Prop) (g base : Nat) (w : World) (h : Wr o w g []) (hS : GS base w) (ho : ∀ x, o x → x < w.heap.size) : Calls Tryd.prog 32 #[.pointer (some ⟨g, 0, none⟩), .int .i64 1, .slice (some ⟨w.heap.size, 0, none⟩) 4 4] (w.alloc (.cells #[.int .i64 0, .int .i64 1, .int .i64 0, .int .i64 (-1)] 3))
    fun e w' => e = .returned (.int .i64 0) ∧ Wr (fun x => o x ∨ w.heap.size < x) w' g exB ∧ Upd o w w' := by
  have b1 := lit_be w 3 .i64 exL
  have h1 : Wr o (w.alloc (.cells (nums .i64 exL).toArray 3)) g [] := h.below b1
  refine (bwrite_any o g _ 4 1 [] exL _ h1 (by decide) ?_ (hS.f.below b1) (hS.t.below b1) (by decide)).mono ?_
  · obtain ⟨A, c, e, hs⟩ := (own_lit w 3 .i64 exL (by decide)).rd
    injection e with e1 e2 e3
    subst e1 e3
    exact hs.weak fun x _ h k => by have := ho x k; omega
  · rintro e w' ⟨rfl, hw, hu⟩
    have hz : (w.alloc (.cells (nums .i64 exL).toArray 3)).heap.size = w.heap.size + 1 := World.size_alloc _ _
    rw [show (([] : List Bool).length) = 0 from rfl, eb_wr.1]
    exact ⟨rfl, hw.weak (fun x _ h => h.imp id fun h => by omega), (Upd.of_below b1 o).trans hu fun _ _ h => h⟩

set_option maxHeartbeats 4000000 in
set_option maxRecDepth 100000 in
theorem awake17_any (w : World) (hG : GF w) (hT : GT w) : Calls Tryd.prog 15 #[] w fun e w' => e = .returned (.bool true) ∧ Below w.heap.size w w' := by
  have hS := GS.of hG hT
  have b := Below.refl w.heap.size w
  clear hG hT
  go_enter Tryd.func15, Tryd.ntmps15
  go_wp2_with fail
  refine (shape_ok 6 _ hS.f (by omega)).mono ?_
  rintro e w1 ⟨rfl, b1⟩
  rw [show dimB 6 = 2 from rfl, show mostB 6 = 15 from rfl]
  replace hS := hS.below b1; replace b := below2 b b1; clear b1
  go_wp2_with fail
  refine (blengths_ok 1 _ hS.t (by omega)).mono ?_
  rintro e w2 ⟨v3, rfl, hO, b1⟩
  obtain ⟨A3, c3, rfl, h3⟩ := own_ri hO
  rw [eb_tab.1]
  replace hS := hS.below b1; replace b := below2 b b1; clear b1 hO
  go_wp2_with fail
  refine (cost_ex _ hS.f hS.t).mono ?_
  rintro e w3 ⟨rfl, b1⟩
  replace hS := hS.below b1; replace h3 := h3.below b1; replace b := below2 b b1; clear b1
  go_wp2_with fail
  refine (fits_ex _ hS.f).mono ?_
  rintro e w4 ⟨rfl, b1⟩
  replace hS := hS.below b1; replace h3 := h3.below b1; replace b := below2 b b1; clear b1
  go_wp2_with fail
  refine (best_ex _ hS.f hS.t).mono ?_
  rintro e w5 ⟨rfl, b1⟩
  replace hS := hS.below b1; replace h3 := h3.below b1; replace b := below2 b b1; clear b1
  go_wp2_with fail
  refine (wnew_any _).mono ?_
  rintro e w6 ⟨g, rfl, hw, b1, hg⟩
  have hgl : g < w6.heap.size := hw.lt
  replace h3 := h3.apart b1 hg
  have hgw : w.heap.size ≤ g := by have := b.size; omega
  replace hS := hS.below b1; replace b := below2 b b1; clear b1 hg
  go_wp2_with fail
  refine (write_ex _ g _ _ hw hS (fun x e => by rw [e]; exact hgl)).mono ?_
  rintro e w7 ⟨rfl, hw7, hu⟩
  replace h3 := (h3.keep (hu.keep (ok := fun x => x ≠ g) fun _ h => h)).any
  replace hS := hS.upd hu (fun x h e => by omega)
  replace b := b.trans (hu.below b.size (fun x _ e => by omega)); clear hu hw
  go_wp2_with fail
  refine (wbytes_any _ g exB _ hw7 (by rw [eb_wr.2]; decide)).mono ?_
  rintro e w8 ⟨v7, rfl, hO, b1⟩
  obtain ⟨A7, c7, rfl, h7⟩ := own_ri hO
  have hpb : ∀ x ∈ packB exB, 0 ≤ x ∧ x < 256 := packB_in exB
  rw [eb_pk.1]
  clear hO
  replace hS := hS.below b1; replace h3 := h3.below b1; replace hw7 := hw7.below b1; replace b := below2 b b1; clear b1
  go_wp2_with fail
  refine (wlen_any _ g exB _ hw7).mono ?_
  rw [eb_wr.2]
  rintro e w9 ⟨rfl, rfl⟩
  go_wp2_with fail
  have ho := ropen_ok A7 c7 (packB exB) 7 w8 h7 hpb (by rw [eb_pk.1]; decide) (by rw [eb_pk.1]; decide) (by decide)
  rw [eb_pk.1, eb_pk.2] at ho
  refine ho.mono ?_
  rintro e w10 ⟨gr, rfl, hr, b1, hg⟩
  replace h3 := h3.apart b1 hg
  have hgr : w.heap.size ≤ gr := by have := b.size; omega
  replace hS := hS.below b1; replace b := below2 b b1; clear b1 hg ho h7 hw7 hpb
  go_wp2_with fail
  refine (bRead_any _ gr 0 1 4 exB _ hr hS.f hS.t (fun e => by have := hS.lf; omega)).mono ?_
  rw [show exB.drop 0 = exB from rfl, eb_rd.1, eb_rd.2]
  rintro e w11 ⟨v8, rfl, hO, _, hu⟩
  obtain ⟨A8, c8, rfl, h8⟩ := own_ri hO
  rw [show exL.length = 4 from rfl]
  replace h3 := (h3.keep (hu.keep (ok := fun x => x ≠ gr) fun _ h => h)).any
  replace b := b.trans (hu.below b.size (fun x _ e => by omega)); clear hu hr hO hS
  obtain ⟨ad3, rfl, k0⟩ := rd_int h3 0 (by rw [eb_tab.1]; decide)
  rw [eb_tab.2.1] at k0
  replace k0 : w11.cell? ad3 = some (.int .i64 2) := by simpa [Addr.add] using k0
  obtain ⟨ad4, e4, k15⟩ := rd_int h3 15 (by rw [eb_tab.1]; decide)
  cases e4
  rw [eb_tab.2.2] at k15
  replace k15 : w11.cell? ⟨ad3.block, ad3.off + 15, none⟩ = some (.int .i64 7) := by simpa [Addr.add] using k15
  have BD := Lib.hid (show Below w11.heap.size w11 w11.drew from below_drewN (Below.refl _ _) 1)
  have HF := Lib.hid (show ∀ W', Below w11.heap.size w11 W' → (W'.cell? ad3 = some (.int .i64 2) ∧ W'.cell? ⟨ad3.block, ad3.off + 15, none⟩ = some (.int .i64 7)) from fun W' h => ⟨cell_below h k0, cell_below h k15⟩)
  have HL := Lib.hid (show RI (w11.alloc (.cells #[.int .i64 0, .int .i64 1, .int .i64 0, .int .i64 (-1)] 3)).drew A8 c8 exL ∧ RI (w11.alloc (.cells #[.int .i64 0, .int .i64 1, .int .i64 0, .int .i64 (-1)] 3)).drew (some ⟨w11.heap.size, 0, none⟩) 4 exL ∧ Below w11.heap.size w11 (w11.alloc (.cells #[.int .i64 0, .int .i64 1, .int .i64 0, .int .i64 (-1)] 3)).drew from
    ⟨h8.below (lit_be w11 3 .i64 exL).drew, (lit_ri w11 3 .i64 exL (by decide)).below (Below.refl _ _).drew, (lit_be w11 3 .i64 exL).drew⟩)
  clear k0 k15
  go_wp2_with fail
  refine wp_region_G 74 (fun W' => W'.cell? ad3 = some (.int .i64 2) ∧ W'.cell? ⟨ad3.block, ad3.off + 15, none⟩ = some (.int .i64 7)) (by kernel_rfl) (HF.out _ BD.out) (fun hHeld => ?_)
  refine wpAnyG_takeL (i := 0) (.int .i64 2) [74] rfl (by kernel_rfl) (fun _ _ _ h => h) hHeld (by rfl) ?_ ?_
  · (intro W' hSw; (try dsimp only at hSw); go_simp)
  try simp only [Act.put, List.setIfInBounds_toArray, List.set_cons_zero, List.set_cons_succ]
  refine wpAnyG_takeL (i := 1) (.bool true) [74] rfl (by kernel_rfl) (fun _ _ _ h => h) hHeld (by rfl) ?_ ?_
  · (intro W' hSw; (try dsimp only at hSw); go_simp)
  try simp only [Act.put, List.setIfInBounds_toArray, List.set_cons_zero, List.set_cons_succ]
  refine wpAnyG_takeL (i := 2) (.bool true) [74] rfl (by kernel_rfl) (fun _ _ _ h => h) hHeld (by rfl) ?_ ?_
  · (intro W' hSw; (try dsimp only at hSw); go_simp)
  try simp only [Act.put, List.setIfInBounds_toArray, List.set_cons_zero, List.set_cons_succ]
  refine wpAnyG_takeL (i := 3) (.int .i64 15) [74] rfl (by kernel_rfl) (fun _ _ _ h => h) hHeld (by rfl) ?_ ?_
  · (intro W' hSw; (try dsimp only at hSw); go_simp)
  try simp only [Act.put, List.setIfInBounds_toArray, List.set_cons_zero, List.set_cons_succ]
  refine wpAnyG_takeL (i := 4) (.bool true) [74] rfl (by kernel_rfl) (fun _ _ _ h => h) hHeld (by rfl) ?_ ?_
  · (intro W' hSw; (try dsimp only at hSw); go_simp)
  try simp only [Act.put, List.setIfInBounds_toArray, List.set_cons_zero, List.set_cons_succ]
  refine wpAnyG_takeL (i := 5) (.bool true) [74] rfl (by kernel_rfl) (fun _ _ _ h => h) hHeld (by rfl) ?_ ?_
  · (intro W' hSw; (try dsimp only at hSw); go_simp)
  try simp only [Act.put, List.setIfInBounds_toArray, List.set_cons_zero, List.set_cons_succ]
  refine wpAnyG_takeL (i := 6) (.bool true) [74] rfl (by kernel_rfl) (fun _ _ _ h => h) hHeld (by rfl) ?_ ?_
  · (intro W' hSw; (try dsimp only at hSw); go_simp)
  try simp only [Act.put, List.setIfInBounds_toArray, List.set_cons_zero, List.set_cons_succ]
  refine wpAnyG_takeL (i := 7) (.int .i64 0) [74] rfl (by kernel_rfl) (fun _ _ _ h => h) hHeld (by rfl) ?_ ?_
  · (intro W' hSw; (try dsimp only at hSw); go_simp)
  try simp only [Act.put, List.setIfInBounds_toArray, List.set_cons_zero, List.set_cons_succ]
  refine wpAnyG_takeL (i := 8) (.bool true) [74] rfl (by kernel_rfl) (fun _ _ _ h => h) hHeld (by rfl) ?_ ?_
  · (intro W' hSw; (try dsimp only at hSw); go_simp)
  try simp only [Act.put, List.setIfInBounds_toArray, List.set_cons_zero, List.set_cons_succ]
  refine wpAnyG_takeL (i := 9) (.bool true) [74] rfl (by kernel_rfl) (fun _ _ _ h => h) hHeld (by rfl) ?_ ?_
  · (intro W' hSw; (try dsimp only at hSw); go_simp)
  try simp only [Act.put, List.setIfInBounds_toArray, List.set_cons_zero, List.set_cons_succ]
  refine wpAnyG_takeL (i := 10) (.bool true) [74] rfl (by kernel_rfl) (fun _ _ _ h => h) hHeld (by rfl) ?_ ?_
  · (intro W' hSw; (try dsimp only at hSw); go_simp)
  try simp only [Act.put, List.setIfInBounds_toArray, List.set_cons_zero, List.set_cons_succ]
  refine wpAnyG_takeL (i := 11) (.int .i64 0) [74] rfl (by kernel_rfl) (fun _ _ _ h => h) hHeld (by rfl) ?_ ?_
  · (intro W' hSw; (try dsimp only at hSw); go_simp)
  try simp only [Act.put, List.setIfInBounds_toArray, List.set_cons_zero, List.set_cons_succ]
  refine wpAnyG_takeL (i := 12) (.bool true) [74] rfl (by kernel_rfl) (fun _ _ _ h => h) hHeld (by rfl) ?_ ?_
  · (intro W' hSw; (try dsimp only at hSw); go_simp)
  try simp only [Act.put, List.setIfInBounds_toArray, List.set_cons_zero, List.set_cons_succ]
  refine wpAnyG_takeL (i := 13) (.bool true) [74] rfl (by kernel_rfl) (fun _ _ _ h => h) hHeld (by rfl) ?_ ?_
  · (intro W' hSw; (try dsimp only at hSw); go_simp)
  try simp only [Act.put, List.setIfInBounds_toArray, List.set_cons_zero, List.set_cons_succ]
  refine wpAnyG_takeL (i := 14) (.bool true) [74] rfl (by kernel_rfl) (fun _ _ _ h => h) hHeld (by rfl) ?_ ?_
  · (intro W' hSw; (try dsimp only at hSw); go_simp)
  try simp only [Act.put, List.setIfInBounds_toArray, List.set_cons_zero, List.set_cons_succ]
  refine wpAnyG_takeL (i := 15) (.slice (some ad3) 16 c3) [74] rfl (by kernel_rfl) (fun _ _ _ h => h) hHeld (by rfl) ?_ ?_
  · (intro W' hSw; (try dsimp only at hSw); go_simp)
  try simp only [Act.put, List.setIfInBounds_toArray, List.set_cons_zero, List.set_cons_succ]
  refine wpAnyG_takeL (i := 16) (.pointer (some ad3)) [74] rfl (by kernel_rfl) (fun _ _ _ h => h) hHeld (by rfl) ?_ ?_
  · (intro W' hSw; (try dsimp only at hSw); go_simp)
  try simp only [Act.put, List.setIfInBounds_toArray, List.set_cons_zero, List.set_cons_succ]
  refine wpAnyG_takeL (i := 17) (.int .i64 2) [74] rfl (by kernel_rfl) (fun _ _ _ h => h) hHeld (by rfl) ?_ ?_
  · (intro W' hSw; (try dsimp only at hSw); go_simp)
  try simp only [Act.put, List.setIfInBounds_toArray, List.set_cons_zero, List.set_cons_succ]
  refine wpAnyG_takeL (i := 18) (.bool true) [74] rfl (by kernel_rfl) (fun _ _ _ h => h) hHeld (by rfl) ?_ ?_
  · (intro W' hSw; (try dsimp only at hSw); go_simp)
  try simp only [Act.put, List.setIfInBounds_toArray, List.set_cons_zero, List.set_cons_succ]
  refine wpAnyG_takeL (i := 19) (.bool true) [74] rfl (by kernel_rfl) (fun _ _ _ h => h) hHeld (by rfl) ?_ ?_
  · (intro W' hSw; (try dsimp only at hSw); go_simp)
  try simp only [Act.put, List.setIfInBounds_toArray, List.set_cons_zero, List.set_cons_succ]
  refine wpAnyG_takeL (i := 20) (.bool true) [74] rfl (by kernel_rfl) (fun _ _ _ h => h) hHeld (by rfl) ?_ ?_
  · (intro W' hSw; (try dsimp only at hSw); go_simp)
  try simp only [Act.put, List.setIfInBounds_toArray, List.set_cons_zero, List.set_cons_succ]
  refine wpAnyG_takeL (i := 21) (.slice (some ad3) 16 c3) [74] rfl (by kernel_rfl) (fun _ _ _ h => h) hHeld (by rfl) ?_ ?_
  · (intro W' hSw; (try dsimp only at hSw); go_simp)
  try simp only [Act.put, List.setIfInBounds_toArray, List.set_cons_zero, List.set_cons_succ]
  refine wpAnyG_takeL (i := 22) (.pointer (some ad3)) [74] rfl (by kernel_rfl) (fun _ _ _ h => h) hHeld (by rfl) ?_ ?_
  · (intro W' hSw; (try dsimp only at hSw); go_simp)
  try simp only [Act.put, List.setIfInBounds_toArray, List.set_cons_zero, List.set_cons_succ]
  refine wpAnyG_takeL (i := 23) (.int .i64 2) [74] rfl (by kernel_rfl) (fun _ _ _ h => h) hHeld (by rfl) ?_ ?_
  · (intro W' hSw; (try dsimp only at hSw); go_simp)
  try simp only [Act.put, List.setIfInBounds_toArray, List.set_cons_zero, List.set_cons_succ]
  refine wpAnyG_takeL (i := 24) (.slice (some ad3) 16 c3) [74] rfl (by kernel_rfl) (fun _ _ _ h => h) hHeld (by rfl) ?_ ?_
  · (intro W' hSw; (try dsimp only at hSw); go_simp)
  try simp only [Act.put, List.setIfInBounds_toArray, List.set_cons_zero, List.set_cons_succ]
  refine wpAnyG_takeL (i := 25) (.pointer (some ⟨ad3.block, ad3.off + 15, none⟩)) [74] rfl (by kernel_rfl) (fun _ _ _ h => h) hHeld (by rfl) ?_ ?_
  · (intro W' hSw; (try dsimp only at hSw); go_simp)
  try simp only [Act.put, List.setIfInBounds_toArray, List.set_cons_zero, List.set_cons_succ]
  refine wpAnyG_takeL (i := 26) (.int .i64 7) [74] rfl (by kernel_rfl) (fun _ _ _ h => h) hHeld (by rfl) ?_ ?_
  · (intro W' hSw; (try dsimp only at hSw); go_simp)
  try simp only [Act.put, List.setIfInBounds_toArray, List.set_cons_zero, List.set_cons_succ]
  refine wpAnyG_takeL (i := 27) (.bool true) [74] rfl (by kernel_rfl) (fun _ _ _ h => h) hHeld (by rfl) ?_ ?_
  · (intro W' hSw; (try dsimp only at hSw); go_simp)
  try simp only [Act.put, List.setIfInBounds_toArray, List.set_cons_zero, List.set_cons_succ]
  refine wpAnyG_takeL (i := 28) (.bool true) [74] rfl (by kernel_rfl) (fun _ _ _ h => h) hHeld (by rfl) ?_ ?_
  · (intro W' hSw; (try dsimp only at hSw); go_simp)
  try simp only [Act.put, List.setIfInBounds_toArray, List.set_cons_zero, List.set_cons_succ]
  refine wpAnyG_takeL (i := 29) (.bool true) [74] rfl (by kernel_rfl) (fun _ _ _ h => h) hHeld (by rfl) ?_ ?_
  · (intro W' hSw; (try dsimp only at hSw); go_simp)
  try simp only [Act.put, List.setIfInBounds_toArray, List.set_cons_zero, List.set_cons_succ]
  refine wpAnyG_takeL (i := 30) (.int .i64 17) [74] rfl (by kernel_rfl) (fun _ _ _ h => h) hHeld (by rfl) ?_ ?_
  · (intro W' hSw; (try dsimp only at hSw); go_simp)
  try simp only [Act.put, List.setIfInBounds_toArray, List.set_cons_zero, List.set_cons_succ]
  refine wpAnyG_takeL (i := 31) (.bool true) [74] rfl (by kernel_rfl) (fun _ _ _ h => h) hHeld (by rfl) ?_ ?_
  · (intro W' hSw; (try dsimp only at hSw); go_simp)
  try simp only [Act.put, List.setIfInBounds_toArray, List.set_cons_zero, List.set_cons_succ]
  refine wpAnyG_takeL (i := 32) (.bool true) [74] rfl (by kernel_rfl) (fun _ _ _ h => h) hHeld (by rfl) ?_ ?_
  · (intro W' hSw; (try dsimp only at hSw); go_simp)
  try simp only [Act.put, List.setIfInBounds_toArray, List.set_cons_zero, List.set_cons_succ]
  refine wpAnyG_takeL (i := 33) (.bool true) [74] rfl (by kernel_rfl) (fun _ _ _ h => h) hHeld (by rfl) ?_ ?_
  · (intro W' hSw; (try dsimp only at hSw); go_simp)
  try simp only [Act.put, List.setIfInBounds_toArray, List.set_cons_zero, List.set_cons_succ]
  refine wpAnyG_takeL (i := 34) (.int .i64 0) [74] rfl (by kernel_rfl) (fun _ _ _ h => h) hHeld (by rfl) ?_ ?_
  · (intro W' hSw; (try dsimp only at hSw); go_simp)
  try simp only [Act.put, List.setIfInBounds_toArray, List.set_cons_zero, List.set_cons_succ]
  refine wpAnyG_takeL (i := 35) (.bool true) [74] rfl (by kernel_rfl) (fun _ _ _ h => h) hHeld (by rfl) ?_ ?_
  · (intro W' hSw; (try dsimp only at hSw); go_simp)
  try simp only [Act.put, List.setIfInBounds_toArray, List.set_cons_zero, List.set_cons_succ]
  refine wpAnyG_takeL (i := 36) (.bool true) [74] rfl (by kernel_rfl) (fun _ _ _ h => h) hHeld (by rfl) ?_ ?_
  · (intro W' hSw; (try dsimp only at hSw); go_simp)
  try simp only [Act.put, List.setIfInBounds_toArray, List.set_cons_zero, List.set_cons_succ]
  refine wpAnyG_takeL (i := 37) (.bool true) [74] rfl (by kernel_rfl) (fun _ _ _ h => h) hHeld (by rfl) ?_ ?_
  · (intro W' hSw; (try dsimp only at hSw); go_simp)
  try simp only [Act.put, List.setIfInBounds_toArray, List.set_cons_zero, List.set_cons_succ]
  refine wpAnyG_takeL (i := 38) (.bool false) [74] rfl (by kernel_rfl) (fun _ _ _ h => h) hHeld (by rfl) ?_ ?_
  · (intro W' hSw; (try dsimp only at hSw); go_simp)
  try simp only [Act.put, List.setIfInBounds_toArray, List.set_cons_zero, List.set_cons_succ]
  refine wpAnyG_takeL (i := 39) (.bool true) [74] rfl (by kernel_rfl) (fun _ _ _ h => h) hHeld (by rfl) ?_ ?_
  · (intro W' hSw; (try dsimp only at hSw); go_simp)
  try simp only [Act.put, List.setIfInBounds_toArray, List.set_cons_zero, List.set_cons_succ]
  refine wpAnyG_takeL (i := 40) (.bool true) [74] rfl (by kernel_rfl) (fun _ _ _ h => h) hHeld (by rfl) ?_ ?_
  · (intro W' hSw; (try dsimp only at hSw); go_simp)
  try simp only [Act.put, List.setIfInBounds_toArray, List.set_cons_zero, List.set_cons_succ]
  refine wpAnyG_takeL (i := 41) (.bool true) [74] rfl (by kernel_rfl) (fun _ _ _ h => h) hHeld (by rfl) ?_ ?_
  · (intro W' hSw; (try dsimp only at hSw); go_simp)
  try simp only [Act.put, List.setIfInBounds_toArray, List.set_cons_zero, List.set_cons_succ]
  refine wpAnyG_takeL (i := 42) (.int .i64 0) [74] rfl (by kernel_rfl) (fun _ _ _ h => h) hHeld (by rfl) ?_ ?_
  · (intro W' hSw; (try dsimp only at hSw); go_simp)
  try simp only [Act.put, List.setIfInBounds_toArray, List.set_cons_zero, List.set_cons_succ]
  refine wpAnyG_takeL (i := 43) (.bool true) [74] rfl (by kernel_rfl) (fun _ _ _ h => h) hHeld (by rfl) ?_ ?_
  · (intro W' hSw; (try dsimp only at hSw); go_simp)
  try simp only [Act.put, List.setIfInBounds_toArray, List.set_cons_zero, List.set_cons_succ]
  refine wpAnyG_takeL (i := 44) (.bool true) [74] rfl (by kernel_rfl) (fun _ _ _ h => h) hHeld (by rfl) ?_ ?_
  · (intro W' hSw; (try dsimp only at hSw); go_simp)
  try simp only [Act.put, List.setIfInBounds_toArray, List.set_cons_zero, List.set_cons_succ]
  refine wpAnyG_takeL (i := 45) (.bool true) [74] rfl (by kernel_rfl) (fun _ _ _ h => h) hHeld (by rfl) ?_ ?_
  · (intro W' hSw; (try dsimp only at hSw); go_simp)
  try simp only [Act.put, List.setIfInBounds_toArray, List.set_cons_zero, List.set_cons_succ]
  refine wpAnyG_takeL (i := 46) (.int .i64 0) [74] rfl (by kernel_rfl) (fun _ _ _ h => h) hHeld (by rfl) ?_ ?_
  · (intro W' hSw; (try dsimp only at hSw); go_simp)
  try simp only [Act.put, List.setIfInBounds_toArray, List.set_cons_zero, List.set_cons_succ]
  refine wpAnyG_takeL (i := 47) (.bool true) [74] rfl (by kernel_rfl) (fun _ _ _ h => h) hHeld (by rfl) ?_ ?_
  · (intro W' hSw; (try dsimp only at hSw); go_simp)
  try simp only [Act.put, List.setIfInBounds_toArray, List.set_cons_zero, List.set_cons_succ]
  refine wpAnyG_takeL (i := 48) (.bool true) [74] rfl (by kernel_rfl) (fun _ _ _ h => h) hHeld (by rfl) ?_ ?_
  · (intro W' hSw; (try dsimp only at hSw); go_simp)
  try simp only [Act.put, List.setIfInBounds_toArray, List.set_cons_zero, List.set_cons_succ]
  refine wpAnyG_takeL (i := 49) (.bool true) [74] rfl (by kernel_rfl) (fun _ _ _ h => h) hHeld (by rfl) ?_ ?_
  · (intro W' hSw; (try dsimp only at hSw); go_simp)
  try simp only [Act.put, List.setIfInBounds_toArray, List.set_cons_zero, List.set_cons_succ]
  refine wpAnyG_takeL (i := 50) (.int .i64 0) [74] rfl (by kernel_rfl) (fun _ _ _ h => h) hHeld (by rfl) ?_ ?_
  · (intro W' hSw; (try dsimp only at hSw); go_simp)
  try simp only [Act.put, List.setIfInBounds_toArray, List.set_cons_zero, List.set_cons_succ]
  refine wpAnyG_takeL (i := 51) (.bool true) [74] rfl (by kernel_rfl) (fun _ _ _ h => h) hHeld (by rfl) ?_ ?_
  · (intro W' hSw; (try dsimp only at hSw); go_simp)
  try simp only [Act.put, List.setIfInBounds_toArray, List.set_cons_zero, List.set_cons_succ]
  refine wpAnyG_takeL (i := 52) (.bool true) [74] rfl (by kernel_rfl) (fun _ _ _ h => h) hHeld (by rfl) ?_ ?_
  · (intro W' hSw; (try dsimp only at hSw); go_simp)
  try simp only [Act.put, List.setIfInBounds_toArray, List.set_cons_zero, List.set_cons_succ]
  refine wpAnyG_takeL (i := 53) (.bool true) [74] rfl (by kernel_rfl) (fun _ _ _ h => h) hHeld (by rfl) ?_ ?_
  · (intro W' hSw; (try dsimp only at hSw); go_simp)
  try simp only [Act.put, List.setIfInBounds_toArray, List.set_cons_zero, List.set_cons_succ]
  refine wpAnyG_takeL (i := 54) (.int .i64 0) [74] rfl (by kernel_rfl) (fun _ _ _ h => h) hHeld (by rfl) ?_ ?_
  · (intro W' hSw; (try dsimp only at hSw); go_simp)
  try simp only [Act.put, List.setIfInBounds_toArray, List.set_cons_zero, List.set_cons_succ]
  refine wpAnyG_takeL (i := 55) (.bool true) [74] rfl (by kernel_rfl) (fun _ _ _ h => h) hHeld (by rfl) ?_ ?_
  · (intro W' hSw; (try dsimp only at hSw); go_simp)
  try simp only [Act.put, List.setIfInBounds_toArray, List.set_cons_zero, List.set_cons_succ]
  refine wpAnyG_takeL (i := 56) (.bool true) [74] rfl (by kernel_rfl) (fun _ _ _ h => h) hHeld (by rfl) ?_ ?_
  · (intro W' hSw; (try dsimp only at hSw); go_simp)
  try simp only [Act.put, List.setIfInBounds_toArray, List.set_cons_zero, List.set_cons_succ]
  refine wpAnyG_takeL (i := 57) (.bool true) [74] rfl (by kernel_rfl) (fun _ _ _ h => h) hHeld (by rfl) ?_ ?_
  · (intro W' hSw; (try dsimp only at hSw); go_simp)
  try simp only [Act.put, List.setIfInBounds_toArray, List.set_cons_zero, List.set_cons_succ]
  refine wpAnyG_takeL (i := 58) (.int .i64 0) [74] rfl (by kernel_rfl) (fun _ _ _ h => h) hHeld (by rfl) ?_ ?_
  · (intro W' hSw; (try dsimp only at hSw); go_simp)
  try simp only [Act.put, List.setIfInBounds_toArray, List.set_cons_zero, List.set_cons_succ]
  refine wpAnyG_takeL (i := 59) (.bool true) [74] rfl (by kernel_rfl) (fun _ _ _ h => h) hHeld (by rfl) ?_ ?_
  · (intro W' hSw; (try dsimp only at hSw); go_simp)
  try simp only [Act.put, List.setIfInBounds_toArray, List.set_cons_zero, List.set_cons_succ]
  refine wpAnyG_takeL (i := 60) (.bool true) [74] rfl (by kernel_rfl) (fun _ _ _ h => h) hHeld (by rfl) ?_ ?_
  · (intro W' hSw; (try dsimp only at hSw); go_simp)
  try simp only [Act.put, List.setIfInBounds_toArray, List.set_cons_zero, List.set_cons_succ]
  refine wpAnyG_takeL (i := 61) (.bool true) [74] rfl (by kernel_rfl) (fun _ _ _ h => h) hHeld (by rfl) ?_ ?_
  · (intro W' hSw; (try dsimp only at hSw); go_simp)
  try simp only [Act.put, List.setIfInBounds_toArray, List.set_cons_zero, List.set_cons_succ]
  refine wpAnyG_takeL (i := 62) (.int .i64 0) [74] rfl (by kernel_rfl) (fun _ _ _ h => h) hHeld (by rfl) ?_ ?_
  · (intro W' hSw; (try dsimp only at hSw); go_simp)
  try simp only [Act.put, List.setIfInBounds_toArray, List.set_cons_zero, List.set_cons_succ]
  refine wpAnyG_takeL (i := 63) (.bool true) [74] rfl (by kernel_rfl) (fun _ _ _ h => h) hHeld (by rfl) ?_ ?_
  · (intro W' hSw; (try dsimp only at hSw); go_simp)
  try simp only [Act.put, List.setIfInBounds_toArray, List.set_cons_zero, List.set_cons_succ]
  refine wpAnyG_takeL (i := 64) (.bool true) [74] rfl (by kernel_rfl) (fun _ _ _ h => h) hHeld (by rfl) ?_ ?_
  · (intro W' hSw; (try dsimp only at hSw); go_simp)
  try simp only [Act.put, List.setIfInBounds_toArray, List.set_cons_zero, List.set_cons_succ]
  refine wpAnyG_takeL (i := 65) (.bool true) [74] rfl (by kernel_rfl) (fun _ _ _ h => h) hHeld (by rfl) ?_ ?_
  · (intro W' hSw; (try dsimp only at hSw); go_simp)
  try simp only [Act.put, List.setIfInBounds_toArray, List.set_cons_zero, List.set_cons_succ]
  refine wpAnyG_takeL (i := 66) (.slice A8 4 c8) [74] rfl (by kernel_rfl) (fun _ _ _ h => h) hHeld (by rfl) ?_ ?_
  · (intro W' hSw; (try dsimp only at hSw); go_simp)
  try simp only [Act.put, List.setIfInBounds_toArray, List.set_cons_zero, List.set_cons_succ]
  refine wpAnyG_oneL (i := 67) (by kernel_rfl) rfl (fun K hK => ?_)
  (go_simp)
  refine hK.out _ _ (fun _ => (HF.out _ HL.out.2.2)) ?_
  clear hK K
  try simp only [Act.put, List.setIfInBounds_toArray, List.set_cons_zero, List.set_cons_succ]
  refine wpAnyG_oneL (i := 68) (by kernel_rfl) rfl (fun K hK => ?_)
  (go_simp; go_at_call 14; refine (same17_any A8 _ c8 4 exL exL _ HL.out.1 HL.out.2.1).mono ?_; rw [show sameL exL exL = true by simp [sameL]]; rintro e w12 ⟨rfl, b1⟩)
  refine hK.out _ _ (fun _ => (HF.out _ (below2 HL.out.2.2 b1))) ?_
  clear hK K
  try simp only [Act.put, List.setIfInBounds_toArray, List.set_cons_zero, List.set_cons_succ]
  clear hHeld
  have hHeld := HF.out _ (below2 HL.out.2.2 b1)
  refine wpAnyG_takeL (i := 69) (.bool true) [74] rfl (by kernel_rfl) (fun _ _ _ h => h) hHeld (by rfl) ?_ ?_
  · (intro W' hSw; (try dsimp only at hSw); go_simp)
  try simp only [Act.put, List.setIfInBounds_toArray, List.set_cons_zero, List.set_cons_succ]
  refine wpAnyG_takeL (i := 70) (.bool true) [74] rfl (by kernel_rfl) (fun _ _ _ h => h) hHeld (by rfl) ?_ ?_
  · (intro W' hSw; (try dsimp only at hSw); go_simp)
  try simp only [Act.put, List.setIfInBounds_toArray, List.set_cons_zero, List.set_cons_succ]
  refine wpAnyG_takeL (i := 71) (.int .i64 0) [74] rfl (by kernel_rfl) (fun _ _ _ h => h) hHeld (by rfl) ?_ ?_
  · (intro W' hSw; (try dsimp only at hSw); go_simp)
  try simp only [Act.put, List.setIfInBounds_toArray, List.set_cons_zero, List.set_cons_succ]
  refine wpAnyG_takeL (i := 72) (.bool true) [74] rfl (by kernel_rfl) (fun _ _ _ h => h) hHeld (by rfl) ?_ ?_
  · (intro W' hSw; (try dsimp only at hSw); go_simp)
  try simp only [Act.put, List.setIfInBounds_toArray, List.set_cons_zero, List.set_cons_succ]
  refine wpAnyG_takeL (i := 73) (.bool true) [74] rfl (by kernel_rfl) (fun _ _ _ h => h) hHeld (by rfl) ?_ ?_
  · (intro W' hSw; (try dsimp only at hSw); go_simp)
  try simp only [Act.put, List.setIfInBounds_toArray, List.set_cons_zero, List.set_cons_succ]
  refine wpAnyG_oneL (i := 74) (by kernel_rfl) rfl (fun K hK => ?_)
  (go_simp)
  refine hK.out _ _ (fun h => Bool.noConfusion (show true = false from h)) ?_
  clear hK K
  clear hHeld
  refine wpAnyG_done (by kernel_rfl) ?_ _
  go_wp2
  go_ret
  exact ⟨rfl, below2 (below2 b HL.out.2.2) b1⟩
end Go.Proofs.YtciknejchglmoaaDoor

namespace Go.Proofs.YtciknejchglmoaaDoor
open Go.ChangeShapes Go.WideShapes Go.ChangeAt Go.WideMaps Go.WideElems Go.RowKit Go.Deep

section
variable {H : Type} {enc : TypeId × Value → H} {W : World}
/-- A []bool. -/
theorem open_B {fuel : Nat} {v : Value} {x : DataW H × List MemPlace} (h : DataW.trod enc Tryd.prog W 0 (fun _ => true) true fuel 52 [v] = some x) :
    ∃ A c xs, v = .slice A xs.length c ∧ RB W A c xs := by
  rcases open_bools Tryd.underlying52 Tryd.underlying4 (by kernel_rfl) h with ⟨hcs, _⟩ | ⟨a, len, cap, B, hcs, _, hl, hm, _, hcell⟩
  · injection hcs with hv _
    exact ⟨none, 0, [], hv, ⟨Nat.le_refl _, by omega, Kd.Rd.nil _ _ _ _⟩⟩
  · injection hcs with hv _
    have hlen : ((List.range len).map B).length = len := by simp
    refine ⟨some a, cap, (List.range len).map B, by rw [hlen]; exact hv, sl_cells kBool rfl (fun i => .bool (B i)) (by rw [hlen]; exact hl) hm (fun i hi => ?_) (fun i hi => ?_)⟩
    · rw [hlen] at hi
      exact hcell i (by omega)
    · rw [hlen] at hi
      show [Value.bool (B i)] = [.bool (nth false ((List.range len).map B) i)]
      rw [nth_eq false _ i (by rw [hlen]; exact hi)]
      simp
set_option maxRecDepth 100000 in
/-- The bits that a reader begins with. -/
theorem open_Z {r : Reach} {b0 : Nat} {v : Value} {d : DataW H} {p : List MemPlace} (hv : Value.okWide Tryd.prog W r b0 40 v) (h : DataW.Trod enc Tryd.prog W 0 (fun _ => true) true 40 v d p) :
    ∃ (A : Option Addr) (c : Nat) (b : List Int) (N At : Int), v = .agg #[.slice A b.length c, .int .i64 N, .int .i64 At] ∧ RY W A c b ∧ ∀ x ∈ b, 0 ≤ x ∧ x < 256 := by
  obtain ⟨v0, v1, v2, y0, y1, y2, n, rfl, rfl, rfl, h0, h1, h2⟩ := Joins.open_agg3 (P := Tryd.prog) Tryd.underlying40 (by kernel_rfl) (by kernel_rfl) hv h
  obtain ⟨A, c, s, rfl, h3, h4, _⟩ := open_Y h0
  obtain ⟨k1, e1, _⟩ := DataW.trod_int (P := Tryd.prog) Tryd.underlying3 h1
  obtain ⟨k2, e2, _⟩ := DataW.trod_int (P := Tryd.prog) Tryd.underlying3 h2
  injection e1 with e1 _
  injection e2 with e2 _
  subst e1 e2
  exact ⟨A, c, s, k1, k2, rfl, h3, h4⟩
set_option maxRecDepth 100000 in
/-- What a writer begins with. -/
theorem open_M {r : Reach} {b0 : Nat} {v : Value} {d : DataW H} {p : List MemPlace} (hv : Value.okWide Tryd.prog W r b0 57 v) (h : DataW.Trod enc Tryd.prog W 0 (fun _ => true) true 57 v d p) :
    ∃ (A : Option Addr) (c : Nat) (b : List Int) (L : Int), v = .agg #[.slice A b.length c, .int .i64 L] ∧ RY W A c b ∧ ∀ x ∈ b, 0 ≤ x ∧ x < 256 := by
  obtain ⟨v0, v1, y0, y1, n, rfl, rfl, rfl, h0, h1⟩ := Joins.open_agg2 (P := Tryd.prog) Tryd.underlying57 (by kernel_rfl) (by kernel_rfl) hv h
  obtain ⟨A, c, s, rfl, h3, h4, _⟩ := open_Y h0
  obtain ⟨k1, e1, _⟩ := DataW.trod_int (P := Tryd.prog) Tryd.underlying3 h1
  injection e1 with e1 _
  subst e1
  exact ⟨A, c, s, k1, rfl, h3, h4⟩
end
end Go.Proofs.YtciknejchglmoaaDoor

namespace Go.Proofs.YtciknejchglmoaaDoor
open Go.ChangeShapes Go.WideShapes Go.ChangeAt Go.WideMaps Go.WideElems Go.RowKit Go.Deep

/-- What the rows list. -/
abbrev laidBk : List (String × DataW Unit) := [("shawm/book.forms", Rows.laid_shawm_book_forms), ("shawm/book.tables", Rows.laid_shawm_book_tables)]
theorem ownBk : ownKnob Tryd.prog.godebug = none := by kernel_rfl
theorem gForms : Tryd.prog.globalNamed "shawm/book.forms" = some 0 := by kernel_rfl
theorem tForms : (Tryd.prog.globals[0]?).map (·.type) = some 72 := by kernel_rfl
theorem gTabs : Tryd.prog.globalNamed "shawm/book.tables" = some 1 := by kernel_rfl
theorem tTabs : (Tryd.prog.globals[1]?).map (·.type) = some 109 := by kernel_rfl
theorem door_bk (os : Os) (args : Array Value) : laidMetH Tryd.prog laidBk ((World.doorLaid Tryd.prog 400 os).forCall (fun _ _ => 0) ⟨#[], args, []⟩).memory :=
  laidMetH_of_parts3 (fuel := 8) (laidMet_of_run' 8 (by kernel_rfl) (by kernel_rfl)) (by kernel_rfl) (by kernel_rfl)
theorem drop_cell {l : List Value} {a n j : Nat} {v : Value} (h : (((l.drop a).take n).drop j).take 1 = [v]) : l[a + j]? = some v := by
  have h1 := congrArg (fun x : List Value => x[0]?) h
  simp only [List.getElem?_take, List.getElem?_drop, List.getElem?_cons_zero, Nat.add_zero, Nat.zero_lt_one, if_true] at h1
  split at h1
  · exact h1
  · cases h1
theorem drop_cell1 {l : List Value} {a : Nat} {v : Value} (h : (l.drop a).take 1 = [v]) : l[a]? = some v := by
  have h1 := congrArg (fun x : List Value => x[0]?) h
  simpa only [List.getElem?_take, List.getElem?_drop, List.getElem?_cons_zero, Nat.add_zero, Nat.zero_lt_one, if_true] using h1
theorem agg_at {H : Type} {xs : List (DataW H × List MemPlace)} {ys : List (DataW H)} (h : xs.map (·.1) = ys) {i : Nat} {x : DataW H × List MemPlace} (hx : xs[i]? = some x) : ys[i]? = some x.1 := by
  rw [← h, List.getElem?_map, hx]; rfl
theorem form_read {H : Type} {enc : TypeId × Value → H} {w : World} {held : Nat → Bool} {m : Nat} {cs : List Value} {x : DataW H × List MemPlace} (h : DataW.trod enc Tryd.prog w 0 held false m 71 cs = some x) :
    ∃ n1 n2 b, (cs.drop 0).take 1 = [.int .i64 n1] ∧ (cs.drop 1).take 1 = [.int .i64 n2] ∧ (cs.drop 2).take 1 = [.bool b] ∧ x.1 = .agg [.lit (.int .i64 n1), .lit (.int .i64 n2), .lit (.bool b)] := by
  obtain ⟨zs, n, _, rfl, hl, hlen, hf⟩ := DataW.trod_struct Tryd.underlying71 h
  match zs, hlen with
  | [y0, y1, y2], _ =>
    have h0 : DataW.trod enc Tryd.prog w 0 held false n 3 ((cs.drop 0).take (Tryd.prog.cellsOf 3)) = some y0 := hf 0 _ rfl
    have h1 : DataW.trod enc Tryd.prog w 0 held false n 3 ((cs.drop 1).take (Tryd.prog.cellsOf 3)) = some y1 := hf 1 _ rfl
    have h2 : DataW.trod enc Tryd.prog w 0 held false n 4 ((cs.drop 2).take (Tryd.prog.cellsOf 4)) = some y2 := hf 2 _ rfl
    rw [show Tryd.prog.cellsOf 3 = 1 by kernel_rfl] at h0 h1
    rw [show Tryd.prog.cellsOf 4 = 1 by kernel_rfl] at h2
    obtain ⟨n1, e1, f1, _⟩ := DataW.trod_int (P := Tryd.prog) Tryd.underlying3 h0
    obtain ⟨n2, e2, f2, _⟩ := DataW.trod_int (P := Tryd.prog) Tryd.underlying3 h1
    obtain ⟨b, e3, f3⟩ := DataW.trod_bool (P := Tryd.prog) Tryd.underlying4 h2
    subst f1 f2 f3
    exact ⟨n1, n2, b, e1, e2, e3, rfl⟩
/-- The lines of the first table, as data. -/
def formsD : List (DataW Unit) := (List.range 8).map fun b => .agg [.lit (.int .i64 (dimB b)), .lit (.int .i64 (mostB b)), .lit (.bool (escB b))]
def tabsD : List (DataW Unit) := (List.range 8).map fun b => .lit (.string (txtK b).data.toList)
theorem forms_eq : (Rows.laid_shawm_book_forms : DataW Unit) = .agg formsD := by kernel_rfl
theorem tabs_eq : (Rows.laid_shawm_book_tables : DataW Unit) = .agg tabsD := by kernel_rfl
theorem formsD_at {b : Nat} (h : b < 8) : formsD[b]? = some (.agg [.lit (.int .i64 (dimB b)), .lit (.int .i64 (mostB b)), .lit (.bool (escB b))]) := by
  unfold formsD; rw [List.getElem?_map, List.getElem?_range h]; rfl
theorem tabsD_at {b : Nat} (h : b < 8) : tabsD[b]? = some (.lit (.string (txtK b).data.toList)) := by
  unfold tabsD; rw [List.getElem?_map, List.getElem?_range h]; rfl
theorem gf_of_laid {W : World} (h : laidMetH Tryd.prog laidBk W) : GF W ∧ GT W := by
  rw [MakeChecks.laidMetH_plain _ _ _ (by kernel_rfl)] at h
  obtain ⟨ps, ⟨g0, t0, cs0, f0, p0, q0, hg0, ht0, hv0, hd0, ⟨g1, t1, cs1, f1, p1, q1, hg1, ht1, hv1, hd1, _⟩, _⟩, _, _⟩ := h
  obtain rfl := Option.some.inj (gForms.symm.trans hg0)
  obtain rfl := Option.some.inj (tForms.symm.trans ht0)
  obtain rfl := Option.some.inj (gTabs.symm.trans hg1)
  obtain rfl := Option.some.inj (tTabs.symm.trans ht1)
  obtain ⟨xs, m1, rfl, hx1, _, hn3, hel⟩ := DataW.trod_array Tryd.underlying72 hd0
  obtain ⟨ys, m2, rfl, hy1, _, hn4, hem⟩ := DataW.trod_array Tryd.underlying109 hd1
  have ex : xs.map (·.1) = formsD := by
    have := congrArg Prod.fst hx1
    rw [forms_eq] at this
    exact (DataW.agg.inj this).symm
  have ey : ys.map (·.1) = tabsD := by
    have := congrArg Prod.fst hy1
    rw [tabs_eq] at this
    exact (DataW.agg.inj this).symm
  have cf : Tryd.prog.cellsOf 71 = 3 := by kernel_rfl
  have ct : Tryd.prog.cellsOf 9 = 1 := by kernel_rfl
  have kf : ∀ b, b < 8 → cs0[b * 3]? = some (.int .i64 (dimB b)) ∧ cs0[b * 3 + 1]? = some (.int .i64 (mostB b)) ∧ cs0[b * 3 + 2]? = some (.bool (escB b)) := fun b h8 => by
    have h1 := hel b h8
    have hb : b < xs.length := by omega
    rw [cf, List.getElem?_eq_getElem hb] at h1
    obtain ⟨n1, n2, q, e1, e2, e3, e4⟩ := form_read h1
    have h2 := agg_at ex (List.getElem?_eq_getElem hb)
    rw [formsD_at h8, e4] at h2
    injection h2 with h2
    injection h2 with h2
    injection h2 with a1 h2
    injection h2 with a2 h2
    injection h2 with a3 h2
    injection a1 with a1; injection a1 with _ a1
    injection a2 with a2; injection a2 with _ a2
    injection a3 with a3; injection a3 with a3
    rw [a1, a2, a3]
    simp only [← Array.getElem?_toList]
    exact ⟨drop_cell (a := b * 3) (n := 3) (j := 0) e1, drop_cell e2, drop_cell e3⟩
  have kt : ∀ b, b < 8 → cs1[b]? = some (.string (txtK b)) := fun b h8 => by
    have h1 := hem b h8
    have hb : b < ys.length := by omega
    rw [ct, Nat.mul_one, List.getElem?_eq_getElem hb] at h1
    obtain ⟨t, e1, e2, _⟩ := DataW.trod_string (P := Tryd.prog) Tryd.underlying9 h1
    have h2 := agg_at ey (List.getElem?_eq_getElem hb)
    rw [tabsD_at h8, e2] at h2
    replace h2 := Lit.string.inj (DataW.lit.inj (Option.some.inj h2))
    have h3 : txtK b = t := ByteArray.ext (Array.toList_inj.1 h2)
    rw [h3]
    simp only [← Array.getElem?_toList]
    exact drop_cell1 e1
  refine ⟨⟨fun b h8 => ?_, fun b h8 => ?_, fun b h8 => ?_⟩, ⟨fun b h8 => ?_⟩⟩
  · rw [World.var?_cell hg0 hv0]; exact (kf b h8).1
  · rw [World.var?_cell hg0 hv0]; exact (kf b h8).2.1
  · rw [World.var?_cell hg0 hv0]; exact (kf b h8).2.2
  · rw [World.var?_cell hg1 hv1]; exact kt b h8
end Go.Proofs.YtciknejchglmoaaDoor
