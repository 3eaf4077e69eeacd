/- Gamma codes: the reference's zeros and Gamma, and the writer's Gamma: what each call returns. · bits: the writer's Gamma: what it returns. · book: Lengths: what it returns. · Plain laws of layer 17 (book): what a gamma code is read as. No program is named. · The document's tape of bits: OK, Left, Fail, Get: what each call returns, and where the tape is then. · The reference's tape: Unary: what it returns. · The reference's tape: Get of a tape with an error, Gamma: what each call returns. · bits: zeros of a reader: what it returns, and where the reader is then. · The document's rows of bits: Bytes; the statements' SameBytes: what each call returns. · The laws of layer 17: Same: what it returns. · A drawn region in a function that ranges over an iterator, outside its rounds, walked by explicit steps (XHeld). · book: cost: what it returns. · book: Cost: what it returns. -/
import Derived.Test.YtciknejchglmoaaDoorKf
import Derived.Test.YtciknejchglmoaaDoorKg
import Derived.Test.YtciknejchglmoaaDoorKb
import Derived.Test.YtciknejchglmoaaDoorKc
import Derived.Test.YtciknejchglmoaaDoorKd
import Derived.Test.YtciknejchglmoaaDoorKe
import Derived.Sort.CutIn
namespace Go.Proofs.YtciknejchglmoaaDoor
open Go.RowKit

theorem div_pos_iff (v K : Nat) : 0 < v / 2 ^ K ↔ 2 ^ K ≤ v := by
  have := Nat.two_pow_pos K
  constructor
  · intro h
    exact Decidable.byContradiction fun h2 => by rw [Nat.div_eq_of_lt (by omega)] at h; omega
  · intro h; exact Nat.div_pos h this
set_option maxHeartbeats 1000000 in
theorem rzeros_any (v : Nat) (w : World) (h1 : 1 ≤ v) (hv : v < 2097152) :
    Calls Tryd.prog 112 #[.int .i64 (v : Int)] w fun e w' => e = .returned (.int .i64 (Nat.log2 v : Nat)) ∧ w = w' := by
  have HP := Lib.hid (fun K => div_pos_iff v K)
  have HA := Lib.hid (fun k (a : 2 ^ k ≤ v) (b : v < 2 ^ (k + 1)) => log2_at a b)
  go_enter Tryd.func112, Tryd.ntmps112
  go_wp2
  go_loopw [3] (fun iv wr => ∃ k : Nat, k ≤ 20 ∧ iv = .int .i64 (k : Int) ∧ Hid (2 ^ k ≤ v) ∧ w = wr) (fun iv _ => 64 - (intOf iv).toNat)
  case atStart => exact ⟨0, by omega, rfl, Lib.hid (by simpa using h1), rfl⟩
  case round =>
    obtain ⟨k, hk, rfl, hP, rfl⟩ := hrel
    obtain ⟨K, hK⟩ : ∃ K, k + 1 = K := ⟨_, rfl⟩
    have hwk : IntKind.i64.wrap ((k : Int) + 1) = (K : Int) := by rw [← hK, Int.natCast_succ]; exact IntWalk.i64_in _ (by omega)
    obtain ⟨y, hy⟩ : ∃ y, v / 2 ^ K = y := ⟨_, rfl⟩
    have hyi : (v : Int) / 2 ^ K = (y : Int) := by rw [← hy]; simp
    have hlt := HP.out K
    rw [hy] at hlt
    have HK := Lib.hid hK
    have hk64 : K ≤ 64 := by omega
    by_cases h : 0 < y
    · have H2 := Lib.hid (hlt.1 h)
      have hb : k < 20 := Decidable.byContradiction fun hn => by
        have h3 : 2 ^ 21 ≤ 2 ^ K := Nat.pow_le_pow_right (by decide) (by omega)
        have h4 := H2.out
        have h5 : 2 ^ 21 = 2097152 := by decide
        omega
      have hyp : (0 : Int) < (y : Int) := by omega
      clear hlt hy hK h
      go_wp2
      go_roundw
      case rel => exact ⟨k + 1, by omega, by rw [HK.out], by rw [HK.out]; exact H2, trivial⟩
      case measure => have := HK.out; simp [intOf]; omega
    · have H2 := Lib.hid (show v < 2 ^ (k + 1) by rw [hK]; exact Nat.lt_of_not_le fun hn => h (hlt.2 hn))
      have hyp : ¬ (0 : Int) < (y : Int) := by omega
      have HL := Lib.hid (HA.out k hP.out H2.out)
      clear hlt hy hK h
      go_wp2
      go_ret
      exact ⟨ret_int (by rw [HL.out]), rfl⟩

theorem numB_zeros : ∀ n, numB 0 n = List.replicate n false
  | 0 => rfl
  | n + 1 => by rw [numB_succ, Nat.zero_div, numB_zeros n, List.replicate_succ']; rfl
theorem gamB_num (v : Nat) : gamB v = numB 0 (Nat.log2 v) ++ numB v (Nat.log2 v + 1) := by unfold gamB; rw [numB_zeros]
set_option maxHeartbeats 1000000 in
set_option maxRecDepth 100000 in
theorem rgamma_any (base : Nat) (u : Value) (bs : List Bool) (v : Nat) (w : World) (hO : OwnI 5 .u8 base w u (bitsI bs)) (hb : base ≤ w.heap.size) (hl : bs.length ≤ 10000000) (h1 : 1 ≤ v) (hv : v < 2097152) :
    Calls Tryd.prog 96 #[u, .int .i64 (v : Int)] w
      fun e w' => ∃ u', e = .returned u' ∧ OwnI 5 .u8 base w' u' (bitsI (bs ++ gamB v)) ∧ Upd (fun b => u.ownBlock = some b) w w' ∧ (u'.ownBlock = u.ownBlock ∨ ∃ b, u'.ownBlock = some b ∧ w.heap.size ≤ b) := by
  have hlg := log2_le (v := v) (n := 20) (by simpa using hv)
  have HZ := Lib.hid (rzeros_any v w h1 hv)
  have HG := Lib.hid (gamB_num v)
  generalize Nat.log2 v = k at *
  have HP0 := putrow_any base u bs 0 k w hO hb (by omega) (by omega) (by omega)
  rw [show ((0 : Nat) : Int) = 0 from rfl] at HP0
  have HP := Lib.hid HP0
  have HP2 := Lib.hid (fun u1 W (hO1 : OwnI 5 .u8 base W u1 (bitsI (bs ++ numB 0 k))) (hb1 : base ≤ W.heap.size) => putrow_any base u1 (bs ++ numB 0 k) v (k + 1) W hO1 hb1 (by rw [List.length_append, numB_length]; omega) (by omega) (by omega))
  obtain ⟨K, hK⟩ : ∃ K, k + 1 = K := ⟨_, rfl⟩
  rw [hK] at HG HP2
  have hwk : IntKind.i64.wrap ((k : Int) + 1) = (K : Int) := by rw [← hK, Int.natCast_succ]; exact IntWalk.i64_in _ (by omega)
  clear hO hK HP0
  go_enter Tryd.func96, Tryd.ntmps96
  go_wp2_with (first
    | (go_at_call 112; refine HZ.out.mono ?_; rintro e w2 ⟨rfl, rfl⟩)
    | (go_at_call 95; refine (HP2.out u1 _ hO1 (Nat.le_trans hb hu1.size)).mono ?_; rintro e w4 ⟨u2, rfl, hO2, hu2, ha2⟩)
    | (go_at_call 95; refine HP.out.mono ?_; rintro e w3 ⟨u1, rfl, hO1, hu1, ha1⟩))
  go_ret
  refine ⟨u2, rfl, by rw [HG.out, ← List.append_assoc]; exact hO2, hu1.trans hu2 (fun b hb9 h9 => ?_), ?_⟩
  · rcases ha1 with e | ⟨b', e, hle⟩
    · rw [← e]; exact h9
    · rw [e] at h9; cases h9; omega
  · rcases ha2 with e | ⟨b', e, hle⟩
    · rw [e]; exact ha1
    · exact .inr ⟨b', e, Nat.le_trans hu1.size hle⟩
end Go.Proofs.YtciknejchglmoaaDoor

namespace Go.Proofs.YtciknejchglmoaaDoor
open Go.RowKit

theorem lit_field2 {o : Nat → Prop} (W : World) (e : TypeId) (v n v2 n2 : Int) (ho : ¬ o W.heap.size) :
    Sl kField (fun b => ¬ o b) (W.alloc (.cells #[.int .i64 v, .int .i64 n, .int .i64 v2, .int .i64 n2] e)) (some ⟨W.heap.size, 0, none⟩) 2 [(v, n), (v2, n2)] := by
  refine ⟨Nat.le_refl _, by omega, fun j hj => ?_⟩
  have hj2 : j = 0 ∨ j = 1 := by simp at hj; omega
  rcases hj2 with rfl | rfl
  · refine ⟨_, _, rfl, ho, by simp, ⟨_, _, rfl, rfl, rfl⟩, fun i x hx => ?_⟩
    match i, hx with
    | 0, hx => simp at hx; subst hx; simp [kPair, kInt, Addr.add, nth]
    | 1, hx => simp at hx; subst hx; simp [kPair, kInt, Addr.add, nth]
  · refine ⟨_, _, rfl, ho, by simp, ⟨_, _, rfl, rfl, rfl⟩, fun i x hx => ?_⟩
    match i, hx with
    | 0, hx => simp at hx; subst hx; simp [kPair, kInt, Addr.add, nth]
    | 1, hx => simp at hx; subst hx; simp [kPair, kInt, Addr.add, nth]
theorem putB_gam (v k : Nat) : putB [((0 : Int), (k : Int)), ((v : Int), ((k + 1 : Nat) : Int))] = numB 0 k ++ numB v (k + 1) := by simp [putB]
theorem putN_gam (v k : Nat) : putN [((0 : Int), (k : Int)), ((v : Int), ((k + 1 : Nat) : Int))] = 2 * k + 1 := by simp [putN]; omega

set_option maxHeartbeats 1000000 in
set_option maxRecDepth 100000 in
theorem wgamma_any (o : Nat → Prop) (g v : Nat) (bs : List Bool) (w : World) (h : Wr o w g bs) (hl : bs.length ≤ 1048576) (h1 : 1 ≤ v) (hv : v < 2097152) :
    Calls Tryd.prog 68 #[.pointer (some ⟨g, 0, none⟩), .int .i64 (v : Int)] w
      fun e w' => e = .returned (.int .i64 (fullE bs.length (2 * Nat.log2 v + 1))) ∧ Wr (fun b => o b ∨ w.heap.size ≤ b) w' g (fullB bs (gamB v)) ∧ Upd o w w' := by
  have HP := Lib.hid (fun K => div_pos_iff v K)
  have HA := Lib.hid (fun k (a : 2 ^ k ≤ v) (b : v < 2 ^ (k + 1)) => log2_at a b)
  have HG := Lib.hid (gamB_num v)
  have hd1 : ¬ (v : Int) < 1 := by omega
  have hd2 : ¬ (2097152 : Int) ≤ (v : Int) := by omega
  have HC := Lib.hid (fun (k : Nat) (hk : k ≤ 20) => put_any (fun b => o b ∧ b < w.heap.size) g _ 2 [((0 : Int), (k : Int)), ((v : Int), ((k + 1 : Nat) : Int))] bs _ (h.cut.below (below_alloc (Below.refl w.heap.size w) (.cells #[.int .i64 0, .int .i64 (k : Int), .int .i64 (v : Int), .int .i64 ((k + 1 : Nat) : Int)] 130))) (lit_field2 w 130 0 k v ((k + 1 : Nat) : Int) (fun h => by have := h.2; omega)) (by
    intro f hf
    rcases List.mem_cons.1 hf with rfl | hf
    · exact ⟨Int.le_refl _, by show (0 : Int) < _; omega, Int.natCast_nonneg _, by show (k : Int) ≤ _; omega⟩
    · rw [List.mem_singleton] at hf
      subst hf
      exact ⟨Int.natCast_nonneg _, by show (v : Int) < _; omega, Int.natCast_nonneg _, by show ((k + 1 : Nat) : Int) ≤ _; omega⟩) (by simp) hl)
  have H := Lib.hid h
  clear h
  go_enter Tryd.func68, Tryd.ntmps68
  go_wp2
  clear hd1 hd2
  go_loopw [5] (fun iv wr => ∃ k : Nat, k ≤ 20 ∧ iv = .int .i64 (k : Int) ∧ Hid (2 ^ k ≤ v) ∧ w = wr) (fun iv _ => 64 - (intOf iv).toNat)
  case atStart => exact ⟨0, by omega, rfl, Lib.hid (by simpa using h1), rfl⟩
  case round =>
    obtain ⟨k, hk, rfl, hP, rfl⟩ := hrel
    obtain ⟨K, hK⟩ : ∃ K, k + 1 = K := ⟨_, rfl⟩
    have hwk : IntKind.i64.wrap ((k : Int) + 1) = (K : Int) := by rw [← hK, Int.natCast_succ]; exact IntWalk.i64_in _ (by omega)
    obtain ⟨y, hy⟩ : ∃ y, v / 2 ^ K = y := ⟨_, rfl⟩
    have hyi : (v : Int) / 2 ^ K = (y : Int) := by rw [← hy]; simp
    have hlt := HP.out K
    rw [hy] at hlt
    have HK := Lib.hid hK
    have hk64 : K ≤ 64 := by omega
    by_cases h : 0 < y
    · have H2 := Lib.hid (hlt.1 h)
      have hb : k < 20 := Decidable.byContradiction fun hn => by
        have h3 : 2 ^ 21 ≤ 2 ^ K := Nat.pow_le_pow_right (by decide) (by omega)
        have h4 := H2.out
        have h5 : 2 ^ 21 = 2097152 := by decide
        omega
      have hyp : (0 : Int) < (y : Int) := by omega
      clear hlt hy hK h
      go_wp2
      go_roundw
      case rel => exact ⟨k + 1, by omega, by rw [HK.out], by rw [HK.out]; exact H2, trivial⟩
      case measure => have := HK.out; simp [intOf]; omega
    · have H2 := Lib.hid (show v < 2 ^ (k + 1) by rw [hK]; exact Nat.lt_of_not_le fun hn => h (hlt.2 hn))
      have hyp : ¬ (0 : Int) < (y : Int) := by omega
      have HL := Lib.hid (HA.out k hP.out H2.out)
      have HC2 := Lib.hid (HC.out k hk)
      rw [putB_gam, putN_gam, hK] at HC2
      have HG2 := Lib.hid (show gamB v = numB 0 k ++ numB v K by rw [HG.out, HL.out, hK])
      clear hlt hy hK h
      go_wp2_with (go_at_call 87; refine HC2.out.mono ?_; rintro e w2 ⟨rfl, hw2, hu2⟩)
      go_ret
      rw [HL.out, HG2.out]
      refine ⟨rfl, hw2.weak fun b _ h => ?_, (Upd.alloc (fun b => o b) w _).trans (hu2.weak (o' := o) fun b _ h => h.1) fun _ _ h => h⟩
      rcases h with h | h
      · exact .inl h.1
      · exact .inr (by simp at h; omega)
end Go.Proofs.YtciknejchglmoaaDoor

namespace Go.Proofs.YtciknejchglmoaaDoor
open Go.RowKit

theorem blengths_no (n : Int) (w : World) (h : n < 0 ∨ 8 ≤ n) :
    Calls Tryd.prog 12 #[.int .i64 n] w fun e w' => e = .returned (.tuple #[.slice none 0 0, .int .i64 5]) ∧ w = w' := by
  have hT : thereB n = false := by simp [thereB]; omega
  have HT := Lib.hid (there_any n w)
  rw [hT] at HT
  clear h hT
  go_enter Tryd.func12, Tryd.ntmps12
  go_wp2_with (go_at_call 40; refine HT.out.mono ?_; rintro e w2 ⟨rfl, rfl⟩)
  go_ret2
  exact ⟨rfl, rfl⟩
set_option maxHeartbeats 1000000 in
theorem blengths_ok (b : Nat) (w : World) (hG : GT w) (h : b < 8) :
    Calls Tryd.prog 12 #[.int .i64 (b : Int)] w fun e w' => ∃ v, e = .returned (.tuple #[v, .int .i64 0]) ∧ OwnI 3 .i64 w.heap.size w' v (tabKI b) ∧ Below w.heap.size w w' := by
  have hT : thereB b = true := by simp [thereB]; omega
  have HT := Lib.hid (there_any b w)
  rw [hT] at HT
  have HL := Lib.hid (lengths17_any b w hG h)
  clear hT hG
  go_enter Tryd.func12, Tryd.ntmps12
  go_wp2_with (first
    | (go_at_call 40; refine HT.out.mono ?_; rintro e w2 ⟨rfl, rfl⟩)
    | (go_at_call 43; refine HL.out.mono ?_; rintro e w3 ⟨v, rfl, hO, b3⟩))
  go_ret2
  exact ⟨v, rfl, hO, b3⟩
end Go.Proofs.YtciknejchglmoaaDoor

namespace Go.Proofs.YtciknejchglmoaaDoor
open Go.RowKit

/-- Zeros ahead of a one (at most 20): how many, and the error. -/
def zerF : List Bool → Nat → Nat × Int
  | [], _ => (0, 3)
  | true :: _, n => (n, 0)
  | false :: D, n => if 20 < n + 1 then (0, 4) else zerF D (n + 1)
theorem drop_cons_nth {l : List Bool} {i : Nat} (h : i < l.length) : l.drop i = nth false l i :: l.drop (i + 1) := by
  rw [nth_eq false l i h]; exact List.drop_eq_getElem_cons h
theorem zer_end {l : List Bool} {i : Nat} (h : l.length ≤ i) (n : Nat) : zerF (l.drop i) n = (0, 3) := by
  rw [List.drop_of_length_le h]; rfl
theorem zer_hit {l : List Bool} {i : Nat} (h : i < l.length) (hb : nth false l i = true) (n : Nat) : zerF (l.drop i) n = (n, 0) := by
  rw [drop_cons_nth h, hb]; rfl
theorem zer_miss {l : List Bool} {i : Nat} (h : i < l.length) (hb : nth false l i = false) (n : Nat) : zerF (l.drop i) n = if 20 < n + 1 then (0, 4) else zerF (l.drop (i + 1)) (n + 1) := by
  rw [drop_cons_nth h, hb]; rfl
/-- A gamma code: the number, the error, and how many bits it has. -/
def gamF (D : List Bool) : Nat × Int × Nat :=
  if (zerF D 0).2 ≠ 0 then (0, (zerF D 0).2, 0)
  else if D.length < 2 * (zerF D 0).1 + 1 then (0, 3, 0)
  else (2 ^ (zerF D 0).1 + valB ((D.drop ((zerF D 0).1 + 1)).take (zerF D 0).1), 0, 2 * (zerF D 0).1 + 1)
/-- A value out of its digit: the value, the error, and how many bits. -/
def valF (b d : Nat) (D : List Bool) : Int × Int × Nat :=
  if d = 0 then (0, 0, 0)
  else if D.length = 0 then (0, 3, 0)
  else if (escB b && decide (d = mostB b)) = true then
    if (gamF (D.drop 1)).2.1 ≠ 0 then (0, (gamF (D.drop 1)).2.1, 0)
    else if 1023 < mostB b + (gamF (D.drop 1)).1 - 1 then (0, 6, 0)
    else ((if nth false D 0 = true then -1 else 1) * ((mostB b + (gamF (D.drop 1)).1 - 1 : Nat) : Int), 0, 1 + (gamF (D.drop 1)).2.2)
  else ((if nth false D 0 = true then -1 else 1) * (d : Int), 0, 1)
theorem zerF_rep (rest : List Bool) : ∀ k n, n + k ≤ 20 → zerF (List.replicate k false ++ true :: rest) n = (n + k, 0)
  | 0, n, _ => rfl
  | k + 1, n, h => by
    show zerF (false :: (List.replicate k false ++ true :: rest)) n = _
    show (if 20 < n + 1 then ((0, 4) : Nat × Int) else zerF (List.replicate k false ++ true :: rest) (n + 1)) = _
    rw [if_neg (by omega), zerF_rep rest k (n + 1) (by omega), show n + 1 + k = n + (k + 1) by omega]
end Go.Proofs.YtciknejchglmoaaDoor

namespace Go.Proofs.YtciknejchglmoaaDoor
open Go.RowKit

/-- A tape over these bits, at a place, with an error; o: its blocks. -/
def Tr (o : Nat → Prop) (w : World) (g : Nat) (l : List Bool) (at_ : Nat) (e : Int) : Prop :=
  ∃ A c, Blk w g #[.slice A l.length c, .int .i64 at_, .int .i64 e] 50 ∧ Sl (kInt .u8) (fun b => o b ∧ b ≠ g) w A c (bitsI l) ∧ at_ ≤ l.length ∧ l.length ≤ 1048576 ∧ o g
section
variable {o o' : Nat → Prop} {w w' : World} {g : Nat} {l : List Bool} {at_ : Nat} {e : Int}
theorem Tr.lt (h : Tr o w g l at_ e) : g < w.heap.size := let ⟨_, _, h, _⟩ := h; h.lt
theorem Tr.og (h : Tr o w g l at_ e) : o g := let ⟨_, _, _, _, _, _, h⟩ := h; h
theorem Tr.le (h : Tr o w g l at_ e) : at_ ≤ l.length := let ⟨_, _, _, _, h, _⟩ := h; h
theorem Tr.bound (h : Tr o w g l at_ e) : l.length ≤ 1048576 := let ⟨_, _, _, _, _, h, _⟩ := h; h
theorem Tr.weak (h : Tr o w g l at_ e) (ho : ∀ b, b < w.heap.size → o b → o' b) : Tr o' w g l at_ e := by
  obtain ⟨A, c, h1, h2, h3, h4, h5⟩ := h
  exact ⟨A, c, h1, h2.weak fun b hb h => ⟨ho b hb h.1, h.2⟩, h3, h4, ho g h1.lt h5⟩
theorem Tr.keep (h : Tr o w g l at_ e) {ok : Nat → Prop} (hk : Keep ok w w') (ho : ∀ b, o b → ok b) : Tr o w' g l at_ e := by
  obtain ⟨A, c, h1, h2, h3, h4, h5⟩ := h
  exact ⟨A, c, h1.keep hk (ho g h5), (h2.keep (hk.weak fun b hb => ho b hb.1)), h3, h4, h5⟩
theorem Tr.cut (h : Tr o w g l at_ e) : Tr (fun b => o b ∧ b < w.heap.size) w g l at_ e := h.weak fun _ hb ho => ⟨ho, hb⟩
theorem Tr.upd {o2 : Nat → Prop} (h : Tr o w g l at_ e) (hu : Upd o2 w w') (ho : ∀ b, b < w.heap.size → o b → ¬ o2 b) : Tr o w' g l at_ e := by
  have h1 : Tr (fun b => o b ∧ b < w.heap.size) w' g l at_ e := h.cut.keep (hu.keep (ok := fun b => ¬ o2 b) fun _ hb => hb) (fun b e => ho b e.2 e.1)
  exact h1.weak (fun b _ e => e.1)
theorem Tr.below (h : Tr o w g l at_ e) (hb : Below w.heap.size w w') : Tr o w' g l at_ e := h.upd (o2 := fun _ => False) (Upd.of_below hb _) (fun _ _ _ h => h)
theorem Tr.moved (h : Tr o w g l at_ e) (j : Nat) (hj : j ≤ l.length) : Tr o (w.setCell ⟨g, 1, none⟩ (.int .i64 (j : Int))) g l j e ∧ Upd (fun b => b = g) w (w.setCell ⟨g, 1, none⟩ (.int .i64 (j : Int))) := by
  obtain ⟨A, c, h1, h2, h3, h4, h5⟩ := h
  refine ⟨⟨A, c, h1.set 1 (.int .i64 (j : Int)), h2.keep (ok := fun b => o b ∧ b ≠ g) (Keep.of_grown1 (grown_setCell w g 1 _) |>.weak fun b hb => hb.2), hj, h4, h5⟩, ?_⟩
  exact Upd.setCell (fun b => b = g) w g 1 _ rfl
theorem Tr.failed (h : Tr o w g l at_ e) (x : Int) : Tr o (w.setCell ⟨g, 2, none⟩ (.int .i64 x)) g l at_ x ∧ Upd (fun b => b = g) w (w.setCell ⟨g, 2, none⟩ (.int .i64 x)) := by
  obtain ⟨A, c, h1, h2, h3, h4, h5⟩ := h
  refine ⟨⟨A, c, h1.set 2 (.int .i64 x), h2.keep (ok := fun b => o b ∧ b ≠ g) (Keep.of_grown1 (grown_setCell w g 2 _) |>.weak fun b hb => hb.2), h3, h4, h5⟩, ?_⟩
  exact Upd.setCell (fun b => b = g) w g 2 _ rfl
theorem Tr.cells (h : Tr o w g l at_ e) : ∃ A c, w.cell? ⟨g, 0, none⟩ = some (.slice A l.length c) ∧ w.cell? ⟨g, 1, none⟩ = some (.int .i64 at_) ∧ w.cell? ⟨g, 2, none⟩ = some (.int .i64 e) ∧ w.frozen? ⟨g, 1, none⟩ = false ∧ w.frozen? ⟨g, 2, none⟩ = false ∧ Sl (kInt .u8) (fun b => o b ∧ b ≠ g) w A c (bitsI l) := by
  obtain ⟨A, c, h1, h2, _⟩ := h
  exact ⟨A, c, h1.cell 0 rfl, h1.cell 1 rfl, h1.cell 2 rfl, h1.free 1, h1.free 2, h2⟩
end

set_option maxHeartbeats 400000 in
set_option maxRecDepth 100000 in
theorem tok_any (o : Nat → Prop) (g i : Nat) (l : List Bool) (e0 : Int) (w : World) (h : Tr o w g l i e0) :
    Calls Tryd.prog 61 #[.pointer (some ⟨g, 0, none⟩)] w fun e w' => e = .returned (.bool (e0 == 0)) ∧ w = w' := by
  obtain ⟨A, c, k0, k1, k2, _⟩ := h.cells
  clear h
  go_enter Tryd.func61, Tryd.ntmps61
  go_wp2
  go_ret
  exact ⟨rfl, rfl⟩
set_option maxHeartbeats 400000 in
set_option maxRecDepth 100000 in
theorem tleft_any (o : Nat → Prop) (g i : Nat) (l : List Bool) (e0 : Int) (w : World) (h : Tr o w g l i e0) :
    Calls Tryd.prog 114 #[.pointer (some ⟨g, 0, none⟩)] w fun e w' => e = .returned (.int .i64 ((l.length : Int) - (i : Int))) ∧ Below w.heap.size w w' := by
  obtain ⟨A, c, k0, k1, k2, _⟩ := h.cells
  have hb := h.bound
  have hi := h.le
  have hw : IntKind.i64.wrap ((l.length : Int) - (i : Int)) = (l.length : Int) - (i : Int) := IntWalk.i64_in _ (by omega)
  clear h
  go_enter Tryd.func114, Tryd.ntmps114
  go_wp2
  go_still_tail 10, (by kernel_rfl)
  change wpList _ _ _ _ _ (World.drew _)
  go_wp2
  go_ret
  exact ⟨rfl, (Below.refl _ _).drew⟩
/-- An error behind another one. -/
def failE (e0 x : Int) : Int := if e0 = 0 then x else e0
set_option maxHeartbeats 400000 in
set_option maxRecDepth 100000 in
theorem tfail_any (o : Nat → Prop) (g i : Nat) (l : List Bool) (e0 x : Int) (w : World) (h : Tr o w g l i e0) :
    Calls Tryd.prog 100 #[.pointer (some ⟨g, 0, none⟩), .int .i64 x] w fun e w' => e = .returned (.tuple #[]) ∧ Tr o w' g l i (failE e0 x) ∧ Upd (fun b => b = g) w w' := by
  obtain ⟨A, c, k0, k1, k2, f1, f2, _⟩ := h.cells
  have HC := Lib.hid (tok_any o g i l e0 w h)
  have H := Lib.hid h
  clear h
  by_cases he : e0 = 0
  · have heb : (e0 == 0) = true := by simp [he]
    rw [heb] at HC
    have HE := Lib.hid (show failE e0 x = x by unfold failE; rw [if_pos he])
    clear he
    go_enter Tryd.func100, Tryd.ntmps100
    go_wp2_with (go_at_call 61; refine HC.out.mono ?_; rintro e w2 ⟨rfl, rfl⟩)
    go_end0
    rw [HE.out]
    exact ⟨rfl, (H.out.failed x).1, (H.out.failed x).2⟩
  · have heb : (e0 == 0) = false := by simp [he]
    rw [heb] at HC
    have HE := Lib.hid (show failE e0 x = e0 by unfold failE; rw [if_neg he])
    clear he
    go_enter Tryd.func100, Tryd.ntmps100
    go_wp2_with (go_at_call 61; refine HC.out.mono ?_; rintro e w2 ⟨rfl, rfl⟩)
    go_end0
    rw [HE.out]
    exact ⟨rfl, H.out, Upd.refl _ _⟩
theorem bitsI_at (l : List Bool) (k : Nat) (h : k < l.length) : nth 0 (bitsI l) k = b2i (nth false l k) := by
  rw [nth_eq 0 _ k (by simpa [bitsI] using h), nth_eq false _ k h]; simp [bitsI]
set_option maxHeartbeats 2000000 in
set_option maxRecDepth 100000 in
theorem tget_any (o : Nat → Prop) (g i n : Nat) (l : List Bool) (w : World) (h : Tr o w g l i 0) (hn : n ≤ 32) :
    Calls Tryd.prog 99 #[.pointer (some ⟨g, 0, none⟩), .int .i64 (n : Int)] w
      fun e w' => e = .returned (.int .i64 (getV l i n : Int)) ∧ Tr o w' g l (getI l i n) (getE l i n) ∧ Upd (fun b => b = g) w w' := by
  have HK := Lib.hid (fun (E : Int) W (h : Tr o W g l i E) => tok_any o g i l E W h)
  have HLF := Lib.hid (tleft_any o g i l 0 w h)
  have hi := h.le
  have hb := h.bound
  have H := Lib.hid h
  clear h
  by_cases hsh : l.length < i + n
  · have hd : decide ((l.length : Int) - (i : Int) < (n : Int)) = true := decide_eq_true (by omega)
    have HE := Lib.hid (show getV l i n = 0 ∧ getI l i n = i ∧ getE l i n = 3 by unfold getV getI getE; simp [hsh])
    clear hsh
    go_enter Tryd.func99, Tryd.ntmps99
    go_wp2_with (first
      | (go_at_call 61; refine (HK.out 0 _ H.out).mono ?_; rintro e w2 ⟨rfl, rfl⟩)
      | (go_at_call 61; refine (HK.out 3 _ HT4.out).mono ?_; rintro e w5 ⟨rfl, rfl⟩)
      | (go_at_call 114; refine HLF.out.mono ?_; rintro e w3 ⟨rfl, b3⟩; have HF := Lib.hid (tfail_any o g i l 0 3 w3 (H.out.below b3)))
      | (go_at_call 100; refine HF.out.mono ?_; rintro e w4 ⟨rfl, ht4, hu4⟩; have HT4 := Lib.hid ht4))
    go_ret
    exact ⟨by rw [HE.out.1]; rfl, by rw [HE.out.2.1, HE.out.2.2]; exact HT4.out, (Upd.of_below b3 (fun b => b = g)).trans hu4 fun _ _ h => h⟩
  · have hd : decide ((l.length : Int) - (i : Int) < (n : Int)) = false := decide_eq_false (by omega)
    have HE := Lib.hid (show getV l i n = valB ((l.drop i).take n) ∧ getI l i n = i + n ∧ getE l i n = 0 by unfold getV getI getE; simp [hsh])
    have HSH := Lib.hid hsh
    clear hsh
    go_enter Tryd.func99, Tryd.ntmps99
    go_wp2_with (first
      | (go_at_call 61; refine (HK.out 0 _ H.out).mono ?_; rintro e w2 ⟨rfl, rfl⟩)
      | (go_at_call 61; refine (HK.out 0 _ (H.out.below b3)).mono ?_; rintro e w5 ⟨rfl, rfl⟩)
      | (go_at_call 114; refine HLF.out.mono ?_; rintro e w3 ⟨rfl, b3⟩))
    have H3 := Lib.hid (H.out.below b3)
    have HB3 := Lib.hid b3
    clear b3 hd
    obtain ⟨wo, rfl⟩ : ∃ wo, wo = w3 := ⟨_, rfl⟩
    go_loopw [5, 20] (fun v iv wr => ∃ j : Nat, iv = .int .i64 (j : Int) ∧ j ≤ n ∧ v = .int .i64 (valB ((l.drop i).take j) : Int) ∧ Hid (Tr o wr g l (i + j) 0) ∧ Hid (Upd (fun b => b = g) wo wr)) (fun _ iv _ => n - (intOf iv).toNat)
    case atStart => exact ⟨0, rfl, Nat.zero_le _, rfl, H3, Lib.hid (Upd.refl _ _)⟩
    case round =>
      obtain ⟨j, rfl, hj, rfl, hT, hU⟩ := hrel
      by_cases hlt : j < n
      · have hji : (j : Int) < (n : Int) := by omega
        obtain ⟨A, c, k0, k1, k2, f1, f2, hrow⟩ := hT.out.cells
        have hll : i + j < l.length := by have := HSH.out; omega
        obtain ⟨ad, rfl, hc⟩ := rd_int hrow (i + j) (by simpa [bitsI] using hll)
        rw [bitsI_at l _ hll] at hc
        have hlc : (bitsI l).length = l.length := by simp [bitsI]
        have HV := Lib.hid (show valB ((l.drop i).take (j + 1)) = 2 * valB ((l.drop i).take j) + (nth false l (i + j)).toNat by
          rw [take_succ_nth false _ j (by rw [List.length_drop]; omega), valB_snoc, nth_drop])
        have hvl := valB_lt ((l.drop i).take j)
        have hv32 : (2 : Nat) ^ ((l.drop i).take j).length ≤ 2 ^ 32 := Nat.pow_le_pow_right (by decide) (by rw [List.length_take]; omega)
        have h32 : (2 : Nat) ^ 32 = 4294967296 := by decide
        obtain ⟨x, hx⟩ : ∃ x, valB ((l.drop i).take j) = x := ⟨_, rfl⟩
        rw [hx] at hvl HV ⊢
        generalize nth false l (i + j) = t at hc HV
        have hbb := b2i_bd t
        have HTN := Lib.hid (b2i_nat t)
        have hcv : IntKind.i64.wrap (b2i t) = b2i t := IntWalk.i64_in _ (by omega)
        have hw1 : IntKind.i64.wrap (2 * (x : Int)) = 2 * (x : Int) := IntWalk.i64_in _ (by omega)
        have hw2 : IntKind.i64.wrap (2 * (x : Int) + b2i t) = 2 * (x : Int) + b2i t := IntWalk.i64_in _ (by omega)
        have hiL : ((i + j : Nat) : Int) < (l.length : Int) := by omega
        have hw3 : IntKind.i64.wrap (((i + j : Nat) : Int) + 1) = ((i + (j + 1) : Nat) : Int) := by rw [IntWalk.i64_in _ (by omega)]; omega
        have HM := Lib.hid (fun N => (hT.out.below (below_drewN (Below.refl wr.heap.size wr) N)).moved (i + (j + 1)) (by omega))
        generalize b2i t = y at hc HTN hbb hcv hw2
        clear hx hvl hv32 h32 hrow hlc hll hlt
        go_wp2
        go_quiet (fail)
        go_wp2
        go_roundw
        case rel =>
          have e1 : ((i : Int) + (j : Int) + 1) = ((i + (j + 1) : Nat) : Int) := by omega
          have e2 := HTN.out
          refine ⟨j + 1, by go_num, by omega, by rw [HV.out]; congr 1; omega, Lib.hid ?_, Lib.hid ?_⟩
          · rw [e1]; exact (HM.out nq).1
          · rw [e1]; exact (hU.out.trans (Upd.drewN (fun b => b = g) _ nq) fun _ _ h => h).trans (HM.out nq).2 fun _ _ h => h
        case measure => simp [intOf]; omega
      · obtain rfl : j = n := by omega
        go_wp2
        go_ret
        exact ⟨by rw [HE.out.1]; rfl, by rw [HE.out.2.1, HE.out.2.2]; exact hT.out, (Upd.of_below HB3.out (fun b => b = g)).trans hU.out fun _ _ h => h⟩
end Go.Proofs.YtciknejchglmoaaDoor

namespace Go.Proofs.YtciknejchglmoaaDoor
open Go.RowKit

theorem getV_one {l : List Bool} {i : Nat} (h : i < l.length) : getV l i 1 = (nth false l i).toNat ∧ getI l i 1 = i + 1 ∧ getE l i 1 = 0 := by
  have e : (l.drop i).take 1 = [nth false l i] := by rw [drop_cons_nth h]; rfl
  unfold getV getI getE
  rw [if_neg (by omega), if_neg (by omega), if_neg (by omega), e]
  refine ⟨?_, rfl, rfl⟩
  cases nth false l i <;> rfl
theorem getV_end {l : List Bool} {i : Nat} (h : l.length ≤ i) : getV l i 1 = 0 ∧ getI l i 1 = i ∧ getE l i 1 = 3 := by
  unfold getV getI getE
  rw [if_pos (by omega), if_pos (by omega), if_pos (by omega)]
  exact ⟨rfl, rfl, rfl⟩

set_option maxHeartbeats 2000000 in
set_option maxRecDepth 100000 in
theorem tunary_any (o : Nat → Prop) (g i : Nat) (l : List Bool) (w : World) (h : Tr o w g l i 0) :
    Calls Tryd.prog 115 #[.pointer (some ⟨g, 0, none⟩), .int .i64 20] w
      fun e w' => e = .returned (.int .i64 ((zerF (l.drop i) 0).1 : Nat)) ∧ (∃ j, Tr o w' g l j (zerF (l.drop i) 0).2 ∧ ((zerF (l.drop i) 0).2 = 0 → j = i + (zerF (l.drop i) 0).1 + 1)) ∧ Upd (fun b => b = g) w w' := by
  have HK := Lib.hid (fun (E : Int) j W (h : Tr o W g l j E) => tok_any o g j l E W h)
  have HGt := Lib.hid (fun j W (h : Tr o W g l j 0) => tget_any o g j 1 l W h (by decide))
  have HFa := Lib.hid (fun (E : Int) j W (h : Tr o W g l j E) => tfail_any o g j l E 4 W h)
  have H := Lib.hid h
  obtain ⟨R, hR⟩ : ∃ R, zerF (l.drop i) 0 = R := ⟨_, rfl⟩
  have HR := Lib.hid hR
  rw [hR]
  clear h hR
  go_enter Tryd.func115, Tryd.ntmps115
  go_wp2
  go_loopw [5] (fun iv wr => ∃ (n j : Nat) (E : Int), iv = .int .i64 (n : Int) ∧ n ≤ 21 ∧ Hid (Tr o wr g l j E) ∧ Hid (Upd (fun b => b = g) w wr) ∧ ((E = 0 ∧ n ≤ 20 ∧ Hid (j = i + n ∧ zerF (l.drop j) n = R)) ∨ (E ≠ 0 ∧ Hid (R = (0, E))))) (fun iv _ => 30 - (intOf iv).toNat)
  case atStart => exact ⟨0, i, 0, rfl, by omega, H, Lib.hid (Upd.refl _ _), .inl ⟨rfl, by omega, Lib.hid ⟨rfl, HR.out⟩⟩⟩
  case round =>
    obtain ⟨n, j, E, rfl, hn, hT, hU, ⟨rfl, hn20, hz⟩ | ⟨hE, hz⟩⟩ := hrel
    · have hwn : IntKind.i64.wrap ((n : Int) + 1) = (n : Int) + 1 := IntWalk.i64_in _ (by omega)
      rcases Nat.lt_or_ge j l.length with hlt | hge
      · have HO := Lib.hid (getV_one hlt)
        have HG1 := Lib.hid (HGt.out j wr hT.out)
        rw [HO.out.1, HO.out.2.1, HO.out.2.2] at HG1
        cases hb : nth false l j
        · rw [hb] at HG1
          have HM := Lib.hid (zer_miss hlt hb n)
          by_cases h20 : n = 20
          · subst h20
            have HM2 := Lib.hid (show R = (0, 4) by rw [← hz.out.2, HM.out]; rfl)
            clear hb hlt hz
            go_wp2_with (first
              | (go_at_call 61; refine (HK.out 0 j _ hT.out).mono ?_; rintro e w2 ⟨rfl, rfl⟩)
              | (go_at_call 100; refine (HFa.out 0 (j + 1) _ ht3).mono ?_; rintro e w4 ⟨rfl, ht4, hu4⟩)
              | (go_at_call 99; refine HG1.out.mono ?_; rintro e w3 ⟨rfl, ht3, hu3⟩))
            go_roundw
            case rel => exact ⟨21, j + 1, 4, by go_num, by omega, Lib.hid ht4, Lib.hid ((hU.out.trans hu3 fun _ _ h => h).trans hu4 fun _ _ h => h), .inr ⟨by decide, HM2⟩⟩
            case measure => simp [intOf]
          · have HM2 := Lib.hid (show zerF (l.drop (j + 1)) (n + 1) = R by rw [← hz.out.2, HM.out, if_neg (by omega)])
            have hne : ((n : Int) == 20) = false := by simp; omega
            clear hb hlt
            go_wp2_with (first
              | (go_at_call 61; refine (HK.out 0 j _ hT.out).mono ?_; rintro e w2 ⟨rfl, rfl⟩)
              | (go_at_call 99; refine HG1.out.mono ?_; rintro e w3 ⟨rfl, ht3, hu3⟩))
            go_roundw
            case rel => exact ⟨n + 1, j + 1, 0, by go_num, by omega, Lib.hid ht3, Lib.hid (hU.out.trans hu3 fun _ _ h => h), .inl ⟨rfl, by omega, Lib.hid ⟨by rw [hz.out.1]; omega, HM2.out⟩⟩⟩
            case measure => simp [intOf]; omega
        · rw [hb] at HG1
          have HM := Lib.hid (show R = (n, 0) by rw [← hz.out.2]; exact zer_hit hlt hb n)
          clear hb hlt
          go_wp2_with (first
            | (go_at_call 61; refine (HK.out 0 j _ hT.out).mono ?_; rintro e w2 ⟨rfl, rfl⟩)
            | (go_at_call 99; refine HG1.out.mono ?_; rintro e w3 ⟨rfl, ht3, hu3⟩))
          go_ret
          exact ⟨ret_int (by rw [HM.out]), ⟨j + 1, by rw [HM.out]; exact ht3, fun _ => by rw [HM.out, hz.out.1]⟩, hU.out.trans hu3 fun _ _ h => h⟩
      · have HO := Lib.hid (getV_end hge)
        have HG1 := Lib.hid (HGt.out j wr hT.out)
        rw [HO.out.1, HO.out.2.1, HO.out.2.2] at HG1
        have HM2 := Lib.hid (show R = (0, 3) by rw [← hz.out.2]; exact zer_end hge n)
        clear hge
        by_cases h20 : n = 20
        · subst h20
          go_wp2_with (first
            | (go_at_call 61; refine (HK.out 0 j _ hT.out).mono ?_; rintro e w2 ⟨rfl, rfl⟩)
            | (go_at_call 100; refine (HFa.out 3 j _ ht3).mono ?_; rintro e w4 ⟨rfl, ht4, hu4⟩)
            | (go_at_call 99; refine HG1.out.mono ?_; rintro e w3 ⟨rfl, ht3, hu3⟩))
          go_roundw
          case rel => exact ⟨21, j, 3, by go_num, by omega, Lib.hid ht4, Lib.hid ((hU.out.trans hu3 fun _ _ h => h).trans hu4 fun _ _ h => h), .inr ⟨by decide, HM2⟩⟩
          case measure => simp [intOf]
        · have hne : ((n : Int) == 20) = false := by simp; omega
          go_wp2_with (first
            | (go_at_call 61; refine (HK.out 0 j _ hT.out).mono ?_; rintro e w2 ⟨rfl, rfl⟩)
            | (go_at_call 99; refine HG1.out.mono ?_; rintro e w3 ⟨rfl, ht3, hu3⟩))
          go_roundw
          case rel => exact ⟨n + 1, j, 3, by go_num, by omega, Lib.hid ht3, Lib.hid (hU.out.trans hu3 fun _ _ h => h), .inr ⟨by decide, HM2⟩⟩
          case measure => simp [intOf]; omega
    · have hEb : (E == 0) = false := by simp [hE]
      have hKE := Lib.hid (HK.out E j _ hT.out)
      go_wp2_with (go_at_call 61; refine hKE.out.mono ?_; rintro e w2 ⟨rfl, rfl⟩)
      go_ret
      exact ⟨ret_int (by rw [hz.out]; rfl), ⟨j, by rw [hz.out]; exact hT.out, fun h => absurd (by rw [hz.out] at h; exact h) hE⟩, hU.out⟩
end Go.Proofs.YtciknejchglmoaaDoor

namespace Go.Proofs.YtciknejchglmoaaDoor
open Go.RowKit

set_option maxHeartbeats 1000000 in
theorem tget_no (o : Nat → Prop) (g i n : Nat) (l : List Bool) (E : Int) (w : World) (h : Tr o w g l i E) (hE : E ≠ 0) :
    Calls Tryd.prog 99 #[.pointer (some ⟨g, 0, none⟩), .int .i64 (n : Int)] w fun e w' => e = .returned (.int .i64 0) ∧ w = w' := by
  have hEb : (E == 0) = false := by simp [hE]
  have HK := Lib.hid (tok_any o g i l E w h)
  rw [hEb] at HK
  clear h hE hEb
  go_enter Tryd.func99, Tryd.ntmps99
  go_wp2_with (go_at_call 61; refine HK.out.mono ?_; rintro e w2 ⟨rfl, rfl⟩)
  go_ret
  exact ⟨rfl, rfl⟩
theorem zerF_le : ∀ (D : List Bool) (n : Nat), n ≤ 20 → (zerF D n).1 ≤ 20
  | [], _, _ => Nat.zero_le _
  | true :: _, _, h => h
  | false :: D, n, h => by
    show (if 20 < n + 1 then ((0, 4) : Nat × Int) else zerF D (n + 1)).1 ≤ 20
    split
    · exact Nat.zero_le _
    · exact zerF_le D (n + 1) (by omega)

set_option maxHeartbeats 2000000 in
set_option maxRecDepth 100000 in
theorem tgamma_any (o : Nat → Prop) (g i : Nat) (l : List Bool) (w : World) (h : Tr o w g l i 0) :
    Calls Tryd.prog 101 #[.pointer (some ⟨g, 0, none⟩)] w
      fun e w' => e = .returned (.int .i64 ((gamF (l.drop i)).1 : Nat)) ∧ (∃ j, Tr o w' g l j (gamF (l.drop i)).2.1 ∧ ((gamF (l.drop i)).2.1 = 0 → j = i + (gamF (l.drop i)).2.2)) ∧ Upd (fun b => b = g) w w' := by
  have HU := Lib.hid (tunary_any o g i l w h)
  have hi := h.le
  have hk20 := zerF_le (l.drop i) 0 (by omega)
  have HF := Lib.hid (show gamF (l.drop i) = if (zerF (l.drop i) 0).2 ≠ 0 then (0, (zerF (l.drop i) 0).2, 0) else if (l.drop i).length < 2 * (zerF (l.drop i) 0).1 + 1 then (0, 3, 0) else (2 ^ (zerF (l.drop i) 0).1 + valB (((l.drop i).drop ((zerF (l.drop i) 0).1 + 1)).take (zerF (l.drop i) 0).1), 0, 2 * (zerF (l.drop i) 0).1 + 1) from rfl)
  have HK := Lib.hid (fun (E : Int) j W (h : Tr o W g l j E) => tok_any o g j l E W h)
  generalize zerF (l.drop i) 0 = z at *
  obtain ⟨k, E⟩ := z
  have hk : k ≤ 20 := hk20
  clear h hk20
  by_cases hE : E = 0
  · subst hE
    have HG1 := Lib.hid (fun W (h : Tr o W g l (i + k + 1) 0) => tget_any o g (i + k + 1) k l W h (by omega))
    by_cases hsh : l.length < i + k + 1 + k
    · have HX := Lib.hid (show gamF (l.drop i) = (0, 3, 0) by rw [HF.out, if_neg (by simp), if_pos (by rw [List.length_drop]; show l.length - i < 2 * k + 1; omega)])
      have HE := Lib.hid (show getV l (i + k + 1) k = 0 ∧ getE l (i + k + 1) k = 3 by unfold getV getE; simp [hsh])
      clear hsh
      go_enter Tryd.func101, Tryd.ntmps101
      go_wp2_with (first
        | (go_at_call 61; refine (HK.out 3 _ _ ht3).mono ?_; rintro e w4 ⟨rfl, rfl⟩)
        | (go_at_call 99; refine (HG1.out _ ht2).mono ?_; rintro e w3 ⟨rfl, ht3, hu3⟩; rw [HE.out.2] at ht3)
        | (go_at_call 115; refine HU.out.mono ?_; rintro e w2 ⟨rfl, ⟨j, ht2, hj⟩, hu2⟩; obtain rfl := hj rfl))
      go_ret
      exact ⟨ret_int (by rw [HX.out]; rfl), ⟨_, by rw [HX.out]; exact ht3, fun h => by rw [HX.out] at h; cases h⟩, hu2.trans hu3 fun _ _ h => h⟩
    · obtain ⟨V, hV⟩ : ∃ V, valB ((l.drop (i + k + 1)).take k) = V := ⟨_, rfl⟩
      have HX := Lib.hid (show gamF (l.drop i) = (2 ^ k + V, 0, 2 * k + 1) by rw [HF.out, if_neg (by simp), if_neg (by rw [List.length_drop]; show ¬ l.length - i < 2 * k + 1; omega), List.drop_drop, ← Nat.add_assoc, hV])
      have HE := Lib.hid (show getV l (i + k + 1) k = V ∧ getI l (i + k + 1) k = i + k + 1 + k ∧ getE l (i + k + 1) k = 0 by unfold getV getI getE; simp [hsh, hV])
      have hVb := valB_lt ((l.drop (i + k + 1)).take k)
      rw [hV] at hVb
      have hlen : ((l.drop (i + k + 1)).take k).length ≤ k := by rw [List.length_take]; omega
      have hp1 : 2 ^ ((l.drop (i + k + 1)).take k).length ≤ 2 ^ k := Nat.pow_le_pow_right (by decide) hlen
      have hp2 : 2 ^ k ≤ 1048576 := by have := Nat.pow_le_pow_right (n := 2) (by decide) hk; simpa using this
      obtain ⟨P, hP⟩ : ∃ P : Nat, 2 ^ k = P := ⟨_, rfl⟩
      have hPi : (2 : Int) ^ k = (P : Int) := by rw [← hP]; simp
      rw [hP] at HX hp2 hp1
      have w1 : IntKind.i64.wrap (2 ^ k) = (P : Int) := by rw [hPi]; exact IntWalk.i64_in _ (by omega)
      have w2' : IntKind.i64.wrap ((P : Int) + (V : Int)) = (P : Int) + (V : Int) := IntWalk.i64_in _ (by omega)
      have hk64 : k ≤ 64 := by omega
      clear hsh hV hVb hlen hp1 hP hPi
      go_enter Tryd.func101, Tryd.ntmps101
      go_wp2_with (first
        | (go_at_call 61; refine (HK.out 0 _ _ ht3).mono ?_; rintro e w4 ⟨rfl, rfl⟩)
        | (go_at_call 99; refine (HG1.out _ ht2).mono ?_; rintro e w3 ⟨rfl, ht3, hu3⟩; rw [HE.out.2.1, HE.out.2.2] at ht3; rw [HE.out.1])
        | (go_at_call 115; refine HU.out.mono ?_; rintro e w2 ⟨rfl, ⟨j, ht2, hj⟩, hu2⟩; obtain rfl := hj rfl))
      go_ret
      exact ⟨ret_int (by rw [HX.out]; simp), ⟨_, by rw [HX.out]; exact ht3, fun _ => by rw [HX.out]; show _ = i + (2 * k + 1); omega⟩, hu2.trans hu3 fun _ _ h => h⟩
  · have HX := Lib.hid (show gamF (l.drop i) = (0, E, 0) by rw [HF.out, if_pos hE])
    have HG0 := Lib.hid (fun j W (h : Tr o W g l j E) => tget_no o g j k l E W h hE)
    have HKE := Lib.hid (show ∀ j W, Tr o W g l j E → Calls Tryd.prog 61 #[.pointer (some ⟨g, 0, none⟩)] W fun e w' => e = .returned (.bool false) ∧ W = w' from fun j W h => by have h2 := HK.out E j W h; rwa [show (E == 0) = false by simp [hE]] at h2)
    go_enter Tryd.func101, Tryd.ntmps101
    go_wp2_with (first
      | (go_at_call 61; refine (HKE.out _ _ ht2).mono ?_; rintro e w4 ⟨rfl, rfl⟩)
      | (go_at_call 99; refine (HG0.out _ _ ht2).mono ?_; rintro e w3 ⟨rfl, rfl⟩)
      | (go_at_call 115; refine HU.out.mono ?_; rintro e w2 ⟨rfl, ⟨j, ht2, hj⟩, hu2⟩))
    go_ret
    exact ⟨ret_int (by rw [HX.out]; rfl), ⟨j, by rw [HX.out]; exact ht2, fun h => by rw [HX.out] at h; exact absurd h hE⟩, hu2⟩
end Go.Proofs.YtciknejchglmoaaDoor

namespace Go.Proofs.YtciknejchglmoaaDoor
open Go.RowKit

/-- Where a reader is behind zeros and a one; it stays with an error. -/
def zerI (i : Nat) (R : Nat × Int) : Nat := if R.2 = 0 then i + R.1 + 1 else i
set_option maxHeartbeats 2000000 in
set_option maxRecDepth 100000 in
theorem rdzeros_any (o : Nat → Prop) (g i : Nat) (l : List Bool) (w : World) (h : Rr o w g l i) :
    Calls Tryd.prog 113 #[.pointer (some ⟨g, 0, none⟩), .int .i64 20] w
      fun e w' => e = .returned (.tuple #[.int .i64 ((zerF (l.drop i) 0).1 : Nat), .int .i64 (zerF (l.drop i) 0).2]) ∧ Rr o w' g l (zerI i (zerF (l.drop i) 0)) ∧ Upd (fun b => b = g) w w' := by
  obtain ⟨R, hR⟩ : ∃ R, zerF (l.drop i) 0 = R := ⟨_, rfl⟩
  rw [hR]
  have HR := Lib.hid hR
  have H := Lib.hid h
  have hlb := h.bound
  have hle := h.le
  obtain ⟨A, c, bb, h1, h2, h3, h4, h5, h6, h7, h8⟩ := h
  have k0 := h1.cell 0 rfl
  have k1 := h1.cell 1 rfl
  have k2 := h1.cell 2 rfl
  have f2 := h1.free 2
  have HB := Lib.hid (fun j (hj : j < l.length) => bit_any A c bb j w h2.any h3 (by omega))
  have HBB := Lib.hid (show ∀ j, j < l.length → bitB bb j = nth false l j from fun j hj => by rw [h5]; exact (ofB_nth _ _ _ hj).symm)
  clear hR h1 h2 h3 h4 h5 h6 h7 h8
  go_enter Tryd.func113, Tryd.ntmps113
  go_wp2
  go_loopw [6, 7] (fun nv iv wr => ∃ n j : Nat, nv = .int .i64 (n : Int) ∧ iv = .int .i64 (j : Int) ∧ n ≤ 20 ∧ j ≤ l.length ∧ Hid (j = i + n ∧ zerF (l.drop j) n = R) ∧ w = wr) (fun _ iv _ => l.length - (intOf iv).toNat)
  case atStart => exact ⟨0, i, rfl, rfl, by omega, hle, Lib.hid ⟨rfl, HR.out⟩, rfl⟩
  case round =>
    obtain ⟨n, j, rfl, rfl, hn, hj, hz, rfl⟩ := hrel
    have hwn : IntKind.i64.wrap ((n : Int) + 1) = (n : Int) + 1 := IntWalk.i64_in _ (by omega)
    have hwj : IntKind.i64.wrap ((j : Int) + 1) = (j : Int) + 1 := IntWalk.i64_in _ (by omega)
    by_cases hlt : j < l.length
    · have hji : (j : Int) < (l.length : Int) := by omega
      have HC := Lib.hid (HB.out j hlt)
      rw [HBB.out j hlt] at HC
      cases hb : nth false l j
      · rw [hb] at HC
        have HM := Lib.hid (zer_miss hlt hb n)
        by_cases h20 : n = 20
        · subst h20
          have HM2 := Lib.hid (show R = (0, 4) by rw [← hz.out.2, HM.out]; rfl)
          clear hb hz
          go_wp2_with (go_at_call 81; refine HC.out.mono ?_; rintro e w2 ⟨rfl, rfl⟩)
          go_ret2
          exact ⟨by rw [HM2.out]; rfl, by rw [HM2.out]; exact H.out, Upd.refl _ _⟩
        · have HM2 := Lib.hid (show zerF (l.drop (j + 1)) (n + 1) = R by rw [← hz.out.2, HM.out, if_neg (by omega)])
          have hne : ¬ (20 : Int) < (n : Int) + 1 := by omega
          clear hb
          go_wp2_with (go_at_call 81; refine HC.out.mono ?_; rintro e w2 ⟨rfl, rfl⟩)
          go_roundw
          case rel => exact ⟨n + 1, j + 1, by go_num, by go_num, by omega, by omega, Lib.hid ⟨by rw [hz.out.1]; omega, HM2.out⟩, trivial⟩
          case measure => simp [intOf]; omega
      · rw [hb] at HC
        have HM := Lib.hid (show R = (n, 0) by rw [← hz.out.2]; exact zer_hit hlt hb n)
        have HV := Lib.hid (H.out.move (j + 1) 0 (by omega))
        have e1 : ((j + 1 : Nat) : Int) = (j : Int) + 1 := by omega
        rw [e1] at HV
        clear e1
        clear hb
        go_wp2_with (go_at_call 81; refine HC.out.mono ?_; rintro e w2 ⟨rfl, rfl⟩)
        go_ret2
        refine ⟨by rw [HM.out]; rfl, ?_, HV.out.2⟩
        rw [HM.out, show zerI i (n, 0) = j + 1 by rw [hz.out.1]; rfl]
        exact HV.out.1
    · have hji : ¬ (j : Int) < (l.length : Int) := by omega
      have HM2 := Lib.hid (show R = (0, 3) by rw [← hz.out.2]; exact zer_end (by omega) n)
      go_wp2
      go_ret2
      exact ⟨by rw [HM2.out]; rfl, by rw [HM2.out]; exact H.out, Upd.refl _ _⟩
end Go.Proofs.YtciknejchglmoaaDoor

namespace Go.Proofs.YtciknejchglmoaaDoor
open Go.RowKit

set_option maxHeartbeats 2000000 in
set_option maxRecDepth 100000 in
theorem tbytes_any (A : Option Addr) (c : Nat) (bs : List Bool) (w : World) (hS : RY w A c (bitsI bs)) (hn : bs.length ≤ 1000000000000) :
    Calls Tryd.prog 70 #[.slice A bs.length c] w fun e w' => ∃ x, e = .returned x ∧ OwnI 5 .u8 w.heap.size w' x (packB bs) ∧ Below w.heap.size w w' := by
  obtain ⟨L, hL⟩ : ∃ L, (bs.length + 7) / 8 = L := ⟨_, rfl⟩
  have hmk := make_row (P := Tryd.prog) 38 5 .u8 1 Tryd.underlying38 infoY (by decide) L (by omega)
  have hLi : ((bs.length : Int) + 7) / 8 = (L : Int) := by omega
  have HL := Lib.hid hL
  clear hL
  go_enter Tryd.func70, Tryd.ntmps70
  go_wp2
  have hO := own_made w 5 .u8 L (by have := HL.out; omega)
  have hB := below_alloc (Below.refl w.heap.size w) (.cells (madeCells #[.int .u8 0] L) 5)
  generalize w.alloc (.cells (madeCells #[.int .u8 0] L) 5) = w1 at hO hB ⊢
  clear hmk hLi
  go_loopw [13] (fun i wr => ∃ k : Nat, k ≤ bs.length ∧ i = .int .i64 k ∧ OwnI 5 .u8 w.heap.size wr (.slice (some ⟨w.heap.size, 0, none⟩) L L) (padB (bs.take k) L) ∧ Below w.heap.size w wr) (fun i _ => bs.length - (intOf i).toNat)
  case atStart => exact ⟨0, Nat.zero_le _, rfl, by rw [List.take_zero, padB_nil]; exact hO, hB⟩
  case round =>
    clear hO hB
    obtain ⟨k, hk, rfl, hO, hB⟩ := hrel
    by_cases hlt : k < bs.length
    · have hLL := HL.out
      have htl : (bs.take k).length = k := by rw [List.length_take]; omega
      obtain ⟨ka, kf⟩ := hO.at_ (k / 8) (by rw [padB_length _ _ (by omega)]; omega)
      have hkn := padB_nth (bs.take k) L (by omega)
      have hor := or_bit (bs.take k) (nth false bs k)
      have hX := byteB_lt (bs.take k) ((bs.take k).length / 8)
      have hsn := padB_snoc (bs.take k) (nth false bs k) L (by omega)
      rw [← take_succ_nth false bs k hlt] at hsn
      rw [htl] at hkn hor hX hsn
      rw [hkn] at ka
      obtain ⟨ad, rfl, hc⟩ := rd_int (hS.below hB) k (by rw [bitsI_length]; exact hlt)
      rw [bitsI_nth _ _ hlt] at hc
      obtain ⟨X, hXe⟩ : ∃ X, byteB (bs.take k) (k / 8) = X := ⟨_, rfl⟩
      obtain ⟨q, hq⟩ : ∃ q, k / 8 = q := ⟨_, rfl⟩
      obtain ⟨t, ht⟩ : ∃ t, 7 - k % 8 = t := ⟨_, rfl⟩
      rw [hXe, ht] at hor hsn
      rw [hXe] at hX ka
      rw [hq] at ka kf hsn
      have ht7 : t ≤ 7 := by omega
      have w1 : IntKind.i64.wrap ((k : Int) / 8) = (q : Int) := by rw [IntWalk.i64_in _ (by omega)]; omega
      have w2 : ((k : Int)).tmod 8 = 7 - (t : Int) := by rw [Int.tmod_eq_emod_of_nonneg (by omega)]; omega
      have w3 : IntKind.i64.wrap (7 - (7 - (t : Int))) = (t : Int) := by rw [IntWalk.i64_in _ (by omega)]; omega
      have hPp : 0 < 2 ^ t ∧ 2 ^ t ≤ 128 := ⟨Nat.two_pow_pos _, by have := Nat.pow_le_pow_right (n := 2) (by decide) ht7; simpa using this⟩
      have hPc : ((2 : Int) ^ t) = ((2 ^ t : Nat) : Int) := by simp
      have hbd := b2i_bd (nth false bs k)
      have hy : 0 ≤ b2i (nth false bs k) * 2 ^ t ∧ b2i (nth false bs k) * 2 ^ t ≤ 128 := by rw [hPc]; cases nth false bs k <;> simp [b2i] <;> omega
      have w5 : IntKind.u8.wrap (b2i (nth false bs k) * 2 ^ t) = b2i (nth false bs k) * 2 ^ t := by rw [IntKind.wrap_u8]; omega
      have hqL : q < L := by omega
      have HO8 := Lib.hid hor
      have HSN := Lib.hid hsn
      have HO := Lib.hid hO
      clear hor hsn hO hkn htl hXe hq ht hPp hPc hy hLL
      go_wp2
      go_still_tail 12, (by kernel_rfl)
      change wpList _ _ _ _ _ (World.drew _)
      rw [HO8.out]
      clear w1 w2 w3 w5 ht7 hbd hX
      go_wp2
      go_roundw
      case rel =>
        have hs := HO.out.set q ((X : Int) + b2i (nth false bs k) * 2 ^ t)
        refine ⟨k + 1, by omega, by go_num, ?_, (below_grown hB hB.size hs.2 (fun r e => by have := Option.some.inj e; omega)).drew⟩
        rw [HSN.out]
        exact hs.1.below (Below.refl _ _).drew
      case measure => simp [intOf]; omega
    · obtain rfl : k = bs.length := by omega
      go_wp2
      go_ret
      exact ⟨_, rfl, by rw [List.take_length] at hO; have := HL.out; rw [← this, padB_all, this] at hO; exact hO, hB⟩

set_option maxHeartbeats 1000000 in
set_option maxRecDepth 100000 in
theorem samebytes_any (A B : Option Addr) (c d : Nat) (a b : List Int) (w : World) (hS : RY w A c a) (hT : RY w B d b) :
    Calls Tryd.prog 69 #[.slice A a.length c, .slice B b.length d] w fun e w' => e = .returned (.bool (sameL a b)) ∧ Below w.heap.size w w' := by
  have hn := hS.len
  have hm := hT.len
  by_cases hl : a.length = b.length
  · have hb : ((a.length : Int) != (b.length : Int)) = false := by simp [hl]
    have HL := Lib.hid hl
    clear hl
    go_enter Tryd.func69, Tryd.ntmps69
    go_wp2
    go_loopw [13] (fun i wr => ∃ k : Nat, k ≤ a.length ∧ i = .int .i64 k ∧ Hid (∀ j, j < k → nth 0 a j = nth 0 b j) ∧ Below w.heap.size w wr) (fun i _ => a.length - (intOf i).toNat)
    case atStart => exact ⟨0, Nat.zero_le _, rfl, fun j hj => absurd hj (by omega), Below.refl _ _⟩
    case round =>
      obtain ⟨k, hk, rfl, hne, hB⟩ := hrel
      by_cases hlt : k < a.length
      · have hkb : k < b.length := by rw [← HL.out]; exact hlt
        obtain ⟨ad, rfl, hc⟩ := rd_int (hS.below hB) k hlt
        obtain ⟨ad', rfl, hc'⟩ := rd_int (hT.below hB) k hkb
        have hk0 : (0 : Int) ≤ (k : Int) := by omega
        have hka : (k : Int) < (a.length : Int) := by omega
        have hkb' : (k : Int) < (b.length : Int) := by omega
        by_cases hx : nth 0 a k = nth 0 b k
        · have hxb : (nth 0 a k != nth 0 b k) = false := by simp [hx]
          have hne' : Hid (∀ j, j < k + 1 → nth 0 a j = nth 0 b j) := fun j hj => by
            rcases Nat.lt_or_ge j k with h | h
            · exact hne.out j h
            · obtain rfl : j = k := by omega
              exact hx
          clear hx
          go_wp2
          go_quiet (fail)
          go_wp2
          go_roundw
          case rel => exact ⟨k + 1, by omega, by go_num, hne', below_drewN hB _⟩
          case measure => simp [intOf]; omega
        · have hxb : (nth 0 a k != nth 0 b k) = true := by simp [hx]
          have HN := Lib.hid (show sameL a b = false from decide_eq_false fun e => hx (by rw [e]))
          clear hx
          go_wp2
          go_quiet (fail)
          go_wp2
          go_ret
          exact ⟨ret_bool HN.out.symm, below_drewN hB _⟩
      · obtain rfl : k = a.length := by omega
        have HN := Lib.hid (same_end HL.out hne.out)
        go_wp2
        go_ret
        exact ⟨ret_bool HN.out.symm, hB⟩
  · have hb : ((a.length : Int) != (b.length : Int)) = true := by simp; omega
    have HN := Lib.hid (show sameL a b = false from decide_eq_false fun e => hl (by rw [e]))
    clear hl
    go_enter Tryd.func69, Tryd.ntmps69
    go_wp2
    go_ret
    exact ⟨ret_bool HN.out.symm, Below.refl _ _⟩
end Go.Proofs.YtciknejchglmoaaDoor

namespace Go.Proofs.YtciknejchglmoaaDoor
open Go.RowKit

set_option maxHeartbeats 1000000 in
set_option maxRecDepth 100000 in
theorem same17_any (A B : Option Addr) (c d : Nat) (a b : List Int) (w : World) (hS : RI w A c a) (hT : RI w B d b) :
    Calls Tryd.prog 14 #[.slice A a.length c, .slice B b.length d] w fun e w' => e = .returned (.bool (sameL a b)) ∧ Below w.heap.size w w' := by
  have hn := hS.len
  have hm := hT.len
  by_cases hl : a.length = b.length
  · have hb : ((a.length : Int) != (b.length : Int)) = false := by simp [hl]
    have HL := Lib.hid hl
    clear hl
    go_enter Tryd.func14, Tryd.ntmps14
    go_wp2
    go_loopw [13] (fun i wr => ∃ k : Nat, k ≤ a.length ∧ i = .int .i64 k ∧ Hid (∀ j, j < k → nth 0 a j = nth 0 b j) ∧ Below w.heap.size w wr) (fun i _ => a.length - (intOf i).toNat)
    case atStart => exact ⟨0, Nat.zero_le _, rfl, fun j hj => absurd hj (by omega), Below.refl _ _⟩
    case round =>
      obtain ⟨k, hk, rfl, hne, hB⟩ := hrel
      by_cases hlt : k < a.length
      · have hkb : k < b.length := by rw [← HL.out]; exact hlt
        obtain ⟨ad, rfl, hc⟩ := rd_int (hS.below hB) k hlt
        obtain ⟨ad', rfl, hc'⟩ := rd_int (hT.below hB) k hkb
        have hk0 : (0 : Int) ≤ (k : Int) := by omega
        have hka : (k : Int) < (a.length : Int) := by omega
        have hkb' : (k : Int) < (b.length : Int) := by omega
        by_cases hx : nth 0 a k = nth 0 b k
        · have hxb : (nth 0 a k != nth 0 b k) = false := by simp [hx]
          have hne' : Hid (∀ j, j < k + 1 → nth 0 a j = nth 0 b j) := fun j hj => by
            rcases Nat.lt_or_ge j k with h | h
            · exact hne.out j h
            · obtain rfl : j = k := by omega
              exact hx
          clear hx
          go_wp2
          go_quiet (fail)
          go_wp2
          go_roundw
          case rel => exact ⟨k + 1, by omega, by go_num, hne', below_drewN hB _⟩
          case measure => simp [intOf]; omega
        · have hxb : (nth 0 a k != nth 0 b k) = true := by simp [hx]
          have HN := Lib.hid (show sameL a b = false from decide_eq_false fun e => hx (by rw [e]))
          clear hx
          go_wp2
          go_quiet (fail)
          go_wp2
          go_ret
          exact ⟨ret_bool HN.out.symm, below_drewN hB _⟩
      · obtain rfl : k = a.length := by omega
        have HN := Lib.hid (same_end HL.out hne.out)
        go_wp2
        go_ret
        exact ⟨ret_bool HN.out.symm, hB⟩
  · have hb : ((a.length : Int) != (b.length : Int)) = true := by simp; omega
    have HN := Lib.hid (show sameL a b = false from decide_eq_false fun e => hl (by rw [e]))
    clear hl
    go_enter Tryd.func14, Tryd.ntmps14
    go_wp2
    go_ret
    exact ⟨ret_bool HN.out.symm, Below.refl _ _⟩
end Go.Proofs.YtciknejchglmoaaDoor

namespace Go.Proofs.YtciknejchglmoaaDoor
open Go Go.RowKit

theorem wpIn_region_W {P : Program} {ops : Array Oper} {n : Nat} {K : Act → World → Prop} {Q : Exit → Act → World → Prop} {id : Nat} {a : Act} {w : World} (N : Nat) (S : World → Prop) (hm : P.follows .mixedOrders = true) (hS : S w.drew)
    (h : S w.drew → wpAnyG P .any ops (Exit.then K fun _ _ _ => False) S N ops.size (Array.replicate ops.size false) a w.drew) : (Code.region id ops true).wpIn Fence.wide n P (Exit.then K Q) a w :=
  wpIn_wide.2 (wp_mono (wp_region_G N S hm hS h) fun e a w hq => by cases e <;> first | exact hq | exact hq.elim)
/-- A variable of some cells is written, as one step of a drawn region. -/
theorem step_putN {P : Program} {ops : Array Oper} {Q : Exit → Act → World → Prop} {E : Prop} {K : Act → World → Prop} {o : Oper} {a : Act} {W : World} (vs : Array Value) (hgd : o.guard = none) (ty : TypeId) (x y : Operand) (ho : o.op = .store ty x y) (g : Nat) (t : TypeId) (old : Array Value)
    (hx : a.eval x = .pointer (some ⟨g, 0, none⟩)) (hy : a.eval y = .agg vs) (hk : Blk W g old t) (hi : (P.info? ty).map (·.size) = some vs.size) (hold : old.size = vs.size) (h1 : vs.all (·.oneCell') = true)
    (h : ∀ w1, Blk w1 g vs t → W.grownBy w1 (some g) → Hid (w1.heap.size = W.heap.size) → K (a.put o.dst undef) w1) :
    if Region.wanted o (yielded ops a.tmps) = true then Oper.wp P o a W K Q else E := by
  rw [if_pos (by simp [Region.wanted, hgd])]
  exact wp_store_row ty x y ho g vs hx hy t old hk hi hold h1 (h _ (setRow_heap W g old _ t _ hk) (grown_setRow W g _) (Lib.hid (by simp)))
end Go.Proofs.YtciknejchglmoaaDoor

namespace Go.Proofs.YtciknejchglmoaaDoor
open Go.RowKit
attribute [local go_sem] Oper.semAt_some

/-- Where cost is: the form, the table, the count. -/
structure CkS (w : World) (b g5 g6 g7 n : Nat) (W : World) : Prop where
  frm : Blk W g5 (formC b) 71
  txt : Blk W g6 #[.string (txtK b)] 9
  cnt : Blk W g7 #[.int .i64 (n : Int)] 3
  low : Below w.heap.size w W
theorem CkS.below {w W W' : World} {b g5 g6 g7 n : Nat} (h : CkS w b g5 g6 g7 n W) (hb : Below W.heap.size W W') : CkS w b g5 g6 g7 n W' :=
  ⟨h.frm.below hb, h.txt.below hb, h.cnt.below hb, below2 h.low hb⟩
theorem CkS.step {w W V : World} {b g5 g6 g7 n : Nat} (h : CkS w b g5 g6 g7 n W) (hb : Below W.heap.size W V) (h57 : g5 < g7) (h67 : g6 < g7) (hw : w.heap.size ≤ g7) (m : Nat) (z : Int) (hz : z = ((n + m : Nat) : Int)) :
    CkS w b g5 g6 g7 (n + m) (V.setCell ⟨g7, 0, none⟩ (.int .i64 z)) ∧ Upd (fun x => x = g7) W (V.setCell ⟨g7, 0, none⟩ (.int .i64 z)) := by
  subst hz
  have hu : Upd (fun x => x = g7) V (V.setCell ⟨g7, 0, none⟩ (.int .i64 ((n + m : Nat) : Int))) := Upd.setCell (fun x => x = g7) _ g7 0 _ rfl
  have h2 := h.below hb
  refine ⟨⟨h2.frm.keep (hu.keep (ok := fun x => x ≠ g7) fun x h => h) (by omega), h2.txt.keep (hu.keep (ok := fun x => x ≠ g7) fun x h => h) (by omega), h2.cnt.set 0 (.int .i64 ((n + m : Nat) : Int)), h2.low.grown (grown_setCell V g7 0 _) h2.low.size (fun r e => by cases e; exact hw)⟩, (Upd.of_below hb _).trans hu (fun _ _ h => h)⟩
theorem txtK_empty (b : Nat) (h8 : b < 8) : (txtK b).toList.isEmpty = decide (b = 0) := by
  have : b = 0 ∨ b = 1 ∨ b = 2 ∨ b = 3 ∨ b = 4 ∨ b = 5 ∨ b = 6 ∨ b = 7 := by omega
  rcases this with rfl | rfl | rfl | rfl | rfl | rfl | rfl | rfl <;> decide +kernel
theorem quantB_mem {l : List Int} (h : quantB l = true) : ∀ v ∈ l, -1023 ≤ v ∧ v ≤ 1023 := fun v hv => by
  have := List.all_eq_true.1 h v hv
  simpa using this
theorem wrdB_len (b : Nat) (g : List Int) (h8 : b < 8) : (wrdB b g).length ≤ 16 := by
  unfold wrdB
  split
  · simp
  · rw [numB_length]; exact tabK_len16 b (by omega) h8 _
theorem bes_len (b : Nat) : ∀ (g : List Int), (∀ v ∈ g, -1023 ≤ v ∧ v ≤ 1023) → (g.flatMap (besB b)).length ≤ 22 * g.length
  | [], _ => by simp
  | v :: g, h => by
    have h1 := besB_len b v (by have := h v List.mem_cons_self; omega)
    have h2 := bes_len b g (fun x hx => h x (List.mem_cons_of_mem _ hx))
    rw [List.flatMap_cons, List.length_append, List.length_cons]; omega
theorem grpB_len (b : Nat) (g : List Int) (h8 : b < 8) (hq : ∀ v ∈ g, -1023 ≤ v ∧ v ≤ 1023) (h4 : g.length ≤ 4) : (grpB b g).length ≤ 104 := by
  have h1 := wrdB_len b g h8
  have h2 := bes_len b g hq
  unfold grpB
  rw [List.length_append]; omega
theorem grpK_quant {l : List Int} (h : quantB l = true) (d j : Nat) : ∀ v ∈ grpK d l j, -1023 ≤ v ∧ v ≤ 1023 := fun v hv => by
  unfold grpK at hv; exact quantB_mem h v (List.mem_of_mem_drop (List.mem_of_mem_take hv))
theorem lstB_len (b : Nat) (l : List Int) (h8 : b < 8) (hq : quantB l = true) : ∀ k, (lstB b l k).length ≤ 104 * k
  | 0 => by simp [lstB]
  | k + 1 => by
    have h1 := lstB_len b l h8 hq k
    have h2 := grpB_len b (grpK (dimB b) l k) h8 (grpK_quant hq _ _) (by unfold grpK; rw [List.length_take]; have := dimB_pos b; omega)
    rw [lstB_succ, List.length_append]; omega
theorem rowK_len (b : Nat) (l : List Int) (h8 : b < 8) (hq : quantB l = true) : (rowK b l).length ≤ 104 * l.length := by
  have h1 := lstB_len b l h8 hq (l.length / dimB b)
  have h2 := Nat.div_le_self l.length (dimB b)
  unfold rowK; omega
theorem sizeF : (Tryd.prog.info? 71).map (·.size) = some 3 := by kernel_rfl
theorem grpK_cut (d j : Nat) (l : List Int) : (l.take (j * d + d)).drop (j * d) = grpK d l j := by
  unfold grpK
  rw [List.drop_take, Nat.add_sub_cancel_left]
theorem grp_ri {w : World} {ad : Addr} {c : Nat} {l : List Int} (h : RI w (some ad) c l) (d j : Nat) (h2 : j * d + d ≤ l.length) : RI w (some (ad.add (j * d))) d (grpK d l j) := by
  have := grp_sl h (j * d) d h2
  rw [grpK_cut] at this
  rw [show j * d * (kInt .i64).size = j * d from Nat.mul_one _] at this
  exact this

set_option maxHeartbeats 4000000 in
set_option maxRecDepth 100000 in
theorem bcost_any (A : Option Addr) (c b : Nat) (l : List Int) (w : World) (hS : RI w A c l) (hG : GF w) (hT : GT w) (hb8 : b < 8) (hq : quantB l = true) (hf : l.length % dimB b = 0) (hlm : l.length ≤ 1000000) :
    Calls Tryd.prog 50 #[.int .i64 (b : Int), .slice A l.length c] w fun e w' => e = .returned (.int .i64 ((rowK b l).length : Int)) ∧ Below w.heap.size w w' := by
  have c0 := hG.dim b hb8
  have c1 := hG.most b hb8
  have c2 := hG.esc b hb8
  have ct := hT.txt b hb8
  have hbi : (b : Int) < 8 := by omega
  refine (callsIn_wide (n := 9)).1 ?_
  refine callsIn_of_wp_marks Tryd.func50 rfl trivial ?_ rfl
  simp only [Tryd.ntmps50, List.size_toArray, List.length_cons, List.length_nil, Nat.reduceAdd, Nat.reduceSub, Array.replicate_succ, Array.replicate_zero, List.push_toArray, List.append_toArray, List.nil_append, List.cons_append]
  gi_upto_region 1 with fail
  gi_cut [5, 6] from 11 (fun s5 s6 wx => ∃ g5 g6 : Nat, s5 = .pointer (some ⟨g5, 0, none⟩) ∧ s6 = .pointer (some ⟨g6, 0, none⟩) ∧ Hid (w.heap.size ≤ g5) ∧ Hid (w.heap.size ≤ g6) ∧ Blk wx g5 (formC b) 71 ∧ Blk wx g6 #[.string (txtK b)] 9 ∧ Below w.heap.size w wx)
  case first =>
    have HF := Lib.hid (show ∀ W : World, Below w.heap.size w W → (W.cell? ⟨0, b * 3, none⟩ = some (.int .i64 (dimB b)) ∧ W.cell? ⟨0, b * 3 + 1, none⟩ = some (.int .i64 (mostB b)) ∧ W.cell? ⟨0, b * 3 + 2, none⟩ = some (.bool (escB b)) ∧ W.cell? ⟨1, b, none⟩ = some (.string (txtK b))) from fun W hb => ⟨(hG.below hb).dim b hb8, (hG.below hb).most b hb8, (hG.below hb).esc b hb8, (hT.below hb).txt b hb8⟩)
    have d0 := (Below.refl w.heap.size w).drew
    clear c0 c1 c2 ct
    refine wpIn_region_W 9 (fun W' => W'.cell? ⟨0, b * 3, none⟩ = some (.int .i64 (dimB b)) ∧ W'.cell? ⟨0, b * 3 + 1, none⟩ = some (.int .i64 (mostB b)) ∧ W'.cell? ⟨0, b * 3 + 2, none⟩ = some (.bool (escB b)) ∧ W'.cell? ⟨1, b, none⟩ = some (.string (txtK b))) (by kernel_rfl) (HF.out _ d0) (fun hHeld => ?_)
    refine wpAnyG_takeL (i := 0) (.int .i64 (b : Int)) [9] rfl (by kernel_rfl) (fun _ _ _ h => h) hHeld (by rfl) ?_ ?_
    · (intro W' hSw; (try dsimp only at hSw); go_simp)
    try simp only [Act.put, List.setIfInBounds_toArray, List.set_cons_zero, List.set_cons_succ]
    refine wpAnyG_takeL (i := 1) (.pointer (some ⟨0, b * 3, none⟩)) [9] rfl (by kernel_rfl) (fun _ _ _ h => h) hHeld (by rfl) ?_ ?_
    · (intro W' hSw; (try dsimp only at hSw); go_simp)
    try simp only [Act.put, List.setIfInBounds_toArray, List.set_cons_zero, List.set_cons_succ]
    refine wpAnyG_takeL (i := 2) (.agg (formC b)) [9] rfl (by kernel_rfl) (fun _ _ _ h => h) hHeld (by rfl) ?_ ?_
    · (intro W' hSw; (try dsimp only at hSw); go_simp)
    try simp only [Act.put, List.setIfInBounds_toArray, List.set_cons_zero, List.set_cons_succ]
    refine wpAnyG_takeL (i := 3) (.int .i64 (b : Int)) [9] rfl (by kernel_rfl) (fun _ _ _ h => h) hHeld (by rfl) ?_ ?_
    · (intro W' hSw; (try dsimp only at hSw); go_simp)
    try simp only [Act.put, List.setIfInBounds_toArray, List.set_cons_zero, List.set_cons_succ]
    refine wpAnyG_takeL (i := 4) (.pointer (some ⟨1, b, none⟩)) [9] rfl (by kernel_rfl) (fun _ _ _ h => h) hHeld (by rfl) ?_ ?_
    · (intro W' hSw; (try dsimp only at hSw); go_simp)
    try simp only [Act.put, List.setIfInBounds_toArray, List.set_cons_zero, List.set_cons_succ]
    refine wpAnyG_takeL (i := 5) (.string (txtK b)) [9] rfl (by kernel_rfl) (fun _ _ _ h => h) hHeld (by rfl) ?_ ?_
    · (intro W' hSw; (try dsimp only at hSw); go_simp)
    try simp only [Act.put, List.setIfInBounds_toArray, List.set_cons_zero, List.set_cons_succ]
    refine wpAnyG_br (rs := [6, 7]) (by kernel_rfl) (by simp) ?_
    refine AllG.cons (i := 6) rfl (fun K hK => ?_) ?_
    · refine step_new #[.int .i64 0, .int .i64 0, .bool false] 71 rfl ?hr ?_
      case hr => first | (go_simp; done) | (go_simp; rfl)
      intro g5 V1 e5 z5 d1 y5
      have D1 := below2 d0 d1
      refine hK.out _ _ (fun _ => HF.out _ D1) ?_
      clear hK K
      try simp only [Act.put, List.setIfInBounds_toArray, List.set_cons_zero, List.set_cons_succ]
      refine wpAnyG_oneL (i := 7) (by kernel_rfl) rfl (fun K hK => ?_)
      refine step_new #[.string ⟨#[]⟩] 9 rfl ?hr ?_
      case hr => first | (go_simp; done) | (go_simp; rfl)
      intro g6 V2 e6 z6 d2 y6
      have D2 := below2 D1 d2
      refine hK.out _ _ (fun _ => HF.out _ D2) ?_
      clear hK K
      try simp only [Act.put, List.setIfInBounds_toArray, List.set_cons_zero, List.set_cons_succ]
      have N := Lib.hid (show g5 ≠ g6 ∧ w.heap.size ≤ g5 ∧ w.heap.size ≤ g6 by have := e5.out; have := e6.out; have := d0.size; have := D1.size; have := z5.out; omega)
      replace y5 := y5.below d2
      clear d1 d2 D1 e5 e6 z5 z6
      refine wpAnyG_oneL (i := 8) (by kernel_rfl) rfl (fun K hK => ?_)
      refine step_putN (formC b) rfl 71 (.tmp 5) (.tmp 13) rfl g5 71 _ rfl rfl y5 sizeF rfl (by simp [formC, Value.oneCell']) ?_
      intro V3 y5' t1 z1
      have D3 := D2.grown t1 D2.size (fun r e => by cases e; exact N.out.2.1)
      replace y6 := y6.keep (Keep.of_grown1 t1) (Ne.symm N.out.1)
      refine hK.out _ _ (fun _ => HF.out _ D3) ?_
      clear hK K
      try simp only [Act.put]
      refine wpAnyG_oneL (i := 9) (by kernel_rfl) rfl (fun K hK => ?_)
      have k6 := y6.cell 0 rfl
      have f6 := y6.free 0
      go_simp
      refine hK.out _ _ (fun h => Bool.noConfusion (show true = false from h)) ?_
      clear hK K
      refine wpAnyG_done (by kernel_rfl) ?_ _
      gi_wp2_with fail
      gi_meet
      exact ⟨g5, g6, rfl, rfl, Lib.hid N.out.2.1, Lib.hid N.out.2.2, y5'.keep (Keep.of_grown1 (grown_setCell V3 g6 0 _)) N.out.1, y6.set 0 _, D3.grown (grown_setCell V3 g6 0 _) D3.size (fun r e => by cases e; exact N.out.2.2)⟩
    refine AllG.cons (i := 7) rfl (fun K hK => ?_) ?_
    · refine step_new #[.string ⟨#[]⟩] 9 rfl ?hr ?_
      case hr => first | (go_simp; done) | (go_simp; rfl)
      intro g6 V1 e6 z6 d1 y6
      have D1 := below2 d0 d1
      refine hK.out _ _ (fun _ => HF.out _ D1) ?_
      clear hK K
      try simp only [Act.put, List.setIfInBounds_toArray, List.set_cons_zero, List.set_cons_succ]
      refine wpAnyG_oneL (i := 6) (by kernel_rfl) rfl (fun K hK => ?_)
      refine step_new #[.int .i64 0, .int .i64 0, .bool false] 71 rfl ?hr ?_
      case hr => first | (go_simp; done) | (go_simp; rfl)
      intro g5 V2 e5 z5 d2 y5
      have D2 := below2 D1 d2
      refine hK.out _ _ (fun _ => HF.out _ D2) ?_
      clear hK K
      try simp only [Act.put, List.setIfInBounds_toArray, List.set_cons_zero, List.set_cons_succ]
      have N := Lib.hid (show g5 ≠ g6 ∧ w.heap.size ≤ g5 ∧ w.heap.size ≤ g6 by have := e5.out; have := e6.out; have := d0.size; have := D1.size; have := z6.out; omega)
      replace y6 := y6.below d2
      clear d1 d2 D1 e5 e6 z5 z6
      refine wpAnyG_oneL (i := 8) (by kernel_rfl) rfl (fun K hK => ?_)
      refine step_putN (formC b) rfl 71 (.tmp 5) (.tmp 13) rfl g5 71 _ rfl rfl y5 sizeF rfl (by simp [formC, Value.oneCell']) ?_
      intro V3 y5' t1 z1
      have D3 := D2.grown t1 D2.size (fun r e => by cases e; exact N.out.2.1)
      replace y6 := y6.keep (Keep.of_grown1 t1) (Ne.symm N.out.1)
      refine hK.out _ _ (fun _ => HF.out _ D3) ?_
      clear hK K
      try simp only [Act.put]
      refine wpAnyG_oneL (i := 9) (by kernel_rfl) rfl (fun K hK => ?_)
      have k6 := y6.cell 0 rfl
      have f6 := y6.free 0
      go_simp
      refine hK.out _ _ (fun h => Bool.noConfusion (show true = false from h)) ?_
      clear hK K
      refine wpAnyG_done (by kernel_rfl) ?_ _
      gi_wp2_with fail
      gi_meet
      exact ⟨g5, g6, rfl, rfl, Lib.hid N.out.2.1, Lib.hid N.out.2.2, y5'.keep (Keep.of_grown1 (grown_setCell V3 g6 0 _)) N.out.1, y6.set 0 _, D3.grown (grown_setCell V3 g6 0 _) D3.size (fun r e => by cases e; exact N.out.2.2)⟩
    exact AllG.nil
  case rest =>
    obtain ⟨g5, g6, rfl, rfl, l5, l6, y5, y6, hbc⟩ := hcut
    obtain ⟨g7, hg7⟩ : ∃ g7, wc.heap.size = g7 := ⟨_, rfl⟩
    have hba := below_alloc (Below.refl wc.heap.size wc) (.cells #[.int .i64 0] 3)
    have z5 := y5.below hba
    have z6 := y6.below hba
    have z7 : Blk (wc.alloc (.cells #[.int .i64 0] 3)) g7 #[.int .i64 0] 3 := by rw [← hg7]; exact heap_alloc_new wc _
    have k0 := z5.cell 0 rfl
    have k1 := z5.cell 1 rfl
    have k2 := z5.cell 2 rfl
    have HL := Lib.hid (show g5 < g7 ∧ g6 < g7 ∧ w.heap.size ≤ g7 from ⟨by have := y5.lt; omega, by have := y6.lt; omega, by have := hbc.size; omega⟩)
    have hbw := below2 hbc hba
    gi_wp2_with (refine ⟨trivial, ?_⟩; gi_at_call 64; refine (callsIn_wide.2 (groups_any A c l.length b _)).mono ?_; rintro e W3 ⟨h1, h2, rfl, e1, e2, e3, bF, bS, b3⟩)
    have he1 := e1.out
    have he2 := e2.out
    have he3 := e3.out
    simp only [World.size_alloc, hg7] at he1
    have hI0 : CkS w b g5 g6 g7 (lstB b l ([] : List Nat).length).length W3 := ⟨z5.below b3, z6.below b3, z7.below b3, below2 hbw b3⟩
    have hS3 := hS.below hI0.low
    have HN := Lib.hid (show g7 + 1 = h1 ∧ h1 + 1 = h2 ∧ W3.heap.size = h2 + 1 from ⟨by omega, by omega, by omega⟩)
    have HS := Lib.hid hS
    have HD := Lib.hid (show l.length % dimB b = 0 from hf)
    have HQQ := Lib.hid hq
    have q1 : h1 < W3.heap.size := by omega
    have q2 : h2 < W3.heap.size := by omega
    have q3 : g7 < W3.heap.size := by omega
    clear e1 e2 e3 he1 he2 he3 z5 z6 z7 k0 k1 k2 hba hbc y5 y6 l5 l6 hbw hg7 b3 hf hq hS
    refine range_next rfl (by decide) (gf := 84) (lb := #[.pointer (some ⟨h1, 0, none⟩), .pointer (some ⟨h2, 0, none⟩)]) rfl trivial (enters_of Tryd.func84 (by kernel_rfl) rfl)
      (groups1_yields h1 h2 b A c l W3 (fun x => x = h1 ∨ x = h2) hS3 bF bS (.inl rfl) (.inr rfl) 8 (by decide) (by omega)) (fun r h => h.elim) (fun r h => by omega) (Below.refl _ _) (fun _ => rfl)
      (fun pre W => CkS w b g5 g6 g7 (lstB b l pre.length).length W) (fun _ _ _ => False) ?hI (fun _ _ _ _ _ h _ _ => h) hI0
      (fun x a' W => a' = { tmps := (.int .i64 (b : Int) :: .slice A l.length c :: undef :: undef :: .int .i64 0 :: .pointer (some ⟨g5, 0, none⟩) :: .pointer (some ⟨g6, 0, none⟩) :: .pointer (some ⟨g7, 0, none⟩) :: grpV A (dimB b) x :: undef :: undef :: u11 :: u12 :: u13 :: u14 :: u15 :: u16 :: .agg (formC b) :: .slice A l.length c :: .func (.func 84) #[] #[.pointer (some ⟨h1, 0, none⟩), .pointer (some ⟨h2, 0, none⟩)] :: grpV A (dimB b) x :: u21 :: u22 :: u23 :: u24 :: u25 :: u26 :: u27 :: u28 :: u29 :: u30 :: u31 :: u32 :: u33 :: u34 :: u35 :: u36 :: u37 :: u38 :: u39 :: u40 :: u41 :: u42 :: u43 :: u44 :: u45 :: []).toArray, defers := [] })
      (fun _ _ _ _ _ _ h _ _ => h) ?assign ?body ?done (fun _ _ _ _ _ _ h _ => h.elim)
    case hI =>
      rintro s X Y row hs hg hr
      have hO : Other X row := fun r e => by
        rcases hr r e with h | ⟨_, x, hx, hc⟩
        · exact h.elim
        · exact ⟨x, hx, hc⟩
      refine ⟨hs.frm.firm hg hO, hs.txt.firm hg hO, hs.cnt.firm hg hO, below_grown hs.low hs.low.size hg (fun k e => ?_)⟩
      rcases hr k e with h | ⟨h, _⟩
      · exact h.elim
      · have := HN.out; have := HL.out; omega
    case assign =>
      intro r pre x W K hi _ hK
      gi_wp2
      exact hK _ _ (KeepsOthers.refl _ |>.from _) (Keep.refl _ _) hi rfl
    case body =>
      rintro r pre j a' W hs rfl ⟨hj, hpre⟩
      have hpl : pre.length = j := by rw [hpre, List.length_range]
      rw [hpl] at hs
      have hle := grp_in hj
      obtain ⟨ad, rfl, _⟩ := rd_int (HS.out.below hs.low) (j * dimB b) (by have := dimB_pos b; omega)
      have HR := Lib.hid (grp_ri HS.out (dimB b) j hle)
      have HJ := Lib.hid (show (lstB b l (pre ++ [j]).length).length = (lstB b l j).length + (wrdB b (grpK (dimB b) l j)).length + ((grpK (dimB b) l j).flatMap (besB b)).length by rw [List.length_append, hpl]; show (lstB b l (j + 1)).length = _; rw [lstB_succ]; unfold grpB; simp only [List.length_append]; omega)
      have HQG := Lib.hid (show ∀ v ∈ grpK (dimB b) l j, -1023 ≤ v ∧ v ≤ 1023 from grpK_quant HQQ.out _ _)
      have HGL := Lib.hid (grpK_length (dimB b) l j hle)
      have k5a := hs.frm.cell 0 rfl
      have k5b := hs.frm.cell 1 rfl
      have k5c := hs.frm.cell 2 rfl
      have k6 := hs.txt.cell 0 rfl
      have HW := Lib.hid hs
      have hgv : grpV (some ad) (dimB b) j = .slice (some (ad.add (j * dimB b))) (dimB b) (dimB b) := rfl
      simp only [hgv]
      clear hs hpre hle hpl hgv
      obtain ⟨n0, hn0⟩ : ∃ n0, (lstB b l j).length = n0 := ⟨_, rfl⟩
      obtain ⟨G, hG0⟩ : ∃ G, grpK (dimB b) l j = G := ⟨_, rfl⟩
      have HN0 := Lib.hid (show n0 ≤ 1000000000 by rw [← hn0]; have h1 := lstB_len b l hb8 HQQ.out j; have h2 : j ≤ l.length := (by have := Nat.div_le_self l.length (dimB b); omega); omega)
      rw [hn0] at HW HJ
      rw [hG0] at HR HJ HGL HQG
      clear hn0 hG0 hj
      gi_upto_if 22 with fail
      gi_cut [] from 22 (fun wx => CkS w b g5 g6 g7 (n0 + (wrdB b G).length) wx ∧ Upd (fun x => x = g7) W wx)
      case first =>
        have hem := txtK_empty b hb8
        by_cases hb0 : b = 0
        · subst hb0
          rw [decide_eq_true rfl] at hem
          gi_wp2_with fail
          all_goals first | (gi_meet; exact ⟨HW.out, Upd.refl _ _⟩) | (rename_i hx; simp [hem] at hx)
        · rw [decide_eq_false hb0] at hem
          have hG4 : G.length ≤ 4 := by have := HGL.out; have := dimB_pos b; omega
          have hsy := sym_in b G HGL.out
          have htl := tabK_length b (by omega) hb8
          have htb := tab_bound b (by omega) hb8 hsy
          have HX := Lib.hid (show (wrdB b G).length = nth 0 (tabK b) (symG b G) by unfold wrdB; rw [if_neg hb0, numB_length, tabK_lenOf b (by omega) hb8 hsy])
          have HTX := Lib.hid (txtK_at b (symG b G) hb8 (by rw [htl]; exact hsy))
          have HCS := Lib.hid (fun W' (hb' : Below w.heap.size w W') (hr : RI W' (some (ad.add (j * dimB b))) (dimB b) G) => symbolOf_any (some (ad.add (j * dimB b))) (dimB b) b G W' hr (fun v hv => HQG.out v hv) hG4)
          rw [HGL.out] at HCS
          have k7 := HW.out.cnt.cell 0 rfl
          obtain ⟨s, hs⟩ : ∃ s, symG b G = s := ⟨_, rfl⟩
          rw [hs] at HX HTX HCS htb hsy
          obtain ⟨y, hy⟩ : ∃ y, nth 0 (tabK b) s = y := ⟨_, rfl⟩
          rw [hy] at HX HTX htb
          have hsz : s < (txtK b).size := by rw [txtK_size, htl]; exact hsy
          clear hs hy htl hsy
          gi_upto_region 6 with fail
          rotate_left
          · exfalso; rename_i hx; rw [hem] at hx; cases hx
          have hd := (Below.refl W.heap.size W).drew
          have hz := HW.out.low.size
          have HF := Lib.hid (show ∀ W' : World, Below W.heap.size W W' → (W'.cell? ⟨g7, 0, none⟩ = some (.int .i64 (n0 : Int)) ∧ W'.cell? ⟨g6, 0, none⟩ = some (.string (txtK b)) ∧ W'.cell? ⟨g5, 0, none⟩ = some (.int .i64 (dimB b)) ∧ W'.cell? ⟨g5, 1, none⟩ = some (.int .i64 (mostB b)) ∧ W'.cell? ⟨g5, 2, none⟩ = some (.bool (escB b))) from fun W' hb => ⟨(HW.out.cnt.below hb).cell 0 rfl, (HW.out.txt.below hb).cell 0 rfl, (HW.out.frm.below hb).cell 0 rfl, (HW.out.frm.below hb).cell 1 rfl, (HW.out.frm.below hb).cell 2 rfl⟩)
          have hbt : ((txtK b)[s].toNat : Int) = (y : Int) + 96 := by
            have h := HTX.out
            rw [List.getD_eq_getElem?_getD, List.getElem?_eq_getElem (by rw [Array.length_toList]; exact hsz)] at h
            have h2 : (txtK b)[s] = (txtK b).data.toList[s]'(by rw [Array.length_toList]; exact hsz) := by simp [ByteArray.getElem_eq_getElem_data]
            rw [h2]
            simp only [Option.getD_some] at h
            rw [h]; rfl
          have hw1 : IntKind.u8.wrap ((y : Int) + 96 - 97) = ((y - 1 : Nat) : Int) := by
            have e : (y : Int) + 96 - 97 = ((y - 1 : Nat) : Int) := by omega
            rw [e]
            show ((y - 1 : Nat) : Int) % 256 = _
            omega
          have hw2 : IntKind.i64.wrap ((y - 1 : Nat) : Int) = ((y - 1 : Nat) : Int) := IntWalk.i64_in _ (by omega)
          have hw3 : IntKind.i64.wrap (((y - 1 : Nat) : Int) + 1) = (y : Int) := by rw [IntWalk.i64_in _ (by omega)]; omega
          have hw4 : IntKind.i64.wrap ((n0 : Int) + (y : Int)) = (n0 : Int) + (y : Int) := IntWalk.i64_in _ (by have := HN0.out; omega)
          clear k5a k5b k5c k6 k7
          refine wpIn_region_G 10 (fun W' => W'.cell? ⟨g7, 0, none⟩ = some (.int .i64 (n0 : Int)) ∧ W'.cell? ⟨g6, 0, none⟩ = some (.string (txtK b)) ∧ W'.cell? ⟨g5, 0, none⟩ = some (.int .i64 (dimB b)) ∧ W'.cell? ⟨g5, 1, none⟩ = some (.int .i64 (mostB b)) ∧ W'.cell? ⟨g5, 2, none⟩ = some (.bool (escB b))) (by kernel_rfl) (by kernel_rfl) (fun ⟨_, _, h⟩ => h) (HF.out _ hd) (fun hHeld => ?_)
          refine wpAnyG_takeL (i := 0) (.int .i64 (n0 : Int)) [10] rfl (by kernel_rfl) (fun _ _ _ h => h) hHeld (by rfl) ?_ ?_
          · (intro W' hSw; (try dsimp only at hSw); go_simp)
          try simp only [Act.put, List.setIfInBounds_toArray, List.set_cons_zero, List.set_cons_succ]
          refine wpAnyG_takeL (i := 1) (.string (txtK b)) [10] rfl (by kernel_rfl) (fun _ _ _ h => h) hHeld (by rfl) ?_ ?_
          · (intro W' hSw; (try dsimp only at hSw); go_simp)
          try simp only [Act.put, List.setIfInBounds_toArray, List.set_cons_zero, List.set_cons_succ]
          refine wpAnyG_takeL (i := 2) (.agg (formC b)) [10] rfl (by kernel_rfl) (fun _ _ _ h => h) hHeld (by rfl) ?_ ?_
          · (intro W' hSw; (try dsimp only at hSw); go_simp)
          try simp only [Act.put, List.setIfInBounds_toArray, List.set_cons_zero, List.set_cons_succ]
          refine wpAnyG_takeL (i := 3) (.slice (some (ad.add (j * dimB b))) (dimB b) (dimB b)) [10] rfl (by kernel_rfl) (fun _ _ _ h => h) hHeld (by rfl) ?_ ?_
          · (intro W' hSw; rfl)
          try simp only [Act.put, List.setIfInBounds_toArray, List.set_cons_zero, List.set_cons_succ]
          refine wpAnyG_oneL (i := 4) (by kernel_rfl) rfl (fun K hK => ?_)
          (go_simp; go_at_call 65; refine (HCS.out _ (HW.out.low.trans (hd.mono hz)) (HR.out.below (HW.out.low.trans (hd.mono hz)))).mono ?_; rintro e W9 ⟨rfl, b9⟩)
          refine hK.out _ _ (fun _ => (HF.out _ (below2 hd b9))) ?_
          clear hK K
          try simp only [Act.put, List.setIfInBounds_toArray, List.set_cons_zero, List.set_cons_succ]
          clear hHeld
          have hHeld := HF.out _ (below2 hd b9)
          refine wpAnyG_takeL (i := 5) (.int .u8 ((y + 96 : Nat) : Int)) [10] rfl (by kernel_rfl) (fun _ _ _ h => h) hHeld (by rfl) ?_ ?_
          · (intro W' hSw; (try dsimp only at hSw); go_simp)
          try simp only [Act.put, List.setIfInBounds_toArray, List.set_cons_zero, List.set_cons_succ]
          refine wpAnyG_takeL (i := 6) (.int .u8 ((y - 1 : Nat) : Int)) [10] rfl (by kernel_rfl) (fun _ _ _ h => h) hHeld (by rfl) ?_ ?_
          · (intro W' hSw; (try dsimp only at hSw); go_simp)
          try simp only [Act.put, List.setIfInBounds_toArray, List.set_cons_zero, List.set_cons_succ]
          refine wpAnyG_takeL (i := 7) (.int .i64 ((y - 1 : Nat) : Int)) [10] rfl (by kernel_rfl) (fun _ _ _ h => h) hHeld (by rfl) ?_ ?_
          · (intro W' hSw; (try dsimp only at hSw); go_simp)
          try simp only [Act.put, List.setIfInBounds_toArray, List.set_cons_zero, List.set_cons_succ]
          refine wpAnyG_takeL (i := 8) (.int .i64 (y : Int)) [10] rfl (by kernel_rfl) (fun _ _ _ h => h) hHeld (by rfl) ?_ ?_
          · (intro W' hSw; (try dsimp only at hSw); go_simp)
          try simp only [Act.put, List.setIfInBounds_toArray, List.set_cons_zero, List.set_cons_succ]
          refine wpAnyG_takeL (i := 9) (.int .i64 ((n0 + y : Nat) : Int)) [10] rfl (by kernel_rfl) (fun _ _ _ h => h) hHeld (by rfl) ?_ ?_
          · (intro W' hSw; (try dsimp only at hSw); go_simp)
          try simp only [Act.put, List.setIfInBounds_toArray, List.set_cons_zero, List.set_cons_succ]
          have k7 := hHeld.1
          have f7 := (HW.out.cnt.below (below2 hd b9)).free 0
          refine wpAnyG_oneL (i := 10) (by kernel_rfl) rfl (fun K hK => ?_)
          go_simp
          refine hK.out _ _ (fun h => Bool.noConfusion (show true = false from h)) ?_
          clear hK K
          refine wpAnyG_done (by kernel_rfl) ?_ _
          gi_wp2_with fail
          gi_meet
          rw [HX.out]
          exact (HW.out.step (below2 hd b9) HL.out.1 HL.out.2.1 HL.out.2.2 y _ (by omega))
      case rest =>
        have HCC := Lib.hid hcut.1
        have HUU := Lib.hid hcut.2
        clear hcut k5a k5b k5c k6 HW
        obtain ⟨n1, hn1⟩ : ∃ n1, n0 + (wrdB b G).length = n1 := ⟨_, rfl⟩
        rw [hn1] at HCC HJ
        have HN1 := Lib.hid (show n1 ≤ 1000000100 by have := HN0.out; have := wrdB_len b G hb8; omega)
        have HSUC := Lib.hid (show ∀ k, k < G.length → ((G.take (k + 1)).flatMap (besB b)).length = ((G.take k).flatMap (besB b)).length + (besB b (nth 0 G k)).length from fun k h => by rw [take_succ_nth 0 G k h, List.flatMap_append]; simp)
        have HTK := Lib.hid (show ∀ k, ((G.take k).flatMap (besB b)).length ≤ 88 from fun k => by
          have h1 := bes_len b (G.take k) (fun v hv => HQG.out v (List.mem_of_mem_take hv))
          have h2 : (G.take k).length ≤ G.length := by rw [List.length_take]; omega
          have h3 := HGL.out
          have h4 := (dimB_pos b).2
          omega)
        have HTL := Lib.hid (show ∀ k, k < G.length → -1023 ≤ nth 0 G k ∧ nth 0 G k ≤ 1023 from fun k h => HQG.out _ (nth_mem 0 G k h))
        have HFULL := Lib.hid (show G.take (dimB b) = G from List.take_of_length_le (by have := HGL.out; omega))
        clear hn1
        gi_wp2
        gi_loopw [10, 35] (fun xv iv wr => ∃ k : Nat, k ≤ dimB b ∧ iv = .int .i64 (k : Int) ∧ Hid (CkS w b g5 g6 g7 (n1 + ((G.take k).flatMap (besB b)).length) wr) ∧ Hid (Upd (fun x => x = g7) W wr)) (fun _ iv _ => dimB b - (intOf iv).toNat)
        case atStart => exact ⟨0, Nat.zero_le _, rfl, HCC, HUU⟩
        case round =>
          clear HCC HUU
          obtain ⟨k, hk, rfl, hC, hU⟩ := hrel
          by_cases hlt : k < dimB b
          · obtain ⟨ad2, e2, hc⟩ := rd_int (HR.out.below hC.out.low) k (by have := HGL.out; omega)
            cases e2
            have hki : (k : Int) < (dimB b : Int) := by omega
            have hwk : IntKind.i64.wrap ((k : Int) + 1) = (k : Int) + 1 := IntWalk.i64_in _ (by have := dimB_pos b; omega)
            have HS1 := Lib.hid (HSUC.out k (by have := HGL.out; omega))
            have hx := HTL.out k (by have := HGL.out; omega)
            generalize nth 0 G k = x at hc HS1 hx
            obtain ⟨m, hm⟩ : ∃ m, ((G.take k).flatMap (besB b)).length = m := ⟨_, rfl⟩
            have hmb := HTK.out k
            rw [hm] at hC HS1 hmb
            have hm2 := HTK.out (k + 1)
            rw [HS1.out] at hm2
            have HB := Lib.hid (fun W' => beside_any b x W' hx)
            obtain ⟨y, hy⟩ : ∃ y, (besB b x).length = y := ⟨_, rfl⟩
            rw [hy] at HB HS1 hm2
            have hw4 : IntKind.i64.wrap (((n1 + m : Nat) : Int) + (y : Int)) = ((n1 + m + y : Nat) : Int) := by rw [IntWalk.i64_in _ (by have := HN1.out; omega)]; omega
            obtain ⟨n2, hn2⟩ : ∃ n2, n1 + m = n2 := ⟨_, rfl⟩
            rw [hn2] at hC hw4
            have HN2 := Lib.hid hn2
            clear hm hmb hm2 hy hn2 hx
            gi_wp2
            have hd := (Below.refl wr.heap.size wr).drew
            have HF := Lib.hid (show ∀ W' : World, Below wr.heap.size wr W' → (W'.cell? ⟨g7, 0, none⟩ = some (.int .i64 (n2 : Int)) ∧ W'.cell? ⟨g5, 0, none⟩ = some (.int .i64 (dimB b)) ∧ W'.cell? ⟨g5, 1, none⟩ = some (.int .i64 (mostB b)) ∧ W'.cell? ⟨g5, 2, none⟩ = some (.bool (escB b))) from fun W' hb => ⟨(hC.out.cnt.below hb).cell 0 rfl, (hC.out.frm.below hb).cell 0 rfl, (hC.out.frm.below hb).cell 1 rfl, (hC.out.frm.below hb).cell 2 rfl⟩)
            refine wpIn_region_G 5 (fun W' => W'.cell? ⟨g7, 0, none⟩ = some (.int .i64 (n2 : Int)) ∧ W'.cell? ⟨g5, 0, none⟩ = some (.int .i64 (dimB b)) ∧ W'.cell? ⟨g5, 1, none⟩ = some (.int .i64 (mostB b)) ∧ W'.cell? ⟨g5, 2, none⟩ = some (.bool (escB b))) (by kernel_rfl) (by kernel_rfl) (fun ⟨_, _, h⟩ => h) (HF.out _ hd) (fun hHeld => ?_)
            refine wpAnyG_takeL (i := 0) (.int .i64 (n2 : Int)) [5] rfl (by kernel_rfl) (fun _ _ _ h => h) hHeld (by rfl) ?_ ?_
            · (intro W' hSw; (try dsimp only at hSw); go_simp)
            try simp only [Act.put, List.setIfInBounds_toArray, List.set_cons_zero, List.set_cons_succ]
            refine wpAnyG_takeL (i := 1) (.agg (formC b)) [5] rfl (by kernel_rfl) (fun _ _ _ h => h) hHeld (by rfl) ?_ ?_
            · (intro W' hSw; (try dsimp only at hSw); go_simp)
            try simp only [Act.put, List.setIfInBounds_toArray, List.set_cons_zero, List.set_cons_succ]
            refine wpAnyG_takeL (i := 2) (.int .i64 x) [5] rfl (by kernel_rfl) (fun _ _ _ h => h) hHeld (by rfl) ?_ ?_
            · (intro W' hSw; (try dsimp only at hSw); go_simp)
            try simp only [Act.put, List.setIfInBounds_toArray, List.set_cons_zero, List.set_cons_succ]
            refine wpAnyG_oneL (i := 3) (by kernel_rfl) rfl (fun K hK => ?_)
            (go_simp; go_at_call 73; refine (HB.out _).mono ?_; rintro e W9 ⟨rfl, b9⟩)
            refine hK.out _ _ (fun _ => (HF.out _ (below2 hd b9))) ?_
            clear hK K
            try simp only [Act.put, List.setIfInBounds_toArray, List.set_cons_zero, List.set_cons_succ]
            clear hHeld
            have hHeld := HF.out _ (below2 hd b9)
            refine wpAnyG_takeL (i := 4) (.int .i64 ((n2 + y : Nat) : Int)) [5] rfl (by kernel_rfl) (fun _ _ _ h => h) hHeld (by rfl) ?_ ?_
            · (intro W' hSw; (try dsimp only at hSw); go_simp)
            try simp only [Act.put, List.setIfInBounds_toArray, List.set_cons_zero, List.set_cons_succ]
            have k7 := hHeld.1
            have f7 := (hC.out.cnt.below (below2 hd b9)).free 0
            refine wpAnyG_oneL (i := 5) (by kernel_rfl) rfl (fun K hK => ?_)
            go_simp
            refine hK.out _ _ (fun h => Bool.noConfusion (show true = false from h)) ?_
            clear hK K
            refine wpAnyG_done (by kernel_rfl) ?_ _
            gi_wp2
            go_roundw
            case rel =>
              obtain ⟨h1, h2⟩ := hC.out.step (below2 hd b9) HL.out.1 HL.out.2.1 HL.out.2.2 y _ rfl
              refine ⟨k + 1, by omega, by go_num, Lib.hid ?_, Lib.hid ?_⟩
              · rw [HS1.out, ← Nat.add_assoc, HN2.out]; exact h1
              · exact hU.out.trans h2 fun _ _ h => h
            case measure => simp [intOf]; omega
          · obtain rfl : k = dimB b := by omega
            rw [HFULL.out] at hC
            gi_wp2
            refine ⟨keepsU hU.out (fun x _ e => by omega), hU.out.keep (fun i hi e => by have := HN.out; omega), ?_⟩
            show CkS w b g5 g6 g7 (lstB b l (pre ++ [j]).length).length wr
            rw [HJ.out]
            exact hC.out
    case done =>
      rintro D xs W hD rfl hs hK
      have k7 := hs.cnt.cell 0 rfl
      gi_wp2
      refine ⟨by simp, .inl ⟨_, _, rfl, run_takeDeferred hK, ?_⟩⟩
      refine ⟨_, results_tmp rfl _ _ _, by rw [List.length_range] at *; rfl, ?_⟩
      exact below_grown hs.low hs.low.size (grownBy_putObj' W D _) (fun k e => by cases e; have := HN.out; have := HL.out; omega)
end Go.Proofs.YtciknejchglmoaaDoor

namespace Go.Proofs.YtciknejchglmoaaDoor
open Go.RowKit

/-- What a list costs in a book, or the error. -/
def bkC (n : Int) (l : List Int) : Int × Int := if checkedK n l ≠ 0 then (0, checkedK n l) else if fitB n.toNat l = false then (0, 4) else (((rowK n.toNat l).length : Nat), 0)
theorem fitB_mod {b : Nat} {l : List Int} (h : fitB b l = true) : l.length % dimB b = 0 := by
  unfold fitB at h
  rw [Bool.and_eq_true] at h
  exact of_decide_eq_true h.2

set_option maxHeartbeats 1000000 in
theorem bCost_any (A : Option Addr) (c : Nat) (n : Int) (l : List Int) (w : World) (hS : RI w A c l) (hG : GF w) (hT : GT w) (hlm : l.length ≤ 1000000) :
    Calls Tryd.prog 19 #[.int .i64 n, .slice A l.length c] w fun e w' => e = .returned (.tuple #[.int .i64 (bkC n l).1, .int .i64 (bkC n l).2]) ∧ Below w.heap.size w w' := by
  have HC := Lib.hid (checked17_any A c n l w hS)
  by_cases h : checkedK n l = 0
  · obtain ⟨b, rfl, h8, hq⟩ := checkedK_ok h
    have HV := Lib.hid (show bkC (b : Int) l = if fitB b l = false then ((0 : Int), (4 : Int)) else (((rowK b l).length : Int), 0) by unfold bkC; rw [if_neg (by simp [h])]; rfl)
    rw [h] at HC
    have c0 := hG.dim b h8
    have c1 := hG.most b h8
    have c2 := hG.esc b h8
    have hb8 : (b : Int) < 8 := by omega
    have HF := Lib.hid (fun W (hW : RI W A c l) => fits_any A c b l W hW hq)
    have HK := Lib.hid (fun W (hb : Below w.heap.size w W) (hf : fitB b l = true) => bcost_any A c b l W (hS.below hb) (hG.below hb) (hT.below hb) h8 hq (fitB_mod hf) hlm)
    have HS := Lib.hid hS
    clear h hq hS hG hT
    cases hf : fitB b l
    · rw [hf] at HV HF
      go_enter Tryd.func19, Tryd.ntmps19
      go_wp2_with (first | (go_at_call 46; refine HC.out.mono ?_; rintro e w2 ⟨rfl, rfl⟩) | (go_at_call 47; refine (HF.out _ HS.out).mono ?_; rintro e w3 ⟨rfl, b3⟩))
      go_ret2
      exact ⟨by rw [HV.out]; rfl, b3⟩
    · rw [hf] at HV HF
      have HK2 := Lib.hid (fun W hb => HK.out W hb hf)
      generalize rowK b l = R at *
      clear hf
      go_enter Tryd.func19, Tryd.ntmps19
      go_wp2_with (first | (go_at_call 46; refine HC.out.mono ?_; rintro e w2 ⟨rfl, rfl⟩) | (go_at_call 47; refine (HF.out _ HS.out).mono ?_; rintro e w3 ⟨rfl, b3⟩) | (go_at_call 50; refine (HK2.out _ b3).mono ?_; rintro e w4 ⟨rfl, b4⟩))
      go_ret2
      exact ⟨by rw [HV.out]; rfl, below2 b3 b4⟩
  · have HV := Lib.hid (show bkC n l = (0, checkedK n l) by unfold bkC; rw [if_pos h])
    have hne : (checkedK n l == 0) = false := by simp [h]
    generalize checkedK n l = E at *
    clear h
    go_enter Tryd.func19, Tryd.ntmps19
    go_wp2_with (first | (go_at_call 46; refine HC.out.mono ?_; rintro e w2 ⟨rfl, rfl⟩))
    go_ret2
    exact ⟨by rw [HV.out]; rfl, Below.refl _ _⟩

theorem best1_any (x1 y1 x2 y2 : Int) (w : World) :
    Calls Tryd.prog 54 #[.agg #[.int .i64 x1, .int .i64 y1], .agg #[.int .i64 x2, .int .i64 y2]] w fun e w' => e = .returned (.bool (decide (y1 < y2))) ∧ Below w.heap.size w w' := by
  have hba := below_alloc (below_alloc (Below.refl w.heap.size w) (.cells #[.int .i64 x1, .int .i64 y1] 85)) (.cells #[.int .i64 x2, .int .i64 y2] 85)
  go_enter Tryd.func54, Tryd.ntmps54
  go_wp2
  go_ret
  exact ⟨rfl, hba⟩
end Go.Proofs.YtciknejchglmoaaDoor
