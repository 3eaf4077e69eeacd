/- Items as they read, and merge of two rows of items. · packages of a row of items. · The reference's rows: packages, merged: what each call returns. · The reference's rows: merged: what it returns. · The stable sort of a row of the call's own. · Plain laws: the reference's rows are the program's, each element with its symbol, or the mark of a package. · Plain laws: how heavy and how long what lies in a row is. · Lengths: its coins. (Under way.) · Lengths: what it returns, and how the sum over the rows grows. Plain; no program is named. · Lengths: what it returns. -/
import Derived.Test.YtlbgkkkcbnagbaaKi
import Derived.Test.YtlbgkkkcbnagbaaKb
import Derived.Deep.RegionHeld3
import Derived.Test.YtlbgkkkcbnagbaaKa
namespace Go.Proofs.Ytlbgkkkcbnagbaa
open Go.RowKit Go.Shelf

def symI (l : List Nat) : List Int := l.map Int.ofNat
theorem symI_length (l : List Nat) : (symI l).length = l.length := by simp [symI]
theorem symI_append (a b : List Nat) : symI (a ++ b) = symI a ++ symI b := by simp [symI]
/-- An item: its weight, and its coins' symbols. -/
def kIt : Kd It where
  size := 2
  dflt := (0, [])
  K := fun ok w x cs => ∃ A c, cs = [.int .i64 x.1, .slice A x.2.length c] ∧ Sl (kInt .i64) ok w A c (symI x.2)
  len := fun ⟨_, _, h, _⟩ => by rw [h]; rfl
  keep := fun hk ⟨A, c, h, hr⟩ => ⟨A, c, h, hr.keep hk⟩
  weak := fun hk ⟨A, c, h, hr⟩ => ⟨A, c, h, hr.weak hk⟩
theorem rd_it {ok : Nat → Prop} {w : World} {A : Option Addr} {c : Nat} {xs : List It} (h : Sl kIt ok w A c xs) (j : Nat) (hj : j < xs.length) :
    ∃ ad A' c', A = some ad ∧ w.cell? (ad.add (j * 2)) = some (.int .i64 (nth (0, []) xs j).1) ∧ w.cell? ⟨(ad.add (j * 2)).block, (ad.add (j * 2)).off + 1, none⟩ = some (.slice A' (nth (0, []) xs j).2.length c') ∧ Sl (kInt .i64) ok w A' c' (symI (nth (0, []) xs j).2) := by
  obtain ⟨ad, cs, e, _, _, ⟨A', c', rfl, h1⟩, hc⟩ := h.rd j hj
  have h3 := hc 1 _ rfl
  have h2 := hc 0 _ rfl
  rw [← add_add] at h3
  exact ⟨ad, A', c', e, h2, h3, h1⟩
theorem infoIt : (Try.prog.info? 73).map (fun i => (i.zero, i.size, i.bytes)) = some (some (.agg #[.int .i64 0, .slice none 0 0]), 2, 32) := by kernel_rfl
theorem it_one : ∀ (ok : Nat → Prop) (w : World) (x : It) (cs : List Value), kIt.K ok w x cs → ∀ u ∈ cs, u.oneCell' = true := by
  rintro ok w x cs ⟨A, c, rfl, _⟩ u hu
  simp only [List.mem_cons, List.not_mem_nil, or_false] at hu
  rcases hu with rfl | rfl <;> rfl
theorem Sl.tail {ok : Nat → Prop} {w : World} {A : Option Addr} {c : Nat} {x : It} {xs : List It} (h : Sl kIt ok w A c (x :: xs)) : Sl kIt ok w (A.map fun a => a.add 2) (c - 1) xs := by
  have hr := h.rd.drop 1
  exact ⟨by have := h.le; simp at this; omega, by have := h.cap; omega, by simpa [kIt] using hr⟩

theorem Sl.cutA {ok : Nat → Prop} {w : World} {ad : Addr} {c : Nat} {x : It} {xs : List It} (h : Sl kIt ok w (some ad) c (x :: xs)) {A : Option Addr} (hA : (if c = 1 then some ad else some ⟨ad.block, ad.off + 2, Option.none⟩) = A) : Sl kIt ok w A (c - 1) xs := by
  have ht := h.tail
  by_cases h1 : c = 1
  · have h0 : xs = [] := List.eq_nil_of_length_eq_zero (by have := h.le; simp at this; omega)
    subst h0
    exact ⟨Nat.zero_le _, by have := h.cap; omega, Kd.Rd.nil _ _ _ _⟩
  · rw [if_neg h1] at hA
    subst hA
    exact ht

set_option maxHeartbeats 400000 in
theorem lighter_any (x y : Int) (A B : Option Addr) (n m c d : Nat) (w : World) :
    Calls Try.prog 54 #[.agg #[.int .i64 x, .slice A n c], .agg #[.int .i64 y, .slice B m d]] w fun e w' => e = .returned (.bool (decide (x < y))) ∧ Below w.heap.size w w' := by
  have hb := below_alloc (below_alloc (Below.refl w.heap.size w) (.cells #[.int .i64 x, .slice A n c] 73)) (.cells #[.int .i64 y, .slice B m d] 73)
  have HB := Lib.hid hb
  clear hb
  go_enter Try.func54, Try.ntmps54
  go_wp2
  go_ret
  exact ⟨rfl, HB.out⟩
abbrev lighterF : Value := .func (.func 54) #[] #[]

theorem mergeI_cons (x y : It) (a b : List It) : mergeI (x :: a) (y :: b) = if y.1 < x.1 then y :: mergeI (x :: a) b else x :: mergeI a (y :: b) := by rw [mergeI]
def lenV : Value → Nat
  | .slice _ n _ => n
  | _ => 0
/-- So far. -/
structure MeI (ok : Nat → Prop) (w : World) (a b : List It) (Aa : Option Addr) (ca : Nat) (a1 : List It) (Ab : Option Addr) (cb : Nat) (b1 : List It) (v : Value) (o : List It) (W : World) : Prop where
  own : OwnK kIt 73 w.heap.size (fun b => ok b ∧ b < w.heap.size) W v o
  low : Below w.heap.size w W
  ra : Sl kIt (fun b => ok b ∧ b < w.heap.size) W Aa ca a1
  rb : Sl kIt (fun b => ok b ∧ b < w.heap.size) W Ab cb b1
  run : o ++ mergeI a1 b1 = mergeI a b
  len : o.length + a1.length + b1.length = a.length + b.length

set_option maxHeartbeats 4000000 in
set_option maxRecDepth 100000 in
theorem merge_any (ok : Nat → Prop) (Aa Ab : Option Addr) (ca cb : Nat) (a b : List It) (w : World) (ha : Sl kIt ok w Aa ca a) (hb : Sl kIt ok w Ab cb b) (hl : a.length + b.length ≤ 100000) :
    Calls Try.prog 57 #[.slice Aa a.length ca, .slice Ab b.length cb, lighterF] w
      fun e w' => ∃ v, e = .returned v ∧ OwnK kIt 73 w.heap.size (fun b => ok b ∧ b < w.heap.size) w' v (mergeI a b) ∧ Below w.heap.size w w' := by
  have hI0 : MeI ok w a b Aa ca a Ab cb b (.slice none 0 0) [] w := ⟨OwnK.nil _ _ _ _ _, Below.refl _ _, ha.weak fun b hb h => ⟨h, hb⟩, hb.weak fun b hb h => ⟨h, hb⟩, rfl, by simp⟩
  have HI0 := Lib.hid hI0
  clear ha hb hI0
  go_enter Try.func57, Try.ntmps57
  go_wp2
  go_loopw [0, 1, 7] (fun sa sb so wr => ∃ (Aa : Option Addr) (ca : Nat) (a1 : List It) (Ab : Option Addr) (cb : Nat) (b1 o : List It), sa = .slice Aa a1.length ca ∧ sb = .slice Ab b1.length cb ∧ Hid (MeI ok w a b Aa ca a1 Ab cb b1 so o wr)) (fun sa sb _ _ => lenV sa + lenV sb)
  case atStart => exact ⟨_, _, a, _, _, b, [], rfl, rfl, HI0⟩
  case round =>
    clear HI0
    obtain ⟨Aa, ca, a1, Ab, cb, b1, o, rfl, rfl, hI⟩ := hrel
    by_cases hend : a1 = [] ∨ b1 = []
    · have hi := hI.out
      have hrun : mergeI a b = o ++ a1 ++ b1 := by
        rw [← hi.run]
        rcases hend with h | h
        · subst h; cases b1 <;> simp [mergeI]
        · subst h; rw [mergeI_nil_right]; simp
      have hlen := hi.len
      have HRUN := Lib.hid hrun
      have h1 := hi.low.size
      have hdd : (decide (0 < a1.length) = false) ∨ (decide (0 < a1.length) = true ∧ decide (0 < b1.length) = false) := by
        rcases Nat.eq_zero_or_pos a1.length with h | h
        · exact .inl (decide_eq_false (by omega))
        · rcases hend with h2 | h2
          · subst h2; simp at h
          · exact .inr ⟨decide_eq_true h, by subst h2; rfl⟩
      have HEND := Lib.hid hend
      clear hi hrun hend
      have hfin : ∀ v2 w2, OwnK kIt 73 w.heap.size (fun b => ok b ∧ b < w.heap.size) w2 v2 (o ++ a1 ++ b1) → Below w.heap.size w w2 → ∃ v, Ending.returned v2 = .returned v ∧ OwnK kIt 73 w.heap.size (fun b => ok b ∧ b < w.heap.size) w2 v (mergeI a b) ∧ Below w.heap.size w w2 := fun v2 w2 h2 hb2 => ⟨v2, rfl, by rw [HRUN.out]; exact h2, hb2⟩
      have HFIN := Lib.hid hfin
      clear hfin
      rcases hdd with hd | ⟨hd, hd2⟩
      all_goals
        go_wp2_with (first
          | (at_builtin; (refine append_ks (W := wr) (k := kIt) w.heap.size rfl (.tmp 40) (.tmp 41) 71 73 (.agg #[.int .i64 0, .slice none 0 0]) 32 (fun b => ok b ∧ b < w.heap.size) rfl Try.underlying71 infoIt rfl (by decide) (by decide) it_one u7 o a1 Aa ca rfl rfl hI.out.own (hI.out.ra.weak fun b _ hb => ⟨hb, fun h => by have := hI.out.own.base_le b h; omega⟩) (by omega) (by omega) ?_); intro v2 w2 hO2 hg2 ha2; have HO2 := Lib.hid hO2; have HK2 := Lib.hid ((Keep.of_grown hg2).weak (ok' := fun b => ok b ∧ b < w.heap.size) fun b hb e => by have := hI.out.own.base_le b e.symm; omega); have HB2 := Lib.hid (hI.out.low.grown hg2 (by omega) hI.out.own.base_le); have hz2 := hg2.size; clear hO2 hg2 ha2)
          | (at_builtin; (refine append_ks (W := w2) (k := kIt) w.heap.size rfl (.tmp 42) (.tmp 43) 71 73 (.agg #[.int .i64 0, .slice none 0 0]) 32 (fun b => ok b ∧ b < w.heap.size) rfl Try.underlying71 infoIt rfl (by decide) (by decide) it_one v2 (o ++ a1) b1 Ab cb rfl rfl HO2.out ((hI.out.rb.keep HK2.out).weak fun b _ hb => ⟨hb, fun h => by have := HO2.out.base_le b h; omega⟩) (by omega) (by simp; omega) ?_); intro v4 w4 hO4 hg4 ha4; have HO4 := Lib.hid hO4; have HB4 := Lib.hid (HB2.out.grown hg4 (by omega) HO2.out.base_le); clear hO4 hg4 ha4))
        go_ret
        exact HFIN.out _ _ HO4.out HB4.out
    · obtain ⟨x, a1, rfl⟩ := List.exists_cons_of_ne_nil (fun h => hend (.inl h))
      obtain ⟨y, b1, rfl⟩ := List.exists_cons_of_ne_nil (fun h => hend (.inr h))
      have hi := hI.out
      obtain ⟨ada, Ax, cx, rfl, x0, x1, hx⟩ := rd_it hi.ra 0 (by simp)
      obtain ⟨adb, Ay, cy, rfl, y0, y1, hy⟩ := rd_it hi.rb 0 (by simp)
      simp only [Nat.zero_mul, add_zero] at x0 x1 y0 y1
      obtain ⟨xw, xs⟩ := x
      obtain ⟨yw, ys⟩ := y
      have hx0 : nth ((0, []) : It) ((xw, xs) :: a1) 0 = (xw, xs) := rfl
      have hy0 : nth ((0, []) : It) ((yw, ys) :: b1) 0 = (yw, ys) := rfl
      rw [hx0] at x0 x1 hx
      rw [hy0] at y0 y1 hy
      have hla : ((xw, xs) :: a1).length ≤ ca := hi.ra.le
      have hlb : ((yw, ys) :: b1).length ≤ cb := hi.rb.le
      simp only [List.length_cons] at hla hlb ⊢
      have HX := Lib.hid hx
      have HY := Lib.hid hy
      have HC := Lib.hid (fun W => lighter_any yw xw Ay Ax ys.length xs.length cy cx W)
      clear hi hx hy hx0 hy0
      by_cases hlt : yw < xw
      · have hd : decide (yw < xw) = true := decide_eq_true hlt
        have HLT := Lib.hid hlt
        clear hlt
        go_wp2
        go_still_tail 7, (by kernel_rfl)
        change wpList _ _ _ _ _ (World.drew _)
        have HDR := Lib.hid ((Below.refl wr.heap.size wr).drew)
        go_wp2_with (go_at_call 54; refine (HC.out _).mono ?_; rintro e w3 ⟨rfl, b3⟩; have HB3 := Lib.hid (below2 HDR.out b3); clear b3)
        have hi := hI.out
        have hO3 := hi.own.below HB3.out
        have hb3 := HB3.out
        have hy1 := cell_below hb3 y1
        replace y0 := cell_below hb3 y0
        clear y1 x0 x1
        have hsz := hb3.size
        have hbz := hi.low.size
        have HO3 := Lib.hid hO3
        have HZ3 := Lib.hid (HY.out.below hb3)
        obtain ⟨At, hAt⟩ : ∃ A, (if cb = 1 then some adb else some (⟨adb.block, adb.off + 2, none⟩ : Addr)) = A := ⟨_, rfl⟩
        have HAT := Lib.hid hAt
        have h1le : (1 : Int) ≤ (b1.length : Int) + 1 := by omega
        clear hi hb3 hO3
        go_region_law ((refine step_append_k (W := w3.drew) (k := kIt) w.heap.size ?a1 (.tmp 24) (.tmp 28) 71 73 (.agg #[.int .i64 0, .slice none 0 0]) 32 (fun b => ok b ∧ b < w.heap.size) ?a2 Try.underlying71 infoIt ?a3 ?a4 ?a5 u7 o (yw, ys) [.int .i64 yw, .slice Ay ys.length cy] ?a6 ?a7 ?a8 ?hO ?hx ?hb ?hl ?_); (case a1 => rfl); (case a2 => rfl); (case a3 => rfl); (case a4 => decide); (case a5 => decide); (case a6 => rfl); (case a7 => rfl); (case a8 => rfl); (case hO => exact HO3.out.below (Below.refl _ _).drew); (case hx => exact ⟨Ay, cy, rfl, (HZ3.out.below (Below.refl _ _).drew).weak fun b _ hb => ⟨hb, fun h => by have := HO3.out.base_le b h; omega⟩⟩); (case hb => show _ ≤ w3.heap.size; omega); (case hl => have := hI.out.len; simp at this; omega); intro g6 cap6 w6 hO6 hg6 hb6 ha6; have HO6 := Lib.hid hO6; have HG6 := Lib.hid hg6; clear hO6 hg6 ha6)
        all_goals
          simp only [Act.put, List.getElem_toArray, List.getElem_cons_succ, List.getElem_cons_zero, List.setIfInBounds_toArray, List.set_cons_succ, List.set_cons_zero]
          go_wp2
          go_roundw
          case rel =>
            have hk : Keep (fun b => ok b ∧ b < w.heap.size) w3.drew w6 := (Keep.of_grown HG6.out).weak (ok' := fun b => ok b ∧ b < w.heap.size) fun b hb e => by have := HO3.out.base_le b e.symm; omega
            have hi := hI.out
            have hlow : Below w.heap.size w w6 := (hi.low.trans (HB3.out.mono hbz)).drew.grown HG6.out (show _ ≤ w3.heap.size by omega) HO3.out.base_le
            have hra := ((hi.ra.below HB3.out).below (Below.refl _ _).drew).keep hk
            have hrb := ((hi.rb.below HB3.out).below (Below.refl _ _).drew).keep hk
            have hlen := hi.len
            have hrun := hi.run
            rw [mergeI_cons] at hrun
            rw [if_pos HLT.out] at hrun
            refine ⟨_, _, (xw, xs) :: a1, At, cb - 1, b1, o ++ [(yw, ys)], rfl, rfl, Lib.hid ⟨by simpa using HO6.out, hlow, hra, hrb.cutA HAT.out, by rw [← hrun]; simp, by simp at hlen ⊢; omega⟩⟩
          case measure => show _ < _; simp [lenV]
      · have hd : decide (yw < xw) = false := decide_eq_false hlt
        have HLT := Lib.hid hlt
        clear hlt
        go_wp2
        go_still_tail 7, (by kernel_rfl)
        change wpList _ _ _ _ _ (World.drew _)
        have HDR := Lib.hid ((Below.refl wr.heap.size wr).drew)
        go_wp2_with (go_at_call 54; refine (HC.out _).mono ?_; rintro e w3 ⟨rfl, b3⟩; have HB3 := Lib.hid (below2 HDR.out b3); clear b3)
        have hi := hI.out
        have hO3 := hi.own.below HB3.out
        have hb3 := HB3.out
        have hx1 := cell_below hb3 x1
        replace x0 := cell_below hb3 x0
        clear x1 y0 y1
        have hsz := hb3.size
        have hbz := hi.low.size
        have HO3 := Lib.hid hO3
        have HZ3 := Lib.hid (HX.out.below hb3)
        obtain ⟨At, hAt⟩ : ∃ A, (if ca = 1 then some ada else some (⟨ada.block, ada.off + 2, none⟩ : Addr)) = A := ⟨_, rfl⟩
        have HAT := Lib.hid hAt
        have h1le : (1 : Int) ≤ (a1.length : Int) + 1 := by omega
        clear hi hb3 hO3
        go_region_law ((refine step_append_k (W := w3.drew) (k := kIt) w.heap.size ?a1 (.tmp 32) (.tmp 36) 71 73 (.agg #[.int .i64 0, .slice none 0 0]) 32 (fun b => ok b ∧ b < w.heap.size) ?a2 Try.underlying71 infoIt ?a3 ?a4 ?a5 u7 o (xw, xs) [.int .i64 xw, .slice Ax xs.length cx] ?a6 ?a7 ?a8 ?hO ?hx ?hb ?hl ?_); (case a1 => rfl); (case a2 => rfl); (case a3 => rfl); (case a4 => decide); (case a5 => decide); (case a6 => rfl); (case a7 => rfl); (case a8 => rfl); (case hO => exact HO3.out.below (Below.refl _ _).drew); (case hx => exact ⟨Ax, cx, rfl, (HZ3.out.below (Below.refl _ _).drew).weak fun b _ hb => ⟨hb, fun h => by have := HO3.out.base_le b h; omega⟩⟩); (case hb => show _ ≤ w3.heap.size; omega); (case hl => have := hI.out.len; simp at this; omega); intro g6 cap6 w6 hO6 hg6 hb6 ha6; have HO6 := Lib.hid hO6; have HG6 := Lib.hid hg6; clear hO6 hg6 ha6)
        all_goals
          simp only [Act.put, List.getElem_toArray, List.getElem_cons_succ, List.getElem_cons_zero, List.setIfInBounds_toArray, List.set_cons_succ, List.set_cons_zero]
          go_wp2
          go_roundw
          case rel =>
            have hk : Keep (fun b => ok b ∧ b < w.heap.size) w3.drew w6 := (Keep.of_grown HG6.out).weak (ok' := fun b => ok b ∧ b < w.heap.size) fun b hb e => by have := HO3.out.base_le b e.symm; omega
            have hi := hI.out
            have hlow : Below w.heap.size w w6 := (hi.low.trans (HB3.out.mono hbz)).drew.grown HG6.out (show _ ≤ w3.heap.size by omega) HO3.out.base_le
            have hra := ((hi.ra.below HB3.out).below (Below.refl _ _).drew).keep hk
            have hrb := ((hi.rb.below HB3.out).below (Below.refl _ _).drew).keep hk
            have hlen := hi.len
            have hrun := hi.run
            rw [mergeI_cons] at hrun
            rw [if_neg (show ¬ yw < xw by have := HLT.out; omega)] at hrun
            refine ⟨At, ca - 1, a1, _, _, (yw, ys) :: b1, o ++ [(xw, xs)], rfl, rfl, Lib.hid ⟨by simpa using HO6.out, hlow, hra.cutA HAT.out, hrb, by rw [← hrun]; simp, by simp at hlen ⊢; omega⟩⟩
          case measure => show _ < _; simp [lenV]
end Go.Proofs.Ytlbgkkkcbnagbaa

namespace Go.Proofs.Ytlbgkkkcbnagbaa
open Go.RowKit Go.Shelf

theorem lit_two {ok : Nat → Prop} (W : World) (e : TypeId) {A1 A2 : Option Addr} {c1 c2 n1 n2 : Nat} {xs ys : List Int} (h1 : Sl (kInt .i64) ok W A1 c1 xs) (h2 : Sl (kInt .i64) ok W A2 c2 ys) (e1 : xs.length = n1) (e2 : ys.length = n2) :
    R2 (W.alloc (.cells #[.slice A1 n1 c1, .slice A2 n2 c2] e)) (some ⟨W.heap.size, 0, none⟩) 2 [xs, ys] := by
  subst e1 e2
  have hb := below_alloc (Below.refl W.heap.size W) (.cells #[.slice A1 xs.length c1, .slice A2 ys.length c2] e)
  refine ⟨Nat.le_refl _, by omega, fun j hj => ?_⟩
  match j, hj with
  | 0, _ =>
    refine ⟨_, _, rfl, trivial, by simp, ⟨A1, c1, rfl, (h1.below hb).any⟩, fun i v hv => ?_⟩
    match i, hv with
    | 0, hv => simp at hv; subst hv; simp [kSl, Addr.add, nth]
  | 1, _ =>
    refine ⟨_, _, rfl, trivial, by simp, ⟨A2, c2, rfl, (h2.below hb).any⟩, fun i v hv => ?_⟩
    match i, hv with
    | 0, hv => simp at hv; subst hv; simp [kSl, Addr.add, nth]
theorem pairsI_nil_short {row : List It} {k : Nat} (h : row.length ≤ 2 * k + 1) : (pairsI row).take k = pairsI row := List.take_of_length_le (by rw [pairsI_length]; omega)
theorem pairsI_get : ∀ (l : List It) (k : Nat), 2 * k + 1 < l.length → nth (0, []) (pairsI l) k = ((nth (0, []) l (2 * k)).1 + (nth (0, []) l (2 * k + 1)).1, (nth (0, []) l (2 * k)).2 ++ (nth (0, []) l (2 * k + 1)).2)
  | [], k, h => by simp at h
  | [x], k, h => by simp at h
  | x :: y :: r, k, h => by
    cases k with
    | zero => rfl
    | succ k =>
      have h1 := pairsI_get r k (by simp at h; omega)
      have e1 : nth (0, []) (pairsI (x :: y :: r)) (k + 1) = nth (0, []) (pairsI r) k := by simp [pairsI, nth]
      have e2 : nth (0, []) (x :: y :: r) (2 * (k + 1)) = nth (0, []) r (2 * k) := by rw [show 2 * (k + 1) = 2 * k + 1 + 1 by omega]; simp [nth]
      have e3 : nth (0, []) (x :: y :: r) (2 * (k + 1) + 1) = nth (0, []) r (2 * k + 1) := by rw [show 2 * (k + 1) + 1 = 2 * k + 1 + 1 + 1 by omega]; simp [nth]
      rw [e1, e2, e3, h1]
def okRow (row : List It) : Prop := ∀ z ∈ row, 0 ≤ z.1 ∧ z.1 ≤ 1125899906842624 ∧ z.2.length ≤ 1000000

set_option maxHeartbeats 4000000 in
set_option maxRecDepth 100000 in
theorem packages_any (A : Option Addr) (c : Nat) (row : List It) (w : World) (hS : Sl kIt AnyB w A c row) (hl : row.length ≤ 100000) (hw : okRow row) :
    Calls Try.prog 58 #[.slice A row.length c] w
      fun e w' => ∃ v, e = .returned v ∧ OwnK kIt 73 w.heap.size (fun b => w.heap.size ≤ b) w' v (pairsI row) ∧ Below w.heap.size w w' := by
  have HS := Lib.hid (hS.weak (ok' := fun b => b < w.heap.size) fun b hb _ => hb)
  have HW := Lib.hid hw
  clear hS hw
  go_enter Try.func58, Try.ntmps58
  go_wp2
  go_loopw [3, 4] (fun v iv wr => ∃ (i k : Nat), iv = .int .i64 (i : Int) ∧ Hid (i = 2 * k ∧ i ≤ row.length + 1) ∧ Hid (OwnK kIt 73 w.heap.size (fun b => w.heap.size ≤ b) wr v ((pairsI row).take k)) ∧ Below w.heap.size w wr) (fun _ iv _ => row.length + 2 - (intOf iv).toNat)
  case atStart => exact ⟨0, 0, rfl, Lib.hid ⟨rfl, by omega⟩, Lib.hid (OwnK.nil _ _ _ _ _), Below.refl _ _⟩
  case round =>
    obtain ⟨i, k, rfl, hik, hO, hB⟩ := hrel
    have hi := hik.out
    obtain ⟨i1, hi1⟩ : ∃ i1, i + 1 = i1 := ⟨_, rfl⟩
    have hw1 : IntKind.i64.wrap ((i : Int) + 1) = (i1 : Int) := by rw [IntWalk.i64_in _ (by omega)]; omega
    by_cases hlt : i1 < row.length
    · have hd : decide (i1 < row.length) = true := decide_eq_true hlt
      have hil : i < row.length := by omega
      obtain ⟨i2, hi2⟩ : ∃ i2, i + 2 = i2 := ⟨_, rfl⟩
      have hw2 : IntKind.i64.wrap ((i : Int) + 2) = (i2 : Int) := by rw [IntWalk.i64_in _ (by omega)]; omega
      have HSr := Lib.hid ((HS.out.below hB))
      obtain ⟨ad, Ax, cx, rfl, x0, x1, hx⟩ := rd_it HSr.out i hil
      obtain ⟨ad', Ay, cy, e', y0, y1, hy⟩ := rd_it HSr.out i1 hlt
      cases e'
      have hbx := HW.out _ (nth_mem (0, []) row i hil)
      have hby := HW.out _ (nth_mem (0, []) row i1 hlt)
      have hpg := pairsI_get row k (by omega)
      rw [← hi.1, hi1] at hpg
      have hpt := take_succ_nth (0, []) (pairsI row) k (by rw [pairsI_length]; omega)
      rw [hpg] at hpt
      obtain ⟨⟨xw, xs⟩, hxe⟩ : ∃ x, nth (0, []) row i = x := ⟨_, rfl⟩
      obtain ⟨⟨yw, ys⟩, hye⟩ : ∃ y, nth (0, []) row i1 = y := ⟨_, rfl⟩
      rw [hxe] at x0 x1 hx hbx hpt
      rw [hye] at y0 y1 hy hby hpt
      have hw3 : IntKind.i64.wrap (xw + yw) = xw + yw := IntWalk.i64_in _ (by have := hbx.1; have := hby.1; have := hbx.2.1; have := hby.2.1; omega)
      have hbl : ad.block < w.heap.size := by
        obtain ⟨ad2, _, e2, ho, _⟩ := HSr.out.rd i hil
        cases e2; exact ho
      have hsz := hB.size
      have hsz := hB.size
      have HX := Lib.hid hx
      have HY := Lib.hid hy
      obtain ⟨zs, hzs⟩ : ∃ zs, xs ++ ys = zs := ⟨_, rfl⟩
      rw [hzs] at hpt
      have HZS := Lib.hid hzs
      have HPT := Lib.hid hpt
      have hZb : (ad.add (i * 2)).block = ad.block := add_block _ _
      have hZ1b : (ad.add (i1 * 2)).block = ad.block := add_block _ _
      have HLB := Lib.hid (show xs.length ≤ 1000000 ∧ ys.length ≤ 1000000 ∧ k < 100000 from ⟨hbx.2.2, hby.2.2, by omega⟩)
      have HII := Lib.hid (show i + 1 = i1 ∧ i + 2 = i2 ∧ i1 < row.length ∧ i = 2 * k from ⟨hi1, hi2, hlt, hi.1⟩)
      have hin : (0 : Int) ≤ (i : Int) := by omega
      have hin1 : (0 : Int) ≤ (i1 : Int) := by omega
      have hinl : (i : Int) < (row.length : Int) := by omega
      have hinl1 : (i1 : Int) < (row.length : Int) := by omega
      have HC := Lib.hid (show wr.cell? (ad.add (i * 2)) = some (.int .i64 xw) ∧ wr.cell? ⟨(ad.add (i * 2)).block, (ad.add (i * 2)).off + 1, none⟩ = some (.slice Ax xs.length cx) ∧ wr.cell? (ad.add (i1 * 2)) = some (.int .i64 yw) ∧ wr.cell? ⟨(ad.add (i1 * 2)).block, (ad.add (i1 * 2)).off + 1, none⟩ = some (.slice Ay ys.length cy) from ⟨x0, x1, y0, y1⟩)
      have HK := Lib.hid (fun W (hb : Below wr.heap.size wr W) => show W.cell? (ad.add (i * 2)) = some (.int .i64 xw) ∧ W.cell? ⟨(ad.add (i * 2)).block, (ad.add (i * 2)).off + 1, none⟩ = some (.slice Ax xs.length cx) ∧ W.cell? (ad.add (i1 * 2)) = some (.int .i64 yw) ∧ W.cell? ⟨(ad.add (i1 * 2)).block, (ad.add (i1 * 2)).off + 1, none⟩ = some (.slice Ay ys.length cy) from
        ⟨cell_below hb x0, cell_below hb x1, cell_below hb y0, cell_below hb y1⟩)
      have HDR := Lib.hid ((Below.refl wr.heap.size wr).drew)
      clear hzs hi hpg hpt hxe hye hbx hby hx hy hbl hZb hZ1b hi1 hi2 hil hlt x0 x1 y0 y1
      go_wp2_with fail
      refine wp_region_G 28 (fun W => W.cell? (ad.add (i * 2)) = some (.int .i64 xw) ∧ W.cell? ⟨(ad.add (i * 2)).block, (ad.add (i * 2)).off + 1, none⟩ = some (.slice Ax xs.length cx) ∧ W.cell? (ad.add (i1 * 2)) = some (.int .i64 yw) ∧ W.cell? ⟨(ad.add (i1 * 2)).block, (ad.add (i1 * 2)).off + 1, none⟩ = some (.slice Ay ys.length cy)) (by kernel_rfl) (HK.out _ HDR.out) (fun hHeld => ?_)
      refine wpAnyG_takeL (i := 0) (u3) [28] rfl (by kernel_rfl) (fun _ _ _ h => h) hHeld (by rfl) ?_ ?_
      · (intro W hSw; (try dsimp only at hSw); go_simp)
      try simp only [Act.put, List.setIfInBounds_toArray, List.set_cons_zero, List.set_cons_succ]
      refine wpAnyG_takeL (i := 1) (.slice (some ad) row.length c) [3, 4, 5, 12, 26, 27, 28] rfl (by kernel_rfl) (fun _ _ _ h => h) hHeld (by rfl) ?_ ?_
      · (intro W hSw; (try dsimp only at hSw); go_simp)
      try simp only [Act.put, List.setIfInBounds_toArray, List.set_cons_zero, List.set_cons_succ]
      refine wpAnyG_takeL (i := 2) (.int .i64 i) [3, 4, 5, 12, 26, 27, 28] rfl (by kernel_rfl) (fun _ _ _ h => h) hHeld (by rfl) ?_ ?_
      · (intro W hSw; (try dsimp only at hSw); go_simp)
      try simp only [Act.put, List.setIfInBounds_toArray, List.set_cons_zero, List.set_cons_succ]
      refine wpAnyG_takeL (i := 3) (.pointer (some (ad.add (i * 2)))) [4, 5, 12, 26, 27, 28] rfl (by kernel_rfl) (fun _ _ _ h => h) hHeld (by rfl) ?_ ?_
      · (intro W hSw; (try dsimp only at hSw); go_simp)
      try simp only [Act.put, List.setIfInBounds_toArray, List.set_cons_zero, List.set_cons_succ]
      refine wpAnyG_takeL (i := 4) (.pointer (some (ad.add (i * 2)))) [5, 12, 26, 27, 28] rfl (by kernel_rfl) (fun _ _ _ h => h) hHeld (by rfl) ?_ ?_
      · (intro W hSw; (try dsimp only at hSw); go_simp)
      try simp only [Act.put, List.setIfInBounds_toArray, List.set_cons_zero, List.set_cons_succ]
      refine wpAnyG_takeL (i := 5) (.int .i64 xw) [12, 26, 27, 28] rfl (by kernel_rfl) (fun _ _ _ h => h) hHeld (by rfl) ?_ ?_
      · (intro W hSw; (try dsimp only at hSw); go_simp)
      try simp only [Act.put, List.setIfInBounds_toArray, List.set_cons_zero, List.set_cons_succ]
      refine wpAnyG_takeL (i := 6) (.slice (some ad) row.length c) [9, 10, 11, 12, 26, 27, 28] rfl (by kernel_rfl) (fun _ _ _ h => h) hHeld (by rfl) ?_ ?_
      · (intro W hSw; (try dsimp only at hSw); go_simp)
      try simp only [Act.put, List.setIfInBounds_toArray, List.set_cons_zero, List.set_cons_succ]
      refine wpAnyG_takeL (i := 7) (.int .i64 i) [8, 9, 10, 11, 12, 26, 27, 28] rfl (by kernel_rfl) (fun _ _ _ h => h) hHeld (by rfl) ?_ ?_
      · (intro W hSw; (try dsimp only at hSw); go_simp)
      try simp only [Act.put, List.setIfInBounds_toArray, List.set_cons_zero, List.set_cons_succ]
      refine wpAnyG_takeL (i := 8) (.int .i64 i1) [9, 10, 11, 12, 26, 27, 28] rfl (by kernel_rfl) (fun _ _ _ h => h) hHeld (by rfl) ?_ ?_
      · (intro W hSw; (try dsimp only at hSw); go_simp)
      try simp only [Act.put, List.setIfInBounds_toArray, List.set_cons_zero, List.set_cons_succ]
      refine wpAnyG_takeL (i := 9) (.pointer (some (ad.add (i1 * 2)))) [10, 11, 12, 26, 27, 28] rfl (by kernel_rfl) (fun _ _ _ h => h) hHeld (by rfl) ?_ ?_
      · (intro W hSw; (try dsimp only at hSw); go_simp)
      try simp only [Act.put, List.setIfInBounds_toArray, List.set_cons_zero, List.set_cons_succ]
      refine wpAnyG_takeL (i := 10) (.pointer (some (ad.add (i1 * 2)))) [11, 12, 26, 27, 28] rfl (by kernel_rfl) (fun _ _ _ h => h) hHeld (by rfl) ?_ ?_
      · (intro W hSw; (try dsimp only at hSw); go_simp)
      try simp only [Act.put, List.setIfInBounds_toArray, List.set_cons_zero, List.set_cons_succ]
      refine wpAnyG_takeL (i := 11) (.int .i64 yw) [12, 26, 27, 28] rfl (by kernel_rfl) (fun _ _ _ h => h) hHeld (by rfl) ?_ ?_
      · (intro W hSw; (try dsimp only at hSw); go_simp)
      try simp only [Act.put, List.setIfInBounds_toArray, List.set_cons_zero, List.set_cons_succ]
      refine wpAnyG_takeL (i := 12) (.int .i64 (xw + yw)) [26, 27, 28] rfl (by kernel_rfl) (fun _ _ _ h => h) hHeld (by rfl) ?_ ?_
      · (intro W hSw; (try dsimp only at hSw); go_simp)
      try simp only [Act.put, List.setIfInBounds_toArray, List.set_cons_zero, List.set_cons_succ]
      refine wpAnyG_takeL (i := 13) (.slice (some ad) row.length c) [15, 16, 17, 24, 25, 26, 27, 28] rfl (by kernel_rfl) (fun _ _ _ h => h) hHeld (by rfl) ?_ ?_
      · (intro W hSw; (try dsimp only at hSw); go_simp)
      try simp only [Act.put, List.setIfInBounds_toArray, List.set_cons_zero, List.set_cons_succ]
      refine wpAnyG_takeL (i := 14) (.int .i64 i) [15, 16, 17, 24, 25, 26, 27, 28] rfl (by kernel_rfl) (fun _ _ _ h => h) hHeld (by rfl) ?_ ?_
      · (intro W hSw; (try dsimp only at hSw); go_simp)
      try simp only [Act.put, List.setIfInBounds_toArray, List.set_cons_zero, List.set_cons_succ]
      refine wpAnyG_takeL (i := 15) (.pointer (some (ad.add (i * 2)))) [16, 17, 24, 25, 26, 27, 28] rfl (by kernel_rfl) (fun _ _ _ h => h) hHeld (by rfl) ?_ ?_
      · (intro W hSw; (try dsimp only at hSw); go_simp)
      try simp only [Act.put, List.setIfInBounds_toArray, List.set_cons_zero, List.set_cons_succ]
      refine wpAnyG_takeL (i := 16) (.pointer (some ⟨(ad.add (i * 2)).block, (ad.add (i * 2)).off + 1, none⟩)) [17, 24, 25, 26, 27, 28] rfl (by kernel_rfl) (fun _ _ _ h => h) hHeld (by rfl) ?_ ?_
      · (intro W hSw; (try dsimp only at hSw); go_simp)
      try simp only [Act.put, List.setIfInBounds_toArray, List.set_cons_zero, List.set_cons_succ]
      refine wpAnyG_takeL (i := 17) (.slice Ax xs.length cx) [24, 25, 26, 27, 28] rfl (by kernel_rfl) (fun _ _ _ h => h) hHeld (by rfl) ?_ ?_
      · (intro W hSw; (try dsimp only at hSw); go_simp)
      try simp only [Act.put, List.setIfInBounds_toArray, List.set_cons_zero, List.set_cons_succ]
      refine wpAnyG_takeL (i := 18) (.slice (some ad) row.length c) [21, 22, 23, 24, 25, 26, 27, 28] rfl (by kernel_rfl) (fun _ _ _ h => h) hHeld (by rfl) ?_ ?_
      · (intro W hSw; (try dsimp only at hSw); go_simp)
      try simp only [Act.put, List.setIfInBounds_toArray, List.set_cons_zero, List.set_cons_succ]
      refine wpAnyG_takeL (i := 19) (.int .i64 i) [20, 21, 22, 23, 24, 25, 26, 27, 28] rfl (by kernel_rfl) (fun _ _ _ h => h) hHeld (by rfl) ?_ ?_
      · (intro W hSw; (try dsimp only at hSw); go_simp)
      try simp only [Act.put, List.setIfInBounds_toArray, List.set_cons_zero, List.set_cons_succ]
      refine wpAnyG_takeL (i := 20) (.int .i64 i1) [21, 22, 23, 24, 25, 26, 27, 28] rfl (by kernel_rfl) (fun _ _ _ h => h) hHeld (by rfl) ?_ ?_
      · (intro W hSw; (try dsimp only at hSw); go_simp)
      try simp only [Act.put, List.setIfInBounds_toArray, List.set_cons_zero, List.set_cons_succ]
      refine wpAnyG_takeL (i := 21) (.pointer (some (ad.add (i1 * 2)))) [22, 23, 24, 25, 26, 27, 28] rfl (by kernel_rfl) (fun _ _ _ h => h) hHeld (by rfl) ?_ ?_
      · (intro W hSw; (try dsimp only at hSw); go_simp)
      try simp only [Act.put, List.setIfInBounds_toArray, List.set_cons_zero, List.set_cons_succ]
      refine wpAnyG_takeL (i := 22) (.pointer (some ⟨(ad.add (i1 * 2)).block, (ad.add (i1 * 2)).off + 1, none⟩)) [23, 24, 25, 26, 27, 28] rfl (by kernel_rfl) (fun _ _ _ h => h) hHeld (by rfl) ?_ ?_
      · (intro W hSw; (try dsimp only at hSw); go_simp)
      try simp only [Act.put, List.setIfInBounds_toArray, List.set_cons_zero, List.set_cons_succ]
      refine wpAnyG_takeL (i := 23) (.slice Ay ys.length cy) [24, 25, 26, 27, 28] rfl (by kernel_rfl) (fun _ _ _ h => h) hHeld (by rfl) ?_ ?_
      · (intro W hSw; (try dsimp only at hSw); go_simp)
      try simp only [Act.put, List.setIfInBounds_toArray, List.set_cons_zero, List.set_cons_succ]
      clear hHeld
      have hb1 := below_alloc HDR.out (.cells #[.slice Ax xs.length cx, .slice Ay ys.length cy] 22)
      have HB1 := Lib.hid hb1
      clear hb1
      refine wpAnyG_oneL (i := 24) (by kernel_rfl) rfl (fun K hK => ?_)
      go_simp
      refine hK.out _ _ (fun _ => HK.out _ HB1.out) ?_
      clear hK K
      try simp only [Act.put, List.setIfInBounds_toArray, List.set_cons_zero, List.set_cons_succ]
      refine wpAnyG_oneL (i := 25) (by kernel_rfl) rfl (fun K hK => ?_)
      (go_simp; go_at_call 79; refine (concat_any _ 2 [symI xs, symI ys] _ ?h1 ?h2).mono ?_; (case h1 => exact lit_two wr.drew 22 (HX.out.below HDR.out) (HY.out.below HDR.out) (symI_length _) (symI_length _)); (case h2 => have := HLB.out; simp [sumLen, symI_length]; omega); rintro e w5 ⟨v5, rfl, hO5, hb5⟩; have HB5 := Lib.hid (below2 HB1.out hb5); clear hb5; rw [show [symI xs, symI ys].flatten = symI zs by rw [← HZS.out]; simp [symI_append]] at hO5; obtain ⟨A5, c5, rfl⟩ := hO5.slice; rw [symI_length]; have HO5 := Lib.hid hO5; clear hO5)
      refine hK.out _ _ (fun _ => HK.out _ HB5.out) ?_
      clear hK K
      try simp only [Act.put, List.setIfInBounds_toArray, List.set_cons_zero, List.set_cons_succ]
      refine wpAnyG_oneL (i := 26) (by kernel_rfl) rfl (fun K hK => ?_)
      go_simp
      refine hK.out _ _ (fun _ => HK.out _ HB5.out) ?_
      clear hK K
      try simp only [Act.put, List.setIfInBounds_toArray, List.set_cons_zero, List.set_cons_succ]
      have HB6 := Lib.hid (below_alloc HB5.out (.cells #[.int .i64 (xw + yw), .slice A5 zs.length c5] 73))
      refine wpAnyG_oneL (i := 27) (by kernel_rfl) rfl (fun K hK => ?_)
      go_simp
      refine hK.out _ _ (fun _ => HK.out _ (by simpa using HB6.out)) ?_
      clear hK K
      try simp only [Act.put, List.setIfInBounds_toArray, List.set_cons_zero, List.set_cons_succ]
      have HKX : Hid (kIt.K (fun b => w.heap.size ≤ b ∧ u3.ownBlock ≠ some b) w5 (xw + yw, zs) [.int .i64 (xw + yw), .slice A5 zs.length c5]) := by
        obtain ⟨A', c', e, hs⟩ := HO5.out.rd
        injection e with e1 e2 e3
        subst e1 e3
        refine ⟨_, _, rfl, hs.weak fun b _ hb => ?_⟩
        have h2 : wr.heap.size + 1 ≤ b := by have := hb.1; simpa using this
        exact ⟨by omega, fun h => by have h1 := (hO.out.lt b h).2; omega⟩
      refine wpAnyG_oneL (i := 28) (by kernel_rfl) rfl (fun K hK => ?_)
      have hkl : ((pairsI row).take k).length ≤ 100000 := by have := HLB.out; rw [List.length_take]; omega
      ((refine step_append_k (W := w5) (k := kIt) w.heap.size ?a1 (.tmp 12) (.tmp 39) 71 73 (.agg #[.int .i64 0, .slice none 0 0]) 32 (fun b => w.heap.size ≤ b) ?a2 Try.underlying71 infoIt ?a3 ?a4 ?a5 u3 ((pairsI row).take k) (xw + yw, zs) [.int .i64 (xw + yw), .slice A5 zs.length c5] ?a6 ?a7 ?a8 ?hO ?hx ?hb ?hl ?_); (case a1 => rfl); (case a2 => rfl); (case a3 => rfl); (case a4 => decide); (case a5 => decide); (case a6 => rfl); (case a7 => rfl); (case a8 => rfl); (case hO => exact hO.out.below HB5.out); (case hx => exact HKX.out); (case hb => have := HB5.out.size; omega); (case hl => omega); intro g9 cap9 w9 hO9 hg9 hb9 ha9)
      have HO9 := Lib.hid hO9
      have HB9 := Lib.hid ((hB.trans (HB5.out.mono hsz)).grown hg9 (by have := HB5.out.size; omega) hO.out.base_le)
      clear hO9 hg9 ha9
      refine hK.out _ _ (fun h => Bool.noConfusion (show true = false from h)) ?_
      clear hK K
      try simp only [Act.put, List.setIfInBounds_toArray, List.set_cons_zero, List.set_cons_succ]
      refine wpAnyG_oneL (i := 29) (by kernel_rfl) rfl (fun K hK => ?_)
      go_simp
      refine hK.out _ _ (fun h => Bool.noConfusion (show true = false from h)) ?_
      clear hK K
      try simp only [Act.put, List.setIfInBounds_toArray, List.set_cons_zero, List.set_cons_succ]
      refine wpAnyG_done (by kernel_rfl) ?_ _
      go_wp2
      go_roundw
      case rel => have hh := HII.out; exact ⟨i2, k + 1, rfl, Lib.hid ⟨by omega, by omega⟩, Lib.hid (by rw [HPT.out]; have := HO9.out; simpa using this), HB9.out⟩
      case measure => have hh := HII.out; simp [intOf]; omega
    · have hd : decide (i1 < row.length) = false := decide_eq_false hlt
      have HF := Lib.hid (show OwnK kIt 73 w.heap.size (fun b => w.heap.size ≤ b) wr u3 (pairsI row) by
        have h := hO.out
        rwa [pairsI_nil_short (by omega)] at h)
      clear hi hi1 hlt
      go_wp2
      go_ret
      exact ⟨_, rfl, HF.out, hB⟩
end Go.Proofs.Ytlbgkkkcbnagbaa

namespace Go.Proofs.Ytlbgkkkcbnagbaa
open Go.RowKit Go.Shelf

/-- An element of the reference's row: its weight, and its symbol; below 0: a package. -/
def pairsR : List (Int × Int) → List (Int × Int)
  | x :: y :: r => (x.1 + y.1, -1) :: pairsR r
  | _ => []
def mergeR : List (Int × Int) → List (Int × Int) → List (Int × Int)
  | [], b => b
  | x :: a, [] => x :: a
  | x :: a, y :: b => if y.1 < x.1 then y :: mergeR (x :: a) b else x :: mergeR a (y :: b)
termination_by a b => a.length + b.length
theorem pairsR_length : ∀ l : List (Int × Int), (pairsR l).length = l.length / 2
  | [] => rfl
  | [x] => by simp [pairsR]
  | x :: y :: r => by rw [pairsR, List.length_cons, pairsR_length r]; simp; omega
theorem pairsR_get : ∀ (l : List (Int × Int)) (k : Nat), 2 * k + 1 < l.length → nth (0, 0) (pairsR l) k = ((nth (0, 0) l (2 * k)).1 + (nth (0, 0) l (2 * k + 1)).1, -1)
  | [], k, h => by simp at h
  | [x], k, h => by simp at h
  | x :: y :: r, k, h => by
    cases k with
    | zero => rfl
    | succ k =>
      have h1 := pairsR_get r k (by simp at h; omega)
      have e1 : nth (0, 0) (pairsR (x :: y :: r)) (k + 1) = nth (0, 0) (pairsR r) k := by simp [pairsR, nth]
      have e2 : nth (0, 0) (x :: y :: r) (2 * (k + 1)) = nth (0, 0) r (2 * k) := by rw [show 2 * (k + 1) = 2 * k + 1 + 1 by omega]; simp [nth]
      have e3 : nth (0, 0) (x :: y :: r) (2 * (k + 1) + 1) = nth (0, 0) r (2 * k + 1) := by rw [show 2 * (k + 1) + 1 = 2 * k + 1 + 1 + 1 by omega]; simp [nth]
      rw [e1, e2, e3, h1]
theorem pairsR_short {row : List (Int × Int)} {k : Nat} (h : row.length ≤ 2 * k + 1) : (pairsR row).take k = pairsR row := List.take_of_length_le (by rw [pairsR_length]; omega)
theorem infoRi : (Try.prog.info? 81).map (fun i => (i.zero, i.size, i.bytes)) = some (some (.agg #[.int .i64 0, .int .i64 0]), 2, 16) := by kernel_rfl

set_option maxHeartbeats 4000000 in
set_option maxRecDepth 100000 in
theorem rpackages_any (A : Option Addr) (c : Nat) (row : List (Int × Int)) (w : World) (hS : Sl kField AnyB w A c row) (hl : row.length ≤ 100000) (hw : ∀ z ∈ row, 0 ≤ z.1 ∧ z.1 ≤ 1125899906842624) :
    Calls Try.prog 60 #[.slice A row.length c] w
      fun e w' => ∃ v, e = .returned v ∧ OwnK kField 81 w.heap.size (fun _ => True) w' v (pairsR row) ∧ Below w.heap.size w w' := by
  have HS := Lib.hid (hS.weak (ok' := fun b => b < w.heap.size) fun b hb _ => hb)
  have HW := Lib.hid hw
  clear hS hw
  go_enter Try.func60, Try.ntmps60
  go_wp2
  go_loopw [3, 4] (fun v iv wr => ∃ (i k : Nat), iv = .int .i64 (i : Int) ∧ Hid (i = 2 * k ∧ i ≤ row.length + 1) ∧ Hid (OwnK kField 81 w.heap.size (fun _ => True) wr v ((pairsR row).take k)) ∧ Below w.heap.size w wr) (fun _ iv _ => row.length + 2 - (intOf iv).toNat)
  case atStart => exact ⟨0, 0, rfl, Lib.hid ⟨rfl, by omega⟩, Lib.hid (OwnK.nil _ _ _ _ _), Below.refl _ _⟩
  case round =>
    obtain ⟨i, k, rfl, hik, hO, hB⟩ := hrel
    have hi := hik.out
    obtain ⟨i1, hi1⟩ : ∃ i1, i + 1 = i1 := ⟨_, rfl⟩
    have hw1 : IntKind.i64.wrap ((i : Int) + 1) = (i1 : Int) := by rw [IntWalk.i64_in _ (by omega)]; omega
    by_cases hlt : i1 < row.length
    · have hd : decide (i1 < row.length) = true := decide_eq_true hlt
      have hil : i < row.length := by omega
      obtain ⟨i2, hi2⟩ : ∃ i2, i + 2 = i2 := ⟨_, rfl⟩
      have hw2 : IntKind.i64.wrap ((i : Int) + 2) = (i2 : Int) := by rw [IntWalk.i64_in _ (by omega)]; omega
      have HSr := Lib.hid ((HS.out.below hB))
      obtain ⟨ad, rfl, x0, _⟩ := rd_field HSr.out i hil
      obtain ⟨ad', e', y0, _⟩ := rd_field HSr.out i1 hlt
      cases e'
      have hbx := HW.out _ (nth_mem (0, 0) row i hil)
      have hby := HW.out _ (nth_mem (0, 0) row i1 hlt)
      have hpg := pairsR_get row k (by omega)
      rw [← hi.1, hi1] at hpg
      have hpt := take_succ_nth (0, 0) (pairsR row) k (by rw [pairsR_length]; omega)
      rw [hpg] at hpt
      obtain ⟨xw, hxe⟩ : ∃ x, (nth (0, 0) row i).1 = x := ⟨_, rfl⟩
      obtain ⟨yw, hye⟩ : ∃ y, (nth (0, 0) row i1).1 = y := ⟨_, rfl⟩
      rw [hxe] at x0 hbx hpt
      rw [hye] at y0 hby hpt
      have hw3 : IntKind.i64.wrap (xw + yw) = xw + yw := IntWalk.i64_in _ (by have := hbx.1; have := hby.1; have := hbx.2; have := hby.2; omega)
      have hsz := hB.size
      have HPT := Lib.hid hpt
      have HII := Lib.hid (show i + 1 = i1 ∧ i + 2 = i2 ∧ i1 < row.length ∧ i = 2 * k from ⟨hi1, hi2, hlt, hi.1⟩)
      have hin : (0 : Int) ≤ (i : Int) := by omega
      have hin1 : (0 : Int) ≤ (i1 : Int) := by omega
      have hinl : (i : Int) < (row.length : Int) := by omega
      have hinl1 : (i1 : Int) < (row.length : Int) := by omega
      have HDR := Lib.hid ((Below.refl wr.heap.size wr).drew)
      have hkl : ((pairsR row).take k).length ≤ 100000 := by rw [List.length_take]; omega
      have HKL := Lib.hid hkl
      have z0 := cell_below HDR.out x0
      have z1 := cell_below HDR.out y0
      clear hi hpg hpt hxe hye hbx hby hi1 hi2 hil hlt hkl
      go_wp2_with fail
      go_region_law ((refine step_append_k (W := wr.drew) (k := kField) w.heap.size ?a1 (.tmp 12) (.tmp 26) 79 81 (.agg #[.int .i64 0, .int .i64 0]) 16 (fun _ => True) ?a2 Try.underlying79 infoRi ?a3 ?a4 ?a5 u3 ((pairsR row).take k) (xw + yw, -1) [.int .i64 (xw + yw), .int .i64 (-1)] ?a6 ?a7 ?a8 ?hO ?hx ?hb ?hl ?_); (case a1 => rfl); (case a2 => rfl); (case a3 => rfl); (case a4 => decide); (case a5 => decide); (case a6 => rfl); (case a7 => rfl); (case a8 => rfl); (case hO => exact hO.out.below HDR.out); (case hx => exact ⟨_, _, rfl, rfl, rfl⟩); (case hb => exact hsz); (case hl => have := HKL.out; omega); intro g9 cap9 w9 hO9 hg9 hb9 ha9; have HO9 := Lib.hid hO9; have HB9 := Lib.hid (hB.drew.grown hg9 hsz hO.out.base_le); clear hO9 hg9 ha9)
      all_goals
        (try simp only [Act.put, List.getElem_toArray, List.getElem_cons_succ, List.getElem_cons_zero, List.setIfInBounds_toArray, List.set_cons_succ, List.set_cons_zero])
        go_wp2
        go_roundw
        case rel => have hh := HII.out; exact ⟨i2, k + 1, rfl, Lib.hid ⟨by omega, by omega⟩, Lib.hid (by rw [HPT.out]; have := HO9.out; simpa using this), HB9.out⟩
        case measure => have hh := HII.out; simp [intOf]; omega
    · have hd : decide (i1 < row.length) = false := decide_eq_false hlt
      have HF := Lib.hid (show OwnK kField 81 w.heap.size (fun _ => True) wr u3 (pairsR row) by
        have h := hO.out
        rwa [pairsR_short (by omega)] at h)
      clear hi hi1 hlt
      go_wp2
      go_ret
      exact ⟨_, rfl, HF.out, hB⟩
end Go.Proofs.Ytlbgkkkcbnagbaa

namespace Go.Proofs.Ytlbgkkkcbnagbaa
open Go.RowKit Go.Shelf

theorem mergeR_cons (x y : Int × Int) (a b : List (Int × Int)) : mergeR (x :: a) (y :: b) = if y.1 < x.1 then y :: mergeR (x :: a) b else x :: mergeR a (y :: b) := by rw [mergeR]
theorem mergeR_right (a : List (Int × Int)) : mergeR a [] = a := by cases a <;> simp [mergeR]
theorem mergeR_left (b : List (Int × Int)) : mergeR [] b = b := by simp [mergeR]
theorem Sl.cutF {ok : Nat → Prop} {w : World} {ad : Addr} {c : Nat} {x : Int × Int} {xs : List (Int × Int)} (h : Sl kField ok w (some ad) c (x :: xs)) {A : Option Addr} (hA : (if c = 1 then some ad else some ⟨ad.block, ad.off + 2, Option.none⟩) = A) : Sl kField ok w A (c - 1) xs := by
  have hr := h.rd.drop 1
  by_cases h1 : c = 1
  · have h0 : xs = [] := List.eq_nil_of_length_eq_zero (by have := h.le; simp at this; omega)
    subst h0
    exact ⟨Nat.zero_le _, by have := h.cap; omega, Kd.Rd.nil _ _ _ _⟩
  · rw [if_neg h1] at hA
    subst hA
    exact ⟨by have := h.le; simp at this; omega, by have := h.cap; omega, hr⟩
/-- So far. -/
structure MrI (w : World) (a b : List (Int × Int)) (Aa : Option Addr) (ca : Nat) (a1 : List (Int × Int)) (Ab : Option Addr) (cb : Nat) (b1 : List (Int × Int)) (v : Value) (o : List (Int × Int)) (W : World) : Prop where
  own : OwnK kField 81 w.heap.size (fun b => b < w.heap.size) W v o
  low : Below w.heap.size w W
  ra : Sl kField (fun b => b < w.heap.size) W Aa ca a1
  rb : Sl kField (fun b => b < w.heap.size) W Ab cb b1
  run : o ++ mergeR a1 b1 = mergeR a b
  len : o.length + a1.length + b1.length = a.length + b.length

set_option maxHeartbeats 4000000 in
set_option maxRecDepth 100000 in
theorem rmerged_any (Aa Ab : Option Addr) (ca cb : Nat) (a b : List (Int × Int)) (w : World) (ha : Sl kField AnyB w Aa ca a) (hb : Sl kField AnyB w Ab cb b) (hl : a.length + b.length ≤ 100000) :
    Calls Try.prog 59 #[.slice Aa a.length ca, .slice Ab b.length cb] w
      fun e w' => ∃ v, e = .returned v ∧ OwnK kField 81 w.heap.size (fun _ => True) w' v (mergeR a b) ∧ Below w.heap.size w w' := by
  have hI0 : MrI w a b Aa ca a Ab cb b (.slice none 0 0) [] w := ⟨OwnK.nil _ _ _ _ _, Below.refl _ _, ha.weak fun b hb _ => hb, hb.weak fun b hb _ => hb, rfl, by simp⟩
  have HI0 := Lib.hid hI0
  clear ha hb hI0
  go_enter Try.func59, Try.ntmps59
  go_wp2
  go_loopw [0, 1, 5] (fun sa sb so wr => ∃ (Aa : Option Addr) (ca : Nat) (a1 : List (Int × Int)) (Ab : Option Addr) (cb : Nat) (b1 o : List (Int × Int)), sa = .slice Aa a1.length ca ∧ sb = .slice Ab b1.length cb ∧ Hid (MrI w a b Aa ca a1 Ab cb b1 so o wr)) (fun sa sb _ _ => lenV sa + lenV sb)
  case atStart => exact ⟨_, _, a, _, _, b, [], rfl, rfl, HI0⟩
  case round =>
    clear HI0
    obtain ⟨Aa, ca, a1, Ab, cb, b1, o, rfl, rfl, hI⟩ := hrel
    have hlen0 := hI.out.len
    have hbz := hI.out.low.size
    cases a1 with
    | nil =>
      cases b1 with
      | nil =>
        have HF := Lib.hid (show OwnK kField 81 w.heap.size (fun _ => True) wr u5 (mergeR a b) ∧ Below w.heap.size w wr by
          have h := hI.out
          rw [← h.run]
          exact ⟨by simpa [mergeR] using h.own.weak fun _ _ _ => trivial, h.low⟩)
        clear hlen0
        go_wp2
        go_ret
        exact ⟨_, rfl, HF.out.1, HF.out.2⟩
      | cons y b1 =>
        simp only [List.length_cons, List.length_nil] at hlen0 ⊢
        obtain ⟨adb, rfl, y0, y1⟩ := rd_field hI.out.rb 0 (by simp)
        simp only [Nat.zero_mul, add_zero] at y0 y1
        obtain ⟨yw, ys⟩ := y
        rw [show nth ((0, 0) : Int × Int) ((yw, ys) :: b1) 0 = (yw, ys) from rfl] at y0 y1
        have hlb : ((yw, ys) :: b1).length ≤ cb := hI.out.rb.le
        simp only [List.length_cons] at hlb
        have hww : IntKind.i64.wrap (0 + ((b1.length : Int) + 1)) = (b1.length : Int) + 1 := by rw [IntWalk.i64_in _ (by omega)]; omega
        have hww2 : IntKind.i64.wrap ((b1.length : Int) + 1) = (b1.length : Int) + 1 := IntWalk.i64_in _ (by omega)
        have hq0 : (((b1.length : Int) + 1) == 0) = false := by rw [beq_eq_false_iff_ne]; omega
        obtain ⟨At, hAt⟩ : ∃ A, (if cb = 1 then some adb else some (⟨adb.block, adb.off + 2, none⟩ : Addr)) = A := ⟨_, rfl⟩
        have HAT := Lib.hid hAt
        have h1le : (1 : Int) ≤ (b1.length : Int) + 1 := by omega
        have HLN := Lib.hid hlen0
        clear hlen0
        go_wp2
        go_quiet (fail)
        go_wp2_with (at_builtin; (refine append_k (W := wr.drewN nq) (k := kField) w.heap.size rfl (.tmp 39) (.tmp 43) 79 81 (.agg #[.int .i64 0, .int .i64 0]) 16 (fun b => b < w.heap.size) rfl Try.underlying79 infoRi rfl (by decide) (by decide) u5 o (yw, ys) [.int .i64 yw, .int .i64 ys] rfl rfl rfl (hI.out.own.below (below_drewN (Below.refl _ _) nq)) ⟨_, _, rfl, rfl, rfl⟩ hbz (by have := HLN.out; omega) ?_); intro g9 cap9 w9 hO9 hg9 hb9 ha9; have HO9 := Lib.hid hO9; have HK9 := Lib.hid ((Keep.of_grown hg9).weak (ok' := fun b => b < w.heap.size) fun b hb e => by have := hI.out.own.base_le b e.symm; omega); have HB9 := Lib.hid ((below_drewN hI.out.low nq).grown hg9 hbz hI.out.own.base_le); clear hO9 hg9 ha9)
        go_roundw
        case rel =>
          have hi := hI.out
          have hra := (hi.ra.below (below_drewN (Below.refl _ _) nq)).keep HK9.out
          have hrb := (hi.rb.below (below_drewN (Below.refl _ _) nq)).keep HK9.out
          have hrun := hi.run
          have hlen := hi.len
          rw [mergeR_left] at hrun
          exact ⟨_, _, [], At, cb - 1, b1, o ++ [(yw, ys)], rfl, rfl, Lib.hid ⟨by simpa using HO9.out, HB9.out, hra, hrb.cutF HAT.out, by rw [← hrun]; simp [mergeR_left], by simp at hlen ⊢; omega⟩⟩
        case measure => show _ < _; simp [lenV]
    | cons x a1 =>
      cases b1 with
      | nil =>
        simp only [List.length_cons, List.length_nil] at hlen0 ⊢
        obtain ⟨ada, rfl, x0, x1⟩ := rd_field hI.out.ra 0 (by simp)
        simp only [Nat.zero_mul, add_zero] at x0 x1
        obtain ⟨xw, xs⟩ := x
        rw [show nth ((0, 0) : Int × Int) ((xw, xs) :: a1) 0 = (xw, xs) from rfl] at x0 x1
        have hla : ((xw, xs) :: a1).length ≤ ca := hI.out.ra.le
        simp only [List.length_cons] at hla
        have hww : IntKind.i64.wrap ((a1.length : Int) + 1 + 0) = (a1.length : Int) + 1 := by rw [IntWalk.i64_in _ (by omega)]; omega
        have hww2 : IntKind.i64.wrap ((a1.length : Int) + 1) = (a1.length : Int) + 1 := IntWalk.i64_in _ (by omega)
        obtain ⟨At, hAt⟩ : ∃ A, (if ca = 1 then some ada else some (⟨ada.block, ada.off + 2, none⟩ : Addr)) = A := ⟨_, rfl⟩
        have HAT := Lib.hid hAt
        have h1le : (1 : Int) ≤ (a1.length : Int) + 1 := by omega
        have HLN := Lib.hid hlen0
        clear hlen0
        go_wp2
        go_quiet (fail)
        go_wp2_with (at_builtin; (refine append_k (W := wr.drewN nq) (k := kField) w.heap.size rfl (.tmp 31) (.tmp 35) 79 81 (.agg #[.int .i64 0, .int .i64 0]) 16 (fun b => b < w.heap.size) rfl Try.underlying79 infoRi rfl (by decide) (by decide) u5 o (xw, xs) [.int .i64 xw, .int .i64 xs] rfl rfl rfl (hI.out.own.below (below_drewN (Below.refl _ _) nq)) ⟨_, _, rfl, rfl, rfl⟩ hbz (by have := HLN.out; omega) ?_); intro g9 cap9 w9 hO9 hg9 hb9 ha9; have HO9 := Lib.hid hO9; have HK9 := Lib.hid ((Keep.of_grown hg9).weak (ok' := fun b => b < w.heap.size) fun b hb e => by have := hI.out.own.base_le b e.symm; omega); have HB9 := Lib.hid ((below_drewN hI.out.low nq).grown hg9 hbz hI.out.own.base_le); clear hO9 hg9 ha9)
        go_roundw
        case rel =>
          have hi := hI.out
          have hra := (hi.ra.below (below_drewN (Below.refl _ _) nq)).keep HK9.out
          have hrb := (hi.rb.below (below_drewN (Below.refl _ _) nq)).keep HK9.out
          have hrun := hi.run
          have hlen := hi.len
          rw [mergeR_right] at hrun
          exact ⟨At, ca - 1, a1, _, _, [], o ++ [(xw, xs)], rfl, rfl, Lib.hid ⟨by simpa using HO9.out, HB9.out, hra.cutF HAT.out, hrb, by rw [← hrun]; simp [mergeR_right], by simp at hlen ⊢; omega⟩⟩
        case measure => show _ < _; simp [lenV]
      | cons y b1 =>
        by_cases hlt : y.1 < x.1
        · have HLT := Lib.hid hlt
          simp only [List.length_cons] at hlen0 ⊢
          obtain ⟨ada, rfl, x0, x1⟩ := rd_field hI.out.ra 0 (by simp)
          simp only [Nat.zero_mul, add_zero] at x0 x1
          obtain ⟨xw, xs⟩ := x
          rw [show nth ((0, 0) : Int × Int) ((xw, xs) :: a1) 0 = (xw, xs) from rfl] at x0 x1
          have hla : ((xw, xs) :: a1).length ≤ ca := hI.out.ra.le
          simp only [List.length_cons] at hla
          obtain ⟨adb, rfl, y0, y1⟩ := rd_field hI.out.rb 0 (by simp)
          simp only [Nat.zero_mul, add_zero] at y0 y1
          obtain ⟨yw, ys⟩ := y
          rw [show nth ((0, 0) : Int × Int) ((yw, ys) :: b1) 0 = (yw, ys) from rfl] at y0 y1
          have hlb : ((yw, ys) :: b1).length ≤ cb := hI.out.rb.le
          simp only [List.length_cons] at hlb
          have hww : IntKind.i64.wrap ((a1.length : Int) + 1 + ((b1.length : Int) + 1)) = (a1.length : Int) + 1 + ((b1.length : Int) + 1) := IntWalk.i64_in _ (by omega)
          have hlt2 := HLT.out
          have hdc : decide (xw ≤ yw) = false := decide_eq_false (by omega)
          clear hlt2 hlt
          have hq0 : (((b1.length : Int) + 1) == 0) = false := by rw [beq_eq_false_iff_ne]; omega
          have hq1 : decide ((0 : Int) < (a1.length : Int) + 1) = true := decide_eq_true (by omega)
          have hq2 : decide (0 < a1.length + 1) = true := decide_eq_true (by omega)
          obtain ⟨At, hAt⟩ : ∃ A, (if cb = 1 then some adb else some (⟨adb.block, adb.off + 2, none⟩ : Addr)) = A := ⟨_, rfl⟩
          have HAT := Lib.hid hAt
          have h1le : (1 : Int) ≤ (b1.length : Int) + 1 := by omega
          have HLN := Lib.hid hlen0
          clear hlen0
          go_wp2
          go_quiet (fail)
          go_wp2_with (at_builtin; (refine append_k (W := wr.drewN nq) (k := kField) w.heap.size rfl (.tmp 39) (.tmp 43) 79 81 (.agg #[.int .i64 0, .int .i64 0]) 16 (fun b => b < w.heap.size) rfl Try.underlying79 infoRi rfl (by decide) (by decide) u5 o (yw, ys) [.int .i64 yw, .int .i64 ys] rfl rfl rfl (hI.out.own.below (below_drewN (Below.refl _ _) nq)) ⟨_, _, rfl, rfl, rfl⟩ hbz (by have := HLN.out; omega) ?_); intro g9 cap9 w9 hO9 hg9 hb9 ha9; have HO9 := Lib.hid hO9; have HK9 := Lib.hid ((Keep.of_grown hg9).weak (ok' := fun b => b < w.heap.size) fun b hb e => by have := hI.out.own.base_le b e.symm; omega); have HB9 := Lib.hid ((below_drewN hI.out.low nq).grown hg9 hbz hI.out.own.base_le); clear hO9 hg9 ha9)
          go_roundw
          case rel =>
            have hi := hI.out
            have hra := (hi.ra.below (below_drewN (Below.refl _ _) nq)).keep HK9.out
            have hrb := (hi.rb.below (below_drewN (Below.refl _ _) nq)).keep HK9.out
            have hrun := hi.run
            have hlen := hi.len
            rw [mergeR_cons, if_pos HLT.out] at hrun
            exact ⟨_, _, (xw, xs) :: a1, At, cb - 1, b1, o ++ [(yw, ys)], rfl, rfl, Lib.hid ⟨by simpa using HO9.out, HB9.out, hra, hrb.cutF HAT.out, by rw [← hrun]; simp, by simp at hlen ⊢; omega⟩⟩
          case measure => show _ < _; simp [lenV]
        · have HLT := Lib.hid hlt
          simp only [List.length_cons] at hlen0 ⊢
          obtain ⟨ada, rfl, x0, x1⟩ := rd_field hI.out.ra 0 (by simp)
          simp only [Nat.zero_mul, add_zero] at x0 x1
          obtain ⟨xw, xs⟩ := x
          rw [show nth ((0, 0) : Int × Int) ((xw, xs) :: a1) 0 = (xw, xs) from rfl] at x0 x1
          have hla : ((xw, xs) :: a1).length ≤ ca := hI.out.ra.le
          simp only [List.length_cons] at hla
          obtain ⟨adb, rfl, y0, y1⟩ := rd_field hI.out.rb 0 (by simp)
          simp only [Nat.zero_mul, add_zero] at y0 y1
          obtain ⟨yw, ys⟩ := y
          rw [show nth ((0, 0) : Int × Int) ((yw, ys) :: b1) 0 = (yw, ys) from rfl] at y0 y1
          have hlb : ((yw, ys) :: b1).length ≤ cb := hI.out.rb.le
          simp only [List.length_cons] at hlb
          have hww : IntKind.i64.wrap ((a1.length : Int) + 1 + ((b1.length : Int) + 1)) = (a1.length : Int) + 1 + ((b1.length : Int) + 1) := IntWalk.i64_in _ (by omega)
          have hlt2 := HLT.out
          have hdc : decide (xw ≤ yw) = true := decide_eq_true (by omega)
          clear hlt2 hlt
          have hq0 : (((b1.length : Int) + 1) == 0) = false := by rw [beq_eq_false_iff_ne]; omega
          have hq1 : decide ((0 : Int) < (a1.length : Int) + 1) = true := decide_eq_true (by omega)
          have hq2 : decide (0 < a1.length + 1) = true := decide_eq_true (by omega)
          obtain ⟨At, hAt⟩ : ∃ A, (if ca = 1 then some ada else some (⟨ada.block, ada.off + 2, none⟩ : Addr)) = A := ⟨_, rfl⟩
          have HAT := Lib.hid hAt
          have h1le : (1 : Int) ≤ (a1.length : Int) + 1 := by omega
          have HLN := Lib.hid hlen0
          clear hlen0
          go_wp2
          go_quiet (fail)
          go_wp2_with (at_builtin; (refine append_k (W := wr.drewN nq) (k := kField) w.heap.size rfl (.tmp 31) (.tmp 35) 79 81 (.agg #[.int .i64 0, .int .i64 0]) 16 (fun b => b < w.heap.size) rfl Try.underlying79 infoRi rfl (by decide) (by decide) u5 o (xw, xs) [.int .i64 xw, .int .i64 xs] rfl rfl rfl (hI.out.own.below (below_drewN (Below.refl _ _) nq)) ⟨_, _, rfl, rfl, rfl⟩ hbz (by have := HLN.out; omega) ?_); intro g9 cap9 w9 hO9 hg9 hb9 ha9; have HO9 := Lib.hid hO9; have HK9 := Lib.hid ((Keep.of_grown hg9).weak (ok' := fun b => b < w.heap.size) fun b hb e => by have := hI.out.own.base_le b e.symm; omega); have HB9 := Lib.hid ((below_drewN hI.out.low nq).grown hg9 hbz hI.out.own.base_le); clear hO9 hg9 ha9)
          go_roundw
          case rel =>
            have hi := hI.out
            have hra := (hi.ra.below (below_drewN (Below.refl _ _) nq)).keep HK9.out
            have hrb := (hi.rb.below (below_drewN (Below.refl _ _) nq)).keep HK9.out
            have hrun := hi.run
            have hlen := hi.len
            rw [mergeR_cons, if_neg (show ¬ yw < xw by have := HLT.out; omega)] at hrun
            exact ⟨At, ca - 1, a1, _, _, (yw, ys) :: b1, o ++ [(xw, xs)], rfl, rfl, Lib.hid ⟨by simpa using HO9.out, HB9.out, hra.cutF HAT.out, hrb, by rw [← hrun]; simp, by simp at hlen ⊢; omega⟩⟩
          case measure => show _ < _; simp [lenV]
end Go.Proofs.Ytlbgkkkcbnagbaa

namespace Go.Proofs.Ytlbgkkkcbnagbaa
open Go.RowKit Go.Shelf

/-- An item as it lies, and its coins. -/
abbrev ItP := ItV × List Nat
def toIt (p : ItP) : It := (p.1.1, p.2)
def goodP (ok : Nat → Prop) (w : World) (p : ItP) : Prop := p.1.2.2.1 = p.2.length ∧ Sl (kInt .i64) ok w p.1.2.1 p.1.2.2.2 (symI p.2)
theorem reps_pairs {ok : Nat → Prop} {w : World} : ∀ {xs : List It} {cells : List Value}, Reps kIt ok w xs cells → ∃ P : List ItP, P.map toIt = xs ∧ flatV (P.map (·.1)) = cells ∧ ∀ p ∈ P, goodP ok w p
  | [], cells, h => ⟨[], rfl, by have := h.1; simp [kIt] at this; simp [this, flatV], fun p hp => by simp at hp⟩
  | x :: xs, cells, h => by
    have hlen := h.1
    have hl2 : cells.length = xs.length * 2 + 2 := by rw [hlen]; show (xs.length + 1) * 2 = _; omega
    obtain ⟨A, c, e0, hs⟩ := h.2 0 (by simp)
    have e0 : (cells.drop (0 * 2)).take 2 = [.int .i64 x.1, .slice A x.2.length c] := e0
    rw [Nat.zero_mul, List.drop_zero] at e0
    have hr : Reps kIt ok w xs (cells.drop 2) := ⟨by rw [List.length_drop, hl2]; show _ = xs.length * 2; omega, fun j hj => by
      have h1 := h.2 (j + 1) (by simpa using hj)
      have e1 : nth kIt.dflt (x :: xs) (j + 1) = nth kIt.dflt xs j := by simp [nth]
      rw [e1] at h1
      have e2 : (cells.drop 2).drop (j * kIt.size) = cells.drop ((j + 1) * kIt.size) := by rw [List.drop_drop]; congr 1; show 2 + j * 2 = (j + 1) * 2; omega
      rw [e2]; exact h1⟩
    obtain ⟨P, h1, h2, h3⟩ := reps_pairs hr
    refine ⟨((x.1, A, x.2.length, c), x.2) :: P, by rw [List.map_cons, h1]; rfl, ?_, fun p hp => ?_⟩
    · rw [List.map_cons]
      show [.int .i64 x.1, .slice A x.2.length c] ++ flatV (P.map (·.1)) = cells
      rw [h2, ← e0, List.take_append_drop]
    · rcases List.mem_cons.1 hp with rfl | hp
      · exact ⟨rfl, hs⟩
      · exact h3 p hp
theorem pairs_reps {ok : Nat → Prop} {w : World} : ∀ {P : List ItP}, (∀ p ∈ P, goodP ok w p) → Reps kIt ok w (P.map toIt) (flatV (P.map (·.1)))
  | [], _ => Reps.nil _ _ _
  | p :: P, h => by
    obtain ⟨⟨pw, pa, pn, pc⟩, ps⟩ := p
    have hp := h _ (List.mem_cons_self ..)
    have h1 : Reps kIt ok w ([] ++ [toIt ((pw, pa, pn, pc), ps)]) ([] ++ [.int .i64 pw, .slice pa pn pc]) := (Reps.nil kIt ok w).snoc ⟨pa, pc, by have := hp.1; dsimp only at this; rw [this]; rfl, hp.2⟩
    exact h1.append (pairs_reps fun q hq => h q (List.mem_cons_of_mem _ hq))

set_option maxHeartbeats 1000000 in
theorem sortOwn_any (base : Nat) (ok : Nat → Prop) (g n cap : Nat) (xs : List It) (w : World) (h : OwnK kIt 73 base ok w (.slice (some ⟨g, 0, none⟩) n cap) xs) (hn : xs.length ≤ 1000000) (hw : ∀ z ∈ xs, 0 ≤ z.1 ∧ z.1 ≤ 1073741824) :
    Calls Try.prog 55 #[.slice (some ⟨g, 0, none⟩) n cap, cmpF] w
      fun e w' => e = .returned (.tuple #[]) ∧ OwnK kIt 73 base ok w' (.slice (some ⟨g, 0, none⟩) n cap) (isortF (·.1) xs) ∧ Upd (fun b => b = g) w w' := by
  obtain ⟨cells, ho, hr⟩ := h
  obtain ⟨P, h1, h2, h3⟩ := reps_pairs hr
  rcases ho.2 with ⟨h0, _⟩ | ⟨g', cap', cur, e, hb, hh, hnc, hmax, hcs, htk⟩
  · cases h0
  · injection e with e1 e2 e3
    injection e1 with e1
    injection e1 with e1
    subst e1 e2 e3
    have hPl : P.length = xs.length := by rw [← h1]; simp
    have hrow : Row w g (P.map (·.1)) (cur.toList.drop (xs.length * 2)) := by
      unfold Row
      rw [h2, ← htk]
      have : (cur.toList.take (xs.length * kIt.size) ++ cur.toList.drop (xs.length * 2)).toArray = cur := by
        show (cur.toList.take (xs.length * 2) ++ cur.toList.drop (xs.length * 2)).toArray = cur
        rw [List.take_append_drop]
      rw [this]; exact hh
    refine (sortStable_any g xs.length cap (P.map (·.1)) _ w hrow (by rw [List.length_map, hPl]) ⟨hnc, hn⟩ (fun q hq => by
      obtain ⟨p, hp, rfl⟩ := List.mem_map.1 hq
      have : toIt p ∈ xs := by rw [← h1]; exact List.mem_map_of_mem hp
      exact hw _ this)).mono ?_
    rintro e w' ⟨rfl, Z, hZ, hs, hm, hl, hu⟩
    refine ⟨rfl, ?_, hu⟩
    have eZ : Z = (isortF (fun p : ItP => p.1.1) P).map (·.1) := by
      rw [isort_uniq hs hm]
      exact (isortF_map (f := fun p : ItP => p.1.1) (g := fun p : ItP => p.1) (k := wtV) (fun _ => rfl) P).symm
    have eX : isortF (fun z : It => z.1) xs = (isortF (fun p : ItP => p.1.1) P).map toIt := by
      rw [← h1]
      exact (isortF_map (f := fun p : ItP => p.1.1) (g := toIt) (k := fun z : It => z.1) (fun _ => rfl) P).symm
    have hlen : (isortF (fun z : It => z.1) xs).length = xs.length := by
      rw [eX, List.length_map, ← List.length_map (f := fun p : ItP => p.1), ← eZ, hl, List.length_map, hPl]
    have hk : Keep (fun b => b ≠ g) w w' := hu.keep fun _ h => h
    refine ⟨flatV Z, ⟨by rw [flatV_length, hl, hlen, List.length_map, hPl]; rfl, .inr ⟨g, cap, (flatV Z ++ cur.toList.drop (xs.length * 2)).toArray, by rw [hlen], hb, hZ, by rw [hlen]; exact hnc, hmax, ?_, ?_⟩⟩, ?_⟩
    · have h4 : cur.toList.length = cap * 2 := by rw [Array.length_toList]; exact hcs
      show (flatV Z ++ cur.toList.drop (xs.length * 2)).length = cap * 2
      rw [List.length_append, flatV_length, List.length_drop, hl, List.length_map, hPl, h4]; omega
    · show (flatV Z ++ cur.toList.drop (xs.length * 2)).take (_ * 2) = flatV Z
      rw [hlen]
      exact List.take_left' (by rw [flatV_length, hl, List.length_map, hPl])
    · rw [eX, eZ]
      refine pairs_reps fun p hp => ?_
      have := h3 p ((isortF_mem P p).1 hp)
      exact ⟨this.1, this.2.keep (hk.weak fun b hb' e => hb'.2 (by rw [e]; rfl))⟩
end Go.Proofs.Ytlbgkkkcbnagbaa

namespace Go.Proofs.Ytlbgkkkcbnagbaa

def tag (x : It) : Int × Int := (x.1, if x.2.length = 1 then ((nth 0 x.2 0 : Nat) : Int) else -1)
def rowR (coins : List (Int × Int)) : Nat → List (Int × Int)
  | 0 => coins
  | k + 1 => mergeR coins (pairsR (rowR coins k))
theorem tag_merge : ∀ a b : List It, (mergeI a b).map tag = mergeR (a.map tag) (b.map tag)
  | [], b => by rw [List.map_nil, mergeR_left]; cases b <;> simp [mergeI]
  | x :: a, [] => by rw [mergeI_nil_right, List.map_nil, mergeR_right]
  | x :: a, y :: b => by
    rw [mergeI_cons, List.map_cons, List.map_cons, mergeR_cons]
    by_cases h : y.1 < x.1
    · rw [if_pos h, if_pos (show (tag y).1 < (tag x).1 from h), List.map_cons, tag_merge (x :: a) b, List.map_cons]
    · rw [if_neg h, if_neg (show ¬ (tag y).1 < (tag x).1 from h), List.map_cons, tag_merge a (y :: b), List.map_cons]
termination_by a b => a.length + b.length
theorem tag_pairs : ∀ {l : List It}, (∀ x ∈ l, 1 ≤ x.2.length) → (pairsI l).map tag = pairsR (l.map tag)
  | [], _ => rfl
  | [x], _ => rfl
  | x :: y :: r, h => by
    have hx := h x (by simp)
    have hy := h y (by simp)
    rw [pairsI, List.map_cons, List.map_cons, List.map_cons, pairsR, tag_pairs fun z hz => h z (by simp [hz])]
    congr 1
    unfold tag
    rw [if_neg (by rw [List.length_append]; omega)]
theorem pairsI_coins : ∀ {l : List It}, (∀ x ∈ l, 1 ≤ x.2.length) → ∀ z ∈ pairsI l, 2 ≤ z.2.length
  | [], _, z, hz => by simp [pairsI] at hz
  | [x], _, z, hz => by simp [pairsI] at hz
  | x :: y :: r, h, z, hz => by
    rw [pairsI, List.mem_cons] at hz
    rcases hz with rfl | hz
    · have hx := h x (by simp)
      have hy := h y (by simp)
      simp; omega
    · exact pairsI_coins (fun q hq => h q (by simp [hq])) z hz
theorem rowI_coins {coins : List It} (h : ∀ x ∈ coins, x.2.length = 1) : ∀ k, ∀ z ∈ rowI coins k, 1 ≤ z.2.length
  | 0, z, hz => by have := h z hz; omega
  | k + 1, z, hz => by
    rcases (mergeI_mem _ _ _).1 hz with h1 | h1
    · have := h z h1; omega
    · have := pairsI_coins (rowI_coins h k) z h1; omega
theorem tag_row {coins : List It} (h : ∀ x ∈ coins, x.2.length = 1) : ∀ k, (rowI coins k).map tag = rowR (coins.map tag) k
  | 0 => rfl
  | k + 1 => by
    show (mergeI coins (pairsI (rowI coins k))).map tag = mergeR (coins.map tag) (pairsR (rowR (coins.map tag) k))
    rw [tag_merge, tag_pairs (rowI_coins h k), tag_row h k]
end Go.Proofs.Ytlbgkkkcbnagbaa

namespace Go.Proofs.Ytlbgkkkcbnagbaa

/-- Weights up to M, no more than C coins. -/
def within (M : Int) (C : Nat) (l : List It) : Prop := ∀ z ∈ l, 0 ≤ z.1 ∧ z.1 ≤ M ∧ z.2.length ≤ C
theorem within.mono {M M' : Int} {C C' : Nat} {l : List It} (h : within M C l) (h1 : M ≤ M') (h2 : C ≤ C') : within M' C' l := fun z hz => by
  have := h z hz
  omega
theorem pairsI_within {M : Int} {C : Nat} : ∀ {l : List It}, within M C l → within (2 * M) (2 * C) (pairsI l)
  | [], _ => fun z hz => by simp [pairsI] at hz
  | [x], _ => fun z hz => by simp [pairsI] at hz
  | x :: y :: r, h => fun z hz => by
    rw [pairsI, List.mem_cons] at hz
    rcases hz with rfl | hz
    · have hx := h x (by simp)
      have hy := h y (by simp)
      refine ⟨?_, ?_, ?_⟩
      · show 0 ≤ x.1 + y.1; omega
      · show x.1 + y.1 ≤ 2 * M; omega
      · show (x.2 ++ y.2).length ≤ 2 * C; rw [List.length_append]; omega
    · exact pairsI_within (fun q hq => h q (by simp [hq])) z hz
theorem rowI_within {coins : List It} {M : Int} {C : Nat} (h : within M C coins) (hM : 0 ≤ M) : ∀ k, within (2 ^ k * M) (2 ^ k * C) (rowI coins k)
  | 0 => by show within (2 ^ 0 * M) (2 ^ 0 * C) coins; simpa using h
  | k + 1 => fun z hz => by
    have hp : (1 : Int) ≤ 2 ^ (k + 1) := by have := Nat.one_le_two_pow (n := k + 1); exact_mod_cast this
    have hpn : 1 ≤ 2 ^ (k + 1) := Nat.one_le_two_pow
    rcases (mergeI_mem _ _ _).1 hz with h1 | h1
    · have h2 := h z h1
      have e1 : M ≤ 2 ^ (k + 1) * M := by have := Int.mul_le_mul_of_nonneg_right hp hM; omega
      have e2 : C ≤ 2 ^ (k + 1) * C := by have := Nat.mul_le_mul_right C hpn; omega
      omega
    · have h2 := pairsI_within (rowI_within h hM k) z h1
      have e1 : 2 * (2 ^ k * M) = 2 ^ (k + 1) * M := by rw [← Int.mul_assoc, Int.pow_succ, Int.mul_comm 2]
      have e2 : 2 * (2 ^ k * C) = 2 ^ (k + 1) * C := by rw [← Nat.mul_assoc, Nat.pow_succ, Nat.mul_comm 2]
      omega
theorem rowI_ok {coins : List It} (h : within 1073741824 1 coins) {k : Nat} (hk : k ≤ 15) : okRow (rowI coins k) := fun z hz => by
  have h1 := rowI_within h (by decide) k z hz
  have h2 : 2 ^ k ≤ 2 ^ 15 := Nat.pow_le_pow_right (by decide) hk
  have h3 : ((2 : Int) ^ k) ≤ 32768 := by have : ((2 ^ k : Nat) : Int) ≤ ((2 ^ 15 : Nat) : Int) := Int.ofNat_le.2 h2; simpa using this
  have h4 : (2 : Int) ^ k * 1073741824 ≤ 32768 * 1073741824 := Int.mul_le_mul_of_nonneg_right h3 (by decide)
  refine ⟨h1.1, by omega, by have := h1.2.2; omega⟩
theorem rowI_length_le (coins : List It) : ∀ k, (rowI coins k).length ≤ 2 * coins.length
  | 0 => by show coins.length ≤ _; omega
  | k + 1 => by rw [rowI_length]; have := rowI_length_le coins k; omega
end Go.Proofs.Ytlbgkkkcbnagbaa

namespace Go.Proofs.Ytlbgkkkcbnagbaa
open Go.RowKit Go.Shelf

/-- The coins of the first counts. -/
def coinsK (cs : List Int) : Nat → List It
  | 0 => []
  | k + 1 => if 0 < nth 0 cs k then coinsK cs k ++ [(nth 0 cs k, [k])] else coinsK cs k
theorem coinsK_len (cs : List Int) : ∀ k, (coinsK cs k).length ≤ k
  | 0 => Nat.le_refl _
  | k + 1 => by
    have := coinsK_len cs k
    unfold coinsK
    split
    · simp; omega
    · omega
/-- What Lengths answers as its error. -/
def lengthsE (cs : List Int) (most : Int) : Int :=
  if countsB cs = false ∨ most < 1 ∨ 16 < most then 1 else if (coinsK cs cs.length).length = 0 then 5 else if 2 ^ most.toNat < (coinsK cs cs.length).length then 2 else 0

set_option maxHeartbeats 4000000 in
set_option maxRecDepth 100000 in
theorem lengths_no (A : Option Addr) (c : Nat) (cs : List Int) (most : Int) (w : World) (hS : RI w A c cs) (he : countsB cs = false ∨ most < 1 ∨ 16 < most) :
    Calls Try.prog 22 #[.slice A cs.length c, .int .i64 most] w fun e w' => e = .returned (.tuple #[.slice none 0 0, .int .i64 1]) ∧ Below w.heap.size w w' := by
  have HC := Lib.hid (isCounts_any A c cs w hS)
  cases hc : countsB cs
  · rw [hc] at HC
    clear he hc
    go_enter Try.func22, Try.ntmps22
    go_wp2_with (go_at_call 53; refine HC.out.mono ?_; rintro e w2 ⟨rfl, b2⟩)
    go_ret2
    exact ⟨rfl, b2⟩
  · rw [hc] at HC
    rcases he with he | he | he
    · rw [hc] at he; cases he
    · clear hc
      have hd : decide (most < 1) = true := decide_eq_true he
      go_enter Try.func22, Try.ntmps22
      go_wp2_with (go_at_call 53; refine HC.out.mono ?_; rintro e w2 ⟨rfl, b2⟩)
      go_ret2
      exact ⟨rfl, b2⟩
    · clear hc
      have hd : decide (most < 1) = false := decide_eq_false (by omega)
      have hd2 : decide (16 < most) = true := decide_eq_true he
      go_enter Try.func22, Try.ntmps22
      go_wp2_with (go_at_call 53; refine HC.out.mono ?_; rintro e w2 ⟨rfl, b2⟩)
      go_ret2
      exact ⟨rfl, b2⟩
end Go.Proofs.Ytlbgkkkcbnagbaa

namespace Go.Proofs.Ytlbgkkkcbnagbaa
open Go.RowKit

theorem pairsI_syms {m : Nat} : ∀ {l : List It}, (∀ x ∈ l, ∀ s ∈ x.2, s < m) → ∀ z ∈ pairsI l, ∀ s ∈ z.2, s < m
  | [], _, z, hz => by simp [pairsI] at hz
  | [x], _, z, hz => by simp [pairsI] at hz
  | x :: y :: r, h, z, hz => by
    rw [pairsI, List.mem_cons] at hz
    rcases hz with rfl | hz
    · intro s hs
      rcases List.mem_append.1 hs with hs | hs
      · exact h x (by simp) s hs
      · exact h y (by simp) s hs
    · exact pairsI_syms (fun q hq => h q (by simp [hq])) z hz
theorem rowI_syms {m : Nat} {coins : List It} (h : ∀ x ∈ coins, ∀ s ∈ x.2, s < m) : ∀ k, ∀ z ∈ rowI coins k, ∀ s ∈ z.2, s < m
  | 0, z, hz => h z hz
  | k + 1, z, hz => by
    rcases (mergeI_mem _ _ _).1 hz with h1 | h1
    · exact h z h1
    · exact pairsI_syms (rowI_syms h k) z h1
theorem coinsK_mem {cs : List Int} : ∀ {k : Nat} {z : It}, z ∈ coinsK cs k → ∃ s, s < k ∧ z = (nth 0 cs s, [s]) ∧ 0 < nth 0 cs s
  | 0, z, h => by simp [coinsK] at h
  | k + 1, z, h => by
    unfold coinsK at h
    split at h
    · rename_i hp
      rcases List.mem_append.1 h with h | h
      · obtain ⟨s, h1, h2⟩ := coinsK_mem h
        exact ⟨s, by omega, h2⟩
      · simp at h
        exact ⟨k, by omega, h, hp⟩
    · obtain ⟨s, h1, h2⟩ := coinsK_mem h
      exact ⟨s, by omega, h2⟩
/-- How often each symbol lies in some items. -/
def outQ (m : Nat) (l : List It) : List Int := (List.range m).map fun s => ((occ s l : Nat) : Int)
def outZ (m : Nat) (l : List It) (p : List Nat) : List Int := (List.range m).map fun s => ((occ s l + p.count s : Nat) : Int)
theorem outQ_length (m : Nat) (l : List It) : (outQ m l).length = m := by simp [outQ]
theorem outZ_length (m : Nat) (l : List It) (p : List Nat) : (outZ m l p).length = m := by simp [outZ]
theorem outQ_nth {m s : Nat} (l : List It) (h : s < m) : nth 0 (outQ m l) s = (occ s l : Int) := by
  rw [nth_eq 0 _ s (by rw [outQ_length]; exact h)]; simp [outQ]
theorem outZ_nth {m s : Nat} (l : List It) (p : List Nat) (h : s < m) : nth 0 (outZ m l p) s = ((occ s l + p.count s : Nat) : Int) := by
  rw [nth_eq 0 _ s (by rw [outZ_length]; exact h)]; simp [outZ]
theorem outQ_nil (m : Nat) : outQ m [] = List.replicate m 0 := by
  apply List.ext_getElem
  · simp [outQ]
  · intro i h1 h2; simp [outQ, occ, sumF]
theorem outZ_nil (m : Nat) (l : List It) : outZ m l [] = outQ m l := by simp [outZ, outQ]
theorem occ_append (s : Nat) (a b : List It) : occ s (a ++ b) = occ s a + occ s b := by simp [occ, sumF]
theorem outZ_full (m : Nat) (l : List It) (x : It) : outZ m l x.2 = outQ m (l ++ [x]) := by
  unfold outZ outQ
  apply List.map_congr_left
  intro s _
  rw [occ_append]
  simp [occ, sumF]
theorem outZ_snoc {m s : Nat} (l : List It) (p : List Nat) (h : s < m) : (outZ m l p).set s (nth 0 (outZ m l p) s + 1) = outZ m l (p ++ [s]) := by
  apply List.ext_getElem
  · simp [outZ]
  · intro i h1 h2
    rw [List.getElem_set]
    split
    · rename_i e
      subst e
      rw [outZ_nth l p h]
      simp [outZ]; omega
    · rename_i e
      have e2 : [s].count i = 0 := List.count_eq_zero.2 (by simp; omega)
      simp [outZ, List.count_append, e2]
theorem occ_le {C : Nat} (s : Nat) : ∀ {l : List It}, (∀ z ∈ l, z.2.length ≤ C) → occ s l ≤ l.length * C
  | [], _ => by simp [occ, sumF]
  | x :: l, h => by
    have h1 := occ_le s (l := l) fun z hz => h z (by simp [hz])
    have h2 := h x (by simp)
    have h3 : x.2.count s ≤ x.2.length := List.count_le_length
    have e : occ s (x :: l) = x.2.count s + occ s l := by unfold occ; rw [sumF_cons]
    rw [e, List.length_cons, Nat.succ_mul]
    omega
theorem insF_perm {α : Type} (f : α → Int) (x : α) : ∀ l : List α, (insF f x l).Perm (x :: l)
  | [] => .refl _
  | y :: l => by
    unfold insF
    split
    · exact .refl _
    · exact ((insF_perm f x l).cons y).trans (.swap x y l)
theorem foldF_perm {α : Type} (f : α → Int) : ∀ (l a : List α), (l.foldl (fun a x => insF f x a) a).Perm (a ++ l)
  | [], a => by simp
  | x :: l, a => by
    rw [List.foldl_cons]
    refine (foldF_perm f l _).trans ?_
    exact ((insF_perm f x a).append_right l).trans (List.perm_middle.symm)
theorem isortF_perm {α : Type} (f : α → Int) (l : List α) : (isortF f l).Perm l := by
  have := foldF_perm f l []
  simpa [isortF] using this
/-- What Lengths returns. -/
def sortedC (cs : List Int) : List It := isortF (·.1) (coinsK cs cs.length)
def lengthsV (cs : List Int) (most : Int) : List Int :=
  if lengthsE cs most ≠ 0 then [] else
  if (coinsK cs cs.length).length = 1 then outQ cs.length (coinsK cs cs.length) else
  outQ cs.length ((rowI (sortedC cs) (most.toNat - 1)).take (2 * (coinsK cs cs.length).length - 2))
theorem sortedC_length (cs : List Int) : (sortedC cs).length = (coinsK cs cs.length).length := (isortF_perm _ _).length_eq
theorem sortedC_mem {cs : List Int} {z : It} (h : z ∈ sortedC cs) : z ∈ coinsK cs cs.length := (isortF_mem _ _).1 h
theorem coins_within {cs : List Int} (h : countsB cs = true) : within 1073741824 1 (coinsK cs cs.length) := fun z hz => by
  obtain ⟨s, hs, rfl, hp⟩ := coinsK_mem hz
  have := (nth_bound (counts_bound h).2 (by decide) s).2
  exact ⟨by show 0 ≤ nth 0 cs s; omega, this, Nat.le_refl _⟩
theorem sorted_within {cs : List Int} (h : countsB cs = true) : within 1073741824 1 (sortedC cs) := fun z hz => coins_within h z (sortedC_mem hz)
theorem sorted_syms (cs : List Int) : ∀ x ∈ sortedC cs, ∀ s ∈ x.2, s < cs.length := fun x hx s hs => by
  obtain ⟨t, ht, rfl, _⟩ := coinsK_mem (sortedC_mem hx)
  simp at hs; omega
end Go.Proofs.Ytlbgkkkcbnagbaa

namespace Go.Proofs.Ytlbgkkkcbnagbaa
open Go.RowKit Go.Shelf

theorem coinsK_hit {cs : List Int} {k : Nat} (h : 0 < nth 0 cs k) : coinsK cs (k + 1) = coinsK cs k ++ [(nth 0 cs k, [k])] := by
  show (if 0 < nth 0 cs k then _ else _) = _; rw [if_pos h]
theorem coinsK_miss {cs : List Int} {k : Nat} (h : ¬ 0 < nth 0 cs k) : coinsK cs (k + 1) = coinsK cs k := by
  show (if 0 < nth 0 cs k then _ else _) = _; rw [if_neg h]

set_option maxHeartbeats 4000000 in
set_option maxRecDepth 100000 in
theorem lengths_any (A : Option Addr) (c : Nat) (cs : List Int) (most : Nat) (w : World) (hS : RI w A c cs) (hc : countsB cs = true) (h1 : 1 ≤ most) (h16 : most ≤ 16) :
    Calls Try.prog 22 #[.slice A cs.length c, .int .i64 (most : Int)] w fun e w' => ∃ v, e = .returned (.tuple #[v, .int .i64 (lengthsE cs most)]) ∧ OwnI 3 .i64 w.heap.size w' v (lengthsV cs most) ∧ Below w.heap.size w w' := by
  have HC := Lib.hid (isCounts_any A c cs w hS)
  rw [hc] at HC
  obtain ⟨h256, hbd⟩ := counts_bound hc
  have HB := Lib.hid (nth_bound hbd (by decide))
  have HS := Lib.hid hS
  have hcB := Lib.hid hc
  have hd1 : decide ((most : Int) < 1) = false := decide_eq_false (by omega)
  have hd2 : decide ((16 : Int) < (most : Int)) = false := decide_eq_false (by omega)
  have hmk := make_row (P := Try.prog) 22 3 .i64 8 Try.underlying22 infoI (by decide) cs.length (by omega)
  have HMK := Lib.hid hmk
  have HCW := Lib.hid (coins_within hc)
  have HSW := Lib.hid (sorted_within hc)
  clear hS hc hbd hmk
  go_enter Try.func22, Try.ntmps22
  go_wp2_with (go_at_call 53; refine HC.out.mono ?_; rintro e w2 ⟨rfl, b2⟩)
  clear HC
  go_loopw [6, 29] (fun v iv wr => ∃ k : Nat, iv = .int .i64 (k : Int) ∧ k ≤ cs.length ∧ Hid (OwnK kIt 73 w2.heap.size (fun b => w2.heap.size ≤ b) wr v (coinsK cs k)) ∧ Below w2.heap.size w2 wr) (fun _ iv _ => cs.length - (intOf iv).toNat)
  case atStart => exact ⟨0, rfl, Nat.zero_le _, Lib.hid (OwnK.nil _ _ _ _ _), Below.refl _ _⟩
  case round =>
    obtain ⟨k, rfl, hk, hO, hB⟩ := hrel
    by_cases hlt : k < cs.length
    · have hBw := below2 b2 hB
      obtain ⟨ad, rfl, hcl⟩ := rd_int (HS.out.below hBw) k hlt
      have hbk := HB.out k
      have hcl2 := coinsK_len cs k
      by_cases hx : 0 < nth 0 cs k
      · have HH := Lib.hid (coinsK_hit hx)
        obtain ⟨x, hxe⟩ : ∃ x, nth 0 cs k = x := ⟨_, rfl⟩
        rw [hxe] at hcl hx HH
        have hsz := hB.size
        have HLK := Lib.hid hcl2
        have hb5 := below_alloc (Below.refl wr.heap.size wr) (.cells #[.int .i64 (k : Int)] 3)
        have HB5 := Lib.hid hb5
        have HK5 : Hid (kIt.K (fun b => w2.heap.size ≤ b ∧ u6.ownBlock ≠ some b) (wr.alloc (.cells #[.int .i64 (k : Int)] 3)) (x, [k]) [.int .i64 x, .slice (some ⟨wr.heap.size, 0, none⟩) 1 1]) := by
          refine ⟨_, _, rfl, ⟨Nat.le_refl _, by omega, fun j hj => ?_⟩⟩
          obtain rfl : j = 0 := by simp [symI] at hj; omega
          refine ⟨_, _, rfl, ⟨hsz, fun h => by have := (hO.out.lt _ h).2; simp at this⟩, by simp, rfl, fun i v hv => ?_⟩
          match i, hv with
          | 0, hv => simp at hv; subst hv; simp [symI, kInt, Addr.add, nth]
        clear hxe hbk hcl2 hb5
        go_wp2_with (at_builtin; (refine append_k (W := wr.alloc (.cells #[.int .i64 (k : Int)] 3)) (k := kIt) w2.heap.size rfl (.tmp 36) (.tmp 41) 71 73 (.agg #[.int .i64 0, .slice none 0 0]) 32 (fun b => w2.heap.size ≤ b) rfl Try.underlying71 infoIt rfl (by decide) (by decide) u6 (coinsK cs k) (x, [k]) [.int .i64 x, .slice (some ⟨wr.heap.size, 0, none⟩) 1 1] rfl rfl (by rw [World.size_alloc]; rfl) (hO.out.below HB5.out) HK5.out (by simp; omega) (by have := HLK.out; omega) ?_); intro g9 cap9 w9 hO9 hg9 hb9 ha9; have HO9 := Lib.hid hO9; have HB9 := Lib.hid ((hB.trans (HB5.out.mono hsz)).grown hg9 (by simp; omega) hO.out.base_le); clear hO9 hg9 ha9)
        go_roundw
        case rel => exact ⟨k + 1, by go_num, by omega, Lib.hid (by rw [HH.out]; exact HO9.out), HB9.out⟩
        case measure => simp [intOf]; omega
      · have HH := Lib.hid (coinsK_miss hx)
        clear hbk hcl2
        go_wp2
        go_roundw
        case rel => exact ⟨k + 1, by go_num, by omega, by rw [HH.out]; exact hO, hB⟩
        case measure => simp [intOf]; omega
    · obtain rfl : k = cs.length := by omega
      obtain ⟨Av, cv, rfl, hrd⟩ := hO.out.rd
      obtain ⟨n, hn⟩ : ∃ n, (coinsK cs cs.length).length = n := ⟨_, rfl⟩
      have hnl := coinsK_len cs cs.length
      obtain ⟨Q, hQ⟩ : ∃ Q : Nat, 2 ^ most = Q := ⟨_, rfl⟩
      have hQ6 : Q ≤ 65536 := by rw [← hQ]; have := Nat.pow_le_pow_right (n := 2) (by decide) h16; simpa using this
      have hQi : (2 : Int) ^ most = (Q : Int) := by rw [← hQ]; simp
      have hwq : IntKind.i64.wrap ((2 : Int) ^ most) = (Q : Int) := by rw [hQi]; exact IntWalk.i64_in _ (by omega)
      have HQ := Lib.hid (show 2 ^ most = Q from hQ)
      have HE := Lib.hid (show lengthsE cs most = if n = 0 then 5 else if Q < n then 2 else 0 by
        unfold lengthsE
        rw [if_neg (by rw [hcB.out]; simp; omega), hn, Int.toNat_natCast, hQ])
      have HN := Lib.hid hn
      have HV0 := Lib.hid (show lengthsE cs most ≠ 0 → lengthsV cs most = [] from fun h => by unfold lengthsV; rw [if_pos h])
      rw [hn]
      clear hn hQ hQi hnl
      by_cases h0 : n = 0
      · have h0b : ((n : Int) == 0) = true := by simp [h0]
        have HX := Lib.hid h0
        clear h0
        go_wp2
        go_ret2
        exact ⟨_, ret_two rfl (by rw [HE.out, if_pos HX.out]; rfl), by rw [HV0.out (by rw [HE.out, if_pos HX.out]; decide)]; exact OwnI.nil _ _ _ _, below2 b2 hB⟩
      · have h0b : ((n : Int) == 0) = false := by simpa using h0
        by_cases hbig : Q < n
        · have hd3 : decide (Q < n) = true := decide_eq_true hbig
          have HX := Lib.hid (show n ≠ 0 ∧ Q < n from ⟨h0, hbig⟩)
          clear h0 hbig
          go_wp2
          go_ret2
          exact ⟨_, ret_two rfl (by rw [HE.out, if_neg HX.out.1, if_pos HX.out.2]; rfl), by rw [HV0.out (by rw [HE.out, if_neg HX.out.1, if_pos HX.out.2]; decide)]; exact OwnI.nil _ _ _ _, below2 b2 hB⟩
        · have hd3 : decide (Q < n) = false := decide_eq_false hbig
          have hE0 : lengthsE cs most = 0 := by rw [HE.out, if_neg h0, if_neg hbig]
          have HE0 := Lib.hid hE0
          have HV := Lib.hid (show lengthsV cs most = if n = 1 then outQ cs.length (coinsK cs cs.length) else outQ cs.length ((rowI (sortedC cs) (most - 1)).take (2 * n - 2)) by
            unfold lengthsV; rw [if_neg (by rw [hE0]; decide), HN.out, Int.toNat_natCast])
          have hOc := hO.out.weak (ok' := fun b => b < wr.heap.size) fun b hb _ => hb
          have HOc := Lib.hid hOc
          have HX := Lib.hid (show n ≠ 0 ∧ n ≤ Q from ⟨h0, by omega⟩)
          have hmk := HMK.out
          have hOo := own_made wr 3 .i64 cs.length (by omega)
          have hBo := below_alloc (Below.refl wr.heap.size wr) (.cells (madeCells #[.int .i64 0] cs.length) 3)
          have HOo := Lib.hid hOo
          have HBo := Lib.hid hBo
          have hrc := (hOc.below hBo).rd
          clear hO HE HV0 hE0 hOo hBo hbig
          obtain ⟨g, cap, hg, rfl, rfl⟩ : ∃ g cap, g < wr.heap.size ∧ Av = some ⟨g, 0, none⟩ ∧ cv = cap := by
            obtain ⟨cells, ho, _⟩ := hOc
            rcases ho.2 with ⟨_, h⟩ | ⟨g, cap, cur, e, hb, hh, _⟩
            · exact absurd (HN.out.symm.trans h) h0
            · injection e with e1 e2 e3
              exact ⟨g, cap, (Array.getElem?_eq_some_iff.1 hh).1, e1, e3⟩
          by_cases h1 : n = 1
          · have h1b : ((n : Int) == 1) = true := by simp [h1]
            have HX1 := Lib.hid h1
            obtain ⟨s, hsl, hcs, _⟩ : ∃ s, s < cs.length ∧ coinsK cs cs.length = [(nth 0 cs s, [s])] ∧ True := by
              have hl := HN.out
              rw [h1] at hl
              obtain ⟨z, hz⟩ := List.length_eq_one_iff.1 hl
              obtain ⟨s, h2, rfl, _⟩ := coinsK_mem (show z ∈ coinsK cs cs.length by rw [hz]; simp)
              exact ⟨s, h2, hz, trivial⟩
            obtain ⟨_, _, e, hrc⟩ := hrc
            injection e with e1 e2 e3
            subst e1 e3
            rw [hcs] at hrc
            obtain ⟨ad, A', c', e, x0, x1, hx⟩ := rd_it hrc 0 (by simp)
            injection e with e
            subst e
            have hx0 : nth ((0, []) : It) [(nth 0 cs s, [s])] 0 = (nth 0 cs s, [s]) := rfl
            rw [hx0] at x0 x1 hx
            obtain ⟨ad2, rfl, y0⟩ := rd_int hx 0 (by simp [symI])
            simp only [Nat.zero_mul, add_zero] at x0 x1 y0
            have hy0 : nth 0 (symI [s]) 0 = (s : Int) := rfl
            rw [hy0] at y0
            have hsi : (s : Int) < (cs.length : Int) := by omega
            have hl1 : [s].length = 1 := rfl
            rw [hl1] at x1
            clear h1 h0
            have h0n : 0 < n := by have := HX1.out; omega
            have HCS := Lib.hid hcs
            clear hcs hx hx0 hrc hrd
            obtain ⟨ka, kf⟩ := HOo.out.at_ s (by simp; exact hsl)
            go_wp2
            go_ret2
            have hs := HOo.out.set s (1 : Int)
            rw [World.setCell_alloc_at _ _ _ _ _ rfl] at hs
            refine ⟨_, ret_two rfl (by rw [HE0.out]; rfl), ?_, below2 (below2 b2 hB) (below_alloc (Below.refl _ _) _)⟩
            have e1 : lengthsV cs most = (List.replicate cs.length (0 : Int)).set s 1 := by
              rw [HV.out, if_pos HX1.out, HCS.out]
              apply List.ext_getElem
              · simp [outQ]
              · intro i h1 h2
                rw [List.getElem_set]
                simp only [outQ, List.getElem_map, List.getElem_range, List.getElem_replicate]
                by_cases e : s = i
                · rw [if_pos e]; subst e; simp [occ, sumF]
                · rw [if_neg e]; simp [occ, sumF, e]
            rw [e1]
            exact hs.1.mono (by have := b2.size; have := hB.size; omega)
          · have h1b : ((n : Int) == 1) = false := by simp; omega
            have HX1 := Lib.hid h1
            clear h1 h0 hrd hrc
            have hbz := hB.size
            obtain ⟨K, hK⟩ : ∃ K, most - 1 = K := ⟨_, rfl⟩
            have hwm : IntKind.i64.wrap ((most : Int) - 1) = (K : Int) := by rw [IntWalk.i64_in _ (by omega)]; omega
            have HK := Lib.hid (show most - 1 = K ∧ K ≤ 15 ∧ most = K + 1 from ⟨hK, by omega, by omega⟩)
            have HM := Lib.hid (show 1 ≤ most ∧ most ≤ 16 from ⟨‹_›, h16⟩)
            have hK15 : K ≤ 15 := by omega
            clear hK
            have hoc1 := hOc.below HBo.out
            rw [HN.out] at hoc1
            have HBC := Lib.hid (show (coinsK cs cs.length).length ≤ 1000000 by have := coinsK_len cs cs.length; omega)
            have HOc1 := Lib.hid hoc1
            clear hoc1 hOc HOc
            go_wp2_with (go_at_call 55; refine (sortOwn_any w2.heap.size (fun b => b < wr.heap.size) g n cv _ _ HOc1.out HBC.out (fun z hz => by have := HCW.out z hz; omega)).mono ?_; rintro e w4 ⟨rfl, hO4, hU4⟩; clear hmk)
            have hgr4 : (wr.alloc (.cells (madeCells #[.int .i64 0] cs.length) 3)).grownBy w4 (some g) := ⟨hU4.os, hU4.tape, hU4.output, hU4.size, fun k hk hne => hU4.blk k hk (fun e => hne (by rw [e]))⟩
            have hO5 := HOo.out.grown hgr4 (.inr (by show some wr.heap.size ≠ some g; intro e; injection e with e; omega))
            have hb4 : Below w2.heap.size w2 w4 := ((hB.trans (HBo.out.mono hbz))).grown hgr4 (by simp; omega) (fun k e => by injection e with e; subst e; exact HOc1.out.base_le _ rfl)
            have hz4 : wr.heap.size + 1 ≤ w4.heap.size := by have := hU4.size; simpa using this
            have hsl := hO4.rd
            obtain ⟨_, _, e, hsl⟩ := hsl
            injection e with e1 e2 e3
            subst e1 e3
            have hnl : (sortedC cs).length = n := (sortedC_length cs).trans HN.out
            have HS4 := Lib.hid (show Sl kIt (fun b => b ≠ wr.heap.size) w4 (some ⟨g, 0, none⟩) cv (sortedC cs) from hsl.weak fun b _ hb => by
              rcases hb with h | h
              · omega
              · have : g = b := by simpa [Value.ownBlock] using h
                omega)
            have HNL := Lib.hid hnl
            have HO5 := Lib.hid hO5
            have HB4 := Lib.hid hb4
            have hn2 : n ≤ 256 := by have := coinsK_len cs cs.length; have := HN.out; omega
            have hrl : ∀ j, (rowI (sortedC cs) j).length ≤ 512 := fun j => by have := rowI_length_le (sortedC cs) j; omega
            have HRL := Lib.hid hrl
            have HW4 := Lib.hid hU4
            clear hO4 hU4 hgr4 hO5 hb4 hsl e2 hnl hrl HOc1 HBC
            obtain ⟨wo, rfl⟩ : ∃ wo, wo = wr := ⟨_, rfl⟩
            go_loopw [11, 74] (fun ra iv wr => ∃ (Ar : Option Addr) (cr j : Nat), iv = .int .i64 (j : Int) ∧ j ≤ K ∧ ra = .slice Ar (rowI (sortedC cs) j).length cr ∧ Hid (Sl kIt (fun b => b ≠ wo.heap.size) wr Ar cr (rowI (sortedC cs) j)) ∧ Below w4.heap.size w4 wr) (fun _ iv _ => K - (intOf iv).toNat)
            case atStart => exact ⟨_, _, 0, rfl, Nat.zero_le _, by show _ = Value.slice _ (sortedC cs).length _; rw [HNL.out], HS4, Below.refl _ _⟩
            case round =>
              obtain ⟨Ar, cr, j, rfl, hj, rfl, hR, hBr⟩ := hrel
              by_cases hjk : j < K
              · have hsz := hBr.size
                have HP := Lib.hid (packages_any Ar cr (rowI (sortedC cs) j) wr hR.out.any (by have := HRL.out j; omega) (rowI_ok HSW.out (by have := HK.out; omega)))
                have HMg := Lib.hid (fun (Ab : Option Addr) (cb : Nat) (W : World) (hc : Sl kIt (fun b => b ≠ wo.heap.size) W (some ⟨g, 0, none⟩) cv (sortedC cs)) (hb : Sl kIt (fun b => b ≠ wo.heap.size) W Ab cb (pairsI (rowI (sortedC cs) j))) => merge_any (fun b => b ≠ wo.heap.size) (some ⟨g, 0, none⟩) Ab cv cb (sortedC cs) (pairsI (rowI (sortedC cs) j)) W hc hb (by rw [pairsI_length]; have := HRL.out j; have := HNL.out; omega))
                rw [HNL.out] at HMg
                have HPL := Lib.hid (HRL.out j)
                go_wp2_with (first
                  | (go_at_call 58; refine HP.out.mono ?_; rintro e w5 ⟨v5, rfl, hO5, hb5⟩; obtain ⟨A5, c5, rfl, hs5⟩ := hO5.rd; have HS5 := Lib.hid (show Sl kIt (fun b => b ≠ wo.heap.size) w5 A5 c5 (pairsI (rowI (sortedC cs) j)) from hs5.weak fun b _ hb => hb.elim (fun h => by omega) (fun h => by have := hO5.base_le b h; omega)); have HB5 := Lib.hid (below_from hBr (by omega) hb5); clear hO5 hs5 hb5)
                  | (go_at_call 57; refine (HMg.out A5 c5 _ (HS4.out.below HB5.out) HS5.out).mono ?_; rintro e w6 ⟨v6, rfl, hO6, hb6⟩; obtain ⟨A6, c6, rfl, hs6⟩ := hO6.rd; have HS6 := Lib.hid (show Sl kIt (fun b => b ≠ wo.heap.size) w6 A6 c6 (rowI (sortedC cs) (j + 1)) from hs6.weak fun b _ hb => hb.elim (fun h => h.1) (fun h => by have := hO6.base_le b h; have := HB5.out.size; omega)); have HB6 := Lib.hid (below_from HB5.out HB5.out.size hb6); clear hO6 hs6 hb6))
                go_roundw
                case rel => exact ⟨_, _, j + 1, by go_num, by omega, rfl, HS6, HB6.out⟩
                case measure => simp [intOf]; omega
              · obtain rfl : j = K := by omega
                have hfit : 2 * n - 2 ≤ (rowI (sortedC cs) j).length := by
                  have h1 := row_fits (coins := sortedC cs) (k := j) (by rw [HNL.out, ← HK.out.2.2]; have := HX.out.2; have := HQ.out; omega)
                  rw [HNL.out] at h1; exact h1
                have hM0 : 2 ≤ 2 * n - 2 := by have := HX.out.1; have := HX1.out; omega
                obtain ⟨M, hMe⟩ : ∃ M, 2 * n - 2 = M := ⟨_, rfl⟩
                rw [hMe] at hfit hM0
                have hwm2 : IntKind.i64.wrap (2 * (n : Int)) = 2 * (n : Int) := IntWalk.i64_in _ (by omega)
                have hwm3 : IntKind.i64.wrap (2 * (n : Int) - 2) = (M : Int) := by rw [IntWalk.i64_in _ (by omega)]; omega
                have hcr := hR.out.le
                have HML := Lib.hid (show M ≤ 512 ∧ M ≤ (rowI (sortedC cs) j).length from ⟨by omega, hfit⟩)
                have HME := Lib.hid hMe
                have hMi : (M : Int) ≤ (cr : Int) := by omega
                have hMi0 : (0 : Int) ≤ (M : Int) := by omega
                obtain ⟨R, hRR⟩ : ∃ R, (rowI (sortedC cs) j).length = R := ⟨_, rfl⟩
                rw [hRR]
                have hcrm : M ≤ cr := by omega
                clear hMe hcr hfit hRR
                go_wp2
                obtain ⟨L, hL⟩ : ∃ L, (rowI (sortedC cs) j).take M = L := ⟨_, rfl⟩
                have hLl : L.length = M := by rw [← hL, List.length_take]; have := HML.out; omega
                have hSL : Sl kIt (fun b => b ≠ wo.heap.size) wr Ar cr L := ⟨by omega, hR.out.cap, by rw [← hL]; exact hR.out.rd.take M⟩
                have HSL := Lib.hid hSL
                have HLS := Lib.hid (show ∀ z ∈ L, z.2.length ≤ 1000000 ∧ ∀ s ∈ z.2, s < cs.length from fun z hz => by
                  have hm : z ∈ rowI (sortedC cs) j := List.mem_of_mem_take (by rw [hL]; exact hz)
                  exact ⟨(rowI_ok HSW.out HK.out.2.1 z hm).2.2, rowI_syms (sorted_syms cs) j z hm⟩)
                have HLV := Lib.hid (show lengthsV cs most = outQ cs.length L by rw [HV.out, if_neg HX1.out, HK.out.1, HME.out, hL])
                have HLL := Lib.hid hLl
                have hO6 := HO5.out.below hBr
                have HO6 := Lib.hid hO6
                have hBz := hBr.size
                have HBW := Lib.hid (below_from (b2.trans (HB4.out.mono b2.size)) (by have := b2.size; omega) hBr)
                have hM5 : M ≤ 512 := HML.out.1
                have hwz : w.heap.size ≤ wo.heap.size := by have := b2.size; omega
                clear hL hLl hSL hO6 hBr hR hwm2 hwm3 hwm hcrm hMi hMi0
                obtain ⟨wp, rfl⟩ : ∃ wp, wp = wr := ⟨_, rfl⟩
                go_loopw [89] (fun iv wr => ∃ (i : Nat), iv = .int .i64 (i : Int) ∧ i ≤ M ∧ Hid (Sl kIt (fun b => b ≠ wo.heap.size) wr Ar cr L) ∧ Hid (OwnI 3 .i64 wo.heap.size wr (.slice (some ⟨wo.heap.size, 0, none⟩) cs.length cs.length) (outQ cs.length (L.take i))) ∧ Hid (Below w.heap.size w wr) ∧ wo.heap.size < wr.heap.size) (fun iv _ => M - (intOf iv).toNat)
                case atStart => exact ⟨0, rfl, Nat.zero_le _, HSL, Lib.hid (by rw [List.take_zero, outQ_nil]; exact HO6.out), HBW, by omega⟩
                case round =>
                  clear HSL HO6 HBW
                  obtain ⟨i, rfl, hi, hS, hO, hB, hz⟩ := hrel
                  by_cases him : i < M
                  · obtain ⟨ad, Ax, cx, rfl, x0, x1, hx⟩ := rd_it hS.out i (by rw [HLL.out]; exact him)
                    have hLi := HLS.out _ (nth_mem (0, []) L i (by rw [HLL.out]; exact him))
                    have htk := take_succ_nth (0, []) L i (by rw [HLL.out]; exact him)
                    obtain ⟨⟨xw, xs⟩, hxe⟩ : ∃ x, nth (0, []) L i = x := ⟨_, rfl⟩
                    rw [hxe] at x0 x1 hx hLi htk
                    have HTK := Lib.hid htk
                    have HLI := Lib.hid hLi
                    have HXS := Lib.hid hx
                    have him2 : (i : Int) < (M : Int) := by omega
                    clear hxe htk hLi hx
                    go_wp2
                    obtain ⟨wq, rfl⟩ : ∃ wq, wq = wr := ⟨_, rfl⟩
                    go_loopw [96] (fun iv wr => ∃ (q : Nat), iv = .int .i64 (q : Int) ∧ q ≤ xs.length ∧ Hid (Sl kIt (fun b => b ≠ wo.heap.size) wr (some ad) cr L ∧ Sl (kInt .i64) (fun b => b ≠ wo.heap.size) wr Ax cx (symI xs)) ∧ Hid (OwnI 3 .i64 wo.heap.size wr (.slice (some ⟨wo.heap.size, 0, none⟩) cs.length cs.length) (outZ cs.length (L.take i) (xs.take q))) ∧ Hid (Below w.heap.size w wr) ∧ wo.heap.size < wr.heap.size) (fun iv _ => xs.length - (intOf iv).toNat)
                    case atStart => exact ⟨0, rfl, Nat.zero_le _, Lib.hid ⟨hS.out.below (below_alloc (Below.refl _ _) _), HXS.out.below (below_alloc (Below.refl _ _) _)⟩, Lib.hid (by rw [List.take_zero, outZ_nil]; exact hO.out.below (below_alloc (Below.refl _ _) _)), Lib.hid (below_alloc hB.out _), by simp; omega⟩
                    case round =>
                      clear hS hO hB hz x0 x1 HXS
                      obtain ⟨q, rfl, hq, hS, hO, hB, hz⟩ := hrel
                      by_cases hqx : q < xs.length
                      · obtain ⟨ad2, rfl, y0⟩ := rd_int hS.out.2 q (by rw [symI_length]; exact hqx)
                        obtain ⟨s, hs⟩ : ∃ s, nth 0 xs q = s := ⟨_, rfl⟩
                        have hsl : s < cs.length := by rw [← hs]; exact HLI.out.2 _ (nth_mem 0 xs q hqx)
                        have hys : nth 0 (symI xs) q = (s : Int) := by
                          rw [← hs, nth_eq 0 _ q (by rw [symI_length]; exact hqx), nth_eq 0 _ q hqx]; simp [symI]
                        rw [hys] at y0
                        obtain ⟨ka, kf⟩ := hO.out.at_ s (by rw [outZ_length]; exact hsl)
                        have hval := outZ_nth (L.take i) (xs.take q) hsl
                        have hb1 := occ_le s (l := L.take i) (C := 1000000) (fun z hz => (HLS.out z (List.mem_of_mem_take hz)).1)
                        have hb2 : (xs.take q).count s ≤ 1000000 := Nat.le_trans List.count_le_length (by rw [List.length_take]; have h9 : xs.length ≤ 1000000 := HLI.out.1; omega)
                        have hb3 : (L.take i).length * 1000000 ≤ 512 * 1000000 := Nat.mul_le_mul_right _ (by rw [List.length_take]; have := HLL.out; omega)
                        have HSN := Lib.hid (outZ_snoc (L.take i) (xs.take q) hsl)
                        have htk := take_succ_nth 0 xs q hqx
                        rw [hs] at htk
                        have HTQ := Lib.hid htk
                        obtain ⟨V, hV⟩ : ∃ V, nth 0 (outZ cs.length (L.take i) (xs.take q)) s = V := ⟨_, rfl⟩
                        rw [hV] at ka hval
                        have HVV := Lib.hid hV
                        have hw1 : IntKind.i64.wrap (V + 1) = V + 1 := IntWalk.i64_in _ (by omega)
                        have hsi : (s : Int) < (cs.length : Int) := by omega
                        have hqi : (q : Int) < (xs.length : Int) := by omega
                        have hq6 : (q : Int) ≤ 1000000 := by have h9 : xs.length ≤ 1000000 := HLI.out.1; omega
                        clear hs hys hval hb1 hb2 hb3 htk hV
                        go_wp2
                        go_roundw
                        case rel =>
                          have hs := hO.out.set s (V + 1)
                          have hkp : Keep (fun b => b ≠ wo.heap.size) wr (wr.setCell ⟨wo.heap.size, s, none⟩ (.int .i64 (V + 1))) := Keep.of_grown1 hs.2
                          exact ⟨q + 1, by go_num, by omega, Lib.hid ⟨hS.out.1.keep hkp, hS.out.2.keep hkp⟩, Lib.hid (by rw [HTQ.out, ← HSN.out, HVV.out]; exact hs.1), Lib.hid (hB.out.grown hs.2 hB.out.size (fun r e => by have := Option.some.inj e; omega)), by have := hkp.size; omega⟩
                        case measure => simp [intOf]; omega
                      · obtain rfl : q = xs.length := by omega
                        have HT := Lib.hid (show outZ cs.length (L.take i) (xs.take xs.length) = outQ cs.length (L.take (i + 1)) by rw [List.take_length, HTK.out]; exact outZ_full cs.length (L.take i) (xw, xs))
                        go_wp2
                        go_roundw
                        case rel => exact ⟨i + 1, by go_num, by omega, Lib.hid hS.out.1, Lib.hid (by rw [← HT.out]; exact hO.out), hB, hz⟩
                        case measure => simp [intOf]; omega
                  · obtain rfl : i = M := by omega
                    have HT := Lib.hid (show L.take i = L from List.take_of_length_le (by rw [HLL.out]; exact Nat.le_refl _))
                    go_wp2
                    go_ret2
                    exact ⟨_, ret_two rfl (by rw [HE0.out]; rfl), by rw [HLV.out, ← HT.out]; exact hO.out.mono (by omega), hB.out⟩
end Go.Proofs.Ytlbgkkkcbnagbaa
