/- The statements' Copy: what it returns; the two tables, below a limit. · section: Books; the document's Books: what each call returns. · The document's section: Books: what it returns. · section: Runs: what it returns. · The document's section: Same, Runs: what each call returns. · The document's section: runs, Runs: what each call returns. · section: right, checked, gamma; the document's Widths: what each call returns. · section: bands: what it yields, for any widths and values and memory. -/
import Derived.Test.YtmcdgmiheklbeaaDoorKg
import Derived.Test.YtmcdgmiheklbeaaDoorKd
import Derived.Test.YtmcdgmiheklbeaaDoorKf
import Derived.Test.YtmcdgmiheklbeaaDoorKc
import Derived.Test.YtmcdgmiheklbeaaDoorKe
namespace Go.Proofs.YtmcdgmiheklbeaaDoor
open Go.RowKit

/-- Both tables of the package, below a limit. -/
structure GS (base : Nat) (w : World) : Prop where
  f : GF w
  t : GT w
  lf : 0 < base
  lt : 1 < base
theorem GS.of {w : World} (hG : GF w) (hT : GT w) : GS w.heap.size w :=
  ⟨hG, hT, World.block_lt_of_cell? w _ (hG.dim 0 (by omega)), World.block_lt_of_cell? w _ (hT.txt 0 (by omega))⟩
theorem GS.below {base : Nat} {w w' : World} (h : GS base w) (hb : Below w.heap.size w w') : GS base w' := ⟨h.f.below hb, h.t.below hb, h.lf, h.lt⟩
theorem GS.upd {base : Nat} {w w' : World} {o : Nat → Prop} (h : GS base w) (hu : Upd o w w') (ho : ∀ x, x < base → ¬ o x) : GS base w' :=
  ⟨h.f.keep (hu.keep (ok := fun x => x < base) fun x h => ho x h) h.lf, h.t.keep (hu.keep (ok := fun x => x < base) fun x h => ho x h) h.lt, h.lf, h.lt⟩
end Go.Proofs.YtmcdgmiheklbeaaDoor

namespace Go.Proofs.YtmcdgmiheklbeaaDoor
open Go.RowKit

/-- One more section: the books so far, or none at an error. -/
def bksS (o : Option (List Int)) (x : Int × Int) : Option (List Int) :=
  match o with
  | none => none
  | some l => if x.1 < 0 ∨ 8 ≤ x.1 ∨ x.2 < 1 ∨ 128 - (l.length : Int) < x.2 then none else some (l ++ List.replicate x.2.toNat x.1)
def bksP (s : List (Int × Int)) : Option (List Int) := s.foldl bksS (some [])
def booksL (s : List (Int × Int)) : List Int := (bksP s).getD []
def booksE (s : List (Int × Int)) : Int := if (bksP s).isSome then 0 else 4
theorem bks_none : ∀ s : List (Int × Int), s.foldl bksS none = none
  | [] => rfl
  | x :: s => by rw [List.foldl_cons]; exact bks_none s
theorem bks_take (s : List (Int × Int)) (k : Nat) (h : k < s.length) : bksP (s.take (k + 1)) = bksS (bksP (s.take k)) (nth (0, 0) s k) := by
  unfold bksP; rw [take_succ_nth (0, 0) s k h, List.foldl_append]; rfl
theorem bks_stop (s : List (Int × Int)) (k : Nat) (h : bksP (s.take k) = none) : bksP s = none := by
  unfold bksP at *
  rw [← List.take_append_drop k s, List.foldl_append, h, bks_none]
theorem bks_len : ∀ (s : List (Int × Int)) (l m : List Int), l.length ≤ 128 → s.foldl bksS (some l) = some m → m.length ≤ 128
  | [], l, m, hl, h => by cases h; exact hl
  | x :: s, l, m, hl, h => by
    rw [List.foldl_cons] at h
    by_cases hb : x.1 < 0 ∨ 8 ≤ x.1 ∨ x.2 < 1 ∨ 128 - (l.length : Int) < x.2
    · have e : bksS (some l) x = none := if_pos hb
      rw [e, bks_none] at h; cases h
    · have e : bksS (some l) x = some (l ++ List.replicate x.2.toNat x.1) := if_neg hb
      rw [e] at h
      exact bks_len s _ m (by rw [List.length_append, List.length_replicate]; omega) h
theorem bksP_len {s : List (Int × Int)} {m : List Int} (h : bksP s = some m) : m.length ≤ 128 := bks_len s [] m (by simp) h
theorem bad_cases {x1 x2 L : Int} (h : x1 < 0 ∨ 8 ≤ x1 ∨ x2 < 1 ∨ 128 - L < x2) :
    decide (x1 < 0) = true ∨ (decide (x1 < 0) = false ∧ decide (8 ≤ x1) = true) ∨ (decide (x1 < 0) = false ∧ decide (8 ≤ x1) = false ∧ decide (x2 < 1) = true) ∨ (decide (x1 < 0) = false ∧ decide (8 ≤ x1) = false ∧ decide (x2 < 1) = false ∧ decide (128 - L < x2) = true) := by
  by_cases h1 : x1 < 0
  · exact .inl (decide_eq_true h1)
  · by_cases h2 : 8 ≤ x1
    · exact .inr (.inl ⟨decide_eq_false h1, decide_eq_true h2⟩)
    · by_cases h3 : x2 < 1
      · exact .inr (.inr (.inl ⟨decide_eq_false h1, decide_eq_false h2, decide_eq_true h3⟩))
      · exact .inr (.inr (.inr ⟨decide_eq_false h1, decide_eq_false h2, decide_eq_false h3, decide_eq_true (by omega)⟩))

theorem repeat_lit (k : Int) (n : Nat) (W : World) (X : Obj) (h1 : 1 ≤ n) (hn : n ≤ 100000) :
    Calls Tryd.prog 39 #[.slice (some ⟨W.heap.size + 1, 0, none⟩) 1 1, .int .i64 (n : Int)] ((W.alloc X).alloc (.cells #[.int .i64 k] 3)) fun e w' => ∃ v, e = .returned v ∧ OwnI 3 .i64 W.heap.size w' v (List.replicate n k) ∧ Below W.heap.size W w' := by
  have h := repeat_any (some ⟨(W.alloc X).heap.size, 0, none⟩) 1 k n ((W.alloc X).alloc (.cells #[.int .i64 k] 3)) (lit_ri (W.alloc X) 3 .i64 [k] (by simp)) h1 hn
  rw [World.size_alloc] at h
  refine h.mono ?_
  rintro e w' ⟨v, rfl, hO, hb⟩
  exact ⟨v, rfl, hO.mono (by rw [World.size_alloc, World.size_alloc]; omega), below2 (below2 (below_alloc (Below.refl _ _) X) (below_alloc (Below.refl _ _) _)) hb⟩
set_option maxHeartbeats 2000000 in
set_option maxRecDepth 100000 in
theorem books_any (A : Option Addr) (c : Nat) (s : List (Int × Int)) (w : World) (hS : RS w A c s) :
    Calls Tryd.prog 16 #[.slice A s.length c] w fun e w' => ∃ v, e = .returned (.tuple #[v, .int .i64 (booksE s)]) ∧ OwnI 3 .i64 w.heap.size w' v (booksL s) ∧ Below w.heap.size w w' := by
  have HS := Lib.hid hS
  have HRP := Lib.hid (fun (k : Int) (n : Nat) (W : World) (X : Obj) (h1 : 1 ≤ n) (hn : n ≤ 100000) => repeat_lit k n W X h1 hn)
  clear hS
  go_enter Tryd.func16, Tryd.ntmps16
  go_wp2
  go_loopw [4, 6, 9] (fun ov xv iv wr => ∃ (k : Nat) (m : List Int), iv = .int .i64 (k : Int) ∧ k ≤ s.length ∧ Hid (bksP (s.take k) = some m) ∧ Hid (OwnI 3 .i64 w.heap.size wr ov m) ∧ Hid (Below w.heap.size w wr)) (fun _ _ iv _ => s.length - (intOf iv).toNat)
  case atStart => exact ⟨0, [], rfl, Nat.zero_le _, Lib.hid rfl, Lib.hid (OwnI.nil _ _ _ _), Lib.hid (Below.refl _ _)⟩
  case round =>
    obtain ⟨k, m, rfl, hk, hP, hO, hB⟩ := hrel
    obtain ⟨A4, c4, rfl⟩ := hO.out.slice
    by_cases hlt : k < s.length
    · have hli : (k : Int) < (s.length : Int) := by omega
      have hls : s.length ≤ 9223372036854775807 := Nat.le_trans HS.out.1 HS.out.cap
      have hk1 : IntKind.i64.wrap ((k : Int) + 1) = ((k + 1 : Nat) : Int) := by rw [IntWalk.i64_in _ (by omega)]; omega
      obtain ⟨ad, rfl, _, k0, k1⟩ := rd_se (HS.out.below hB.out) k hlt
      have HNX := Lib.hid (bks_take s k hlt)
      have HST := Lib.hid (fun h => bks_stop s (k + 1) h)
      have HML := Lib.hid (bksP_len hP.out)
      generalize nth (0, 0) s k = x at k0 k1 HNX
      obtain ⟨x1, x2⟩ := x
      have hml := HML.out
      have hw128 : IntKind.i64.wrap (128 - (m.length : Int)) = 128 - (m.length : Int) := IntWalk.i64_in _ (by omega)
      by_cases hb : x1 < 0 ∨ 8 ≤ x1 ∨ x2 < 1 ∨ 128 - (m.length : Int) < x2
      · have hn : bksP (s.take (k + 1)) = none := by rw [HNX.out, hP.out]; exact if_pos hb
        have HE := Lib.hid (HST.out hn)
        have hcs := bad_cases hb
        clear hb hn hls
        rcases hcs with d1 | ⟨d1, d2⟩ | ⟨d1, d2, d3⟩ | ⟨d1, d2, d3, d4⟩
        all_goals
          go_wp2
          go_ret2
          exact ⟨_, ret_two rfl (by unfold booksE; rw [HE.out]; rfl), by unfold booksL; rw [HE.out]; exact OwnI.nil _ _ _ _, below_alloc hB.out _⟩
      · obtain ⟨n, rfl⟩ : ∃ n : Nat, x2 = (n : Int) := ⟨x2.toNat, by omega⟩
        have hn : bksP (s.take (k + 1)) = some (m ++ List.replicate n x1) := by
          rw [HNX.out, hP.out]
          show (if _ then _ else _) = _
          rw [if_neg hb, Int.toNat_natCast]
        have HE := Lib.hid hn
        have d1 : decide (x1 < 0) = false := decide_eq_false (by omega)
        have d2 : decide (8 ≤ x1) = false := decide_eq_false (by omega)
        have d3 : decide ((n : Int) < 1) = false := decide_eq_false (by omega)
        have d4 : decide (128 - (m.length : Int) < (n : Int)) = false := decide_eq_false (by omega)
        have HN := Lib.hid (show 1 ≤ n ∧ n ≤ 128 ∧ m.length ≤ 128 from ⟨by omega, by omega, hml⟩)
        clear hb hn hls hml
        go_wp2_with (first
          | (go_at_call 39; refine (HRP.out x1 n _ _ (by have := HN.out; omega) (by have := HN.out; omega)).mono ?_; rintro e w3 ⟨v3, rfl, hO3, b3⟩; obtain ⟨A3, c3, rfl, h3⟩ := own_ri hO3; have HR3 := Lib.hid h3; have HO3 := Lib.hid (hO.out.below b3); have HB3 := Lib.hid (below2 hB.out b3); clear hO3 h3 b3)
          | (at_builtin; go_loud (refine append_row (w0 := w) w.heap.size rfl (.tmp 34) (.tmp 40) 25 3 .i64 8 rfl Tryd.underlying25 infoI (by decide) _ m (List.replicate n x1) A3 c3 rfl (by rw [List.length_replicate]; rfl) HO3.out HR3.out HB3.out HB3.out.size (by have := HN.out; rw [List.length_replicate]; omega) ?_); intro v4 w4 hO4 hB4 _ _; have HO4 := Lib.hid hO4; have HB4 := Lib.hid hB4; clear hO4 hB4))
        obtain ⟨A6, c6, rfl⟩ := HO4.out.slice
        go_roundw
        case rel => exact ⟨k + 1, _, by first | rfl | go_num, by omega, HE, HO4, HB4⟩
        case measure => simp [intOf] <;> omega
    · obtain rfl : k = s.length := by omega
      have HE := Lib.hid (show bksP s = some m by have h9 := hP.out; rw [List.take_length] at h9; exact h9)
      go_wp2
      go_ret2
      exact ⟨_, ret_two rfl (by unfold booksE; rw [HE.out]; rfl), by unfold booksL; rw [HE.out]; exact hO.out, hB.out⟩
end Go.Proofs.YtmcdgmiheklbeaaDoor

namespace Go.Proofs.YtmcdgmiheklbeaaDoor
open Go.RowKit

end Go.Proofs.YtmcdgmiheklbeaaDoor

namespace Go.Proofs.YtmcdgmiheklbeaaDoor
open Go.RowKit

/-- One more book: the sections. -/
def rnS (s : List (Int × Int)) (k : Int) : List (Int × Int) :=
  if 0 < s.length ∧ (nth (0, 0) s (s.length - 1)).1 = k then s.set (s.length - 1) ((nth (0, 0) s (s.length - 1)).1, (nth (0, 0) s (s.length - 1)).2 + 1) else s ++ [(k, 1)]
def rnK (l : List Int) : List (Int × Int) := l.foldl rnS []
def badK (l : List Int) : Bool := l.any fun k => decide (k < 0) || decide (8 ≤ k)
def runsE (l : List Int) : Int := if 128 < l.length then 1 else if badK l = true then 4 else 0
def runsL (l : List Int) : List (Int × Int) := if runsE l ≠ 0 then [] else rnK l
theorem rnK_take (l : List Int) (k : Nat) (h : k < l.length) : rnK (l.take (k + 1)) = rnS (rnK (l.take k)) (nth 0 l k) := by
  unfold rnK; rw [take_succ_nth 0 l k h, List.foldl_append]; rfl
theorem rnS_len (s : List (Int × Int)) (k : Int) : (rnS s k).length ≤ s.length + 1 ∧ 0 < (rnS s k).length := by
  unfold rnS
  split
  · rename_i h; rw [List.length_set]; exact ⟨Nat.le_succ _, h.1⟩
  · rw [List.length_append]; exact ⟨Nat.le_refl _, by simp⟩
theorem rnK_len (l : List Int) : ∀ k, k ≤ l.length → (rnK (l.take k)).length ≤ k
  | 0, _ => by simp [rnK]
  | k + 1, h => by
    have h1 := rnK_len l k (by omega)
    rw [rnK_take l k h]
    have := (rnS_len (rnK (l.take k)) (nth 0 l k)).1
    omega
theorem bad_at (l : List Int) (k : Nat) (h : k < l.length) (hb : nth 0 l k < 0 ∨ 8 ≤ nth 0 l k) : badK l = true := by
  unfold badK
  rw [List.any_eq_true]
  exact ⟨_, nth_mem 0 l k h, by simpa using hb⟩
theorem bad_no (l : List Int) (h : ∀ k, k < l.length → ¬ (nth 0 l k < 0 ∨ 8 ≤ nth 0 l k)) : badK l = false := by
  unfold badK
  rw [List.any_eq_false]
  intro x hx
  obtain ⟨i, hi, rfl⟩ := List.mem_iff_getElem.1 hx
  have := h i hi
  rw [nth_eq 0 l i hi] at this
  simpa using this
/-- The bands of the sections are few. -/
theorem rnK_bd (l : List Int) : ∀ k, k ≤ l.length → ∀ j, j < (rnK (l.take k)).length → 1 ≤ (nth (0, 0) (rnK (l.take k)) j).2 ∧ (nth (0, 0) (rnK (l.take k)) j).2 ≤ k
  | 0, _, j, hj => by simp [rnK] at hj
  | k + 1, h, j, hj => by
    have ih := rnK_bd l k (by omega)
    rw [rnK_take l k h] at hj ⊢
    unfold rnS at hj ⊢
    split at hj
    · rename_i hc
      rw [if_pos hc]
      rw [List.length_set] at hj
      by_cases e : (rnK (l.take k)).length - 1 = j
      · rw [nth_eq _ _ j (by rw [List.length_set]; exact hj), List.getElem_set, if_pos e]
        have := ih _ (show (rnK (l.take k)).length - 1 < (rnK (l.take k)).length by omega)
        show 1 ≤ (nth (0, 0) (rnK (l.take k)) ((rnK (l.take k)).length - 1)).2 + 1 ∧ (nth (0, 0) (rnK (l.take k)) ((rnK (l.take k)).length - 1)).2 + 1 ≤ ((k + 1 : Nat) : Int)
        omega
      · rw [nth_eq _ _ j (by rw [List.length_set]; exact hj), List.getElem_set, if_neg e, ← nth_eq (0, 0) _ j hj]
        have := ih j hj
        omega
    · rename_i hc
      rw [if_neg hc]
      rcases Nat.lt_or_ge j (rnK (l.take k)).length with h2 | h2
      · rw [nth_append_left _ _ _ _ h2]
        have := ih j h2
        omega
      · rw [nth_append_right _ _ _ _ h2]
        rw [List.length_append, List.length_singleton] at hj
        obtain rfl : j = (rnK (l.take k)).length := by omega
        rw [Nat.sub_self]
        show 1 ≤ (1 : Int) ∧ (1 : Int) ≤ ((k + 1 : Nat) : Int)
        omega

set_option maxHeartbeats 1000000 in
theorem runs1_any (A : Option Addr) (c : Nat) (s : List (Int × Int)) (k : Int) (w : World) (hS : RS w A c s) (hl : s.length ≤ 1000) :
    Calls Tryd.prog 41 #[.slice A s.length c, .int .i64 k] w fun e w' => e = .returned (.bool (decide (0 < s.length ∧ (nth (0, 0) s (s.length - 1)).1 = k))) ∧ w = w' := by
  by_cases h0 : 0 < s.length
  · obtain ⟨j, hj⟩ : ∃ j, s.length - 1 = j := ⟨_, rfl⟩
    have hjl : j < s.length := by omega
    obtain ⟨ad, rfl, _, k0, _⟩ := rd_se hS j hjl
    have d0 : decide ((0 : Int) < (s.length : Int)) = true := decide_eq_true (by omega)
    have hw : IntKind.i64.wrap ((s.length : Int) - 1) = (j : Int) := by rw [IntWalk.i64_in _ (by omega)]; omega
    have hji : (j : Int) < (s.length : Int) := by omega
    have hj0 : (0 : Int) ≤ (j : Int) := by omega
    rw [hj]
    generalize (nth (0, 0) s j).1 = x at *
    have HE := Lib.hid (show (x == k) = decide (0 < s.length ∧ x = k) by rw [Bool.eq_iff_iff]; simp; omega)
    clear hj
    go_enter Tryd.func41, Tryd.ntmps41
    go_wp2
    go_ret
    exact ⟨ret_bool HE.out, rfl⟩
  · have d0 : decide ((0 : Int) < (s.length : Int)) = false := decide_eq_false (by omega)
    have HE := Lib.hid (show false = decide (0 < s.length ∧ (nth (0, 0) s (s.length - 1)).1 = k) by rw [decide_eq_false (fun h => h0 h.1)])
    go_enter Tryd.func41, Tryd.ntmps41
    go_wp2
    go_ret
    exact ⟨ret_bool HE.out, rfl⟩

set_option maxHeartbeats 2000000 in
set_option maxRecDepth 100000 in
theorem runs_any (A : Option Addr) (c : Nat) (l : List Int) (w : World) (hS : RI w A c l) :
    Calls Tryd.prog 18 #[.slice A l.length c] w fun e w' => ∃ v, e = .returned (.tuple #[v, .int .i64 (runsE l)]) ∧ OwnS w.heap.size w' v (runsL l) ∧ Below w.heap.size w w' := by
  by_cases h128 : 128 < l.length
  · have d0 : decide ((128 : Int) < (l.length : Int)) = true := decide_eq_true (by omega)
    have HE := Lib.hid (show runsE l = 1 by unfold runsE; rw [if_pos h128])
    clear h128
    go_enter Tryd.func18, Tryd.ntmps18
    go_wp2
    go_ret2
    exact ⟨_, ret_two rfl (by rw [HE.out]; rfl), by unfold runsL; rw [HE.out, if_pos (by decide)]; exact OwnK.nil _ _ _ _ _, Below.refl _ _⟩
  · have d0 : decide ((128 : Int) < (l.length : Int)) = false := decide_eq_false (by omega)
    have HL := Lib.hid (show l.length ≤ 128 by omega)
    have HS := Lib.hid hS
    have HR1 := Lib.hid (fun A c (s : List (Int × Int)) k W h hl => runs1_any A c s k W h hl)
    clear h128 hS
    go_enter Tryd.func18, Tryd.ntmps18
    go_wp2
    go_loopw [5, 7, 13] (fun ov kv iv wr => ∃ (k : Nat) (s : List (Int × Int)), iv = .int .i64 (k : Int) ∧ k ≤ l.length ∧ Hid (rnK (l.take k) = s) ∧ Hid (∀ j, j < k → ¬ (nth 0 l j < 0 ∨ 8 ≤ nth 0 l j)) ∧ Hid (OwnS w.heap.size wr ov s) ∧ Hid (Below w.heap.size w wr)) (fun _ _ iv _ => l.length - (intOf iv).toNat)
    case atStart => exact ⟨0, [], rfl, Nat.zero_le _, Lib.hid rfl, Lib.hid (fun j h => by omega), Lib.hid (OwnK.nil _ _ _ _ _), Lib.hid (Below.refl _ _)⟩
    case round =>
      obtain ⟨k, s, rfl, hk, hP, hQ, hO, hB⟩ := hrel
      obtain ⟨A5, c5, rfl, h5⟩ := own_rs hO.out
      by_cases hlt : k < l.length
      · have hli : (k : Int) < (l.length : Int) := by omega
        have hk1 : IntKind.i64.wrap ((k : Int) + 1) = ((k + 1 : Nat) : Int) := by rw [IntWalk.i64_in _ (by have := HL.out; omega)]; omega
        obtain ⟨ad, rfl, k0⟩ := rd_int (HS.out.below hB.out) k hlt
        have HNX := Lib.hid (show rnK (l.take (k + 1)) = rnS s (nth 0 l k) by rw [rnK_take l k hlt, hP.out])
        have HLN := Lib.hid (show s.length ≤ 128 by have := rnK_len l k hk; rw [hP.out] at this; have := HL.out; omega)
        have HBD := Lib.hid (show ∀ j, j < s.length → 1 ≤ (nth (0, 0) s j).2 ∧ (nth (0, 0) s j).2 ≤ 128 from fun j hj => by have := rnK_bd l k hk j (by rw [hP.out]; exact hj); rw [hP.out] at this; have := HL.out; omega)
        have HBA := Lib.hid (bad_at l k hlt)
        have HQ2 := Lib.hid (fun (h : ¬ (nth 0 l k < 0 ∨ 8 ≤ nth 0 l k)) j (hj : j < k + 1) => show ¬ (nth 0 l j < 0 ∨ 8 ≤ nth 0 l j) by
          rcases Nat.lt_or_ge j k with h1 | h1
          · exact hQ.out j h1
          · obtain rfl : j = k := by omega
            exact h)
        generalize nth 0 l k = x at k0 HNX HBA HQ2
        by_cases hb : x < 0 ∨ 8 ≤ x
        · have HE := Lib.hid (show runsE l = 4 by unfold runsE; rw [if_neg (by have := HL.out; omega), if_pos (HBA.out hb)])
          have hcs : decide (x < 0) = true ∨ (decide (x < 0) = false ∧ decide (8 ≤ x) = true) := by
            by_cases h1 : x < 0
            · exact .inl (decide_eq_true h1)
            · exact .inr ⟨decide_eq_false h1, decide_eq_true (by omega)⟩
          clear hb
          rcases hcs with d1 | ⟨d1, d2⟩
          all_goals
            go_wp2
            go_ret2
            exact ⟨_, ret_two rfl (by rw [HE.out]; rfl), by unfold runsL; rw [HE.out, if_pos (by decide)]; exact OwnK.nil _ _ _ _ _, hB.out⟩
        · have HQ3 := Lib.hid (HQ2.out hb)
          have d1 : decide (x < 0) = false := decide_eq_false (by omega)
          have d2 : decide (8 ≤ x) = false := decide_eq_false (by omega)
          have H5 := Lib.hid h5.any
          clear hb h5
          cases hc : decide (0 < s.length ∧ (nth (0, 0) s (s.length - 1)).1 = x)
          · have HNS := Lib.hid (show rnS s x = s ++ [(x, 1)] from if_neg (of_decide_eq_false hc))
            have HC := Lib.hid hc
            clear hc
            go_wp2_with (first
              | (go_at_call 41; refine (HR1.out A5 c5 s x _ H5.out (by have := HLN.out; omega)).mono ?_; rw [HC.out]; rintro e w3 ⟨rfl, rfl⟩)
              | (at_builtin; (refine append_k (W := wr) (k := kSe) w.heap.size rfl (.tmp 17) (.tmp 20) 31 67 (.agg #[.int .i64 0, .int .i64 0]) 16 (fun _ => False) rfl Tryd.underlying31 infoSe rfl (by decide) (by decide) _ s (x, 1) [.int .i64 x, .int .i64 1] rfl rfl rfl hO.out rfl hB.out.size (by have := HLN.out; omega) ?_); intro g5 cap5 w5 hO5 hg5 hb5 ha5; have HO5 := Lib.hid hO5; have HB5 := Lib.hid (hB.out.grown hg5 hB.out.size hO.out.base_le); clear hO5 hg5 ha5))
            go_roundw
            case rel => exact ⟨k + 1, s ++ [(x, 1)], by first | rfl | go_num, by omega, Lib.hid (by rw [HNX.out, HNS.out]), HQ3, HO5, HB5⟩
            case measure => simp [intOf] <;> omega
          · obtain ⟨h0, hx⟩ := of_decide_eq_true hc
            have HC := Lib.hid hc
            obtain ⟨j, hj⟩ : ∃ j, s.length - 1 = j := ⟨_, rfl⟩
            have hjl : j < s.length := by omega
            have hns : rnS s x = s.set j ((nth (0, 0) s j).1, (nth (0, 0) s j).2 + 1) := by unfold rnS; rw [if_pos ⟨h0, hx⟩, hj]
            obtain ⟨g, cap, hf, hg, _⟩ := hO.out.form h0
            injection hf with e1 e2 e3
            subst e1 e3
            obtain ⟨q0, q1, q2⟩ := hO.out.at_ j hjl
            have HSET := Lib.hid (hO.out.set j hjl ((nth (0, 0) s j).2 + 1))
            rw [← hns] at HSET
            have hbd := HBD.out j hjl
            generalize (nth (0, 0) s j).2 = y at q1 HSET hbd
            have hwy : IntKind.i64.wrap (y + 1) = y + 1 := IntWalk.i64_in _ (by omega)
            have hw : IntKind.i64.wrap ((s.length : Int) - 1) = (j : Int) := by rw [IntWalk.i64_in _ (by have := HLN.out; omega)]; omega
            have hji : (j : Int) < (s.length : Int) := by omega
            have hj0 : (0 : Int) ≤ (j : Int) := by omega
            have HB6 := Lib.hid (hB.out.trans ((Upd.of_grown (o := fun z => w.heap.size ≤ z) HSET.out.2 (fun r e => by cases e; exact hg)).below (n := w.heap.size) hB.out.size (fun z _ h => h)))
            clear hc hj hns h0 hx e2 hbd
            go_wp2_with (go_at_call 41; refine (HR1.out _ _ s x _ H5.out (by have := HLN.out; omega)).mono ?_; rw [HC.out]; rintro e w3 ⟨rfl, rfl⟩)
            go_roundw
            case rel => exact ⟨k + 1, rnS s x, by first | rfl | go_num, by omega, HNX, HQ3, Lib.hid HSET.out.1, HB6⟩
            case measure => simp [intOf] <;> omega
      · obtain rfl : k = l.length := by omega
        have HE := Lib.hid (show runsE l = 0 by unfold runsE; rw [if_neg (by have := HL.out; omega), if_neg (by rw [bad_no l hQ.out]; simp)])
        have HS2 := Lib.hid (show rnK l = s by have h9 := hP.out; rw [List.take_length] at h9; exact h9)
        go_wp2
        go_ret2
        exact ⟨_, ret_two rfl (by rw [HE.out]; rfl), by unfold runsL; rw [HE.out, if_neg (by simp), HS2.out]; exact hO.out, hB.out⟩
end Go.Proofs.YtmcdgmiheklbeaaDoor

namespace Go.Proofs.YtmcdgmiheklbeaaDoor
open Go.RowKit

/-- Two lists of sections are the same. -/
def sameS (a b : List (Int × Int)) : Bool := decide (a = b)
theorem sameS_end {a b : List (Int × Int)} (hl : a.length = b.length) (h : ∀ j, j < a.length → nth (0, 0) a j = nth (0, 0) b j) : sameS a b = true := by
  refine decide_eq_true (List.ext_getElem hl fun i h1 h2 => ?_)
  have := h i h1
  rwa [nth_eq (0, 0) a i h1, nth_eq (0, 0) b i h2] at this
theorem sameS_refl (a : List (Int × Int)) : sameS a a = true := decide_eq_true rfl
set_option maxHeartbeats 1000000 in
set_option maxRecDepth 100000 in
theorem rsame_any (A B : Option Addr) (c d : Nat) (a b : List (Int × Int)) (w : World) (hS : RS w A c a) (hT : RS w B d b) :
    Calls Tryd.prog 14 #[.slice A a.length c, .slice B b.length d] w fun e w' => e = .returned (.bool (sameS a b)) ∧ Below w.heap.size w w' := by
  by_cases hl : a.length = b.length
  · have hb : ((a.length : Int) != (b.length : Int)) = false := by simp [hl]
    have hls : a.length ≤ 9223372036854775807 := Nat.le_trans hS.1 hS.cap
    have HLS := Lib.hid hls
    have HL := Lib.hid hl
    have HS := Lib.hid hS
    have HT := Lib.hid hT
    clear hl hls hS hT
    go_enter Tryd.func14, Tryd.ntmps14
    go_wp2
    go_loopw [5, 13] (fun iv kv wr => ∃ k : Nat, kv = .int .i64 (k : Int) ∧ k ≤ a.length ∧ Hid (∀ j, j < k → nth (0, 0) a j = nth (0, 0) b j) ∧ Hid (Below w.heap.size w wr)) (fun _ kv _ => a.length - (intOf kv).toNat)
    case atStart => exact ⟨0, rfl, Nat.zero_le _, Lib.hid (fun j h => by omega), Lib.hid (Below.refl _ _)⟩
    case round =>
      obtain ⟨k, rfl, hk, hE, hB⟩ := hrel
      by_cases hlt : k < a.length
      · have hli : (k : Int) < (a.length : Int) := by omega
        have hli2 : (k : Int) < (b.length : Int) := by have := HL.out; omega
        have hk0 : (0 : Int) ≤ (k : Int) := by omega
        have hk1 : IntKind.i64.wrap ((k : Int) + 1) = ((k + 1 : Nat) : Int) := by rw [IntWalk.i64_in _ (by have := HLS.out; omega)]; omega
        obtain ⟨ad, rfl, _, p0, p1⟩ := rd_se (HS.out.below hB.out) k hlt
        obtain ⟨ae, rfl, _, q0, q1⟩ := rd_se (HT.out.below hB.out) k (by have := HL.out; omega)
        by_cases he : nth (0, 0) a k = nth (0, 0) b k
        · have HE := Lib.hid he
          rw [he] at p0 p1
          generalize nth (0, 0) b k = y at p0 p1 q0 q1
          clear he
          go_wp2_with fail
          go_quiet (fail)
          go_wp2
          go_roundw
          case rel =>
            refine ⟨k + 1, by first | rfl | go_num, by omega, Lib.hid (fun j hj => ?_), Lib.hid (below_drewN hB.out _)⟩
            rcases Nat.lt_or_ge j k with h1 | h1
            · exact hE.out j h1
            · obtain rfl : j = k := by omega
              exact HE.out
          case measure => simp [intOf] <;> omega
        · have HN := Lib.hid (show sameS a b = false from decide_eq_false fun e => he (by rw [e]))
          have hne : ((nth (0, 0) a k).1 == (nth (0, 0) b k).1 && (nth (0, 0) a k).2 == (nth (0, 0) b k).2) = false := by
            rw [Bool.and_eq_false_iff]
            by_cases h1 : (nth (0, 0) a k).1 = (nth (0, 0) b k).1
            · exact .inr (by simpa using fun h2 => he (Prod.ext h1 h2))
            · exact .inl (by simpa using h1)
          have hcs : ((nth (0, 0) a k).1 == (nth (0, 0) b k).1) = false ∨ (((nth (0, 0) a k).1 == (nth (0, 0) b k).1) = true ∧ ((nth (0, 0) a k).2 == (nth (0, 0) b k).2) = false) := by
            cases h1 : ((nth (0, 0) a k).1 == (nth (0, 0) b k).1)
            · exact .inl rfl
            · rw [h1, Bool.true_and] at hne; exact .inr ⟨rfl, hne⟩
          generalize nth (0, 0) a k = x at *
          generalize nth (0, 0) b k = y at *
          clear he hne
          rcases hcs with d1 | ⟨d1, d2⟩
          all_goals
            go_wp2_with fail
            go_quiet (fail)
            go_wp2
            go_ret
            exact ⟨ret_bool HN.out.symm, below_drewN hB.out _⟩
      · obtain rfl : k = a.length := by omega
        have HN := Lib.hid (sameS_end HL.out hE.out)
        go_wp2
        go_ret
        exact ⟨ret_bool HN.out.symm, hB.out⟩
  · have hb : ((a.length : Int) != (b.length : Int)) = true := by simp; omega
    have HN := Lib.hid (show sameS a b = false from decide_eq_false fun e => hl (by rw [e]))
    clear hl
    go_enter Tryd.func14, Tryd.ntmps14
    go_wp2
    go_ret
    exact ⟨ret_bool HN.out.symm, Below.refl _ _⟩
end Go.Proofs.YtmcdgmiheklbeaaDoor

namespace Go.Proofs.YtmcdgmiheklbeaaDoor
open Go.RowKit

end Go.Proofs.YtmcdgmiheklbeaaDoor

namespace Go.Proofs.YtmcdgmiheklbeaaDoor
open Go.RowKit

def widV (ws : List Int) (j : Nat) : Nat := (nth 0 ws j).toNat
def sumV (ws : List Int) (k : Nat) : Nat := sumTo k (widV ws)
theorem sumV_succ (ws : List Int) (k : Nat) : sumV ws (k + 1) = sumV ws k + widV ws k := sumTo_succ _ _
def okV (x : Int) : Bool := decide (1 ≤ x) && decide (x ≤ 128)
theorem all_okV_take (ws : List Int) (k : Nat) (h : k < ws.length) : (ws.take (k + 1)).all okV = ((ws.take k).all okV && okV (nth 0 ws k)) := by
  rw [take_succ_nth 0 ws k h, List.all_append]; simp
theorem all_okV_no {ws : List Int} {k : Nat} (h : k < ws.length) (hk : okV (nth 0 ws k) = false) : ws.all okV = false := by
  cases he : ws.all okV
  · rfl
  · have := List.all_eq_true.1 he _ (nth_mem 0 ws k h)
    rw [hk] at this; cases this
theorem sumV_le {ws : List Int} : ∀ k, k ≤ ws.length → (ws.take k).all okV = true → sumV ws k ≤ 128 * k
  | 0, _, _ => Nat.le_refl _
  | k + 1, h, ha => by
    rw [all_okV_take ws k (by omega), Bool.and_eq_true] at ha
    have h1 := sumV_le k (by omega) ha.1
    have h2 : 1 ≤ nth 0 ws k ∧ nth 0 ws k ≤ 128 := by simpa [okV] using ha.2
    rw [sumV_succ]; unfold widV; omega
theorem sumV_mono (ws : List Int) (k : Nat) : ∀ d, sumV ws k ≤ sumV ws (k + d)
  | 0 => Nat.le_refl _
  | d + 1 => by
    have := sumV_mono ws k d
    rw [show k + (d + 1) = (k + d) + 1 by omega, sumV_succ]; omega
set_option maxHeartbeats 2000000 in
set_option maxRecDepth 100000 in
theorem right18_any (A : Option Addr) (c : Nat) (ws : List Int) (w : World) (hS : RI w A c ws) (hw : ws.length ≤ 100000) :
    Calls Tryd.prog 34 #[.slice A ws.length c] w fun e w' => e = .returned (.tuple #[.int .i64 (if ws.all okV = true then (sumV ws ws.length : Int) else 0), .bool (ws.all okV && decide (ws.length ≤ 128))]) ∧ w = w' := by
  have HS := Lib.hid hS
  obtain ⟨R, hR⟩ : ∃ R : Int, (if ws.all okV = true then (sumV ws ws.length : Int) else 0) = R := ⟨_, rfl⟩
  have HR := Lib.hid hR
  rw [hR]
  clear hS hR
  go_enter Tryd.func34, Tryd.ntmps34
  go_wp2
  go_loopw [4, 9] (fun nv iv wr => ∃ k : Nat, iv = .int .i64 (k : Int) ∧ k ≤ ws.length ∧ nv = .int .i64 (sumV ws k : Int) ∧ Hid ((ws.take k).all okV = true) ∧ w = wr) (fun _ iv _ => ws.length - (intOf iv).toNat)
  case atStart => exact ⟨0, rfl, Nat.zero_le _, rfl, Lib.hid rfl, rfl⟩
  case round =>
    obtain ⟨k, rfl, hk, rfl, hA, rfl⟩ := hrel
    by_cases hlt : k < ws.length
    · obtain ⟨ad, rfl, hc⟩ := rd_int HS.out k hlt
      have hki : (k : Int) < (ws.length : Int) := by omega
      have HN := Lib.hid (all_okV_take ws k hlt)
      have HNO := Lib.hid (all_okV_no hlt)
      have hsl := sumV_le k hk hA.out
      have HSU := Lib.hid (sumV_succ ws k)
      have hwd : widV ws k = (nth 0 ws k).toNat := rfl
      obtain ⟨T, hT⟩ : ∃ T, sumV ws k = T := ⟨_, rfl⟩
      rw [hT] at hsl HSU
      obtain ⟨S, hS2⟩ : ∃ S, sumV ws (k + 1) = S := ⟨_, rfl⟩
      rw [hS2] at HSU
      generalize nth 0 ws k = x at hc HN HNO hwd
      by_cases h1 : x < 1
      · have e1 : decide (x < 1) = true := decide_eq_true h1
        have HQ := Lib.hid (show ws.all okV = false from HNO.out (by unfold okV; rw [decide_eq_false (by omega)]; rfl))
        rw [hT]
        clear h1 hwd hT hS2
        go_wp2
        go_ret2
        exact ⟨ret_two (by rw [← HR.out, if_neg (by rw [HQ.out]; simp)]; rfl) (by rw [HQ.out]; rfl), rfl⟩
      · have e1 : decide (x < 1) = false := decide_eq_false h1
        by_cases h2 : 128 < x
        · have e2 : decide (128 < x) = true := decide_eq_true h2
          have HQ := Lib.hid (show ws.all okV = false from HNO.out (by unfold okV; rw [decide_eq_false (by omega : ¬ x ≤ 128)]; simp))
          rw [hT]
          clear h1 h2 hwd hT hS2
          go_wp2
          go_ret2
          exact ⟨ret_two (by rw [← HR.out, if_neg (by rw [HQ.out]; simp)]; rfl) (by rw [HQ.out]; rfl), rfl⟩
        · have e2 : decide (128 < x) = false := decide_eq_false h2
          have HA2 := Lib.hid (show (ws.take (k + 1)).all okV = true by rw [HN.out, hA.out]; unfold okV; rw [decide_eq_true (by omega), decide_eq_true (by omega)]; rfl)
          have hws : IntKind.i64.wrap ((T : Int) + x) = (S : Int) := by rw [IntWalk.i64_in _ (by omega)]; have := HSU.out; omega
          have HS2 := Lib.hid hS2
          rw [hT]
          clear h1 h2 hwd hT hS2 hsl
          go_wp2
          go_roundw
          case rel => exact ⟨k + 1, by go_num, by omega, by rw [HS2.out], HA2, trivial⟩
          case measure => simp [intOf]; omega
    · obtain rfl : k = ws.length := by omega
      have HALL := Lib.hid (show ws.all okV = true by have := hA.out; rwa [List.take_length] at this)
      by_cases h128 : ws.length ≤ 128
      · have hd : decide ((ws.length : Int) ≤ 128) = true := decide_eq_true (by omega)
        have HD := Lib.hid (show decide (ws.length ≤ 128) = true from decide_eq_true h128)
        clear h128
        go_wp2
        go_ret2
        exact ⟨ret_two (by rw [← HR.out, if_pos HALL.out]; rfl) (by rw [HALL.out, HD.out]; rfl), rfl⟩
      · have hd : decide ((ws.length : Int) ≤ 128) = false := decide_eq_false (by omega)
        have HD := Lib.hid (show decide (ws.length ≤ 128) = false from decide_eq_false h128)
        clear h128
        go_wp2
        go_ret2
        exact ⟨ret_two (by rw [← HR.out, if_pos HALL.out]; rfl) (by rw [HALL.out, HD.out]; rfl), rfl⟩
/-- The error of widths and values. -/
def sureE (ws l : List Int) : Int := if ws.all okV = true ∧ ws.length ≤ 128 ∧ sumV ws ws.length = l.length then (if quantB l = true then 0 else 6) else 1
theorem checked0 (l : List Int) : checkedK 0 l = if quantB l = true then 0 else 6 := by
  unfold checkedK
  rw [if_neg (by omega)]
  cases quantB l <;> simp
set_option maxHeartbeats 1000000 in
theorem checked18_any (A B : Option Addr) (c d : Nat) (ws l : List Int) (w : World) (hS : RI w A c ws) (hT : RI w B d l) (hw : ws.length ≤ 100000) (hG : GF w) :
    Calls Tryd.prog 44 #[.slice A ws.length c, .slice B l.length d] w fun e w' => e = .returned (.int .i64 (sureE ws l)) ∧ Below w.heap.size w w' := by
  have HR := Lib.hid (right18_any A c ws w hS hw)
  have HF := Lib.hid (bfits_any B d 0 l w hT hG)
  rw [checked0] at HF
  generalize fitsV 0 l = F at HF
  by_cases ha : ws.all okV = true ∧ ws.length ≤ 128
  · rw [if_pos ha.1, ha.1, decide_eq_true ha.2] at HR
    by_cases hs : sumV ws ws.length = l.length
    · have HE := Lib.hid (show sureE ws l = if quantB l = true then 0 else 6 by unfold sureE; rw [if_pos ⟨ha.1, ha.2, hs⟩])
      rw [hs] at HR
      clear ha hs
      cases hq : quantB l
      · rw [hq] at HF HE
        clear hq
        go_enter Tryd.func44, Tryd.ntmps44
        go_wp2_with (first
          | (go_at_call 34; refine HR.out.mono ?_; rintro e w2 ⟨rfl, rfl⟩)
          | (go_at_call 70; refine HF.out.mono ?_; rintro e w3 ⟨rfl, b3⟩))
        go_ret
        exact ⟨ret_int (by rw [HE.out]; rfl), b3⟩
      · rw [hq] at HF HE
        clear hq
        go_enter Tryd.func44, Tryd.ntmps44
        go_wp2_with (first
          | (go_at_call 34; refine HR.out.mono ?_; rintro e w2 ⟨rfl, rfl⟩)
          | (go_at_call 70; refine HF.out.mono ?_; rintro e w3 ⟨rfl, b3⟩))
        go_ret
        exact ⟨ret_int (by rw [HE.out]; rfl), b3⟩
    · have HE := Lib.hid (show sureE ws l = 1 by unfold sureE; rw [if_neg (fun h => hs h.2.2)])
      have hne : ((sumV ws ws.length : Int) != (l.length : Int)) = true := by simp; omega
      generalize sumV ws ws.length = S at *
      clear ha hs
      go_enter Tryd.func44, Tryd.ntmps44
      go_wp2_with (go_at_call 34; refine HR.out.mono ?_; rintro e w2 ⟨rfl, rfl⟩)
      go_ret
      exact ⟨ret_int (by rw [HE.out]), Below.refl _ _⟩
  · have HE := Lib.hid (show sureE ws l = 1 by unfold sureE; rw [if_neg (fun h => ha ⟨h.1, h.2.1⟩)])
    have hb : (ws.all okV && decide (ws.length ≤ 128)) = false := by
      rw [Bool.and_eq_false_iff]
      by_cases h1 : ws.all okV = true
      · exact .inr (decide_eq_false fun h2 => ha ⟨h1, h2⟩)
      · exact .inl (by simpa using h1)
    rw [hb] at HR
    generalize (if ws.all okV = true then (sumV ws ws.length : Int) else 0) = S at HR
    clear ha hb
    go_enter Tryd.func44, Tryd.ntmps44
    go_wp2_with (go_at_call 34; refine HR.out.mono ?_; rintro e w2 ⟨rfl, rfl⟩)
    go_ret
    exact ⟨ret_int (by rw [HE.out]), Below.refl _ _⟩
/-- How many bits a gamma code has. -/
def gamN (v : Nat) : Nat := 2 * Nat.log2 v + 1
set_option maxHeartbeats 1000000 in
theorem gamma18_any (v : Nat) (w : World) (hv : v ≤ 1000000) :
    Calls Tryd.prog 51 #[.int .i64 (v : Int)] w fun e w' => e = .returned (.int .i64 (gamN v : Nat)) ∧ w = w' := by
  have HV := Lib.hid hv
  go_enter Tryd.func51, Tryd.ntmps51
  go_wp2
  go_loopw [0, 3] (fun vv nv wr => ∃ x n : Nat, vv = .int .i64 (x : Int) ∧ nv = .int .i64 (n : Int) ∧ x ≤ v ∧ n ≤ 2000000 ∧ Hid (n + 2 * Nat.log2 x = gamN v) ∧ wr = w) (fun vv _ _ => (intOf vv).toNat)
  case atStart => exact ⟨v, 1, rfl, rfl, Nat.le_refl _, by omega, Lib.hid (by unfold gamN; omega), rfl⟩
  case round =>
    obtain ⟨x, n, rfl, rfl, hx, hn, hP, rfl⟩ := hrel
    by_cases h : 1 < x
    · have hd : decide ((1 : Int) < (x : Int)) = true := decide_eq_true (by omega)
      have hl := log2_half (v := x) (by omega)
      have hq : (x : Int).tdiv 2 = ((x / 2 : Nat) : Int) := by rw [Int.tdiv_eq_ediv_of_nonneg (by omega)]; omega
      have hq2 : (x : Int) / 2 = ((x / 2 : Nat) : Int) := by omega
      have hle : x / 2 < x ∧ x / 2 ≤ v := by omega
      have hll : Nat.log2 (x / 2) ≤ 1000000 := Nat.le_trans (log2_le (n := x / 2) (Nat.lt_of_lt_of_le Nat.lt_two_pow_self (Nat.pow_le_pow_right (by decide) (Nat.le_succ _)))) (by have := HV.out; omega)
      have HP2 := Lib.hid (show n + 2 + 2 * Nat.log2 (x / 2) = gamN v by have := hP.out; omega)
      have hn2 : n + 2 ≤ 2000000 := by
        have h1 := hP.out
        have h2 : gamN v ≤ 2000000 := by
          unfold gamN
          have := log2_le (v := v) (n := 20) (Nat.lt_of_le_of_lt HV.out (by decide))
          omega
        omega
      have hzz : 1 < x := h
      generalize x / 2 = y at *
      have hwy : IntKind.i64.wrap (y : Int) = (y : Int) := IntWalk.i64_in _ (by have := HV.out; omega)
      have hwn : IntKind.i64.wrap ((n : Int) + 2) = ((n + 2 : Nat) : Int) := by rw [IntWalk.i64_in _ (by omega)]; omega
      clear hl hll h
      go_wp2
      go_roundw
      case rel => exact ⟨y, n + 2, by first | rfl | go_num, by first | rfl | go_num, hle.2, hn2, HP2, by first | rfl | trivial⟩
      case measure => simp [intOf] <;> omega
    · have hd : decide ((1 : Int) < (x : Int)) = false := decide_eq_false (by omega)
      have HN := Lib.hid (show n = gamN v by have h1 := hP.out; rw [log2_one (by omega)] at h1; omega)
      have hzz : ¬ 1 < x := h
      clear h
      go_wp2
      go_ret
      exact ⟨ret_int (by rw [HN.out]), by first | rfl | trivial⟩
end Go.Proofs.YtmcdgmiheklbeaaDoor

namespace Go.Proofs.YtmcdgmiheklbeaaDoor
open Go.RowKit
attribute [local go_sem] Oper.semAt_some

set_option maxHeartbeats 1000000 in
theorem bands_any (A B : Option Addr) (n c m d : Nat) (w : World) :
    Calls Tryd.prog 48 #[.slice A n c, .slice B m d] w fun e w' => ∃ g1 g2, e = .returned (.func (.func 73) #[] #[.pointer (some ⟨g1, 0, none⟩), .pointer (some ⟨g2, 0, none⟩)]) ∧ Hid (g1 = w.heap.size) ∧ Hid (g2 = g1 + 1) ∧ Hid (w'.heap.size = g2 + 1) ∧ Blk w' g1 #[.slice A n c] 25 ∧ Blk w' g2 #[.slice B m d] 25 ∧ Below w.heap.size w w' := by
  have h1 : Blk (w.alloc (.cells #[.slice A n c] 25)) w.heap.size #[.slice A n c] 25 := heap_alloc_new w _
  have h2 := h1.below (below_alloc (Below.refl _ _) (.cells #[.slice B m d] 25))
  have h3 : Blk ((w.alloc (.cells #[.slice A n c] 25)).alloc (.cells #[.slice B m d] 25)) (w.alloc (.cells #[.slice A n c] 25)).heap.size #[.slice B m d] 25 := heap_alloc_new _ _
  have h4 := below_alloc (below_alloc (Below.refl w.heap.size w) (.cells #[.slice A n c] 25)) (.cells #[.slice B m d] 25)
  have h5 : (w.alloc (.cells #[.slice A n c] 25)).heap.size = w.heap.size + 1 := by simp
  rw [h5] at h3
  go_enter Tryd.func48, Tryd.ntmps48
  go_wp2
  go_ret
  exact ⟨_, _, rfl, Lib.hid rfl, Lib.hid (by simp), Lib.hid (by simp), h2, h3, h4⟩
theorem sumV_all {ws l : List Int} (h : sumV ws ws.length = l.length) (j : Nat) (hj : j < ws.length) : sumV ws j + widV ws j ≤ l.length := by
  rw [← sumV_succ, ← h]
  have := sumV_mono ws (j + 1) (ws.length - (j + 1))
  rwa [show j + 1 + (ws.length - (j + 1)) = ws.length by omega] at this
theorem okV_at {ws : List Int} (h : ws.all okV = true) (j : Nat) (hj : j < ws.length) : nth 0 ws j = (widV ws j : Int) ∧ 1 ≤ widV ws j ∧ widV ws j ≤ 128 := by
  have h1 := List.all_eq_true.1 h _ (nth_mem 0 ws j hj)
  have h2 : 1 ≤ nth 0 ws j ∧ nth 0 ws j ≤ 128 := by simpa [okV] using h1
  unfold widV
  omega
/-- What comes next. -/
def NextB (q : Nat) (pre : List Nat) (x : Nat) : Prop := x < q ∧ pre = List.range x
/-- A band's values as a value. -/
def bandV (B : Option Addr) (ws : List Int) (j : Nat) : Value := .slice (B.map fun ad => ad.add (sumV ws j)) (widV ws j) (widV ws j)
/-- A band's values. -/
def bndL (ws l : List Int) (j : Nat) : List Int := (l.drop (sumV ws j)).take (widV ws j)

set_option maxHeartbeats 2000000 in
set_option maxRecDepth 100000 in
theorem bands1_yields (g1 g2 : Nat) (A B : Option Addr) (c d : Nat) (ws l : List Int) (w : World) (ok : Nat → Prop) (hS : RI w A c ws) (hT : RI w B d l) (hA : Blk w g1 #[.slice A ws.length c] 25) (hB : Blk w g2 #[.slice B l.length d] 25) (_ok1 : ok g1) (ok2 : ok g2) (hokA : Sl (kInt .i64) ok w A c ws) (n : Nat) (hn : 1 ≤ n) (hok : ws.all okV = true) (hsum : sumV ws ws.length = l.length) (h128 : ws.length ≤ 128) :
    YieldsN Fence.wide n Tryd.prog 73 #[.pointer (some ⟨g1, 0, none⟩), .pointer (some ⟨g2, 0, none⟩)] (fun x : Nat => #[.agg #[.int .i64 (x : Int), bandV B ws x]]) ok (fun _ => False) (fun xs => xs = List.range ws.length) (fun _ => True) (NextB ws.length) w := by
  intro y J Jx W hW hJ hJx hY h0
  have hAW := hA.below hW
  have hBW := hB.below hW
  have hle := hT.le
  have HSW := Lib.hid (hokA.below hW)
  have HBA : Hid (0 < l.length → ∃ ad, B = some ad) := Lib.hid fun h => by
    obtain ⟨ad, h1, _⟩ := rd_int hT 0 h
    exact ⟨ad, h1⟩
  refine callsIn_of_wp Tryd.func73 rfl trivial ?_ rfl
  simp only [Tryd.ntmps73, List.size_toArray, List.length_cons, List.length_nil, Nat.reduceAdd, Nat.reduceSub, Array.replicate_succ, Array.replicate_zero, List.push_toArray, List.append_toArray, List.nil_append, List.cons_append]
  have kA : W.cell? ⟨g1, 0, none⟩ = some (.slice A ws.length c) := hAW.cell 0 rfl
  gi_wp2
  have H0 : Hid (J (List.range 0) W) := Lib.hid h0
  have HY := Lib.hid hY
  clear h0 hY
  have HOK := Lib.hid (fun j (hj : j < ws.length) => okV_at hok j hj)
  have HSM := Lib.hid (fun j (hj : j < ws.length) => sumV_all hsum j hj)
  have HSU := Lib.hid (fun j => sumV_succ ws j)
  have HLE := Lib.hid (show l.length ≤ 16384 by rw [← hsum]; have := sumV_le (ws := ws) ws.length (Nat.le_refl _) (by rw [List.take_length]; exact hok); omega)
  clear hok hsum
  gi_loopw [4, 5, 6, 9] (fun av nv wv iv wr => ∃ j : Nat, j ≤ ws.length ∧ iv = .int .i64 (j : Int) ∧ av = .int .i64 (sumV ws j : Nat) ∧ Hid (J (List.range j) wr) ∧ Keep ok W wr) (fun _ _ _ iv _ => ws.length - (intOf iv).toNat)
  case atStart => exact ⟨0, Nat.zero_le _, rfl, rfl, H0, Keep.refl _ _⟩
  case round =>
    clear H0
    obtain ⟨j, hj, rfl, rfl, HJ, hkp⟩ := hrel
    have kb : wr.cell? ⟨g2, 0, none⟩ = some (.slice B l.length d) := (hBW.keep hkp ok2).cell 0 rfl
    by_cases hlt : j < ws.length
    · have hli : (j : Int) < (ws.length : Int) := by omega
      have hj1 : IntKind.i64.wrap ((j : Int) + 1) = ((j + 1 : Nat) : Int) := by rw [IntWalk.i64_in _ (by omega)]; omega
      obtain ⟨hwn, hw1, hw128⟩ := HOK.out j hlt
      have hle2 := HSM.out j hlt
      have HSX := Lib.hid (HSU.out j)
      obtain ⟨ad, hAD, k0⟩ := rd_int (HSW.out.keep hkp) j hlt
      subst hAD
      rw [hwn] at k0
      obtain ⟨be, hBE⟩ := HBA.out (by omega)
      subst hBE
      obtain ⟨fn, tmps, assign, body, hy, hRd⟩ := HY.out (List.range j) j _ HJ.out ⟨hlt, rfl⟩
      replace hy : (Instr.yield y #[.agg #[.int .i64 (j : Int), .slice (some (be.add (sumV ws j))) (widV ws j) (widV ws j)]]).run Tryd.prog wr = .ok (.round y fn tmps assign body) wr := hy
      obtain ⟨S2, hS2⟩ : ∃ S2, sumV ws (j + 1) = S2 := ⟨_, rfl⟩
      have HS2 := Lib.hid hS2
      rw [hS2] at HSX
      obtain ⟨p, hp⟩ : ∃ p, sumV ws j = p := ⟨_, rfl⟩
      obtain ⟨D, hD⟩ : ∃ D, widV ws j = D := ⟨_, rfl⟩
      rw [hp, hD] at hle2 hy HSX
      rw [hD] at hw1 hw128 k0
      rw [hp]
      have hcut := fun W => cut_grp p D l.length d be hw1 hle2 hle W
      have hwp : IntKind.i64.wrap ((p : Int) + (D : Int)) = ((p + D : Nat) : Int) := by rw [Int.natCast_add]; exact IntWalk.i64_in _ (by have := HLE.out; omega)
      obtain ⟨s, hs⟩ : ∃ s, p + D = s := ⟨_, rfl⟩
      rw [hs] at hcut hwp hle2 HSX
      have hsi : (s : Int) ≤ (l.length : Int) := by omega
      have HS' := Lib.hid (show p + D = s from hs)
      clear hs hp hD hwn
      gi_wp2
      refine hRd.mono ?_
      rintro e W3 (⟨rfl, hJ3, hk3⟩ | ⟨rfl, hJx3⟩)
      · gi_wp2
        go_roundw
        case rel => exact ⟨j + 1, by omega, by first | rfl | go_num, by rw [HS2.out, HSX.out], by rw [List.range_succ]; exact Lib.hid hJ3, hkp.trans hk3⟩
        case measure => simp [intOf] <;> omega
      · gi_wp2
        refine bodyPost_ret (results_none rfl _ _ _) rfl ?_
        exact ⟨⟨_, rfl⟩, .inr ⟨_, trivial, hJx3⟩⟩
    · obtain rfl : j = ws.length := by omega
      gi_wp2
      go_end0
      exact ⟨⟨_, rfl⟩, .inl ⟨_, rfl, HJ.out⟩⟩
end Go.Proofs.YtmcdgmiheklbeaaDoor
