/- The law PrefixBack: it returns true for every input, and its arguments read as before. No conditions. -/
import Derived.Test.YtlbgkkkcbnagbaaKe
import Derived.Test.YtlbgkkkcbnagbaaKf
import Derived.Test.YtlbgkkkcbnagbaaKk
import Derived.Test.YtlbgkkkcbnagbaaKh
import Derived.Test.YtlbgkkkcbnagbaaRows
import Derived.OpenShut
import Derived.Carry
import Derived.SizedLaws
namespace Go.Proofs.Ytlbgkkkcbnagbaa
open Go.RowKit

theorem fullB_len (bs more : List Bool) (h : bs.length ≤ 1048576) : (fullB bs more).length ≤ 1048576 := by
  unfold fullB; split
  · exact h
  · rw [List.length_append]; omega
structure Two (n : Nat) (o1 o2 : Nat → Prop) (W : World) (g g2 : Nat) (b1 b2 : List Bool) : Prop where
  wr : Wr o1 W g b1
  vr : Vr o2 W g2 b2
  lt1 : ∀ b, o1 b → n ≤ b ∧ b < W.heap.size
  lt2 : ∀ b, o2 b → n ≤ b ∧ b < W.heap.size
  dis : ∀ b, o1 b → ¬ o2 b
section
variable {n g g2 : Nat} {o1 o2 : Nat → Prop} {W W1 : World} {b1 b2 b1' b2' : List Bool}
theorem Two.below (h : Two n o1 o2 W g g2 b1 b2) (hb : Below W.heap.size W W1) : Two n o1 o2 W1 g g2 b1 b2 :=
  ⟨h.wr.below hb, h.vr.below hb, fun b e => ⟨(h.lt1 b e).1, Nat.lt_of_lt_of_le (h.lt1 b e).2 hb.size⟩, fun b e => ⟨(h.lt2 b e).1, Nat.lt_of_lt_of_le (h.lt2 b e).2 hb.size⟩, h.dis⟩
theorem Two.left (h : Two n o1 o2 W g g2 b1 b2) (hn : n ≤ W.heap.size) (hw : Wr (fun b => o1 b ∨ W.heap.size ≤ b) W1 g b1') (hu : Upd o1 W W1) : (∃ o, Two n o o2 W1 g g2 b1' b2) ∧ Below n W W1 := by
  refine ⟨⟨fun b => (o1 b ∨ W.heap.size ≤ b) ∧ b < W1.heap.size, hw.cut, h.vr.upd hu (fun b _ e e2 => h.dis b e2 e), ?_, fun b e => ⟨(h.lt2 b e).1, Nat.lt_of_lt_of_le (h.lt2 b e).2 hu.size⟩, ?_⟩, hu.below hn (fun b _ e => (h.lt1 b e).1)⟩
  · rintro b ⟨e | e, h2⟩
    · exact ⟨(h.lt1 b e).1, h2⟩
    · exact ⟨by omega, h2⟩
  · rintro b ⟨e | e, h2⟩ e3
    · exact h.dis b e e3
    · have := (h.lt2 b e3).2; omega
theorem Two.right (h : Two n o1 o2 W g g2 b1 b2) (hn : n ≤ W.heap.size) (hw : Vr (fun b => o2 b ∨ W.heap.size ≤ b) W1 g2 b2') (hu : Upd o2 W W1) : (∃ o, Two n o1 o W1 g g2 b1 b2') ∧ Below n W W1 := by
  refine ⟨⟨fun b => (o2 b ∨ W.heap.size ≤ b) ∧ b < W1.heap.size, h.wr.upd hu (fun b _ e e2 => h.dis b e e2), hw.cut, fun b e => ⟨(h.lt1 b e).1, Nat.lt_of_lt_of_le (h.lt1 b e).2 hu.size⟩, ?_, ?_⟩, hu.below hn (fun b _ e => (h.lt2 b e).1)⟩
  · rintro b ⟨e | e, h2⟩
    · exact ⟨(h.lt2 b e).1, h2⟩
    · exact ⟨by omega, h2⟩
  · rintro b e3 ⟨e | e, h2⟩
    · exact h.dis b e3 e
    · have := (h.lt1 b e3).2; omega
/-- Both new. -/
theorem Two.new (h : Wr (fun b => b = g) W g []) (hg : n ≤ g) : Two n (fun b => b = g) (fun b => b = W.heap.size) (W.alloc (.cells #[.slice none 0 0] 58)) g W.heap.size [] [] := by
  have hlt := h.lt
  refine ⟨h.below (below_alloc (Below.refl _ _) _), Vr.new W, ?_, ?_, ?_⟩
  · rintro b rfl; exact ⟨hg, by simp; omega⟩
  · rintro b rfl; exact ⟨by omega, by simp⟩
  · rintro b rfl e; omega
end
/-- A slice of bytes that was there before lies in no block of a writer. -/
theorem Two.apart {α : Type} {k : Kd α} {w0 W : World} {n g g2 c : Nat} {o1 o2 : Nat → Prop} {b1 b2 : List Bool} {A : Option Addr} {xs : List α} (h : Two n o1 o2 W g g2 b1 b2) (hS : Sl k AnyB w0 A c xs) (hn : n = w0.heap.size) (hb : Below w0.heap.size w0 W) :
    Sl k (fun b => ¬ o1 b) W A c xs ∧ Sl k (fun b => ¬ o2 b) W A c xs := by
  have h1 : Sl k (fun b => b < w0.heap.size) w0 A c xs := hS.weak fun b hb _ => hb
  have h2 := h1.below hb
  exact ⟨h2.weak fun b _ e e2 => by have := (h.lt1 b e2).1; omega, h2.weak fun b _ e e2 => by have := (h.lt2 b e2).1; omega⟩
/-- Two readers of the same bits, at the same place. -/
structure TwoR (n : Nat) (o1 o2 : Nat → Prop) (W : World) (g g2 : Nat) (l : List Bool) (i j : Nat) : Prop where
  rd : Rr o1 W g l i
  qd : Qr o2 W g2 l j
  lg : n ≤ g ∧ n ≤ g2
  dis : ¬ o1 g2 ∧ ¬ o2 g
section
variable {n g g2 i j i' : Nat} {o1 o2 : Nat → Prop} {W W1 : World} {l : List Bool}
theorem TwoR.below (h : TwoR n o1 o2 W g g2 l i j) (hb : Below W.heap.size W W1) : TwoR n o1 o2 W1 g g2 l i j := ⟨h.rd.below hb, h.qd.below hb, h.lg, h.dis⟩
theorem TwoR.left (h : TwoR n o1 o2 W g g2 l i j) (hn : n ≤ W.heap.size) (hr : Rr o1 W1 g l i') (hu : Upd (fun b => b = g) W W1) : TwoR n o1 o2 W1 g g2 l i' j ∧ Below n W W1 :=
  ⟨⟨hr, h.qd.upd hu (fun b _ e e2 => h.dis.2 (e2 ▸ e)), h.lg, h.dis⟩, hu.below hn (fun b _ e => by rw [e]; exact h.lg.1)⟩
theorem TwoR.right (h : TwoR n o1 o2 W g g2 l i j) (hn : n ≤ W.heap.size) (hr : Qr o2 W1 g2 l i') (hu : Upd (fun b => b = g2) W W1) : TwoR n o1 o2 W1 g g2 l i i' ∧ Below n W W1 :=
  ⟨⟨h.rd.upd hu (fun b _ e e2 => h.dis.1 (e2 ▸ e)), hr, h.lg, h.dis⟩, hu.below hn (fun b _ e => by rw [e]; exact h.lg.2)⟩
theorem TwoR.new {W2 : World} (h : Rr (fun b => W.heap.size ≤ b) W1 g l 0) (hg : W.heap.size ≤ g) (h2 : Qr (fun b => W1.heap.size ≤ b) W2 g2 l 0) (hg2 : W1.heap.size ≤ g2) (hb : Below W1.heap.size W1 W2) (hn : n ≤ W.heap.size) :
    TwoR n (fun b => W.heap.size ≤ b ∧ b < W1.heap.size) (fun b => W1.heap.size ≤ b) W2 g g2 l 0 0 := by
  have hlt := h.lt
  exact ⟨h.cut.below hb, h2, ⟨by omega, by omega⟩, fun e => by omega, fun e => by omega⟩
end
end Go.Proofs.Ytlbgkkkcbnagbaa

namespace Go.Proofs.Ytlbgkkkcbnagbaa
open Go.RowKit

set_option maxHeartbeats 1000000 in
set_option maxRecDepth 100000 in
theorem write_nil (A : Option Addr) (c : Nat) (ls : List Int) (s : Int) (w : World) :
    Calls Try.prog 42 #[.pointer none, .slice A ls.length c, .int .i64 s] w fun e w' => e = .returned (.int .i64 1) ∧ w = w' := by
  go_enter Try.func42, Try.ntmps42
  go_wp2
  go_ret
  exact ⟨rfl, rfl⟩
set_option maxHeartbeats 1000000 in
set_option maxRecDepth 100000 in
theorem read_nil (A : Option Addr) (c : Nat) (ls : List Int) (w : World) :
    Calls Try.prog 33 #[.pointer none, .slice A ls.length c] w fun e w' => e = .returned (.tuple #[.int .i64 0, .int .i64 1]) ∧ w = w' := by
  go_enter Try.func33, Try.ntmps33
  go_wp2
  go_ret2
  exact ⟨rfl, rfl⟩
end Go.Proofs.Ytlbgkkkcbnagbaa

namespace Go.Proofs.Ytlbgkkkcbnagbaa
open Go.RowKit

theorem begF_of {ls : List Int} {p : Nat × Nat} {j : Nat} (h : begAt (lenOf ls j) (codeN ls j) 0 p = true) : ∀ {k : Nat}, j < k → begF ls k p = true
  | 0, hj => by omega
  | k + 1, hj => by
    simp only [begF, Bool.or_eq_true]
    rcases Nat.lt_or_ge j k with h1 | h1
    · exact .inl (begF_of h h1)
    · obtain rfl : j = k := by omega
      exact .inr h
theorem readF_word {ls : List Int} (hr : Right ls) {s : Nat} (hs : s < ls.length) (h0 : 0 < lenOf ls s) (rest : List Bool) : ∀ (fuel n : Nat), n < lenOf ls s → lenOf ls s ≤ n + fuel →
    readF (symF ls ls.length) (begF ls ls.length) (numB (codeN ls s) (lenOf ls s) ++ rest) fuel n = ((s : Int), 0, lenOf ls s)
  | 0, n, h1, h2 => by omega
  | fuel + 1, n, h1, h2 => by
    have h16 := hr.ok.len16
    have hC := code_lt h16 hr.full hs
    have hl : (numB (codeN ls s) (lenOf ls s)).length = lenOf ls s := numB_length _ _
    have hv : valB ((numB (codeN ls s) (lenOf ls s) ++ rest).take (n + 1)) = codeN ls s / 2 ^ (lenOf ls s - (n + 1)) := by
      rw [List.take_append_of_le_length (by omega), numB_take _ _ _ (by omega), valB_numB]
      refine Nat.mod_eq_of_lt ?_
      rw [Nat.div_lt_iff_lt_mul (Nat.two_pow_pos _), ← Nat.pow_add]
      rw [show n + 1 + (lenOf ls s - (n + 1)) = lenOf ls s by omega]
      exact hC
    unfold readF
    rw [if_neg (by rw [List.length_append]; omega), hv]
    rcases Nat.lt_or_ge (n + 1) (lenOf ls s) with h3 | h3
    · have e1 : symF ls ls.length (n + 1, codeN ls s / 2 ^ (lenOf ls s - (n + 1))) = none := symF_none fun j hj ⟨hj0, e⟩ => by
        injection e with e1 e2
        have hne : j ≠ s := fun e => by subst e; omega
        exact code_free h16 hj hs hne hj0 (by omega) (by rw [← e1]; exact e2)
      have e2 : begF ls ls.length (n + 1, codeN ls s / 2 ^ (lenOf ls s - (n + 1))) = true := begF_of (j := s) (decide_eq_true ⟨by omega, by show n + 1 ≤ _; omega, rfl⟩) hs
      rw [e1]
      simp only [e2, if_true]
      exact readF_word hr hs h0 rest fuel (n + 1) h3 (by omega)
    · have e : n + 1 = lenOf ls s := by omega
      rw [e, Nat.sub_self, Nat.pow_zero, Nat.div_one, symF_some hr h0 hs (Nat.le_refl _)]
theorem readR_word {ls : List Int} (hr : Right ls) {s : Nat} (hs : s < ls.length) (h0 : 0 < lenOf ls s) (rest : List Bool) : readR ls (numB (codeN ls s) (lenOf ls s) ++ rest) = ((s : Int), 0, lenOf ls s) :=
  readF_word hr hs h0 rest 17 0 h0 (by have := hr.ok.len16 s; omega)
theorem encB_cons (ls : List Int) (s : Int) (ss : List Int) : encB ls (s :: ss) = numB (codeN ls s.toNat) (lenOf ls s.toNat) ++ encB ls ss := by simp [encB]
theorem decF_encB {ls : List Int} (hr : Right ls) : ∀ {ss : List Int}, (∀ s ∈ ss, hasB ls s = true) → decF ls ss.length (encB ls ss) = (ss, 0)
  | [], _ => rfl
  | s :: ss, h => by
    obtain ⟨k, rfl, hk, h0⟩ := hasB_spec (h s (by simp))
    rw [List.length_cons, encB_cons, decF, Int.toNat_natCast, readR_word hr hk h0]
    simp only [ne_eq, not_true_eq_false, if_false]
    rw [List.drop_left' (numB_length _ _), decF_encB hr fun s hs => h s (by simp [hs])]
    simp
theorem noneS_has {ls ss : List Int} (h : noneS ls ss = false) : ∀ s ∈ ss, hasB ls s = true := by
  intro s hs
  have := List.any_eq_false.1 h s hs
  simpa using this
/-- Decode of Encode is the list. -/
theorem decode_encode {ls ss : List Int} (h : (encodeR ls ss).2 = 0) (hl : ss.length ≤ 60000) : Right ls ∧ (∀ s ∈ ss, hasB ls s = true) ∧ encodeR ls ss = (encB ls ss, 0) ∧ decodeR ls (packB (encB ls ss)) (encB ls ss).length ss.length = (ss, 0) := by
  unfold encodeR at h
  split at h
  · rename_i hc; exact absurd h hc
  · rename_i hc
    have hck : checkN ls = 0 := by simpa using hc
    split at h
    · cases h
    · rename_i hn
      have hn' : noneS ls ss = false := by simpa using hn
      have hr := (checkN_right ls).1 hck
      have hlen := encB_len hr.ok.len16 ss
      have he : openE (packB (encB ls ss)).length ((encB ls ss).length : Int) = 0 := by
        unfold openE
        rw [packB_length, if_neg (by omega), if_neg (by omega)]
      refine ⟨hr, noneS_has hn', by unfold encodeR; rw [if_neg hc, if_neg hn], ?_⟩
      unfold decodeR
      rw [if_neg hc, he, if_neg (by omega), if_neg (by simp), Int.toNat_natCast, Int.toNat_natCast, ofB_packB _ _ (Nat.le_refl _), List.take_length]
      exact decF_encB hr (noneS_has hn')
/-- Write's word, and Read at its place. -/
theorem write_step {ls ss : List Int} (hr : Right ls) (h : ∀ s ∈ ss, hasB ls s = true) (hl : ss.length ≤ 60000) {k : Nat} (hk : k < ss.length) :
    writeE ls (encB ls (ss.take k)).length (nth 0 ss k) = 0 ∧ fullB (encB ls (ss.take k)) (wordB ls (nth 0 ss k)) = encB ls (ss.take (k + 1)) := by
  have hck := (checkN_right ls).2 hr
  have hh := h _ (nth_mem 0 ss k hk)
  have h16 := hr.ok.len16
  have hlen := encB_len h16 (ss.take k)
  rw [List.length_take] at hlen
  have hw := h16 (nth 0 ss k).toNat
  have hb : ¬ 1048576 < (encB ls (ss.take k)).length + lenOf ls (nth 0 ss k).toNat := by omega
  constructor
  · unfold writeE fullE
    rw [if_neg (by simp [hck]), if_neg (by simp [hh]), if_neg hb]
  · have e : wordB ls (nth 0 ss k) = numB (codeN ls (nth 0 ss k).toNat) (lenOf ls (nth 0 ss k).toNat) := by
      unfold wordB; rw [if_neg (by simp [hck, hh])]
    unfold fullB
    rw [e, if_neg (by rw [numB_length]; exact hb), encB_take hk]
theorem read_step {ls ss : List Int} (hr : Right ls) (h : ∀ s ∈ ss, hasB ls s = true) {k : Nat} (hk : k < ss.length) :
    readL ls ((encB ls ss).drop (encB ls (ss.take k)).length) = (nth 0 ss k, 0, lenOf ls (nth 0 ss k).toNat) ∧ (encB ls (ss.take k)).length + lenOf ls (nth 0 ss k).toNat = (encB ls (ss.take (k + 1))).length := by
  have hck := (checkN_right ls).2 hr
  obtain ⟨s, hs, hk2, h0⟩ := hasB_spec (h _ (nth_mem 0 ss k hk))
  constructor
  · have e : (encB ls ss).drop (encB ls (ss.take k)).length = encB ls (ss.drop k) := by
      have e2 : encB ls ss = encB ls (ss.take k) ++ encB ls (ss.drop k) := by
        unfold encB
        rw [← List.flatMap_append, List.take_append_drop]
      rw [e2, List.drop_left' rfl]
    rw [e, drop_nth 0 ss k hk, encB_cons, hs, Int.toNat_natCast]
    unfold readL
    rw [if_neg (by simp [hck]), readR_word hr hk2 h0]
  · rw [encB_take hk, List.length_append, numB_length]
end Go.Proofs.Ytlbgkkkcbnagbaa

namespace Go.Proofs.Ytlbgkkkcbnagbaa
open Go.RowKit

set_option maxHeartbeats 4000000 in
set_option maxRecDepth 100000 in
theorem prefixBack_walk (A0 : Option Addr) (c0 : Nat) (s0 : List Int) (A1 : Option Addr) (c1 : Nat) (s1 : List Int) (W : World) (hR0 : RI W A0 c0 s0) (hl0 : s0.length ≤ 140737488355328) (hR1 : RI W A1 c1 s1) (hl1 : s1.length ≤ 140737488355328) :
    Calls Try.prog 13 #[.slice A0 s0.length c0, .slice A1 s1.length c1] W fun e W' => e = .returned (.bool true) ∧ Below W.heap.size W W' := by
  have H0 := Lib.hid hR0
  have H1 := Lib.hid hR1
  clear hR0 hR1
  by_cases hg : (40 : Int) < (s0.length : Int) ∨ (200 : Int) < (s1.length : Int)
  · have hc : (decide ((40 : Int) < (s0.length : Int)) = true) ∨ (decide ((40 : Int) < (s0.length : Int)) = false ∧ decide ((200 : Int) < (s1.length : Int)) = true) := by
      simp only [decide_eq_true_eq, decide_eq_false_iff_not]; omega
    clear hg
    rcases hc with d0 | ⟨d0, d1⟩
    all_goals
      go_enter Try.func13, Try.ntmps13
      go_wp2_with fail
      refine (awake_any _).mono ?_
      rintro e w1 ⟨rfl, b1⟩
      go_wp2_with fail
      go_ret
      exact ⟨rfl, b1⟩
  · have d0 : decide ((40 : Int) < (s0.length : Int)) = false := decide_eq_false (by omega)
    have d1 : decide ((200 : Int) < (s1.length : Int)) = false := decide_eq_false (by omega)
    have hS1 : s1.length ≤ 200 := by omega
    clear hg
    by_cases hE : (encodeR s0 s1).2 = 0
    · obtain ⟨hr, hh, hen, hde⟩ := decode_encode hE (by omega)
      have hBl := encB_len hr.ok.len16 s1
      have HR := Lib.hid hr
      have HH := Lib.hid hh
      have HEN := Lib.hid hen
      have HDE := Lib.hid hde
      have HBL := Lib.hid (show (encB s0 s1).length ≤ 3200 by omega)
      clear hE hr hh hen hde hBl
      go_enter Try.func13, Try.ntmps13
      go_wp2_with fail
      refine (encode_any A0 A1 c0 c1 s0 s1 _ H0.out H1.out (by omega)).mono ?_
      rw [HEN.out]
      rintro e w1 ⟨v1, rfl, O1, BX⟩
      obtain ⟨Ab, cb, rfl, Hb⟩ := own_ri O1
      clear O1
      obtain ⟨n, hn⟩ : ∃ n, (encB s0 s1).length = n := ⟨_, rfl⟩
      have HN := Lib.hid hn
      obtain ⟨pb, hpb⟩ : ∃ pb, (packB (encB s0 s1)).length = pb := ⟨_, rfl⟩
      have HPB := Lib.hid hpb
      dsimp only
      rw [hn, hpb]
      clear hn hpb
      have HD := Lib.hid (fun (w : World) (ha : RI w A0 c0 s0) (hb : RY w Ab cb (packB (encB s0 s1))) => decode_any A0 Ab c0 cb s0 (packB (encB s0 s1)) n s1.length w ha hb (packB_range _) (by rw [packB_length]; have := HBL.out; omega))
      rw [← HN.out, HDE.out, HN.out, HPB.out] at HD
      go_wp2_with fail
      refine (HD.out _ (H0.out.below BX) Hb).mono ?_
      rintro e w2 ⟨v2, rfl, O2, b⟩
      obtain ⟨Ad, cd, rfl, Hd⟩ := own_ri O2
      replace Hb := Hb.below b; replace BX := below2 BX b; clear b O2 HD
      go_wp2_with fail
      refine (ints_ref Ad A1 cd c1 s1 s1 _ Hd (H1.out.below BX)).mono ?_
      rw [sameL_refl]
      rintro e w3 ⟨rfl, b⟩
      replace Hb := Hb.below b; replace BX := below2 BX b; clear b Hd
      go_wp2_with fail
      refine (wnew_any _).mono ?_
      rintro e w4 ⟨g, rfl, hW, b, hg⟩
      have Hy := (Hb.weak (ok' := fun b => b < w3.heap.size) fun b hb _ => hb).below b
      have HBX := Lib.hid (below2 BX b)
      have hgW : W.heap.size ≤ g := by have := BX.size; omega
      have HW : Hid (∃ o : Nat → Prop, Wr o w4 g (encB s0 (s1.take 0)) ∧ (∀ b, o b → W.heap.size ≤ b) ∧ Sl (kInt .u8) (fun b => ¬ o b) w4 Ab cb (packB (encB s0 s1))) := Lib.hid ⟨_, by simpa [encB] using hW, fun b e => by rw [e]; exact hgW, Hy.weak fun b _ e e2 => by omega⟩
      clear hW b BX Hb Hy hg
      go_wp2_with fail
      go_loopw [67] (fun iv wr => ∃ (k : Nat), iv = .int .i64 (k : Int) ∧ k ≤ s1.length ∧ Hid (∃ o : Nat → Prop, Wr o wr g (encB s0 (s1.take k)) ∧ (∀ b, o b → W.heap.size ≤ b) ∧ Sl (kInt .u8) (fun b => ¬ o b) wr Ab cb (packB (encB s0 s1))) ∧ Hid (Below W.heap.size W wr)) (fun iv _ => s1.length - (intOf iv).toNat)
      case atStart => exact ⟨0, rfl, Nat.zero_le _, HW, HBX⟩
      case round =>
        clear HW HBX
        obtain ⟨k, rfl, hk, hW, hB⟩ := hrel
        have hz := hB.out.size
        by_cases hlt : k < s1.length
        · obtain ⟨ad, rfl, hc⟩ := rd_int (H1.out.below hB.out) k hlt
          have hki : (k : Int) < (s1.length : Int) := by omega
          obtain ⟨o, hW1, ho, hSb⟩ := hW.out
          obtain ⟨hs1, hs2⟩ := write_step HR.out HH.out (by omega) hlt
          have HS2 := Lib.hid hs2
          have hlk := encB_len HR.out.ok.len16 (s1.take k)
          rw [List.length_take] at hlk
          have HWC := Lib.hid (write_any o g A0 c0 s0 (nth 0 s1 k) (encB s0 (s1.take k)) wr hW1 (by omega) (H0.out.below hB.out))
          rw [hs1, hs2] at HWC
          generalize nth 0 s1 k = x at hc HWC
          have HO := Lib.hid ho
          have HSB := Lib.hid hSb
          clear hlt hs1 hs2 hlk hW1 ho hSb
          go_wp2_with fail
          refine HWC.out.mono ?_
          rintro e w5 ⟨rfl, hW5, hU⟩
          have b := hU.below hz (fun b _ e => HO.out b e)
          have hSb := (HSB.out.weak (ok' := fun b => ¬ o b ∧ b < wr.heap.size) fun b hb h => ⟨h, hb⟩).keep (hU.keep (ok := fun b => ¬ o b ∧ b < wr.heap.size) fun b h => h.1)
          have HB5 := Lib.hid (hB.out.trans b)
          have HW5 : Hid (∃ o : Nat → Prop, Wr o w5 g (encB s0 (s1.take (k + 1))) ∧ (∀ b, o b → W.heap.size ≤ b) ∧ Sl (kInt .u8) (fun b => ¬ o b) w5 Ab cb (packB (encB s0 s1))) := Lib.hid ⟨_, hW5, fun b e => e.elim (HO.out b) (fun e => by omega), hSb.weak fun b _ h e => e.elim h.1 (fun e => by omega)⟩
          clear hW5 hU b hSb
          go_wp2_with fail
          go_roundw
          case rel => exact ⟨k + 1, by go_num, by omega, HW5, HB5⟩
          case measure => simp [intOf]; omega
        · obtain rfl : k = s1.length := by omega
          obtain ⟨o, hW1, ho, hSb⟩ := hW.out
          rw [List.take_length] at hW1
          have HW1 := Lib.hid hW1
          have HSB : Hid (RY wr Ab cb (packB (encB s0 s1))) := Lib.hid hSb.any
          have BX := hB.out
          clear hW hW1 hSb ho hz
          have HLn := Lib.hid (wlen_any o g _ wr HW1.out)
          rw [HN.out] at HLn
          go_wp2_with fail
          refine HLn.out.mono ?_
          rintro e w5 ⟨rfl, rfl⟩
          go_wp2_with fail
          refine (wbytes_any o g _ wr HW1.out (by have := HBL.out; omega)).mono ?_
          rintro e w5 ⟨v5, rfl, O5, b⟩
          obtain ⟨A5, c5, rfl, H5⟩ := own_ri O5
          have Hb := HSB.out.below b; replace BX := below2 BX b; clear b O5 HW1
          have HSm := Lib.hid (same_ref A5 Ab c5 cb _ _ _ H5 Hb)
          rw [sameL_refl, HPB.out] at HSm
          rw [HPB.out]
          go_wp2_with fail
          refine HSm.out.mono ?_
          rintro e w6 ⟨rfl, b⟩
          replace Hb := Hb.below b; replace BX := below2 BX b; clear b H5 HSm
          have HOp := Lib.hid (ropen_ok Ab cb (packB (encB s0 s1)) n w6 Hb (packB_range _) (by rw [packB_length]; have := HBL.out; omega) (by rw [packB_length]; have := HN.out; omega) (by have := HN.out; have := HBL.out; omega))
          rw [← HN.out, fullE_ofB, HN.out, HPB.out] at HOp
          go_wp2_with fail
          refine HOp.out.mono ?_
          rintro e w7 ⟨g2, rfl, hR7, b, hg2⟩
          have hz6 := BX.size
          have HR7 : Hid (Rr (fun b => W.heap.size ≤ b) w7 g2 (encB s0 s1) (encB s0 (s1.take 0)).length) := Lib.hid (by simpa [encB] using hR7.weak (o' := fun b => W.heap.size ≤ b) fun b _ e => by omega)
          have HBX := Lib.hid (below2 BX b)
          have hg3 : W.heap.size ≤ g2 := by omega
          clear hR7 b BX Hb HOp hg2 hz6
          go_wp2_with fail
          obtain ⟨wo, rfl⟩ : ∃ wo, wo = wr := ⟨_, rfl⟩
          go_loopw [98] (fun iv wr => ∃ (k : Nat), iv = .int .i64 (k : Int) ∧ k ≤ s1.length ∧ Hid (Rr (fun b => W.heap.size ≤ b) wr g2 (encB s0 s1) (encB s0 (s1.take k)).length) ∧ Hid (Below W.heap.size W wr)) (fun iv _ => s1.length - (intOf iv).toNat)
          case atStart => exact ⟨0, rfl, Nat.zero_le _, HR7, HBX⟩
          case round =>
            clear HR7 HBX
            obtain ⟨k, rfl, hk, hR, hB2⟩ := hrel
            have hz := hB2.out.size
            by_cases hlt : k < s1.length
            · obtain ⟨ad, rfl, hc⟩ := rd_int (H1.out.below hB2.out) k hlt
              have hki : (k : Int) < (s1.length : Int) := by omega
              obtain ⟨hs1, hs2⟩ := read_step HR.out HH.out hlt
              have HRC := Lib.hid (read_any _ A0 c0 s0 g2 _ _ wr hR.out (H0.out.below hB2.out))
              rw [hs1, hs2] at HRC
              generalize nth 0 s1 k = x at hc HRC
              clear hlt hs1 hs2
              go_wp2_with fail
              refine HRC.out.mono ?_
              rintro e w8 ⟨rfl, hR8, hU⟩
              have HB8 := Lib.hid (hB2.out.trans (hU.below hz (fun b _ e => by rw [e]; exact hg3)))
              have HR8 := Lib.hid hR8
              clear hR8 hU
              go_wp2_with fail
              go_roundw
              case rel => exact ⟨k + 1, by go_num, by omega, HR8, HB8⟩
              case measure => simp [intOf]; omega
            · obtain rfl : k = s1.length := by omega
              have HLf := Lib.hid (rleft_any _ g2 _ _ wr hR.out)
              rw [List.take_length, Nat.sub_self] at HLf
              go_wp2_with fail
              refine HLf.out.mono ?_
              rintro e w8 ⟨rfl, b⟩
              have BX := below2 hB2.out b; clear b
              go_wp2_with fail
              refine (awake_any _).mono ?_
              rintro e w9 ⟨rfl, b⟩
              go_wp2_with fail
              go_ret
              exact ⟨rfl, below2 BX b⟩
    · have hE1 : (encodeR s0 s1).1 = [] := by
        unfold encodeR at hE ⊢
        split
        · rfl
        · split
          · rfl
          · rename_i h1 h2; rw [if_neg h1, if_neg h2] at hE; exact absurd rfl hE
      obtain ⟨E, hEe⟩ : ∃ E, encodeR s0 s1 = ([], E) := ⟨_, Prod.ext hE1 rfl⟩
      have HEE := Lib.hid hEe
      have hEb : (E != 0) = true := by rw [hEe] at hE; simpa using hE
      clear hE hE1 hEe
      go_enter Try.func13, Try.ntmps13
      go_wp2_with fail
      refine (encode_any A0 A1 c0 c1 s0 s1 _ H0.out H1.out (by omega)).mono ?_
      rw [HEE.out]
      rintro e w1 ⟨v1, rfl, O1, BX⟩
      obtain ⟨Ab, cb, rfl, Hb⟩ := own_ri O1
      have hp : (packB (([], E) : List Bool × Int).1).length = 0 := by simp [packB]
      rw [hp]
      dsimp only [List.length_nil]
      go_wp2_with fail
      refine (awake_any _).mono ?_
      rintro e w9 ⟨rfl, b⟩
      go_wp2_with fail
      go_ret
      exact ⟨rfl, below2 BX b⟩
end Go.Proofs.Ytlbgkkkcbnagbaa

namespace Go.Proofs.Ytlbgkkkcbnagbaa
open Go.ChangeShapes Go.WideShapes Go.ChangeAt Go.WideMaps Go.WideElems Go.RowKit Go.Deep

theorem laidOut_prefixBack : laidOutB Try.prog = true := by kernel_rfl
set_option maxRecDepth 100000 in
theorem lifted_prefixBack (os : Os) (started : os.Started) (H : Type) (enc : TypeId × Value → H) :
    ReturnsInHanded {} Try.checked os 13 .any (Rows.prefixBackSpec.pre6 enc Try.prog Try.f13 [] false) (Rows.prefixBackSpec.post enc Try.prog Try.f13 false true false false) := by
  refine returnsInHanded_of_change_sized (C := Try.checked) own started (by kernel_rfl) Try.func13
    (ChangeSpec.witness6 (enc := enc) (C := Try.checked) false ⟨#[], #[.slice none 0 0, .slice none 0 0], []⟩ 8 (by kernel_rfl) (by kernel_rfl) (by kernel_rfl) (by kernel_rfl)) ?_
  intro W base args ds gs before hval0 hW _ hsz0 _
  have hval : ∀ (j : Nat) t v, Try.f13.params[j]? = some t → args[j]? = some v → Value.okWide Try.prog W .any base t v := hval0
  have hW' := hW
  obtain ⟨p, q, hA0, hV, rfl, hfz, hnd⟩ := hW
  have hA : DataW.TrodAll enc Try.prog W 0 (fun _ => true) true Try.f13.params.toList args.toList ds p := hA0
  have hsz : (DataW.weightsEach Try.prog (Try.f13.params.toList ++ Rows.prefixBackSpec.plain.varTypes Try.prog) (ds ++ gs)).all (· ≤ reachBytes) = true := hsz0
  rw [Try.params13] at hA hval hsz
  obtain ⟨v0, vs0, d0, ds0, p0, q0, hargs, rfl, rfl, h0, r0⟩ := trodAll_cons hA
  obtain ⟨v1, vs1, d1, ds1, p1, q1, rfl, rfl, rfl, h1, r1⟩ := trodAll_cons r0
  obtain ⟨rfl, rfl, rfl⟩ := trodAll_nil r1
  obtain rfl : args = #[v0, v1] := by cases args; simp_all
  obtain ⟨rfl, rfl⟩ := trodVars_none hV
  have lt0 : ∀ x ∈ p0, x.block < W.heap.size := by obtain ⟨m, hm⟩ := h0; exact DataW.trod_lt m _ _ _ hm
  have y0 : ∀ m ∈ d0.weights Try.prog 22, m ≤ reachBytes := fun m hm => of_decide_eq_true (List.all_eq_true.1 hsz m (DataW.weights_mem_each (j := 0) rfl rfl m hm))
  obtain ⟨B0, l0, e0, rfl⟩ := okWide_slice Try.underlying22 (hval 0 22 v0 rfl rfl)
  obtain ⟨A0, c0, s0, hv0, hR0, hB0⟩ : ∃ A c xs, Value.slice B0 l0 e0 = .slice A xs.length c ∧ RI W A c xs ∧ ((∀ m ∈ d0.weights Try.prog 22, m ≤ reachBytes) → xs.length ≤ 140737488355328) := by obtain ⟨fuel, hf⟩ := h0; exact open_I hf
  have lt1 : ∀ x ∈ p1, x.block < W.heap.size := by obtain ⟨m, hm⟩ := h1; exact DataW.trod_lt m _ _ _ hm
  have y1 : ∀ m ∈ d1.weights Try.prog 22, m ≤ reachBytes := fun m hm => of_decide_eq_true (List.all_eq_true.1 hsz m (DataW.weights_mem_each (j := 1) rfl rfl m hm))
  obtain ⟨B1, l1, e1, rfl⟩ := okWide_slice Try.underlying22 (hval 1 22 v1 rfl rfl)
  obtain ⟨A1, c1, s1, hv1, hR1, hB1⟩ : ∃ A c xs, Value.slice B1 l1 e1 = .slice A xs.length c ∧ RI W A c xs ∧ ((∀ m ∈ d1.weights Try.prog 22, m ≤ reachBytes) → xs.length ≤ 140737488355328) := by obtain ⟨fuel, hf⟩ := h1; exact open_I hf
  have hwalk := prefixBack_walk A0 c0 s0 A1 c1 s1 W hR0 (hB0 y0) hR1 (hB1 y1)
  rw [← hv0] at hwalk
  rw [← hv1] at hwalk
  refine hwalk.mono fun e W' ⟨he, bel⟩ => ?_
  subst he
  exact ⟨_, rfl, _, _, _, [], _, [], hW', trodAll_mk1 (shut_bool Try.underlying4 _), (trodAll_cons_mk (Below.trod laidOut_prefixBack (by kernel_rfl) (of_decide_eq_true (by kernel_rfl)) h0 bel lt0) (trodAll_cons_mk (Below.trod laidOut_prefixBack (by kernel_rfl) (of_decide_eq_true (by kernel_rfl)) h1 bel lt1) trodAll_mk0)), rfl, bel.frame _, fun h => by cases h⟩
theorem prefixBack_holds : Rows.PrefixBackSaid :=
  OpenClaim.holds_of_wide 13 Try.f13 rfl rfl rfl rfl rfl rfl rfl ⟨rfl, rfl, rfl, rfl, rfl⟩ rfl rfl rfl rfl rfl (by kernel_rfl) Try.func13 (by kernel_rfl)
    (of_decide_eq_true (by kernel_rfl)) (by unfold Func.isWrapper; first | (rw [if_pos (by decide +kernel)]; kernel_rfl) | (rw [if_neg (by decide +kernel)]; exact ⟨rfl, rfl⟩))
    (fun os started H enc _ => lifted_prefixBack os started H enc)
#print axioms prefixBack_holds
end Go.Proofs.Ytlbgkkkcbnagbaa
