/- The law PrefixWrites: it returns true for every input, and its arguments read as before. No conditions. -/
import Derived.Test.YtlbgkkkcbnagbaaKe
import Derived.Test.YtlbgkkkcbnagbaaKf
import Derived.Test.YtlbgkkkcbnagbaaKk
import Derived.Test.YtlbgkkkcbnagbaaKh
import Derived.Test.YtlbgkkkcbnagbaaRows
import Derived.OpenShut
import Derived.Carry
import Derived.SizedLaws
namespace Go.Proofs.Ytlbgkkkcbnagbaa
open Go.RowKit

theorem fullB_len (bs more : List Bool) (h : bs.length ≤ 1048576) : (fullB bs more).length ≤ 1048576 := by
  unfold fullB; split
  · exact h
  · rw [List.length_append]; omega
structure Two (n : Nat) (o1 o2 : Nat → Prop) (W : World) (g g2 : Nat) (b1 b2 : List Bool) : Prop where
  wr : Wr o1 W g b1
  vr : Vr o2 W g2 b2
  lt1 : ∀ b, o1 b → n ≤ b ∧ b < W.heap.size
  lt2 : ∀ b, o2 b → n ≤ b ∧ b < W.heap.size
  dis : ∀ b, o1 b → ¬ o2 b
section
variable {n g g2 : Nat} {o1 o2 : Nat → Prop} {W W1 : World} {b1 b2 b1' b2' : List Bool}
theorem Two.below (h : Two n o1 o2 W g g2 b1 b2) (hb : Below W.heap.size W W1) : Two n o1 o2 W1 g g2 b1 b2 :=
  ⟨h.wr.below hb, h.vr.below hb, fun b e => ⟨(h.lt1 b e).1, Nat.lt_of_lt_of_le (h.lt1 b e).2 hb.size⟩, fun b e => ⟨(h.lt2 b e).1, Nat.lt_of_lt_of_le (h.lt2 b e).2 hb.size⟩, h.dis⟩
theorem Two.left (h : Two n o1 o2 W g g2 b1 b2) (hn : n ≤ W.heap.size) (hw : Wr (fun b => o1 b ∨ W.heap.size ≤ b) W1 g b1') (hu : Upd o1 W W1) : (∃ o, Two n o o2 W1 g g2 b1' b2) ∧ Below n W W1 := by
  refine ⟨⟨fun b => (o1 b ∨ W.heap.size ≤ b) ∧ b < W1.heap.size, hw.cut, h.vr.upd hu (fun b _ e e2 => h.dis b e2 e), ?_, fun b e => ⟨(h.lt2 b e).1, Nat.lt_of_lt_of_le (h.lt2 b e).2 hu.size⟩, ?_⟩, hu.below hn (fun b _ e => (h.lt1 b e).1)⟩
  · rintro b ⟨e | e, h2⟩
    · exact ⟨(h.lt1 b e).1, h2⟩
    · exact ⟨by omega, h2⟩
  · rintro b ⟨e | e, h2⟩ e3
    · exact h.dis b e e3
    · have := (h.lt2 b e3).2; omega
theorem Two.right (h : Two n o1 o2 W g g2 b1 b2) (hn : n ≤ W.heap.size) (hw : Vr (fun b => o2 b ∨ W.heap.size ≤ b) W1 g2 b2') (hu : Upd o2 W W1) : (∃ o, Two n o1 o W1 g g2 b1 b2') ∧ Below n W W1 := by
  refine ⟨⟨fun b => (o2 b ∨ W.heap.size ≤ b) ∧ b < W1.heap.size, h.wr.upd hu (fun b _ e e2 => h.dis b e e2), hw.cut, fun b e => ⟨(h.lt1 b e).1, Nat.lt_of_lt_of_le (h.lt1 b e).2 hu.size⟩, ?_, ?_⟩, hu.below hn (fun b _ e => (h.lt2 b e).1)⟩
  · rintro b ⟨e | e, h2⟩
    · exact ⟨(h.lt2 b e).1, h2⟩
    · exact ⟨by omega, h2⟩
  · rintro b e3 ⟨e | e, h2⟩
    · exact h.dis b e3 e
    · have := (h.lt1 b e3).2; omega
/-- Both new. -/
theorem Two.new (h : Wr (fun b => b = g) W g []) (hg : n ≤ g) : Two n (fun b => b = g) (fun b => b = W.heap.size) (W.alloc (.cells #[.slice none 0 0] 58)) g W.heap.size [] [] := by
  have hlt := h.lt
  refine ⟨h.below (below_alloc (Below.refl _ _) _), Vr.new W, ?_, ?_, ?_⟩
  · rintro b rfl; exact ⟨hg, by simp; omega⟩
  · rintro b rfl; exact ⟨by omega, by simp⟩
  · rintro b rfl e; omega
end
/-- A slice of bytes that was there before lies in no block of a writer. -/
theorem Two.apart {α : Type} {k : Kd α} {w0 W : World} {n g g2 c : Nat} {o1 o2 : Nat → Prop} {b1 b2 : List Bool} {A : Option Addr} {xs : List α} (h : Two n o1 o2 W g g2 b1 b2) (hS : Sl k AnyB w0 A c xs) (hn : n = w0.heap.size) (hb : Below w0.heap.size w0 W) :
    Sl k (fun b => ¬ o1 b) W A c xs ∧ Sl k (fun b => ¬ o2 b) W A c xs := by
  have h1 : Sl k (fun b => b < w0.heap.size) w0 A c xs := hS.weak fun b hb _ => hb
  have h2 := h1.below hb
  exact ⟨h2.weak fun b _ e e2 => by have := (h.lt1 b e2).1; omega, h2.weak fun b _ e e2 => by have := (h.lt2 b e2).1; omega⟩
/-- Two readers of the same bits, at the same place. -/
structure TwoR (n : Nat) (o1 o2 : Nat → Prop) (W : World) (g g2 : Nat) (l : List Bool) (i j : Nat) : Prop where
  rd : Rr o1 W g l i
  qd : Qr o2 W g2 l j
  lg : n ≤ g ∧ n ≤ g2
  dis : ¬ o1 g2 ∧ ¬ o2 g
section
variable {n g g2 i j i' : Nat} {o1 o2 : Nat → Prop} {W W1 : World} {l : List Bool}
theorem TwoR.below (h : TwoR n o1 o2 W g g2 l i j) (hb : Below W.heap.size W W1) : TwoR n o1 o2 W1 g g2 l i j := ⟨h.rd.below hb, h.qd.below hb, h.lg, h.dis⟩
theorem TwoR.left (h : TwoR n o1 o2 W g g2 l i j) (hn : n ≤ W.heap.size) (hr : Rr o1 W1 g l i') (hu : Upd (fun b => b = g) W W1) : TwoR n o1 o2 W1 g g2 l i' j ∧ Below n W W1 :=
  ⟨⟨hr, h.qd.upd hu (fun b _ e e2 => h.dis.2 (e2 ▸ e)), h.lg, h.dis⟩, hu.below hn (fun b _ e => by rw [e]; exact h.lg.1)⟩
theorem TwoR.right (h : TwoR n o1 o2 W g g2 l i j) (hn : n ≤ W.heap.size) (hr : Qr o2 W1 g2 l i') (hu : Upd (fun b => b = g2) W W1) : TwoR n o1 o2 W1 g g2 l i i' ∧ Below n W W1 :=
  ⟨⟨h.rd.upd hu (fun b _ e e2 => h.dis.1 (e2 ▸ e)), hr, h.lg, h.dis⟩, hu.below hn (fun b _ e => by rw [e]; exact h.lg.2)⟩
theorem TwoR.new {W2 : World} (h : Rr (fun b => W.heap.size ≤ b) W1 g l 0) (hg : W.heap.size ≤ g) (h2 : Qr (fun b => W1.heap.size ≤ b) W2 g2 l 0) (hg2 : W1.heap.size ≤ g2) (hb : Below W1.heap.size W1 W2) (hn : n ≤ W.heap.size) :
    TwoR n (fun b => W.heap.size ≤ b ∧ b < W1.heap.size) (fun b => W1.heap.size ≤ b) W2 g g2 l 0 0 := by
  have hlt := h.lt
  exact ⟨h.cut.below hb, h2, ⟨by omega, by omega⟩, fun e => by omega, fun e => by omega⟩
end
end Go.Proofs.Ytlbgkkkcbnagbaa

namespace Go.Proofs.Ytlbgkkkcbnagbaa
open Go.RowKit

set_option maxHeartbeats 1000000 in
set_option maxRecDepth 100000 in
theorem write_nil (A : Option Addr) (c : Nat) (ls : List Int) (s : Int) (w : World) :
    Calls Try.prog 42 #[.pointer none, .slice A ls.length c, .int .i64 s] w fun e w' => e = .returned (.int .i64 1) ∧ w = w' := by
  go_enter Try.func42, Try.ntmps42
  go_wp2
  go_ret
  exact ⟨rfl, rfl⟩
set_option maxHeartbeats 1000000 in
set_option maxRecDepth 100000 in
theorem read_nil (A : Option Addr) (c : Nat) (ls : List Int) (w : World) :
    Calls Try.prog 33 #[.pointer none, .slice A ls.length c] w fun e w' => e = .returned (.tuple #[.int .i64 0, .int .i64 1]) ∧ w = w' := by
  go_enter Try.func33, Try.ntmps33
  go_wp2
  go_ret2
  exact ⟨rfl, rfl⟩
end Go.Proofs.Ytlbgkkkcbnagbaa

namespace Go.Proofs.Ytlbgkkkcbnagbaa
open Go.RowKit

set_option maxHeartbeats 4000000 in
set_option maxRecDepth 100000 in
theorem prefixWrites_walk (A0 : Option Addr) (c0 : Nat) (s0 : List Int) (A1 : Option Addr) (c1 : Nat) (s1 : List Int) (A2 : Option Addr) (c2 : Nat) (s2 : List Int) (W : World) (hR0 : RI W A0 c0 s0) (hl0 : s0.length ≤ 140737488355328) (hR1 : RI W A1 c1 s1) (hl1 : s1.length ≤ 140737488355328) (hR2 : RY W A2 c2 s2) (hb2 : ∀ x ∈ s2, 0 ≤ x ∧ x < 256) (hl2 : s2.length ≤ 140737488355328) :
    Calls Try.prog 12 #[.slice A0 s0.length c0, .slice A1 s1.length c1, .slice A2 s2.length c2] W fun e W' => e = .returned (.bool true) ∧ Below W.heap.size W W' := by
  have H0 := Lib.hid hR0
  have H1 := Lib.hid hR1
  have H2 := Lib.hid hR2
  clear hR0 hR1 hR2
  by_cases hg : (40 : Int) < (s0.length : Int) ∨ (60 : Int) < (s1.length : Int) ∨ (140000 : Int) < (s2.length : Int)
  · have hc : (decide ((40 : Int) < (s0.length : Int)) = true) ∨ (decide ((40 : Int) < (s0.length : Int)) = false ∧ decide ((60 : Int) < (s1.length : Int)) = true) ∨ (decide ((40 : Int) < (s0.length : Int)) = false ∧ decide ((60 : Int) < (s1.length : Int)) = false ∧ decide ((140000 : Int) < (s2.length : Int)) = true) := by
      simp only [decide_eq_true_eq, decide_eq_false_iff_not]; omega
    clear hg
    rcases hc with d0 | ⟨d0, d1⟩ | ⟨d0, d1, d2⟩
    all_goals
      go_enter Try.func12, Try.ntmps12
      go_wp2_with fail
      refine (awake_any _).mono ?_
      rintro e w1 ⟨rfl, b1⟩
      go_wp2_with fail
      go_ret
      exact ⟨rfl, b1⟩
  · have d0 : decide ((40 : Int) < (s0.length : Int)) = false := decide_eq_false (by omega)
    have d1 : decide ((60 : Int) < (s1.length : Int)) = false := decide_eq_false (by omega)
    have d2 : decide ((140000 : Int) < (s2.length : Int)) = false := decide_eq_false (by omega)
    have hS1 : s1.length ≤ 60 := by omega
    have hS2 : s2.length ≤ 140000 := by omega
    obtain ⟨m, hm⟩ : ∃ m, 8 * s2.length = m := ⟨_, rfl⟩
    have hw8 : IntKind.i64.wrap (8 * (s2.length : Int)) = (m : Int) := by rw [IntWalk.i64_in _ (by omega)]; omega
    have HM := Lib.hid hm
    clear hg hm
    go_enter Try.func12, Try.ntmps12
    go_wp2_with fail
    refine (wnew_any _).mono ?_
    rintro e w1 ⟨g, rfl, hW1, b, hg⟩
    have hT := Two.new hW1 hg
    have BX := below_alloc b (.cells #[.slice none 0 0] 58)
    clear hW1 b
    go_wp2_with fail
    generalize hw2 : w1.alloc (.cells #[.slice none 0 0] 58) = w2 at *
    generalize w1.heap.size = g2 at *
    clear hw2
    refine (wappend_any _ g m A2 c2 s2 [] _ hT.wr (hT.apart H2.out rfl BX).1 hb2 (by omega) (by have := HM.out; omega) (by decide)).mono ?_
    rintro e w3 ⟨rfl, hW3, hU⟩
    obtain ⟨⟨o1, hT⟩, b⟩ := hT.left BX.size hW3 hU
    replace BX := BX.trans b
    clear hW3 hU b
    go_wp2_with fail
    refine (append_ref _ g2 m A2 c2 s2 [] _ hT.vr (H2.out.below BX) hb2 (by omega) (by have := HM.out; omega) (by decide)).mono ?_
    rintro e w4 ⟨rfl, hW4, hU⟩
    obtain ⟨⟨o2, hT⟩, b⟩ := hT.right BX.size hW4 hU
    replace BX := BX.trans b
    clear hW4 hU b
    obtain ⟨B0, hB0⟩ : ∃ B, fullB [] (ofB s2 m) = B := ⟨_, rfl⟩
    rw [hB0] at hT
    have HL := Lib.hid (show B0.length ≤ 1048576 by rw [← hB0]; exact fullB_len _ _ (by decide))
    clear hB0
    go_wp2_with fail
    clear hw8 HM
    go_loopw [43] (fun iv wr => ∃ (k : Nat) (B : List Bool) (o1 o2 : Nat → Prop), iv = .int .i64 (k : Int) ∧ k ≤ s1.length ∧ Hid (Two W.heap.size o1 o2 wr g g2 B B) ∧ Hid (B.length ≤ 1048576) ∧ Hid (Below W.heap.size W wr)) (fun iv _ => s1.length - (intOf iv).toNat)
    case atStart => exact ⟨0, B0, o1, o2, rfl, Nat.zero_le _, hT, HL, BX⟩
    case round =>
      clear hT HL BX
      obtain ⟨k, B, o1, o2, rfl, hk, hT, hL, hB⟩ := hrel
      have h0 := hB.out.size
      by_cases hlt : k < s1.length
      · obtain ⟨ad, rfl, hc⟩ := rd_int (H1.out.below hB.out) k hlt
        have hki : (k : Int) < (s1.length : Int) := by omega
        generalize nth 0 s1 k = x at hc
        clear hlt
        go_wp2_with fail
        refine (write_any o1 g A0 c0 s0 x B _ hT.out.wr hL.out (H0.out.below hB.out)).mono ?_
        rintro e w5 ⟨rfl, hW5, hU⟩
        obtain ⟨⟨o3, hT5⟩, b⟩ := hT.out.left h0 hW5 hU
        have HB5 := Lib.hid (hB.out.trans b)
        clear hW5 hU b
        go_wp2_with fail
        refine (rwrite_any o2 g2 A0 c0 s0 x B _ hT5.vr hL.out (H0.out.below HB5.out)).mono ?_
        rintro e w6 ⟨rfl, hW6, hU⟩
        obtain ⟨⟨o4, hT6⟩, b⟩ := hT5.right HB5.out.size hW6 hU
        have HB6 := Lib.hid (HB5.out.trans b)
        have HL6 := Lib.hid (fullB_len B (wordB s0 x) hL.out)
        clear hW6 hU b hT5
        go_wp2_with fail
        refine (wlen_any _ g _ _ hT6.wr).mono ?_
        rintro e w7 ⟨rfl, rfl⟩
        go_wp2_with fail
        refine (len_ref _ g2 _ _ hT6.vr).mono ?_
        rintro e w8 ⟨rfl, rfl⟩
        go_wp2_with fail
        go_roundw
        case rel => exact ⟨k + 1, fullB B (wordB s0 x), o3, o4, by go_num, by omega, Lib.hid hT6, HL6, HB6⟩
        case measure => simp [intOf]; omega
      · obtain rfl : k = s1.length := by omega
        have BX := hB.out
        go_wp2_with fail
        refine (wbytes_any _ g B _ hT.out.wr (by have := hL.out; omega)).mono ?_
        rintro e w5 ⟨v5, rfl, O5, b⟩
        obtain ⟨A5, c5, rfl, H5⟩ := own_ri O5
        have hT5 := hT.out.below b
        replace BX := below2 BX b
        clear b O5
        go_wp2_with fail
        refine (bytes_ref _ g2 B _ hT5.vr (by have := hL.out; omega)).mono ?_
        rintro e w6 ⟨v6, rfl, O6, b⟩
        obtain ⟨A6, c6, rfl, H6⟩ := own_ri O6
        replace H5 := H5.below b
        replace BX := below2 BX b
        clear b O6 hT5
        go_wp2_with fail
        refine (same_ref A5 A6 c5 c6 _ _ _ H5 H6).mono ?_
        rw [sameL_refl]
        rintro e w7 ⟨rfl, b⟩
        replace BX := below2 BX b
        clear b H5 H6
        go_wp2_with fail
        refine (write_nil A0 c0 s0 0 _).mono ?_
        rintro e w8 ⟨rfl, rfl⟩
        go_wp2_with fail
        refine (awake_any _).mono ?_
        rintro e w9 ⟨rfl, b⟩
        replace BX := below2 BX b
        clear b
        go_wp2_with fail
        go_ret
        exact ⟨rfl, BX⟩
end Go.Proofs.Ytlbgkkkcbnagbaa

namespace Go.Proofs.Ytlbgkkkcbnagbaa
open Go.ChangeShapes Go.WideShapes Go.ChangeAt Go.WideMaps Go.WideElems Go.RowKit Go.Deep

theorem laidOut_prefixWrites : laidOutB Try.prog = true := by kernel_rfl
set_option maxRecDepth 100000 in
theorem lifted_prefixWrites (os : Os) (started : os.Started) (H : Type) (enc : TypeId × Value → H) :
    ReturnsInHanded {} Try.checked os 12 .any (Rows.prefixWritesSpec.pre6 enc Try.prog Try.f12 [] false) (Rows.prefixWritesSpec.post enc Try.prog Try.f12 false true false false) := by
  refine returnsInHanded_of_change_sized (C := Try.checked) own started (by kernel_rfl) Try.func12
    (ChangeSpec.witness6 (enc := enc) (C := Try.checked) false ⟨#[], #[.slice none 0 0, .slice none 0 0, .slice none 0 0], []⟩ 8 (by kernel_rfl) (by kernel_rfl) (by kernel_rfl) (by kernel_rfl)) ?_
  intro W base args ds gs before hval0 hW _ hsz0 _
  have hval : ∀ (j : Nat) t v, Try.f12.params[j]? = some t → args[j]? = some v → Value.okWide Try.prog W .any base t v := hval0
  have hW' := hW
  obtain ⟨p, q, hA0, hV, rfl, hfz, hnd⟩ := hW
  have hA : DataW.TrodAll enc Try.prog W 0 (fun _ => true) true Try.f12.params.toList args.toList ds p := hA0
  have hsz : (DataW.weightsEach Try.prog (Try.f12.params.toList ++ Rows.prefixWritesSpec.plain.varTypes Try.prog) (ds ++ gs)).all (· ≤ reachBytes) = true := hsz0
  rw [Try.params12] at hA hval hsz
  obtain ⟨v0, vs0, d0, ds0, p0, q0, hargs, rfl, rfl, h0, r0⟩ := trodAll_cons hA
  obtain ⟨v1, vs1, d1, ds1, p1, q1, rfl, rfl, rfl, h1, r1⟩ := trodAll_cons r0
  obtain ⟨v2, vs2, d2, ds2, p2, q2, rfl, rfl, rfl, h2, r2⟩ := trodAll_cons r1
  obtain ⟨rfl, rfl, rfl⟩ := trodAll_nil r2
  obtain rfl : args = #[v0, v1, v2] := by cases args; simp_all
  obtain ⟨rfl, rfl⟩ := trodVars_none hV
  have lt0 : ∀ x ∈ p0, x.block < W.heap.size := by obtain ⟨m, hm⟩ := h0; exact DataW.trod_lt m _ _ _ hm
  have y0 : ∀ m ∈ d0.weights Try.prog 22, m ≤ reachBytes := fun m hm => of_decide_eq_true (List.all_eq_true.1 hsz m (DataW.weights_mem_each (j := 0) rfl rfl m hm))
  obtain ⟨B0, l0, e0, rfl⟩ := okWide_slice Try.underlying22 (hval 0 22 v0 rfl rfl)
  obtain ⟨A0, c0, s0, hv0, hR0, hB0⟩ : ∃ A c xs, Value.slice B0 l0 e0 = .slice A xs.length c ∧ RI W A c xs ∧ ((∀ m ∈ d0.weights Try.prog 22, m ≤ reachBytes) → xs.length ≤ 140737488355328) := by obtain ⟨fuel, hf⟩ := h0; exact open_I hf
  have lt1 : ∀ x ∈ p1, x.block < W.heap.size := by obtain ⟨m, hm⟩ := h1; exact DataW.trod_lt m _ _ _ hm
  have y1 : ∀ m ∈ d1.weights Try.prog 22, m ≤ reachBytes := fun m hm => of_decide_eq_true (List.all_eq_true.1 hsz m (DataW.weights_mem_each (j := 1) rfl rfl m hm))
  obtain ⟨B1, l1, e1, rfl⟩ := okWide_slice Try.underlying22 (hval 1 22 v1 rfl rfl)
  obtain ⟨A1, c1, s1, hv1, hR1, hB1⟩ : ∃ A c xs, Value.slice B1 l1 e1 = .slice A xs.length c ∧ RI W A c xs ∧ ((∀ m ∈ d1.weights Try.prog 22, m ≤ reachBytes) → xs.length ≤ 140737488355328) := by obtain ⟨fuel, hf⟩ := h1; exact open_I hf
  have lt2 : ∀ x ∈ p2, x.block < W.heap.size := by obtain ⟨m, hm⟩ := h2; exact DataW.trod_lt m _ _ _ hm
  have y2 : ∀ m ∈ d2.weights Try.prog 34, m ≤ reachBytes := fun m hm => of_decide_eq_true (List.all_eq_true.1 hsz m (DataW.weights_mem_each (j := 2) rfl rfl m hm))
  obtain ⟨B2, l2, e2, rfl⟩ := okWide_slice Try.underlying34 (hval 2 34 v2 rfl rfl)
  obtain ⟨A2, c2, s2, hv2, hR2, hB2⟩ : ∃ A c xs, Value.slice B2 l2 e2 = .slice A xs.length c ∧ RY W A c xs ∧ (∀ x ∈ xs, 0 ≤ x ∧ x < 256) ∧ ((∀ m ∈ d2.weights Try.prog 34, m ≤ reachBytes) → xs.length ≤ 140737488355328) := by obtain ⟨fuel, hf⟩ := h2; exact open_Y hf
  have hwalk := prefixWrites_walk A0 c0 s0 A1 c1 s1 A2 c2 s2 W hR0 (hB0 y0) hR1 (hB1 y1) hR2 hB2.1 (hB2.2 y2)
  rw [← hv0] at hwalk
  rw [← hv1] at hwalk
  rw [← hv2] at hwalk
  refine hwalk.mono fun e W' ⟨he, bel⟩ => ?_
  subst he
  exact ⟨_, rfl, _, _, _, [], _, [], hW', trodAll_mk1 (shut_bool Try.underlying4 _), (trodAll_cons_mk (Below.trod laidOut_prefixWrites (by kernel_rfl) (of_decide_eq_true (by kernel_rfl)) h0 bel lt0) (trodAll_cons_mk (Below.trod laidOut_prefixWrites (by kernel_rfl) (of_decide_eq_true (by kernel_rfl)) h1 bel lt1) (trodAll_cons_mk (Below.trod laidOut_prefixWrites (by kernel_rfl) (of_decide_eq_true (by kernel_rfl)) h2 bel lt2) trodAll_mk0))), rfl, bel.frame _, fun h => by cases h⟩
theorem prefixWrites_holds : Rows.PrefixWritesSaid :=
  OpenClaim.holds_of_wide 12 Try.f12 rfl rfl rfl rfl rfl rfl rfl ⟨rfl, rfl, rfl, rfl, rfl⟩ rfl rfl rfl rfl rfl (by kernel_rfl) Try.func12 (by kernel_rfl)
    (of_decide_eq_true (by kernel_rfl)) (by unfold Func.isWrapper; first | (rw [if_pos (by decide +kernel)]; kernel_rfl) | (rw [if_neg (by decide +kernel)]; exact ⟨rfl, rfl⟩))
    (fun os started H enc _ => lifted_prefixWrites os started H enc)
#print axioms prefixWrites_holds
end Go.Proofs.Ytlbgkkkcbnagbaa
