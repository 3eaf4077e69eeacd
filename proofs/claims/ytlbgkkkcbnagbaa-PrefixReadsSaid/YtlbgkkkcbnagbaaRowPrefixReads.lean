/- The law PrefixReads: it returns true for every input, and its arguments read as before. No conditions. -/
import Derived.Test.YtlbgkkkcbnagbaaKe
import Derived.Test.YtlbgkkkcbnagbaaKf
import Derived.Test.YtlbgkkkcbnagbaaKk
import Derived.Test.YtlbgkkkcbnagbaaKh
import Derived.Test.YtlbgkkkcbnagbaaRows
import Derived.OpenShut
import Derived.Carry
import Derived.SizedLaws
namespace Go.Proofs.Ytlbgkkkcbnagbaa
open Go.RowKit

theorem fullB_len (bs more : List Bool) (h : bs.length ≤ 1048576) : (fullB bs more).length ≤ 1048576 := by
  unfold fullB; split
  · exact h
  · rw [List.length_append]; omega
structure Two (n : Nat) (o1 o2 : Nat → Prop) (W : World) (g g2 : Nat) (b1 b2 : List Bool) : Prop where
  wr : Wr o1 W g b1
  vr : Vr o2 W g2 b2
  lt1 : ∀ b, o1 b → n ≤ b ∧ b < W.heap.size
  lt2 : ∀ b, o2 b → n ≤ b ∧ b < W.heap.size
  dis : ∀ b, o1 b → ¬ o2 b
section
variable {n g g2 : Nat} {o1 o2 : Nat → Prop} {W W1 : World} {b1 b2 b1' b2' : List Bool}
theorem Two.below (h : Two n o1 o2 W g g2 b1 b2) (hb : Below W.heap.size W W1) : Two n o1 o2 W1 g g2 b1 b2 :=
  ⟨h.wr.below hb, h.vr.below hb, fun b e => ⟨(h.lt1 b e).1, Nat.lt_of_lt_of_le (h.lt1 b e).2 hb.size⟩, fun b e => ⟨(h.lt2 b e).1, Nat.lt_of_lt_of_le (h.lt2 b e).2 hb.size⟩, h.dis⟩
theorem Two.left (h : Two n o1 o2 W g g2 b1 b2) (hn : n ≤ W.heap.size) (hw : Wr (fun b => o1 b ∨ W.heap.size ≤ b) W1 g b1') (hu : Upd o1 W W1) : (∃ o, Two n o o2 W1 g g2 b1' b2) ∧ Below n W W1 := by
  refine ⟨⟨fun b => (o1 b ∨ W.heap.size ≤ b) ∧ b < W1.heap.size, hw.cut, h.vr.upd hu (fun b _ e e2 => h.dis b e2 e), ?_, fun b e => ⟨(h.lt2 b e).1, Nat.lt_of_lt_of_le (h.lt2 b e).2 hu.size⟩, ?_⟩, hu.below hn (fun b _ e => (h.lt1 b e).1)⟩
  · rintro b ⟨e | e, h2⟩
    · exact ⟨(h.lt1 b e).1, h2⟩
    · exact ⟨by omega, h2⟩
  · rintro b ⟨e | e, h2⟩ e3
    · exact h.dis b e e3
    · have := (h.lt2 b e3).2; omega
theorem Two.right (h : Two n o1 o2 W g g2 b1 b2) (hn : n ≤ W.heap.size) (hw : Vr (fun b => o2 b ∨ W.heap.size ≤ b) W1 g2 b2') (hu : Upd o2 W W1) : (∃ o, Two n o1 o W1 g g2 b1 b2') ∧ Below n W W1 := by
  refine ⟨⟨fun b => (o2 b ∨ W.heap.size ≤ b) ∧ b < W1.heap.size, h.wr.upd hu (fun b _ e e2 => h.dis b e e2), hw.cut, fun b e => ⟨(h.lt1 b e).1, Nat.lt_of_lt_of_le (h.lt1 b e).2 hu.size⟩, ?_, ?_⟩, hu.below hn (fun b _ e => (h.lt2 b e).1)⟩
  · rintro b ⟨e | e, h2⟩
    · exact ⟨(h.lt2 b e).1, h2⟩
    · exact ⟨by omega, h2⟩
  · rintro b e3 ⟨e | e, h2⟩
    · exact h.dis b e3 e
    · have := (h.lt1 b e3).2; omega
/-- Both new. -/
theorem Two.new (h : Wr (fun b => b = g) W g []) (hg : n ≤ g) : Two n (fun b => b = g) (fun b => b = W.heap.size) (W.alloc (.cells #[.slice none 0 0] 58)) g W.heap.size [] [] := by
  have hlt := h.lt
  refine ⟨h.below (below_alloc (Below.refl _ _) _), Vr.new W, ?_, ?_, ?_⟩
  · rintro b rfl; exact ⟨hg, by simp; omega⟩
  · rintro b rfl; exact ⟨by omega, by simp⟩
  · rintro b rfl e; omega
end
/-- A slice of bytes that was there before lies in no block of a writer. -/
theorem Two.apart {α : Type} {k : Kd α} {w0 W : World} {n g g2 c : Nat} {o1 o2 : Nat → Prop} {b1 b2 : List Bool} {A : Option Addr} {xs : List α} (h : Two n o1 o2 W g g2 b1 b2) (hS : Sl k AnyB w0 A c xs) (hn : n = w0.heap.size) (hb : Below w0.heap.size w0 W) :
    Sl k (fun b => ¬ o1 b) W A c xs ∧ Sl k (fun b => ¬ o2 b) W A c xs := by
  have h1 : Sl k (fun b => b < w0.heap.size) w0 A c xs := hS.weak fun b hb _ => hb
  have h2 := h1.below hb
  exact ⟨h2.weak fun b _ e e2 => by have := (h.lt1 b e2).1; omega, h2.weak fun b _ e e2 => by have := (h.lt2 b e2).1; omega⟩
/-- Two readers of the same bits, at the same place. -/
structure TwoR (n : Nat) (o1 o2 : Nat → Prop) (W : World) (g g2 : Nat) (l : List Bool) (i j : Nat) : Prop where
  rd : Rr o1 W g l i
  qd : Qr o2 W g2 l j
  lg : n ≤ g ∧ n ≤ g2
  dis : ¬ o1 g2 ∧ ¬ o2 g
section
variable {n g g2 i j i' : Nat} {o1 o2 : Nat → Prop} {W W1 : World} {l : List Bool}
theorem TwoR.below (h : TwoR n o1 o2 W g g2 l i j) (hb : Below W.heap.size W W1) : TwoR n o1 o2 W1 g g2 l i j := ⟨h.rd.below hb, h.qd.below hb, h.lg, h.dis⟩
theorem TwoR.left (h : TwoR n o1 o2 W g g2 l i j) (hn : n ≤ W.heap.size) (hr : Rr o1 W1 g l i') (hu : Upd (fun b => b = g) W W1) : TwoR n o1 o2 W1 g g2 l i' j ∧ Below n W W1 :=
  ⟨⟨hr, h.qd.upd hu (fun b _ e e2 => h.dis.2 (e2 ▸ e)), h.lg, h.dis⟩, hu.below hn (fun b _ e => by rw [e]; exact h.lg.1)⟩
theorem TwoR.right (h : TwoR n o1 o2 W g g2 l i j) (hn : n ≤ W.heap.size) (hr : Qr o2 W1 g2 l i') (hu : Upd (fun b => b = g2) W W1) : TwoR n o1 o2 W1 g g2 l i i' ∧ Below n W W1 :=
  ⟨⟨h.rd.upd hu (fun b _ e e2 => h.dis.1 (e2 ▸ e)), hr, h.lg, h.dis⟩, hu.below hn (fun b _ e => by rw [e]; exact h.lg.2)⟩
theorem TwoR.new {W2 : World} (h : Rr (fun b => W.heap.size ≤ b) W1 g l 0) (hg : W.heap.size ≤ g) (h2 : Qr (fun b => W1.heap.size ≤ b) W2 g2 l 0) (hg2 : W1.heap.size ≤ g2) (hb : Below W1.heap.size W1 W2) (hn : n ≤ W.heap.size) :
    TwoR n (fun b => W.heap.size ≤ b ∧ b < W1.heap.size) (fun b => W1.heap.size ≤ b) W2 g g2 l 0 0 := by
  have hlt := h.lt
  exact ⟨h.cut.below hb, h2, ⟨by omega, by omega⟩, fun e => by omega, fun e => by omega⟩
end
end Go.Proofs.Ytlbgkkkcbnagbaa

namespace Go.Proofs.Ytlbgkkkcbnagbaa
open Go.RowKit

set_option maxHeartbeats 1000000 in
set_option maxRecDepth 100000 in
theorem write_nil (A : Option Addr) (c : Nat) (ls : List Int) (s : Int) (w : World) :
    Calls Try.prog 42 #[.pointer none, .slice A ls.length c, .int .i64 s] w fun e w' => e = .returned (.int .i64 1) ∧ w = w' := by
  go_enter Try.func42, Try.ntmps42
  go_wp2
  go_ret
  exact ⟨rfl, rfl⟩
set_option maxHeartbeats 1000000 in
set_option maxRecDepth 100000 in
theorem read_nil (A : Option Addr) (c : Nat) (ls : List Int) (w : World) :
    Calls Try.prog 33 #[.pointer none, .slice A ls.length c] w fun e w' => e = .returned (.tuple #[.int .i64 0, .int .i64 1]) ∧ w = w' := by
  go_enter Try.func33, Try.ntmps33
  go_wp2
  go_ret2
  exact ⟨rfl, rfl⟩
end Go.Proofs.Ytlbgkkkcbnagbaa

namespace Go.Proofs.Ytlbgkkkcbnagbaa
open Go.RowKit

theorem openE_fit {m : Nat} {n : Int} (h : openE m n = 0) : ∃ k : Nat, n = (k : Int) ∧ k ≤ 8 * m ∧ k ≤ 1048576 := by
  unfold openE at h
  split at h
  · cases h
  · rename_i h1
    split at h
    · cases h
    · exact ⟨n.toNat, by omega, by omega, by omega⟩
set_option maxHeartbeats 4000000 in
set_option maxRecDepth 100000 in
theorem prefixReads_walk (A0 : Option Addr) (c0 : Nat) (s0 : List Int) (A1 : Option Addr) (c1 : Nat) (s1 : List Int) (n m : Int) (W : World) (hR0 : RI W A0 c0 s0) (hl0 : s0.length ≤ 140737488355328) (hR1 : RY W A1 c1 s1) (hb1 : ∀ x ∈ s1, 0 ≤ x ∧ x < 256) (hl1 : s1.length ≤ 140737488355328) :
    Calls Try.prog 9 #[.slice A0 s0.length c0, .slice A1 s1.length c1, .agg #[.int .i64 n, .int .i64 m]] W fun e W' => e = .returned (.bool true) ∧ Below W.heap.size W W' := by
  have H0 := Lib.hid hR0
  have H1 := Lib.hid hR1
  have HX := Lib.hid (below_alloc (Below.refl W.heap.size W) (.cells #[.int .i64 n, .int .i64 m] 38))
  have HP : Hid (Blk (W.alloc (.cells #[.int .i64 n, .int .i64 m] 38)) W.heap.size #[.int .i64 n, .int .i64 m] 38) := Lib.hid (heap_alloc_new W _)
  clear hR0 hR1
  by_cases hg : (40 : Int) < (s0.length : Int) ∨ (300 : Int) < (s1.length : Int)
  · have hc : (decide ((40 : Int) < (s0.length : Int)) = true) ∨ (decide ((40 : Int) < (s0.length : Int)) = false ∧ decide ((300 : Int) < (s1.length : Int)) = true) := by
      simp only [decide_eq_true_eq, decide_eq_false_iff_not]; omega
    clear hg
    rcases hc with d0 | ⟨d0, d1⟩
    all_goals
      go_enter Try.func9, Try.ntmps9
      go_wp2_with fail
      refine (awake_any _).mono ?_
      rintro e w1 ⟨rfl, b1⟩
      go_wp2_with fail
      go_ret
      exact ⟨rfl, below2 HX.out b1⟩
  · have d0 : decide ((40 : Int) < (s0.length : Int)) = false := decide_eq_false (by omega)
    have d1 : decide ((300 : Int) < (s1.length : Int)) = false := decide_eq_false (by omega)
    have hS1 : s1.length ≤ 300 := by omega
    clear hg
    by_cases he : openE s1.length n = 0
    · obtain ⟨k, rfl, hk8, hk⟩ := openE_fit he
      have HK := Lib.hid (show k ≤ 8 * s1.length ∧ k ≤ 1048576 from ⟨hk8, hk⟩)
      clear he hk8 hk
      go_enter Try.func9, Try.ntmps9
      go_wp2_with fail
      refine (ropen_ok A1 c1 s1 k _ (H1.out.below HX.out) hb1 (by omega) HK.out.1 HK.out.2).mono ?_
      rintro e w1 ⟨g, rfl, hR, b, hg⟩
      have P1 := HP.out.below b
      have BX := below2 HX.out b
      have hBw := b.size
      clear b
      have k0 := P1.cell 0 rfl
      go_wp2_with fail
      refine (qopen_ok A1 c1 s1 k _ (H1.out.below BX) hb1 (by omega) HK.out.1 HK.out.2).mono ?_
      rintro e w2 ⟨g2, rfl, hQ, b, hg2⟩
      have hT := Lib.hid (TwoR.new (n := W.heap.size) hR hg hQ hg2 b HX.out.size)
      replace P1 := P1.below b
      replace BX := below2 BX b
      clear b hR hQ k0
      have hgw : W.heap.size + 1 ≤ g ∧ W.heap.size + 1 ≤ g2 := by simp at hg; have h5 := hT.out.rd.lt; have h6 := hBw; simp at h6; exact ⟨by omega, by omega⟩
      have k1 := P1.cell 1 rfl
      clear hg hg2
      go_wp2_with fail
      have hDW := BX.size
      have P2 := P1.below (below_drewN (Below.refl w2.heap.size w2) 1)
      have hT2 := Lib.hid (hT.out.below (below_drewN (Below.refl w2.heap.size w2) 1))
      have B2 := below2 BX (below_drewN (Below.refl w2.heap.size w2) 1)
      clear BX hT P1
      have t0 := trivial
      go_region_held3 (fun W' => W'.cell? ⟨W.heap.size, 1, none⟩ = some (.int .i64 m)) (go_keep) (first
        | (go_at_call 31; have _t := t0; clear t0; refine (rseek_any _ g 0 m _ _ hT2.out.rd).mono ?_; rintro e w3 ⟨rfl, hR3, hU3⟩; obtain ⟨hT3, b3⟩ := hT2.out.left hDW hR3 hU3; have P3 := P2.keep (hU3.keep (ok := fun b => b ≠ g) fun _ h => h) (by omega); have k1 := P3.cell 1 rfl; have hT3 := Lib.hid hT3; have B3 := B2.trans b3; have hz3 := B3.size; clear hR3 hU3 b3)
        | (go_at_call 32; refine (qseek_any _ g2 0 m _ _ hT3.out.qd).mono ?_; rintro e w4 ⟨rfl, hR4, hU4⟩; obtain ⟨hT4, b4⟩ := hT3.out.right hz3 hR4 hU4; have P4 := P3.keep (hU4.keep (ok := fun b => b ≠ g2) fun _ h => h) (by omega); have k1 := P4.cell 1 rfl; have hT4 := Lib.hid hT4; have B4 := B3.trans b4; clear hR4 hU4 b4))
      go_wp2_with fail
      have hL0 := Lib.hid (H0.out.weak (ok' := fun b => b < W.heap.size) fun b hb _ => hb)
      have HT := Lib.hid hT4.out
      have HB := Lib.hid B4
      clear P2 P3 P4 hT2 hT3 hT4 B2 B3 B4 hz3 hDW k1
      go_loopw [62] (fun iv wr => ∃ (q i j : Nat), iv = .int .i64 (q : Int) ∧ q ≤ 60 ∧ i = j ∧ Hid (TwoR W.heap.size (fun b => (W.alloc (.cells #[.int .i64 (k : Int), .int .i64 m] 38)).heap.size ≤ b ∧ b < w1.heap.size) (fun b => w1.heap.size ≤ b) wr g g2 (ofB s1 k) i j) ∧ Hid (Below W.heap.size W wr)) (fun iv _ => 60 - (intOf iv).toNat)
      case atStart => exact ⟨0, _, _, rfl, by omega, rfl, HT, HB⟩
      case round =>
        clear HT HB
        obtain ⟨q, i, _, rfl, hq, rfl, hT, hB⟩ := hrel
        have hz := hB.out.size
        by_cases hlt : q < 60
        · have hqi : (q : Int) < 60 := by omega
          go_wp2_with fail
          refine (read_any _ A0 c0 s0 g i _ _ hT.out.rd (H0.out.below hB.out)).mono ?_
          rintro e w5 ⟨rfl, hR5, hU5⟩
          obtain ⟨hT5, b5⟩ := hT.out.left hz hR5 hU5
          have HB5 := Lib.hid (hB.out.trans b5)
          clear hR5 hU5 b5
          go_wp2_with fail
          refine (rRead_any _ A0 c0 s0 g2 i _ _ hT5.qd ((hL0.out.below HB5.out).weak fun b _ h => by omega)).mono ?_
          rintro e w6 ⟨rfl, hR6, hU6⟩
          obtain ⟨hT6, b6⟩ := hT5.right HB5.out.size hR6 hU6
          have HB6 := Lib.hid (HB5.out.trans b6)
          clear hR6 hU6 b6 hT5
          go_wp2_with fail
          refine (rat_any _ g _ _ _ hT6.rd).mono ?_
          rintro e w7 ⟨rfl, rfl⟩
          go_wp2_with fail
          refine (qat_any _ g2 _ _ _ hT6.qd).mono ?_
          rintro e w8 ⟨rfl, rfl⟩
          have HT6 := Lib.hid hT6
          generalize (readL s0 ((ofB s1 k).drop i)).2.1 = E at *
          clear hT6
          by_cases hE : E = 0
          · have hEb : (E != 0) = false := by simp [hE]
            clear hE
            go_wp2_with fail
            go_roundw
            case rel => exact ⟨q + 1, _, _, by go_num, by omega, rfl, HT6, HB6⟩
            case measure => simp [intOf]; omega
          · have hEb : (E != 0) = true := by simp [hE]
            clear hE
            go_wp2_with fail
            refine (read_nil A0 c0 s0 _).mono ?_
            rintro e w9 ⟨rfl, rfl⟩
            go_wp2_with fail
            refine (awake_any _).mono ?_
            rintro e w10 ⟨rfl, b⟩
            go_wp2_with fail
            go_ret
            exact ⟨rfl, below2 HB6.out b⟩
        · obtain rfl : q = 60 := by omega
          go_wp2_with fail
          refine (read_nil A0 c0 s0 _).mono ?_
          rintro e w9 ⟨rfl, rfl⟩
          go_wp2_with fail
          refine (awake_any _).mono ?_
          rintro e w10 ⟨rfl, b⟩
          go_wp2_with fail
          go_ret
          exact ⟨rfl, below2 hB.out b⟩
    · go_enter Try.func9, Try.ntmps9
      have k0 := HP.out.cell 0 rfl
      have heb : (openE s1.length n != 0) = true := by simp [he]
      go_wp2_with fail
      refine (ropen_no A1 c1 s1 n _ (by omega) he).mono ?_
      rintro e w1 ⟨rfl, rfl⟩
      go_wp2_with fail
      refine (qopen_no A1 c1 s1 n _ (by omega) he).mono ?_
      rintro e w1 ⟨rfl, rfl⟩
      go_wp2_with fail
      refine (awake_any _).mono ?_
      rintro e w10 ⟨rfl, b⟩
      go_wp2_with fail
      go_ret
      exact ⟨rfl, below2 HX.out b⟩
end Go.Proofs.Ytlbgkkkcbnagbaa

namespace Go.Proofs.Ytlbgkkkcbnagbaa
open Go.ChangeShapes Go.WideShapes Go.ChangeAt Go.WideMaps Go.WideElems Go.RowKit Go.Deep

section
variable {H : Type} {enc : TypeId × Value → H} {W : World}

set_option maxRecDepth 100000 in
theorem open_P2 {r : Reach} {b0 : Nat} {v : Value} {d : DataW H} {p : List MemPlace} (hv : Value.okWide Try.prog W r b0 38 v) (h : DataW.Trod enc Try.prog W 0 (fun _ => true) true 38 v d p) :
    ∃ a b : Int, v = .agg #[.int .i64 a, .int .i64 b] := by
  simp only [Value.okWide, Try.underlying38] at hv
  obtain ⟨cs, rfl, hc, _⟩ := hv
  have c2 : Try.prog.cellsOf 38 = 2 := by kernel_rfl
  have c1 : Try.prog.cellsOf 3 = 1 := by kernel_rfl
  rw [c2] at hc
  obtain ⟨fuel, hf⟩ := h
  obtain ⟨xs, m1, rfl, hx1, hlen, hn, hel⟩ := DataW.trod_array Try.underlying38 hf
  obtain ⟨l⟩ := cs
  match l, hc with
  | [y0, y1], _ =>
    have e0 := hel 0 (by decide)
    have e1 := hel 1 (by decide)
    rw [c1, List.getElem?_eq_getElem (by omega)] at e0 e1
    obtain ⟨k0, z0, _⟩ := DataW.trod_int (P := Try.prog) Try.underlying3 e0
    obtain ⟨k1, z1, _⟩ := DataW.trod_int (P := Try.prog) Try.underlying3 e1
    simp [Value.cells] at z0 z1
    exact ⟨k0, k1, by rw [z0, z1]⟩
end
end Go.Proofs.Ytlbgkkkcbnagbaa

namespace Go.Proofs.Ytlbgkkkcbnagbaa
open Go.ChangeShapes Go.WideShapes Go.ChangeAt Go.WideMaps Go.WideElems Go.RowKit Go.Deep

theorem laidOut_prefixReads : laidOutB Try.prog = true := by kernel_rfl
set_option maxRecDepth 100000 in
theorem lifted_prefixReads (os : Os) (started : os.Started) (H : Type) (enc : TypeId × Value → H) :
    ReturnsInHanded {} Try.checked os 9 .any (Rows.prefixReadsSpec.pre6 enc Try.prog Try.f9 [] false) (Rows.prefixReadsSpec.post enc Try.prog Try.f9 false true false false) := by
  refine returnsInHanded_of_change_sized (C := Try.checked) own started (by kernel_rfl) Try.func9
    (ChangeSpec.witness6 (enc := enc) (C := Try.checked) false ⟨#[], #[.slice none 0 0, .slice none 0 0, .agg #[.int .i64 0, .int .i64 0]], []⟩ 8 (by kernel_rfl) (by kernel_rfl) (by kernel_rfl) (by kernel_rfl)) ?_
  intro W base args ds gs before hval0 hW _ hsz0 _
  have hval : ∀ (j : Nat) t v, Try.f9.params[j]? = some t → args[j]? = some v → Value.okWide Try.prog W .any base t v := hval0
  have hW' := hW
  obtain ⟨p, q, hA0, hV, rfl, hfz, hnd⟩ := hW
  have hA : DataW.TrodAll enc Try.prog W 0 (fun _ => true) true Try.f9.params.toList args.toList ds p := hA0
  have hsz : (DataW.weightsEach Try.prog (Try.f9.params.toList ++ Rows.prefixReadsSpec.plain.varTypes Try.prog) (ds ++ gs)).all (· ≤ reachBytes) = true := hsz0
  rw [Try.params9] at hA hval hsz
  obtain ⟨v0, vs0, d0, ds0, p0, q0, hargs, rfl, rfl, h0, r0⟩ := trodAll_cons hA
  obtain ⟨v1, vs1, d1, ds1, p1, q1, rfl, rfl, rfl, h1, r1⟩ := trodAll_cons r0
  obtain ⟨v2, vs2, d2, ds2, p2, q2, rfl, rfl, rfl, h2, r2⟩ := trodAll_cons r1
  obtain ⟨rfl, rfl, rfl⟩ := trodAll_nil r2
  obtain rfl : args = #[v0, v1, v2] := by cases args; simp_all
  obtain ⟨rfl, rfl⟩ := trodVars_none hV
  have lt0 : ∀ x ∈ p0, x.block < W.heap.size := by obtain ⟨m, hm⟩ := h0; exact DataW.trod_lt m _ _ _ hm
  have y0 : ∀ m ∈ d0.weights Try.prog 22, m ≤ reachBytes := fun m hm => of_decide_eq_true (List.all_eq_true.1 hsz m (DataW.weights_mem_each (j := 0) rfl rfl m hm))
  obtain ⟨B0, l0, e0, rfl⟩ := okWide_slice Try.underlying22 (hval 0 22 v0 rfl rfl)
  obtain ⟨A0, c0, s0, hv0, hR0, hB0⟩ : ∃ A c xs, Value.slice B0 l0 e0 = .slice A xs.length c ∧ RI W A c xs ∧ ((∀ m ∈ d0.weights Try.prog 22, m ≤ reachBytes) → xs.length ≤ 140737488355328) := by obtain ⟨fuel, hf⟩ := h0; exact open_I hf
  have lt1 : ∀ x ∈ p1, x.block < W.heap.size := by obtain ⟨m, hm⟩ := h1; exact DataW.trod_lt m _ _ _ hm
  have y1 : ∀ m ∈ d1.weights Try.prog 34, m ≤ reachBytes := fun m hm => of_decide_eq_true (List.all_eq_true.1 hsz m (DataW.weights_mem_each (j := 1) rfl rfl m hm))
  obtain ⟨B1, l1, e1, rfl⟩ := okWide_slice Try.underlying34 (hval 1 34 v1 rfl rfl)
  obtain ⟨A1, c1, s1, hv1, hR1, hB1⟩ : ∃ A c xs, Value.slice B1 l1 e1 = .slice A xs.length c ∧ RY W A c xs ∧ (∀ x ∈ xs, 0 ≤ x ∧ x < 256) ∧ ((∀ m ∈ d1.weights Try.prog 34, m ≤ reachBytes) → xs.length ≤ 140737488355328) := by obtain ⟨fuel, hf⟩ := h1; exact open_Y hf
  have lt2 : ∀ x ∈ p2, x.block < W.heap.size := by obtain ⟨m, hm⟩ := h2; exact DataW.trod_lt m _ _ _ hm
  have y2 : ∀ m ∈ d2.weights Try.prog 38, m ≤ reachBytes := fun m hm => of_decide_eq_true (List.all_eq_true.1 hsz m (DataW.weights_mem_each (j := 2) rfl rfl m hm))
  obtain ⟨a2, b2, rfl⟩ := open_P2 (hval 2 38 v2 rfl rfl) h2
  have hwalk := prefixReads_walk A0 c0 s0 A1 c1 s1 a2 b2 W hR0 (hB0 y0) hR1 hB1.1 (hB1.2 y1)
  rw [← hv0] at hwalk
  rw [← hv1] at hwalk
  refine hwalk.mono fun e W' ⟨he, bel⟩ => ?_
  subst he
  exact ⟨_, rfl, _, _, _, [], _, [], hW', trodAll_mk1 (shut_bool Try.underlying4 _), (trodAll_cons_mk (Below.trod laidOut_prefixReads (by kernel_rfl) (of_decide_eq_true (by kernel_rfl)) h0 bel lt0) (trodAll_cons_mk (Below.trod laidOut_prefixReads (by kernel_rfl) (of_decide_eq_true (by kernel_rfl)) h1 bel lt1) (trodAll_cons_mk (Below.trod laidOut_prefixReads (by kernel_rfl) (of_decide_eq_true (by kernel_rfl)) h2 bel lt2) trodAll_mk0))), rfl, bel.frame _, fun h => by cases h⟩
theorem prefixReads_holds : Rows.PrefixReadsSaid :=
  OpenClaim.holds_of_wide 9 Try.f9 rfl rfl rfl rfl rfl rfl rfl ⟨rfl, rfl, rfl, rfl, rfl⟩ rfl rfl rfl rfl rfl (by kernel_rfl) Try.func9 (by kernel_rfl)
    (of_decide_eq_true (by kernel_rfl)) (by unfold Func.isWrapper; first | (rw [if_pos (by decide +kernel)]; kernel_rfl) | (rw [if_neg (by decide +kernel)]; exact ⟨rfl, rfl⟩))
    (fun os started H enc _ => lifted_prefixReads os started H enc)
#print axioms prefixReads_holds
end Go.Proofs.Ytlbgkkkcbnagbaa
