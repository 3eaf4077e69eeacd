/- The law PrefixDecodes: it returns true for every input, and its arguments read as before. No conditions. -/
import Derived.Test.YtlbgkkkcbnagbaaKk
import Derived.Test.YtlbgkkkcbnagbaaKh
import Derived.Test.YtlbgkkkcbnagbaaRows
import Derived.OpenShut
import Derived.Carry
import Derived.SizedLaws
namespace Go.Proofs.Ytlbgkkkcbnagbaa
open Go.RowKit

set_option maxHeartbeats 4000000 in
set_option maxRecDepth 100000 in
theorem prefixDecodes_walk (A0 : Option Addr) (c0 : Nat) (s0 : List Int) (A1 : Option Addr) (c1 : Nat) (s1 : List Int) (n m : Int) (W : World) (hR0 : RI W A0 c0 s0) (hl0 : s0.length ≤ 140737488355328) (hR1 : RY W A1 c1 s1) (hb1 : ∀ x ∈ s1, 0 ≤ x ∧ x < 256) (hl1 : s1.length ≤ 140737488355328) :
    Calls Try.prog 6 #[.slice A0 s0.length c0, .slice A1 s1.length c1, .agg #[.int .i64 n, .int .i64 m]] W fun e W' => e = .returned (.bool true) ∧ Below W.heap.size W W' := by
  by_cases g0 : (40 : Int) < (s0.length : Int)
  · have d0 : decide ((40 : Int) < (s0.length : Int)) = true := decide_eq_true g0
    clear g0
    go_enter Try.func6, Try.ntmps6
    have b := below_alloc (Below.refl W.heap.size W) (.cells #[.int .i64 n, .int .i64 m] 38)
    replace hR0 := hR0.below b
    replace hR1 := hR1.below b
    have BX := b; clear b
    have PB : Blk (W.alloc (.cells #[.int .i64 n, .int .i64 m] 38)) W.heap.size #[.int .i64 n, .int .i64 m] 38 := heap_alloc_new W _
    go_wp2_with fail
    refine (awake_any _).mono ?_
    rintro e w1 ⟨rfl, b⟩
    replace hR0 := hR0.below b
    replace hR1 := hR1.below b
    replace PB := PB.below b
    replace BX := below2 BX b; clear b
    go_wp2_with fail
    go_ret
    exact ⟨rfl, BX⟩
  · have d0 : decide ((40 : Int) < (s0.length : Int)) = false := decide_eq_false g0
    by_cases g1 : (100 : Int) < (s1.length : Int)
    · have d1 : decide ((100 : Int) < (s1.length : Int)) = true := decide_eq_true g1
      clear g1
      go_enter Try.func6, Try.ntmps6
      have b := below_alloc (Below.refl W.heap.size W) (.cells #[.int .i64 n, .int .i64 m] 38)
      replace hR0 := hR0.below b
      replace hR1 := hR1.below b
      have BX := b; clear b
      have PB : Blk (W.alloc (.cells #[.int .i64 n, .int .i64 m] 38)) W.heap.size #[.int .i64 n, .int .i64 m] 38 := heap_alloc_new W _
      go_wp2_with fail
      refine (awake_any _).mono ?_
      rintro e w1 ⟨rfl, b⟩
      replace hR0 := hR0.below b
      replace hR1 := hR1.below b
      replace PB := PB.below b
      replace BX := below2 BX b; clear b
      go_wp2_with fail
      go_ret
      exact ⟨rfl, BX⟩
    · have d1 : decide ((100 : Int) < (s1.length : Int)) = false := decide_eq_false g1
      go_enter Try.func6, Try.ntmps6
      have b := below_alloc (Below.refl W.heap.size W) (.cells #[.int .i64 n, .int .i64 m] 38)
      replace hR0 := hR0.below b
      replace hR1 := hR1.below b
      have BX := b; clear b
      have PB : Blk (W.alloc (.cells #[.int .i64 n, .int .i64 m] 38)) W.heap.size #[.int .i64 n, .int .i64 m] 38 := heap_alloc_new W _
      go_wp2_with fail
      refine (decode_any A0 A1 c0 c1 s0 s1 n m _ hR0 hR1 hb1 (by omega)).mono ?_
      rintro e w1 ⟨v1, rfl, O1, b⟩
      replace hR0 := hR0.below b
      replace hR1 := hR1.below b
      replace PB := PB.below b
      replace BX := below2 BX b; clear b
      obtain ⟨Aa, ca, rfl, Ha⟩ := own_ri O1; clear O1
      have k0 := PB.cell 0 rfl
      have k1 := PB.cell 1 rfl
      go_wp2_with fail
      clear k0 k1
      refine (rdecode_any A0 A1 c0 c1 s0 s1 n m _ hR0 hR1 hb1 (by omega)).mono ?_
      rintro e w2 ⟨v2, rfl, O2, b⟩
      replace hR0 := hR0.below b
      replace hR1 := hR1.below b
      replace PB := PB.below b
      replace Ha := Ha.below b
      replace BX := below2 BX b; clear b
      obtain ⟨Ab, cb, rfl, Hb⟩ := own_ri O2; clear O2
      have k0 := PB.cell 0 rfl
      have k1 := PB.cell 1 rfl
      go_wp2_with fail
      clear k0 k1
      refine (ints_ref Aa Ab ca cb _ _ _ Ha Hb).mono ?_
      rw [sameL_refl]
      rintro e w3 ⟨rfl, b⟩
      replace hR0 := hR0.below b
      replace hR1 := hR1.below b
      replace PB := PB.below b
      replace Ha := Ha.below b
      replace Hb := Hb.below b
      replace BX := below2 BX b; clear b
      have k0 := PB.cell 0 rfl
      have k1 := PB.cell 1 rfl
      go_wp2_with fail
      clear k0 k1
      refine (awake_any _).mono ?_
      rintro e w4 ⟨rfl, b⟩
      replace hR0 := hR0.below b
      replace hR1 := hR1.below b
      replace PB := PB.below b
      replace Ha := Ha.below b
      replace Hb := Hb.below b
      replace BX := below2 BX b; clear b
      go_wp2_with fail
      go_ret
      exact ⟨rfl, BX⟩
end Go.Proofs.Ytlbgkkkcbnagbaa

namespace Go.Proofs.Ytlbgkkkcbnagbaa
open Go.ChangeShapes Go.WideShapes Go.ChangeAt Go.WideMaps Go.WideElems Go.RowKit Go.Deep

section
variable {H : Type} {enc : TypeId × Value → H} {W : World}

set_option maxRecDepth 100000 in
theorem open_P2 {r : Reach} {b0 : Nat} {v : Value} {d : DataW H} {p : List MemPlace} (hv : Value.okWide Try.prog W r b0 38 v) (h : DataW.Trod enc Try.prog W 0 (fun _ => true) true 38 v d p) :
    ∃ a b : Int, v = .agg #[.int .i64 a, .int .i64 b] := by
  simp only [Value.okWide, Try.underlying38] at hv
  obtain ⟨cs, rfl, hc, _⟩ := hv
  have c2 : Try.prog.cellsOf 38 = 2 := by kernel_rfl
  have c1 : Try.prog.cellsOf 3 = 1 := by kernel_rfl
  rw [c2] at hc
  obtain ⟨fuel, hf⟩ := h
  obtain ⟨xs, m1, rfl, hx1, hlen, hn, hel⟩ := DataW.trod_array Try.underlying38 hf
  obtain ⟨l⟩ := cs
  match l, hc with
  | [y0, y1], _ =>
    have e0 := hel 0 (by decide)
    have e1 := hel 1 (by decide)
    rw [c1, List.getElem?_eq_getElem (by omega)] at e0 e1
    obtain ⟨k0, z0, _⟩ := DataW.trod_int (P := Try.prog) Try.underlying3 e0
    obtain ⟨k1, z1, _⟩ := DataW.trod_int (P := Try.prog) Try.underlying3 e1
    simp [Value.cells] at z0 z1
    exact ⟨k0, k1, by rw [z0, z1]⟩
end
end Go.Proofs.Ytlbgkkkcbnagbaa

namespace Go.Proofs.Ytlbgkkkcbnagbaa
open Go.ChangeShapes Go.WideShapes Go.ChangeAt Go.WideMaps Go.WideElems Go.RowKit Go.Deep

theorem laidOut_prefixDecodes : laidOutB Try.prog = true := by kernel_rfl
set_option maxRecDepth 100000 in
theorem lifted_prefixDecodes (os : Os) (started : os.Started) (H : Type) (enc : TypeId × Value → H) :
    ReturnsInHanded {} Try.checked os 6 .any (Rows.prefixDecodesSpec.pre6 enc Try.prog Try.f6 [] false) (Rows.prefixDecodesSpec.post enc Try.prog Try.f6 false true false false) := by
  refine returnsInHanded_of_change_sized (C := Try.checked) own started (by kernel_rfl) Try.func6
    (ChangeSpec.witness6 (enc := enc) (C := Try.checked) false ⟨#[], #[.slice none 0 0, .slice none 0 0, .agg #[.int .i64 0, .int .i64 0]], []⟩ 8 (by kernel_rfl) (by kernel_rfl) (by kernel_rfl) (by kernel_rfl)) ?_
  intro W base args ds gs before hval0 hW _ hsz0 _
  have hval : ∀ (j : Nat) t v, Try.f6.params[j]? = some t → args[j]? = some v → Value.okWide Try.prog W .any base t v := hval0
  have hW' := hW
  obtain ⟨p, q, hA0, hV, rfl, hfz, hnd⟩ := hW
  have hA : DataW.TrodAll enc Try.prog W 0 (fun _ => true) true Try.f6.params.toList args.toList ds p := hA0
  have hsz : (DataW.weightsEach Try.prog (Try.f6.params.toList ++ Rows.prefixDecodesSpec.plain.varTypes Try.prog) (ds ++ gs)).all (· ≤ reachBytes) = true := hsz0
  rw [Try.params6] at hA hval hsz
  obtain ⟨v0, vs0, d0, ds0, p0, q0, hargs, rfl, rfl, h0, r0⟩ := trodAll_cons hA
  obtain ⟨v1, vs1, d1, ds1, p1, q1, rfl, rfl, rfl, h1, r1⟩ := trodAll_cons r0
  obtain ⟨v2, vs2, d2, ds2, p2, q2, rfl, rfl, rfl, h2, r2⟩ := trodAll_cons r1
  obtain ⟨rfl, rfl, rfl⟩ := trodAll_nil r2
  obtain rfl : args = #[v0, v1, v2] := by cases args; simp_all
  obtain ⟨rfl, rfl⟩ := trodVars_none hV
  have lt0 : ∀ x ∈ p0, x.block < W.heap.size := by obtain ⟨m, hm⟩ := h0; exact DataW.trod_lt m _ _ _ hm
  have y0 : ∀ m ∈ d0.weights Try.prog 22, m ≤ reachBytes := fun m hm => of_decide_eq_true (List.all_eq_true.1 hsz m (DataW.weights_mem_each (j := 0) rfl rfl m hm))
  obtain ⟨B0, l0, e0, rfl⟩ := okWide_slice Try.underlying22 (hval 0 22 v0 rfl rfl)
  obtain ⟨A0, c0, s0, hv0, hR0, hB0⟩ : ∃ A c xs, Value.slice B0 l0 e0 = .slice A xs.length c ∧ RI W A c xs ∧ ((∀ m ∈ d0.weights Try.prog 22, m ≤ reachBytes) → xs.length ≤ 140737488355328) := by obtain ⟨fuel, hf⟩ := h0; exact open_I hf
  have lt1 : ∀ x ∈ p1, x.block < W.heap.size := by obtain ⟨m, hm⟩ := h1; exact DataW.trod_lt m _ _ _ hm
  have y1 : ∀ m ∈ d1.weights Try.prog 34, m ≤ reachBytes := fun m hm => of_decide_eq_true (List.all_eq_true.1 hsz m (DataW.weights_mem_each (j := 1) rfl rfl m hm))
  obtain ⟨B1, l1, e1, rfl⟩ := okWide_slice Try.underlying34 (hval 1 34 v1 rfl rfl)
  obtain ⟨A1, c1, s1, hv1, hR1, hB1⟩ : ∃ A c xs, Value.slice B1 l1 e1 = .slice A xs.length c ∧ RY W A c xs ∧ (∀ x ∈ xs, 0 ≤ x ∧ x < 256) ∧ ((∀ m ∈ d1.weights Try.prog 34, m ≤ reachBytes) → xs.length ≤ 140737488355328) := by obtain ⟨fuel, hf⟩ := h1; exact open_Y hf
  have lt2 : ∀ x ∈ p2, x.block < W.heap.size := by obtain ⟨m, hm⟩ := h2; exact DataW.trod_lt m _ _ _ hm
  have y2 : ∀ m ∈ d2.weights Try.prog 38, m ≤ reachBytes := fun m hm => of_decide_eq_true (List.all_eq_true.1 hsz m (DataW.weights_mem_each (j := 2) rfl rfl m hm))
  obtain ⟨a2, b2, rfl⟩ := open_P2 (hval 2 38 v2 rfl rfl) h2
  have hwalk := prefixDecodes_walk A0 c0 s0 A1 c1 s1 a2 b2 W hR0 (hB0 y0) hR1 hB1.1 (hB1.2 y1)
  rw [← hv0] at hwalk
  rw [← hv1] at hwalk
  refine hwalk.mono fun e W' ⟨he, bel⟩ => ?_
  subst he
  exact ⟨_, rfl, _, _, _, [], _, [], hW', trodAll_mk1 (shut_bool Try.underlying4 _), (trodAll_cons_mk (Below.trod laidOut_prefixDecodes (by kernel_rfl) (of_decide_eq_true (by kernel_rfl)) h0 bel lt0) (trodAll_cons_mk (Below.trod laidOut_prefixDecodes (by kernel_rfl) (of_decide_eq_true (by kernel_rfl)) h1 bel lt1) (trodAll_cons_mk (Below.trod laidOut_prefixDecodes (by kernel_rfl) (of_decide_eq_true (by kernel_rfl)) h2 bel lt2) trodAll_mk0))), rfl, bel.frame _, fun h => by cases h⟩
theorem prefixDecodes_holds : Rows.PrefixDecodesSaid :=
  OpenClaim.holds_of_wide 6 Try.f6 rfl rfl rfl rfl rfl rfl rfl ⟨rfl, rfl, rfl, rfl, rfl⟩ rfl rfl rfl rfl rfl (by kernel_rfl) Try.func6 (by kernel_rfl)
    (of_decide_eq_true (by kernel_rfl)) (by unfold Func.isWrapper; first | (rw [if_pos (by decide +kernel)]; kernel_rfl) | (rw [if_neg (by decide +kernel)]; exact ⟨rfl, rfl⟩))
    (fun os started H enc _ => lifted_prefixDecodes os started H enc)
#print axioms prefixDecodes_holds
end Go.Proofs.Ytlbgkkkcbnagbaa
