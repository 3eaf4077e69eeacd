/- pcm: Mono: what the call returns, for any sound. -/
import Derived.Test.YtijcecakofmhcaaDoorPcmM
import Derived.Test.YtijcecakofmhcaaDoorPcmG
namespace Go.Proofs.YtijcecakofmhcaaDoor
open Go.RowKit

/-- 'xs[m:]' as a rule for the walk, and what it reads as. -/
theorem cut_from {P : Program} (t e : TypeId) {i : TypeInfo} (ht : P.underlying t = some (.slice e)) (hi : P.info? e = some i) (A : Option Addr) (n c m : Nat) (hm : m ≤ n) :
    ∃ A' : Option Addr, (∀ W : World, (Instr.slice t (.slice A n c) (some (.int .i64 (m : Int))) none none).run P W = .ok (.slice A' (n - m) (c - m)) W) ∧
      ∀ {α : Type} (k : Kd α) (ok : Nat → Prop) (w : World) (xs : List α), k.size = i.size → xs.length = n → Sl k ok w A c xs → Sl k ok w A' (c - m) (xs.drop m) := by
  refine ⟨if c = m then A else A.map (·.add (m * i.size)), fun W => ?_, fun k ok w xs hk hx h => ?_⟩
  · have hel : P.elem t = e := by simp [Program.elem, ht]
    have hu : P.underlying t = some (.slice (P.elem t)) := by rw [hel]; exact ht
    rw [run_slice_l W t A n c hu .i64 (m : Int) (Int.natCast_nonneg _) (by omega), hel]
    simp [sizeOf, typeInfo, hi, sliced, Result.andThen]
  · refine ⟨by rw [List.length_drop]; have := h.le; omega, by have := h.cap; omega, ?_⟩
    by_cases hc : c = m
    · have : xs.drop m = [] := List.drop_of_length_le (by have := h.le; omega)
      rw [this]
      exact Kd.Rd.nil _ _ _ _
    · rw [if_neg hc, ← hk]
      exact h.rd.drop m

def avgTo (s : List (List Int)) (j : Nat) : List Int := (List.range (len0 s)).map fun i => if i < j then (nth 0 (nth [] s 0) i + nth 0 (nth [] s 1) i) / 2 else nth 0 (nth [] s 0) i
theorem avg_zero (s : List (List Int)) : avgTo s 0 = nth [] s 0 := by
  apply List.ext_getElem
  · simp [avgTo, len0]
  · intro i h1 h2
    simp [avgTo, nth_eq 0 _ i h2]
theorem avg_len (s : List (List Int)) (j : Nat) : (avgTo s j).length = len0 s := by simp [avgTo]
theorem avg_nth (s : List (List Int)) (j : Nat) (h : j < len0 s) : nth 0 (avgTo s j) j = nth 0 (nth [] s 0) j := by
  rw [nth_eq 0 _ j (by rw [avg_len]; exact h)]; simp [avgTo]
theorem avg_set (s : List (List Int)) (j : Nat) (h : j < len0 s) : (avgTo s j).set j ((nth 0 (nth [] s 0) j + nth 0 (nth [] s 1) j) / 2) = avgTo s (j + 1) := by
  apply List.ext_getElem
  · simp [avgTo]
  · intro i h1 h2
    simp [avgTo, List.getElem_set]
    split
    · subst_vars; simp
    · rename_i hne
      have : (i < j) = (i < j + 1) := by simp only [eq_iff_iff]; omega
      simp [this]
theorem mono_one (s : List (List Int)) (h : s.length = 1) : monoL s = avgTo s 0 := by simp [monoL, avgTo, h]
theorem mono_two (s : List (List Int)) (h : s.length = 2) : monoL s = avgTo s (len0 s) := by
  unfold monoL avgTo
  apply List.map_congr_left
  intro i hi
  simp at hi
  simp [h, hi]

set_option maxHeartbeats 1000000 in
set_option maxRecDepth 100000 in
theorem mono_T (r : Int) (A : Option Addr) (c : Nat) (s : List (List Int)) (w : World) (hG : GR w) (hS : R2 w A c s) :
    Calls Tryd.prog 26 #[.agg #[.int .i64 r, .slice A s.length c]] w fun e w' => RetT w.heap.size (monoS r s) e w' ∧ Below w.heap.size w w' := by
  have hn := hS.len
  cases hv : validB r s
  · have H := Lib.hid (checkE_no hv)
    have HP := Lib.hid (show monoS r s = (0, [], 1) by simp [monoS, hv])
    clear hv
    go_enter Tryd.func26, Tryd.ntmps26
    go_wp2_with (first | ((with_reducible refine at_dst (N := 1) rfl ?_); refine ev_new #[.int .i64 r, .slice A s.length c] 24 rfl ?hr ?_; (case hr => first | (go_simp; done) | (go_simp; rfl)); intro g1 w1 eg1 zg1 b1 Bg1; have k0 := Bg1.cell 0 rfl; have k1 := Bg1.cell 1 rfl) | ((with_reducible refine at_dst (N := 2) rfl ?_); refine ev_new #[.int .i64 0, .slice none 0 0] 24 rfl ?hr ?_; (case hr => first | (go_simp; done) | (go_simp; rfl)); intro g2 w2 eg2 zg2 b2 Bg2; replace Bg1 := Bg1.below b2; replace k0 := cell_below b2 k0; replace k1 := cell_below b2 k1; replace b1 := below2 b1 b2) | (go_at_call 48; refine (check_any _ _ _ _ _ (hG.below b1) (hS.below b1)).mono ?_; rintro e w3 ⟨rfl, b3⟩; rw [H.out]; replace b1 := below2 b1 b3; replace Bg2 := Bg2.below b3) | ((with_reducible refine at_store (p := 2) rfl ?_); (refine ev_put #[.int .i64 0, .slice none 0 0] rfl 24 (.tmp 2) (.tmp 14) rfl g2 24 _ rfl rfl Bg2 sizeS rfl rfl ?_); intro w4 Bq hq4 hz4; have z0 := Bq.cell 0 rfl; have z1 := Bq.cell 1 rfl))
    refine bodyPost_ret (v := .tuple #[.agg #[.int .i64 0, .slice none 0 0], .int .i64 1]) (by simp [results, Tryd.results26, go_sem, z0, z1]) rfl ⟨?_, ?_⟩
    · rw [HP.out]; exact RetT.none _ _ _
    · exact below_grown b1 b1.size hq4 (fun k e => by have := Option.some.inj e; have := eg2.out; have := zg1.out; have := eg1.out; omega)
  · have V := valid_facts hv
    have HP := Lib.hid (show monoS r s = (r, [monoL s], 0) by simp [monoS, hv])
    have H := Lib.hid (checkE_ok hv)
    have h1 := V.one
    have h2 := V.two
    have h3 := V.len
    clear hv
    have hs0 : (0 : Nat) < s.length := by omega
    have hl0 : (nth [] s 0).length ≤ 8192 := h3
    obtain ⟨ad, A', c', rfl, hc, hs'⟩ := rd_sl hS 0 hs0
    rw [add_zero] at hc
    obtain ⟨i0, hi0, hz0, hz1, hz2⟩ := info_parts infoS
    obtain ⟨A3, hcut, hcs⟩ := cut_from (P := Tryd.prog) 22 36 Tryd.underlying22 hi0 (some ad) s.length c 1 h1
    replace hcut : ∀ W : World, (Instr.slice 22 (.slice (some ad) s.length c) (some (.int .i64 1)) none none).run Tryd.prog W = .ok (.slice A3 (s.length - 1) (c - 1)) W := hcut
    have HC : Hid (∀ W, Sl (kSl (kInt .i64)) AnyB W (some ad) c s → Sl (kSl (kInt .i64)) AnyB W A3 (c - 1) s.tail) := fun W h => by rw [← List.drop_one]; exact hcs (kSl (kInt .i64)) AnyB W s hz1.symm rfl h
    clear hcs
    have HS0 := Lib.hid V.smp
    have HSL := Lib.hid V.same
    go_enter Tryd.func26, Tryd.ntmps26
    go_wp2_with (first | ((with_reducible refine at_dst (N := 1) rfl ?_); refine ev_new #[.int .i64 r, .slice (some ad) s.length c] 24 rfl ?hr ?_; (case hr => first | (go_simp; done) | (go_simp; rfl)); intro g1 w1 eg1 zg1 b1 Bg1; have k0 := Bg1.cell 0 rfl; have k1 := Bg1.cell 1 rfl) | ((with_reducible refine at_dst (N := 2) rfl ?_); refine ev_new #[.int .i64 0, .slice none 0 0] 24 rfl ?hr ?_; (case hr => first | (go_simp; done) | (go_simp; rfl)); intro g2 w2 eg2 zg2 b2 Bg2; replace Bg1 := Bg1.below b2; replace k0 := cell_below b2 k0; replace k1 := cell_below b2 k1; replace b1 := below2 b1 b2) | (go_at_call 48; refine (check_any _ _ _ _ _ (hG.below b1) (hS.below b1)).mono ?_; rintro e w3 ⟨rfl, b3⟩; rw [H.out]; replace b1 := below2 b1 b3; replace Bg1 := Bg1.below b3; replace Bg2 := Bg2.below b3; clear k0 k1; have k0 : w3.cell? ⟨g1, 0, none⟩ = some (.int .i64 r) := Bg1.cell 0 rfl; have k1 : w3.cell? ⟨g1, 1, none⟩ = some (.slice (some ad) s.length c) := Bg1.cell 1 rfl; replace hc := cell_below b1 hc) | (go_at_call 68; refine (clone_any A' c' (nth [] s 0) _ (hs'.below b1) (by omega)).mono ?_; rintro e w4 ⟨v4, rfl, hO4, b4⟩; have b13 := b1; have Bg13 := Bg1; have Bg23 := Bg2; replace b1 := below2 b1 b4; replace Bg1 := Bg1.below b4; replace Bg2 := Bg2.below b4; replace k0 := cell_below b4 k0; replace k1 := cell_below b4 k1; obtain ⟨A4, c4, rfl, hR4⟩ := hO4.rd))
    have hO0 : OwnI 3 .i64 w3.heap.size w4 (.slice A4 (nth [] s 0).length c4) (avgTo s 0) := by rw [avg_zero]; exact hO4
    go_loopw [25] (fun i wr => ∃ q : Nat, q ≤ s.length - 1 ∧ i = .int .i64 q ∧ OwnI 3 .i64 w3.heap.size wr (.slice A4 (nth [] s 0).length c4) (avgTo s (if q = 0 then 0 else len0 s)) ∧ Below w3.heap.size w3 wr) (fun i _ => (s.length - 1) - (intOf i).toNat)
    case atStart => exact ⟨0, Nat.zero_le _, by simp, hO0, b4⟩
    case round =>
      obtain ⟨q, hq, rfl, hO, hB⟩ := hrel
      obtain ⟨wo, rfl⟩ : ∃ wo : World, wo = wr := ⟨_, rfl⟩
      by_cases hlt : q < s.length - 1
      · have hq0 : q = 0 := by omega
        have hl2 : s.length = 2 := by omega
        rw [if_pos hq0] at hO
        have hdl : q < s.tail.length := by rw [List.length_tail]; exact hlt
        obtain ⟨ad5, A5, c5, hA5, hc5, hs5⟩ := rd_sl (HC.out w hS) q hdl
        have bwo := below2 b13 hB
        have hc5' := cell_below bwo hc5
        have hn5 : nth [] s.tail q = nth [] s 1 := by rw [← List.drop_one, nth_drop, hq0]
        have hl5 : (nth [] s.tail q).length = len0 s := by rw [hn5]; exact HSL.out _ (nth_mem [] s 1 (by omega))
        have hb0 := nth_smp (HS0.out _ (nth_mem [] s 0 hs0))
        have hb1' := nth_smp (HS0.out _ (nth_mem [] s 1 (by omega)))
        have HN := Lib.hid hn5
        have HQ := Lib.hid hq0
        have HB0 := Lib.hid hb0
        have HB1 := Lib.hid hb1'
        have HL2 := Lib.hid hl2
        have HL5 := Lib.hid hl5
        clear hn5 hq0 hb0 hb1' hl2 hl5
        subst hA5
        go_wp2
        go_loopw [31] (fun i wr => ∃ j : Nat, j ≤ len0 s ∧ i = .int .i64 j ∧ OwnI 3 .i64 w3.heap.size wr (.slice A4 (nth [] s 0).length c4) (avgTo s j) ∧ Below w3.heap.size w3 wr) (fun i _ => len0 s - (intOf i).toNat)
        case atStart => exact ⟨0, Nat.zero_le _, by simp, hO, hB⟩
        case round =>
          clear hO hB
          obtain ⟨j, hj, rfl, hO, hB⟩ := hrel
          by_cases hl : j < len0 s
          · obtain ⟨g4, cap4, he, hg4b, _⟩ := hO.form (by rw [avg_len]; omega)
            injection he with he1 he2 he3
            subst he1
            obtain ⟨u0, u1⟩ := hO.at_ j (by rw [avg_len]; exact hl)
            rw [avg_nth s j hl] at u0
            obtain ⟨ad6, hA6, u2⟩ := rd_int (hs5.below (below2 b13 hB)) j (by rw [HL5.out]; exact hl)
            subst hA6
            have hlj : j < (nth [] s.tail q).length := by rw [HL5.out]; exact hl
            have x0 := HB0.out j
            have x1 := HB1.out j
            rw [← HN.out] at x1
            have hj4 : j < (nth [] s 0).length := hl
            go_wp2
            go_roundw
            case rel =>
              rw [HN.out]
              exact ⟨j + 1, by omega, by go_num, by rw [← avg_set s j hl]; exact (hO.set j _).1, hB.setCell (p := ⟨g4, j, none⟩) hg4b _⟩
            case measure => simp [intOf]; omega
          · obtain rfl : j = len0 s := by omega
            have hlj : ¬ len0 s < (nth [] s.tail q).length := by rw [HL5.out]; omega
            have hlj2 : (nth [] s.tail q).length ≤ len0 s := by omega
            go_wp2
            go_roundw
            case rel => exact ⟨q + 1, by omega, by go_num, by rw [if_neg (by omega)]; exact hO, hB⟩
            case measure => simp [intOf]; omega
      · have HM : OwnI 3 .i64 w3.heap.size wo (.slice A4 (nth [] s 0).length c4) (monoL s) := by
          rcases (show s.length = 1 ∨ s.length = 2 by omega) with h | h
          · rw [mono_one s h]
            rwa [if_pos (by omega)] at hO
          · rw [mono_two s h]
            rwa [if_neg (by omega)] at hO
        have hml : (nth [] s 0).length = (monoL s).length := by simp [monoL, len0]
        have C1 := Bg13.below hB
        have C2 := Bg23.below hB
        clear k0 k1 hO
        have k0 := C1.cell 0 rfl
        have m0 := C2.cell 0 rfl
        have m1 := C2.cell 1 rfl
        have f0 := C2.free 0
        have f1 := C2.free 1
        have l2 := C2.lt
        have HML := Lib.hid hml
        clear hml
        go_wp2
        obtain ⟨A6, c6, he6, hR⟩ := HM.rdT
        injection he6 with e61 e62 e63
        subst e61; subst e63
        have Bz := ((C2.set 0 (.int .i64 r)).set 1 (.slice (some ⟨wo.heap.size, 0, none⟩) 1 1)).below (below_alloc (Below.refl _ _) (.cells #[.slice A4 (nth [] s 0).length c4] 36))
        have z0 := Bz.cell 0 rfl
        have z1 := Bz.cell 1 rfl
        have hk2 := (Keep.of_grown1 (grown_setCell wo g2 0 (.int .i64 r))).trans (Keep.of_grown1 (grown_setCell _ g2 1 (.slice (some ⟨wo.heap.size, 0, none⟩) 1 1)))
        have s3w := b13.size
        have s3g : g2 < w3.heap.size := Bg23.lt
        have G2 : w.heap.size ≤ g2 := by have := eg2.out; have := zg1.out; have := eg1.out; omega
        have h4 : SlT (fun b => w.heap.size ≤ b) _ A4 c4 (monoL s) := ((hR.weak (ok' := fun b => b ≠ g2 ∧ w.heap.size ≤ b) fun b _ hb => ⟨by omega, by omega⟩).keep (hk2.weak fun b hb => hb.1)).weak fun b _ hb => hb.2
        have bwo := below2 b13 hB
        have hL := lit_sl1T _ 36 h4 (by simp; exact bwo.size)
        have hBf := below_grown (below_grown bwo bwo.size (grown_setCell wo g2 0 (.int .i64 r)) (fun k e => by have := Option.some.inj e; omega)) (by simp; exact bwo.size) (grown_setCell _ g2 1 (.slice (some ⟨wo.heap.size, 0, none⟩) 1 1)) (fun k e => by have := Option.some.inj e; omega)
        simp only [World.size_setCell] at hL
        refine bodyPost_ret (v := .tuple #[.agg #[.int .i64 r, .slice (some ⟨wo.heap.size, 0, none⟩) 1 1], .int .i64 0]) (by simp [results, Tryd.results26, go_sem, z0, z1]) rfl ⟨?_, ?_⟩
        · rw [HP.out, HML.out]
          exact ⟨_, 1, rfl, hL⟩
        · exact below_alloc hBf _
theorem mono_any (r : Int) (A : Option Addr) (c : Nat) (s : List (List Int)) (w : World) (hG : GR w) (hS : R2 w A c s) :
    Calls Tryd.prog 26 #[.agg #[.int .i64 r, .slice A s.length c]] w fun e w' => RetS w.heap.size (monoS r s) e w' ∧ Below w.heap.size w w' :=
  (mono_T r A c s w hG hS).mono fun _ _ h => ⟨h.1.toS, h.2⟩
end Go.Proofs.YtijcecakofmhcaaDoor
