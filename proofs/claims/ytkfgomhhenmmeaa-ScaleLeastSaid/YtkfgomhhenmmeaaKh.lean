/- scale: tables: what it returns, for any bounds. · scale: Choose, plain: what it returns; its results lie in variables; the first errors. · scale: Choose: the errors of the arguments. · scale: Choose: the bounds. · scale: Choose: what it returns, if the bounds are right. · scale: Choose: the error of the bounds. -/
import Derived.Test.YtkfgomhhenmmeaaKg
import Derived.Test.YtkfgomhhenmmeaaKf
import Derived.OwnWalkIn
namespace Go.Proofs.Ytkfgomhhenmmeaa
open Go.RowKit

/-- Bounds as they lie. -/
def kBd : Kd (Int × Int) where
  size := 2
  dflt := (0, 0)
  K := fun _ _ x cs => cs = [.int .i64 x.1, .int .i64 x.2]
  len := fun h => by rw [h]; rfl
  keep := fun _ h => h
  weak := fun _ h => h
theorem rd_bd {ok : Nat → Prop} {w : World} {A : Option Addr} {c : Nat} {xs : List (Int × Int)} (h : Sl kBd ok w A c xs) (j : Nat) (hj : j < xs.length) :
    ∃ ad, A = some ad ∧ ad.block < w.heap.size ∧ w.cell? (ad.add (j * 2)) = some (.int .i64 (nth (0, 0) xs j).1) ∧ w.cell? ⟨(ad.add (j * 2)).block, (ad.add (j * 2)).off + 1, none⟩ = some (.int .i64 (nth (0, 0) xs j).2) := by
  obtain ⟨ad, cs, e, _, hl, rfl, hc⟩ := h.rd j hj
  have h3 := hc 1 _ rfl
  have h2 := hc 0 _ rfl
  rw [← add_add] at h3
  exact ⟨ad, e, hl, h2, h3⟩
theorem infoCo : (Try.prog.info? 89).map (fun i => (i.zero, i.size, i.bytes)) = some (some (.agg (nums .i64 (List.replicate 96 0)).toArray), 96, 768) := by kernel_rfl
theorem costs_row : ∃ d, Try.prog.underlying 89 = some d ∧ d.isRow = true ∧ (Try.prog.info? 89).map (·.size) = some 96 := ⟨_, Try.underlying89, rfl, by kernel_rfl⟩
theorem made_nums (m n : Nat) (hm : 0 < m) : madeCells (nums .i64 (List.replicate m 0)).toArray (n * m) = (nums .i64 (List.replicate (n * m) 0)).toArray := by
  apply Array.ext
  · simp [size_madeCells, nums]
  · intro i h1 h2
    have h3 : i % m < m := Nat.mod_lt _ hm
    simp [madeCells, nums, h3]
theorem make_costs (n : Nat) (hn : n ≤ 100000) : ∀ W : World, (Instr.makeSlice 86 (.int .i64 (n : Int)) (.int .i64 (n : Int))).run Try.prog W = .ok (.slice (some ⟨W.heap.size, 0, none⟩) n n) (W.alloc (.cells (nums .i64 (List.replicate (n * 96) 0)).toArray 89)) := by
  intro W
  obtain ⟨i0, hi, hzz⟩ := Option.map_eq_some_iff.1 infoCo
  simp only [Prod.mk.injEq] at hzz
  obtain ⟨hz0, hz1, hz2⟩ := hzz
  have h := run_make (P := Try.prog) W 86 89 i0 _ Try.underlying86 hi hz0 .i64 .i64 (n : Int) (n : Int) (by omega) (by omega) (by rw [hz2]; omega) (by omega)
  rw [hz1, Int.toNat_natCast] at h
  rw [h, ← made_nums 96 n (by decide)]
  rfl
theorem after_pure (g1 g2 : Nat) (R : List Int) (s : Nat) (w : World) (h1 : Blk w g1 (nums .i64 R).toArray 89) (h2 : Blk w g2 #[.int .i64 (s : Int)] 3) (hR : R.length = 96) (hs : s < 96) (hb : ∀ t, nth 0 R t ≤ 1000000000) :
    ∀ W, Below w.heap.size w W → ∀ x, (x ∈ allL ∨ x = 0) → Calls Try.prog 74 (#[.int .i64 x] ++ #[.pointer (some ⟨g1, 0, none⟩), .pointer (some ⟨g2, 0, none⟩)]) W fun e w' => e = .returned (.int .i64 (aftV R (s : Int) x)) ∧ Below W.heap.size W w' := by
  intro W hW x hx
  have h3 : 0 ≤ x ∧ x < 96 := by
    rcases hx with hx | rfl
    · exact allL_mem hx
    · omega
  obtain ⟨y, rfl⟩ : ∃ y : Nat, x = (y : Int) := ⟨x.toNat, by omega⟩
  exact after1_any g1 g2 y R (s : Int) W (h1.below hW) (h2.below hW) hR (by omega) (by omega) (hb _)

set_option maxHeartbeats 4000000 in
set_option maxRecDepth 100000 in
theorem tables_any (A : Option Addr) (c : Nat) (bs : List (Int × Int)) (w : World) (hS : Sl kBd AnyB w A c bs) (hl : bs.length ≤ 128) :
    Calls Try.prog 49 #[.slice A bs.length c] w fun e w' => ∃ g xs, e = .returned (.slice (some ⟨g, 0, none⟩) (bs.length + 1) (bs.length + 1)) ∧ Blk w' g (nums .i64 xs).toArray 89 ∧ DoneR (tabP bs) bs.length xs 0 0 ∧ w.heap.size ≤ g ∧ Below w.heap.size w w' := by
  obtain ⟨n, hn⟩ : ∃ n, bs.length = n := ⟨_, rfl⟩
  obtain ⟨n1, hn1⟩ : ∃ n1, n + 1 = n1 := ⟨_, rfl⟩
  have hmk := make_costs n1 (by omega)
  have HS := Lib.hid hS
  have HN := Lib.hid (show bs.length = n ∧ n + 1 = n1 ∧ n ≤ 128 from ⟨hn, hn1, by omega⟩)
  have hw1 : IntKind.i64.wrap ((n : Int) + 1) = (n1 : Int) := by rw [IntWalk.i64_in _ (by omega)]; omega
  have hw2 : IntKind.i64.wrap ((n : Int) - 1) = (n : Int) - 1 := IntWalk.i64_in _ (by omega)
  have HTR := Lib.hid (tabP_row_length bs)
  have HTN := Lib.hid (tabP_nth bs)
  have HTL := Lib.hid (tabP_nth_le bs)
  rw [hn] at HTR HTN HTL ⊢
  rw [hn1]
  obtain ⟨T, hT⟩ : ∃ T, tabP bs = T := ⟨_, rfl⟩
  rw [hT] at HTR HTN HTL ⊢
  clear hS hT hl hn hn1
  go_enter Try.func49, Try.ntmps49
  go_wp2
  obtain ⟨gr, hgr⟩ : ∃ gr, w.heap.size = gr := ⟨_, rfl⟩
  have hB0 : Blk (w.alloc (.cells (nums .i64 (List.replicate (n1 * 96) 0)).toArray 89)) gr (nums .i64 (List.replicate (n1 * 96) 0)).toArray 89 := by rw [← hgr]; exact heap_alloc_new w _
  have hb0 := below_alloc (Below.refl w.heap.size w) (.cells (nums .i64 (List.replicate (n1 * 96) 0)).toArray 89)
  have hD0 : DoneR T n (List.replicate (n1 * 96) 0) n 0 := ⟨by rw [List.length_replicate]; have := HN.out; rw [this.2.1], fun j t h1 h2 => by omega, fun t h => by omega⟩
  have HGR := Lib.hid hgr
  simp only [hgr]
  clear hgr hmk
  go_loopw [4] (fun kv wr => ∃ m : Nat, kv = .int .i64 ((m : Int) - 1) ∧ m ≤ n ∧ Hid (∃ xs, Blk wr gr (nums .i64 xs).toArray 89 ∧ DoneR T n xs m 0) ∧ Hid (Below w.heap.size w wr)) (fun kv _ => (intOf kv + 1).toNat)
  case atStart => exact ⟨n, rfl, Nat.le_refl _, Lib.hid ⟨_, hB0, hD0⟩, Lib.hid hb0⟩
  case round =>
    clear hB0 hb0 hD0
    obtain ⟨m, rfl, hm, hX, hB⟩ := hrel
    by_cases h0 : m = 0
    · subst h0
      have hd : decide ((0 : Int) ≤ ((0 : Nat) : Int) - 1) = false := by decide
      go_wp2
      go_ret
      obtain ⟨xs, hx1, hx2⟩ := hX.out
      exact ⟨gr, xs, rfl, hx1, hx2, by have := HGR.out; omega, hB.out⟩
    · obtain ⟨k, rfl⟩ : ∃ k, m = k + 1 := ⟨m - 1, by omega⟩
      have hkz : (((k + 1 : Nat) : Int)) - 1 = (k : Int) := by omega
      simp only [hkz]
      have hd : decide ((0 : Int) ≤ (k : Int)) = true := decide_eq_true (by omega)
      have hwk : IntKind.i64.wrap ((k : Int) - 1) = (k : Int) - 1 := IntWalk.i64_in _ (by have := HN.out; omega)
      clear hkz h0
      go_wp2
      go_loopw [19] (fun sv wr => ∃ s : Nat, sv = .int .i64 (s : Int) ∧ s ≤ 96 ∧ Hid (∃ xs, Blk wr gr (nums .i64 xs).toArray 89 ∧ DoneR T n xs (k + 1) s) ∧ Hid (Below w.heap.size w wr)) (fun sv _ => 96 - (intOf sv).toNat)
      case atStart => exact ⟨0, rfl, by omega, hX, hB⟩
      case round =>
        clear hX hB
        obtain ⟨s, rfl, hs, hX, hB⟩ := hrel
        by_cases hlt : s < 96
        · have hsi : (s : Int) < 96 := by omega
          obtain ⟨xs, hx1, hx2⟩ := hX.out
          have hkn : k < n := by omega
          have hki : (k : Int) < (n1 : Int) := by have := HN.out; omega
          have hki2 : (k : Int) < (n : Int) := by omega
          have hxl := hx2.len
          obtain ⟨I, hI⟩ : ∃ I, k * 96 + s = I := ⟨_, rfl⟩
          have hIl : I < xs.length := by omega
          have c1 := blk_nums hx1 I hIl
          have f1 := hx1.free I
          obtain ⟨W2, hW2⟩ : ∃ W2, wr.setCell ⟨gr, I, none⟩ (.int .i64 (-1)) = W2 := ⟨_, rfl⟩
          have hy1 := blk_set_nums hx1 I (-1)
          have hb2 : Below w.heap.size w W2 := by rw [← hW2]; exact hB.out.grown (grown_setCell wr gr I _) hB.out.size (fun r e => by cases e; have := HGR.out; omega)
          rw [hW2] at hy1
          obtain ⟨ad, rfl, hal, b1, b2⟩ := rd_bd (HS.out.below hb2) k (by have := HN.out; omega)
          have HV := Lib.hid (show nth 0 (nth [] T k) s = rowV (decide (k + 1 = n)) (nth [] T (k + 1)) (nth (0, 0) bs k).1 (nth (0, 0) bs k).2 (s : Int) by rw [HTN.out k hkn, rowF_nth _ _ _ s hlt])
          generalize (nth (0, 0) bs k).1 = lo at b1 HV
          generalize (nth (0, 0) bs k).2 = hi at b2 HV
          have hset : ∀ v, (xs.set I (-1)).set I v = xs.set I v := fun v => by simp
          have HD := Lib.hid (hx2.set hkn hlt)
          rw [hI] at HD
          have c2 := blk_nums hy1 I (by rw [List.length_set]; exact hIl)
          have f2 := hy1.free I
          have HY := Lib.hid hy1
          have HB2 := Lib.hid hb2
          have HSE := Lib.hid hset
          have hstep : (fun v => wr.setCell ⟨gr, I, none⟩ v) = (fun v => wr.setCell ⟨gr, I, none⟩ v) := rfl
          have HI := Lib.hid (show k * 96 + s = I ∧ k < n ∧ s < 96 ∧ I < xs.length from ⟨hI, hkn, hlt, hIl⟩)
          clear hx1 hx2 hxl hy1 hb2 hal hset hstep hIl hkn hlt hX hB
          by_cases h1 : (s : Int) < lo
          · have e1 : decide ((s : Int) < lo) = true := decide_eq_true h1
            have HR := Lib.hid (show nth 0 (nth [] T k) s = -1 by rw [HV.out]; unfold rowV; rw [if_pos (.inl h1)])
            clear h1
            go_wp2
            go_roundw
            case rel => exact ⟨s + 1, by go_num, by have := HI.out; omega, Lib.hid ⟨_, HY.out, by have := HD.out; rwa [HR.out] at this⟩, HB2⟩
            case measure => simp [intOf] <;> (have := HI.out; omega)
          · have e1 : decide ((s : Int) < lo) = false := decide_eq_false h1
            by_cases h2 : hi < (s : Int)
            · have e2 : decide (hi < (s : Int)) = true := decide_eq_true h2
              have HR := Lib.hid (show nth 0 (nth [] T k) s = -1 by rw [HV.out]; unfold rowV; rw [if_pos (.inr h2)])
              clear h1 h2
              go_wp2
              go_roundw
              case rel => exact ⟨s + 1, by go_num, by have := HI.out; omega, Lib.hid ⟨_, HY.out, by have := HD.out; rwa [HR.out] at this⟩, HB2⟩
              case measure => simp [intOf] <;> (have := HI.out; omega)
            · have e2 : decide (hi < (s : Int)) = false := decide_eq_false h2
              by_cases h3 : k + 1 = n
              · have e3 : ((k : Int) == (n : Int) - 1) = true := by simp; omega
                have HR := Lib.hid (show nth 0 (nth [] T k) s = 0 by rw [HV.out]; unfold rowV; rw [if_neg (by omega), if_pos (by simp [h3])])
                clear h1 h2 h3
                go_wp2
                go_roundw
                case rel =>
                  have hz := blk_set_nums HY.out I 0
                  rw [HSE.out] at hz
                  exact ⟨s + 1, by go_num, by have := HI.out; omega, Lib.hid ⟨_, hz, by have := HD.out; rwa [HR.out] at this⟩, Lib.hid (HB2.out.grown (grown_setCell W2 gr I _) HB2.out.size (fun r e => by cases e; have := HGR.out; omega))⟩
                case measure => simp [intOf] <;> (have := HI.out; omega)
              · have e3 : ((k : Int) == (n : Int) - 1) = false := by simp; omega
                obtain ⟨k1, hk1⟩ : ∃ k1, k + 1 = k1 := ⟨_, rfl⟩
                have hwk1 : IntKind.i64.wrap ((k : Int) + 1) = (k1 : Int) := by rw [IntWalk.i64_in _ (by have := HN.out; omega)]; omega
                have hk1n : k1 < n := by omega
                have hki1 : (k1 : Int) < (n1 : Int) := by have := HN.out; omega
                have HR := Lib.hid (show nth 0 (nth [] T k) s = aftV (nth [] T k1) (s : Int) (lstF (aftV (nth [] T k1) (s : Int)) allL).1 by rw [HV.out, hk1]; unfold rowV; rw [if_neg (by omega), if_neg (by simp; omega)])
                have HRL := Lib.hid (HTR.out k1 hk1n)
                have HRB := Lib.hid (fun t => show nth 0 (nth [] T k1) t ≤ 1000000000 from by have := HTL.out k1 t; have := HN.out; omega)
                have HRG := Lib.hid (blk_range (k := k1) HY.out (s := 0) (m := k + 1) (n := n) (T := T) ⟨by have := HD.out.len; rw [List.length_set] at this ⊢; exact this, fun j t g1 g2 g3 => by
                  have := HI.out
                  rw [nth_set _ _ _ _ this.2.2.2, if_neg (by omega)]
                  have h9 := HD.out.rows j t g1 g2 g3
                  rwa [nth_set _ _ _ _ this.2.2.2, if_neg (by omega)] at h9, fun t g => by omega⟩ (by omega) hk1n HRL.out)
                obtain ⟨R, hR⟩ : ∃ R, nth [] T k1 = R := ⟨_, rfl⟩
                rw [hR] at HR HRL HRB HRG
                have HLM := Lib.hid (lstF_allL (aftV R (s : Int)))
                obtain ⟨L, hL⟩ : ∃ L, lstF (aftV R (s : Int)) allL = L := ⟨_, rfl⟩
                have HL := Lib.hid hL
                rw [hL] at HR HLM
                obtain ⟨Lv, Lb⟩ := L
                obtain ⟨Y, hY⟩ : ∃ Y, aftV R (s : Int) Lv = Y := ⟨_, rfl⟩
                have HYV := Lib.hid hY
                simp only at HLM
                have HRV := Lib.hid (HR.out.trans hY)
                obtain ⟨y, hy⟩ : ∃ y : Nat, Lv = (y : Int) := ⟨Lv.toNat, by have := HLM.out; omega⟩
                subst hy
                have HYB := Lib.hid (show y < 96 by have := HLM.out; omega)
                have HCR := Lib.hid costs_row
                clear h1 h2 h3 hk1 hk1n hR hL hY HR HV HLM
                go_wp2_with fail
                refine wp_region_G 13 (fun W : World => W.rangeAt gr (k1 * 96) (nums .i64 R)) (by kernel_rfl) (rangeAt_below HRG.out (Below.refl _ _).drew) (fun hHeld => ?_)
                refine wpAnyG_takeL (i := 1) (.slice (some ⟨gr, 0, none⟩) n1 n1) [13] rfl (by kernel_rfl) (fun _ _ _ h => h) hHeld (by rfl) ?_ ?_
                · (intro W' hSw; (try dsimp only at hSw); go_simp)
                try simp only [Act.put, List.setIfInBounds_toArray, List.set_cons_zero, List.set_cons_succ]
                refine wpAnyG_takeL (i := 2) (.int .i64 k) [13] rfl (by kernel_rfl) (fun _ _ _ h => h) hHeld (by rfl) ?_ ?_
                · (intro W' hSw; (try dsimp only at hSw); go_simp)
                try simp only [Act.put, List.setIfInBounds_toArray, List.set_cons_zero, List.set_cons_succ]
                refine wpAnyG_takeL (i := 3) (.int .i64 k1) [13] rfl (by kernel_rfl) (fun _ _ _ h => h) hHeld (by rfl) ?_ ?_
                · (intro W' hSw; (try dsimp only at hSw); go_simp)
                try simp only [Act.put, List.setIfInBounds_toArray, List.set_cons_zero, List.set_cons_succ]
                refine wpAnyG_takeL (i := 4) (.pointer (some ⟨gr, k1 * 96, none⟩)) [13] rfl (by kernel_rfl) (fun _ _ _ h => h) hHeld (by rfl) ?_ ?_
                · (intro W' hSw; (try dsimp only at hSw); go_simp)
                try simp only [Act.put, List.setIfInBounds_toArray, List.set_cons_zero, List.set_cons_succ]
                refine wpAnyG_takeL (i := 5) (.agg (nums .i64 R).toArray) [13] rfl (by kernel_rfl) (fun _ _ _ h => h) hHeld (by rfl) ?_ ?_
                · intro W9 hSw; obtain ⟨d9, hu9, hd9, hi9⟩ := HCR.out; exact exec_load_mid _ _ rfl gr (k1 * 96) rfl _ d9 hSw hu9 hd9 (by rw [nums_length, HRL.out]; exact hi9)
                try simp only [Act.put, List.setIfInBounds_toArray, List.set_cons_zero, List.set_cons_succ]
                refine wpAnyG_takeL (i := 6) (.int .i64 s) [13] rfl (by kernel_rfl) (fun _ _ _ h => h) hHeld (by rfl) ?_ ?_
                · (intro W' hSw; (try dsimp only at hSw); go_simp)
                try simp only [Act.put, List.setIfInBounds_toArray, List.set_cons_zero, List.set_cons_succ]
                clear hHeld
                refine wpAnyG_oneL (i := 0) (by kernel_rfl) rfl (fun K hK => ?_)
                (go_simp; go_at_call 53; refine (all_any _).mono ?_; rintro e W3 ⟨v3, rfl, hO3, b3⟩; obtain ⟨A3, c3, rfl, hL3⟩ := own_ri hO3; have HL3 := Lib.hid hL3; have HB3 := Lib.hid (below2 ((Below.refl W2.heap.size W2).drew) b3); clear hO3 hL3 b3; rw [allL_length])
                refine hK.out _ _ (fun _ => rangeAt_below HRG.out HB3.out) ?_
                clear hK K
                try simp only [Act.put, List.setIfInBounds_toArray, List.set_cons_zero, List.set_cons_succ]
                refine wpAnyG_oneL (i := 7) (by kernel_rfl) rfl (fun K hK => ?_)
                (go_simp; go_at_call 51; refine (after_any R (s : Int) _).mono ?_; rintro e W4 ⟨g1, g2, rfl, _, hk1, hk2, b4⟩; have HL4 := Lib.hid (HL3.out.below b4); have HK1 := Lib.hid hk1; have HK2 := Lib.hid hk2; have HB4 := Lib.hid (below2 HB3.out b4); clear hk1 hk2 b4)
                refine hK.out _ _ (fun _ => rangeAt_below HRG.out HB4.out) ?_
                clear hK K
                try simp only [Act.put, List.setIfInBounds_toArray, List.set_cons_zero, List.set_cons_succ]
                have HLS := Lib.hid (least_any A3 c3 allL 74 #[.pointer (some ⟨g1, 0, none⟩), .pointer (some ⟨g2, 0, none⟩)] (aftV R (s : Int)) W4 HL4.out (enters_of Try.func74 (by kernel_rfl) rfl) (after_pure g1 g2 R s W4 HK1.out HK2.out HRL.out HI.out.2.2.1 HRB.out))
                rw [HL.out, allL_length] at HLS
                refine wpAnyG_oneL (i := 8) (by kernel_rfl) rfl (fun K hK => ?_)
                (go_simp; go_at_call 52; refine HLS.out.mono ?_; rintro e W5 ⟨rfl, b5⟩; have HB5 := Lib.hid (below2 HB4.out b5); clear b5)
                refine hK.out _ _ (fun _ => rangeAt_below HRG.out HB5.out) ?_
                clear hK K
                try simp only
                have hHeld := rangeAt_below HRG.out HB5.out
                refine wpAnyG_takeL (i := 9) (.tuple #[.int .i64 y, .bool Lb]) [13] rfl (by kernel_rfl) (fun _ _ _ h => h) hHeld (by rfl) ?_ ?_
                · (intro W' hSw; (try dsimp only at hSw); go_simp)
                try simp only [Act.put, List.setIfInBounds_toArray, List.set_cons_zero, List.set_cons_succ]
                refine wpAnyG_takeL (i := 10) (.int .i64 y) [13] rfl (by kernel_rfl) (fun _ _ _ h => h) hHeld (by rfl) ?_ ?_
                · (intro W' hSw; (try dsimp only at hSw); go_simp)
                try simp only [Act.put, List.setIfInBounds_toArray, List.set_cons_zero, List.set_cons_succ]
                refine wpAnyG_takeL (i := 11) (.bool Lb) [13] rfl (by kernel_rfl) (fun _ _ _ h => h) hHeld (by rfl) ?_ ?_
                · (intro W' hSw; (try dsimp only at hSw); go_simp)
                try simp only [Act.put, List.setIfInBounds_toArray, List.set_cons_zero, List.set_cons_succ]
                refine wpAnyG_oneL (i := 12) (by kernel_rfl) rfl (fun K hK => ?_)
                go_simp
                refine hK.out _ _ (fun _ => hHeld) ?_
                clear hK K
                try simp only [Act.put, List.setIfInBounds_toArray, List.set_cons_zero, List.set_cons_succ]
                refine wpAnyG_oneL (i := 13) (by kernel_rfl) rfl (fun K hK => ?_)
                go_simp
                refine hK.out _ _ (fun h => Bool.noConfusion (show true = false from h)) ?_
                clear hK K
                refine wpAnyG_done (by kernel_rfl) ?_ _
                clear hHeld HLS HL4 HK1 HK2 HL3 HB3 HB4
                have HY6 := Lib.hid (HY.out.below HB5.out)
                have HRG6 := Lib.hid (rangeAt_below HRG.out HB5.out)
                have HB6 := Lib.hid (below2 HB2.out HB5.out)

                go_wp2_with fail
                refine wp_region_G 14 (fun W : World => W.rangeAt gr (k1 * 96) (nums .i64 R)) (by kernel_rfl) (rangeAt_below HRG6.out (Below.refl _ _).drew) (fun hHeld => ?_)
                refine wpAnyG_takeL (i := 0) (.slice (some ⟨gr, 0, none⟩) n1 n1) [14] rfl (by kernel_rfl) (fun _ _ _ h => h) hHeld (by rfl) ?_ ?_
                · (intro W' hSw; (try dsimp only at hSw); go_simp)
                try simp only [Act.put, List.setIfInBounds_toArray, List.set_cons_zero, List.set_cons_succ]
                refine wpAnyG_takeL (i := 1) (.int .i64 k) [14] rfl (by kernel_rfl) (fun _ _ _ h => h) hHeld (by rfl) ?_ ?_
                · (intro W' hSw; (try dsimp only at hSw); go_simp)
                try simp only [Act.put, List.setIfInBounds_toArray, List.set_cons_zero, List.set_cons_succ]
                refine wpAnyG_takeL (i := 2) (.int .i64 s) [14] rfl (by kernel_rfl) (fun _ _ _ h => h) hHeld (by rfl) ?_ ?_
                · (intro W' hSw; (try dsimp only at hSw); go_simp)
                try simp only [Act.put, List.setIfInBounds_toArray, List.set_cons_zero, List.set_cons_succ]
                refine wpAnyG_takeL (i := 3) (.slice (some ⟨gr, 0, none⟩) n1 n1) [14] rfl (by kernel_rfl) (fun _ _ _ h => h) hHeld (by rfl) ?_ ?_
                · (intro W' hSw; (try dsimp only at hSw); go_simp)
                try simp only [Act.put, List.setIfInBounds_toArray, List.set_cons_zero, List.set_cons_succ]
                refine wpAnyG_takeL (i := 4) (.int .i64 k) [14] rfl (by kernel_rfl) (fun _ _ _ h => h) hHeld (by rfl) ?_ ?_
                · (intro W' hSw; (try dsimp only at hSw); go_simp)
                try simp only [Act.put, List.setIfInBounds_toArray, List.set_cons_zero, List.set_cons_succ]
                refine wpAnyG_takeL (i := 5) (.int .i64 k1) [14] rfl (by kernel_rfl) (fun _ _ _ h => h) hHeld (by rfl) ?_ ?_
                · (intro W' hSw; (try dsimp only at hSw); go_simp)
                try simp only [Act.put, List.setIfInBounds_toArray, List.set_cons_zero, List.set_cons_succ]
                refine wpAnyG_takeL (i := 6) (.pointer (some ⟨gr, k1 * 96, none⟩)) [14] rfl (by kernel_rfl) (fun _ _ _ h => h) hHeld (by rfl) ?_ ?_
                · (intro W' hSw; (try dsimp only at hSw); go_simp)
                try simp only [Act.put, List.setIfInBounds_toArray, List.set_cons_zero, List.set_cons_succ]
                refine wpAnyG_takeL (i := 7) (.agg (nums .i64 R).toArray) [14] rfl (by kernel_rfl) (fun _ _ _ h => h) hHeld (by rfl) ?_ ?_
                · intro W9 hSw; obtain ⟨d9, hu9, hd9, hi9⟩ := HCR.out; exact exec_load_mid _ _ rfl gr (k1 * 96) rfl _ d9 hSw hu9 hd9 (by rw [nums_length, HRL.out]; exact hi9)
                try simp only [Act.put, List.setIfInBounds_toArray, List.set_cons_zero, List.set_cons_succ]
                refine wpAnyG_takeL (i := 8) (.int .i64 s) [14] rfl (by kernel_rfl) (fun _ _ _ h => h) hHeld (by rfl) ?_ ?_
                · (intro W' hSw; (try dsimp only at hSw); go_simp)
                try simp only [Act.put, List.setIfInBounds_toArray, List.set_cons_zero, List.set_cons_succ]
                refine wpAnyG_takeL (i := 10) (.int .i64 y) [14] rfl (by kernel_rfl) (fun _ _ _ h => h) hHeld (by rfl) ?_ ?_
                · (intro W' hSw; (try dsimp only at hSw); go_simp)
                try simp only [Act.put, List.setIfInBounds_toArray, List.set_cons_zero, List.set_cons_succ]
                refine wpAnyG_takeL (i := 12) (.pointer (some ⟨gr, k * 96, none⟩)) [13, 14] rfl (by kernel_rfl) (fun _ _ _ h => h) hHeld (by rfl) ?_ ?_
                · (intro W' hSw; (try dsimp only at hSw); go_simp)
                try simp only [Act.put, List.setIfInBounds_toArray, List.set_cons_zero, List.set_cons_succ]
                clear hHeld
                refine wpAnyG_oneL (i := 9) (by kernel_rfl) rfl (fun K hK => ?_)
                (go_simp; go_at_call 51; refine (after_any R (s : Int) _).mono ?_; rintro e W7 ⟨g1, g2, rfl, _, hk1, hk2, b7⟩; have HA7 := Lib.hid (after_pure g1 g2 R s W7 hk1 hk2 HRL.out HI.out.2.2.1 HRB.out W7 (Below.refl _ _) (y : Int) (.inl (by simp only [allL, List.mem_map, List.mem_range]; exact ⟨y, HYB.out, rfl⟩))); have HB7 := Lib.hid (below2 (Below.refl _ _).drew b7); clear hk1 hk2 b7)
                rw [HYV.out] at HA7
                refine hK.out _ _ (fun _ => rangeAt_below HRG6.out HB7.out) ?_
                clear hK K
                try simp only [Act.put, List.setIfInBounds_toArray, List.set_cons_zero, List.set_cons_succ]
                refine wpAnyG_oneL (i := 11) (by kernel_rfl) rfl (fun K hK => ?_)
                (go_simp; refine HA7.out.mono ?_; rintro e W8 ⟨rfl, b8⟩; have HB78 := Lib.hid (below2 HB7.out b8); clear b8)
                refine hK.out _ _ (fun _ => rangeAt_below HRG6.out HB78.out) ?_
                clear hK K
                try simp only [Act.put, List.setIfInBounds_toArray, List.set_cons_zero, List.set_cons_succ]
                have HY8 := Lib.hid (HY6.out.below HB78.out)
                have HB8 := Lib.hid (below2 HB6.out HB78.out)
                have c8 := blk_nums HY8.out I (by rw [List.length_set]; exact HI.out.2.2.2)
                have f8 := HY8.out.free I
                have hHeld := rangeAt_below HRG6.out HB78.out
                refine wpAnyG_takeL (i := 13) (.pointer (some ⟨gr, I, none⟩)) [14] rfl (by kernel_rfl) (fun _ _ _ h => h) hHeld (by rfl) ?_ ?_
                · (intro W' hSw; (try dsimp only at hSw); go_simp)
                try simp only [Act.put, List.setIfInBounds_toArray, List.set_cons_zero, List.set_cons_succ]
                clear hHeld
                refine wpAnyG_oneL (i := 14) (by kernel_rfl) rfl (fun K hK => ?_)
                go_simp
                refine hK.out _ _ (fun h => Bool.noConfusion (show true = false from h)) ?_
                clear hK K
                refine wpAnyG_done (by kernel_rfl) ?_ _

                go_wp2
                go_roundw
                case rel =>
                  have hz := blk_set_nums HY8.out I Y
                  rw [HSE.out] at hz
                  exact ⟨s + 1, by go_num, by have := HI.out; omega, Lib.hid ⟨_, hz, by have := HD.out; rwa [HRV.out] at this⟩, Lib.hid (HB8.out.grown (grown_setCell _ gr I _) HB8.out.size (fun r e => by cases e; have := HGR.out; omega))⟩
                case measure => simp [intOf] <;> (have := HI.out; omega)
        · obtain rfl : s = 96 := by omega
          clear hs hlt
          go_wp2
          go_roundw
          case rel =>
            obtain ⟨xs, hx1, hx2⟩ := hX.out
            exact ⟨k, rfl, by omega, Lib.hid ⟨xs, hx1, hx2.next⟩, hB⟩
          case measure => simp [intOf] <;> omega
end Go.Proofs.Ytkfgomhhenmmeaa

namespace Go.Proofs.Ytkfgomhhenmmeaa
open Go.RowKit Go.Shelf
attribute [local go_sem] Oper.semAt_some run_storeFn

/-- The bounds of the bands that are used. -/
def bndL (low high : List Int) (pre : List (Nat × Int)) : List (Int × Int) := pre.map fun x => (nth 0 low x.1, nth 0 high x.1)
def isBoth (low high : List Int) (k : Nat) : Bool := (List.range k).all fun i => isB (nth 0 low i) && isB (nth 0 high i)
theorem isBoth_succ (low high : List Int) (k : Nat) : isBoth low high (k + 1) = (isBoth low high k && (isB (nth 0 low k) && isB (nth 0 high k))) := by
  unfold isBoth; rw [List.range_succ, List.all_append]; simp
theorem isBoth_no {low high : List Int} {k n : Nat} (hk : k < n) (h : (isB (nth 0 low k) && isB (nth 0 high k)) = false) : isBoth low high n = false := by
  cases he : isBoth low high n
  · rfl
  · have := List.all_eq_true.1 he k (List.mem_range.2 hk)
    rw [h] at this; cases this
theorem isBoth_at {low high : List Int} {k n : Nat} (h : isBoth low high n = true) (hk : k < n) : (0 ≤ nth 0 low k ∧ nth 0 low k ≤ 95) ∧ (0 ≤ nth 0 high k ∧ nth 0 high k ≤ 95) := by
  have := List.all_eq_true.1 h k (List.mem_range.2 hk)
  simpa [isB] using this
def chooseE (low high : List Int) (us : List Bool) : Int :=
  if low.length ≠ us.length ∨ high.length ≠ us.length ∨ 128 < us.length then 1 else if isBoth low high us.length = false then 6
  else if (bndL low high (walkK us us.length)).all (fun b => decide (b.1 ≤ b.2)) = false then 5 else 0
/-- What a scale is worth, k bands on; b: the band before. -/
def chV (T : List (List Int)) (k : Nat) (R : List Int) (b : Int) : Int → Int := if b < 0 then fun s => nth 0 (nth [] T k) s.toNat else aftV (nth [] T k) (nth 0 R b.toNat)
def chS (T : List (List Int)) (st : List Int × Nat) (x : Nat × Int) : List Int × Nat := (st.1.set x.1 (lstF (chV T st.2 st.1 x.2) allL).1, st.2 + 1)
def chP (T : List (List Int)) (n : Nat) (pre : List (Nat × Int)) : List Int × Nat := pre.foldl (chS T) (List.replicate n 0, 0)
theorem chP_snoc (T : List (List Int)) (n : Nat) (pre : List (Nat × Int)) (x : Nat × Int) : chP T n (pre ++ [x]) = chS T (chP T n pre) x := by simp [chP]
theorem chP_nil (T : List (List Int)) (n : Nat) : chP T n [] = (List.replicate n 0, 0) := rfl
theorem chP_facts (T : List (List Int)) (n : Nat) (pre : List (Nat × Int)) : (chP T n pre).1.length = n ∧ (chP T n pre).2 = pre.length ∧ ∀ x ∈ (chP T n pre).1, 0 ≤ x ∧ x ≤ 95 := by
  suffices h : ∀ (st : List Int × Nat), (∀ x ∈ st.1, 0 ≤ x ∧ x ≤ 95) → (pre.foldl (chS T) st).1.length = st.1.length ∧ (pre.foldl (chS T) st).2 = st.2 + pre.length ∧ ∀ x ∈ (pre.foldl (chS T) st).1, 0 ≤ x ∧ x ≤ 95 by
    have := h (List.replicate n 0, 0) (fun x hx => by have := List.eq_of_mem_replicate hx; omega)
    simpa [chP] using this
  induction pre with
  | nil => intro st h; exact ⟨rfl, rfl, h⟩
  | cons y pre ih =>
    intro st h
    rw [List.foldl_cons]
    have h2 := ih (chS T st y) (fun x hx => by
      unfold chS at hx
      rcases List.mem_or_eq_of_mem_set hx with h3 | rfl
      · exact h x h3
      · have := lstF_allL (chV T st.2 st.1 y.2); omega)
    refine ⟨by rw [h2.1]; simp [chS], by rw [h2.2.1]; simp [chS]; omega, h2.2.2⟩
def chooseO (low high : List Int) (us : List Bool) : List Int := if chooseE low high us = 0 then (chP (tabP (bndL low high (walkK us us.length))) us.length (walkK us us.length)).1 else []
def chooseN (low high : List Int) (us : List Bool) : Int := if chooseE low high us = 0 then (costS (chooseO low high us) us).1 else 0
theorem choose_err {low high : List Int} {us : List Bool} {E : Int} (h : chooseE low high us = E) (hE : E ≠ 0) : chooseO low high us = [] ∧ chooseN low high us = 0 := by
  unfold chooseO chooseN
  rw [if_neg (by rw [h]; exact hE), if_neg (by rw [h]; exact hE)]
  exact ⟨rfl, rfl⟩

theorem choose_res (tmps : Array Value) (W : World) (g6 g7 g8 : Nat) (v : Value) (n e : Int) (h6 : tmps[6]?.getD undef = .pointer (some ⟨g6, 0, none⟩)) (h7 : tmps[7]?.getD undef = .pointer (some ⟨g7, 0, none⟩)) (h8 : tmps[8]?.getD undef = .pointer (some ⟨g8, 0, none⟩))
    (B6 : Blk W g6 #[v] 22) (B7 : Blk W g7 #[.int .i64 n] 3) (B8 : Blk W g8 #[.int .i64 e] 26) : (results Try.f23 tmps).run Try.prog W = .ok (.tuple #[v, .int .i64 n, .int .i64 e]) W := by
  have z6 := B6.cell 0 rfl
  have z7 := B7.cell 0 rfl
  have z8 := B8.cell 0 rfl
  simp [results, Try.f23, go_sem, h6, h7, h8, z6, z7, z8]

theorem choose_start (w W1 : World) (gA g4 g6 g7 g8 n m c d : Nat) (A B : Option Addr) (e0 : Int) (hA : w.heap.size = gA) (h4 : gA + 1 = g4) (h6 : g4 + 1 = g6) (h7 : g6 + 1 = g7) (h8 : g7 + 1 = g8)
    (hW : ((((w.alloc (.cells #[.slice A n c] 22)).alloc (.cells #[.slice B m d] 22)).alloc (.cells #[.slice none 0 0] 22)).alloc (.cells #[.int .i64 0] 3)).alloc (.cells #[.int .i64 e0] 26) = W1) :
    Blk W1 gA #[.slice A n c] 22 ∧ Blk W1 g4 #[.slice B m d] 22 ∧ Blk W1 g6 #[.slice none 0 0] 22 ∧ Blk W1 g7 #[.int .i64 0] 3 ∧ Blk W1 g8 #[.int .i64 e0] 26 ∧ Below w.heap.size w W1 ∧ W1.heap.size = g8 + 1 := by
  obtain ⟨Wa, ha⟩ : ∃ Wa, w.alloc (.cells #[.slice A n c] 22) = Wa := ⟨_, rfl⟩
  have a1 : Blk Wa w.heap.size #[.slice A n c] 22 := ha ▸ heap_alloc_new w _
  have s1 : Wa.heap.size = w.heap.size + 1 := ha ▸ World.size_alloc _ _
  have c1 : Below w.heap.size w Wa := ha ▸ below_alloc (Below.refl _ _) _
  rw [ha] at hW
  obtain ⟨Wb, hb⟩ : ∃ Wb, Wa.alloc (.cells #[.slice B m d] 22) = Wb := ⟨_, rfl⟩
  have a2 : Blk Wb Wa.heap.size #[.slice B m d] 22 := hb ▸ heap_alloc_new Wa _
  have s2 : Wb.heap.size = Wa.heap.size + 1 := hb ▸ World.size_alloc _ _
  have c2 : Below Wa.heap.size Wa Wb := hb ▸ below_alloc (Below.refl _ _) _
  rw [hb] at hW
  obtain ⟨Wc, hc⟩ : ∃ Wc, Wb.alloc (.cells #[.slice none 0 0] 22) = Wc := ⟨_, rfl⟩
  have a3 : Blk Wc Wb.heap.size #[.slice none 0 0] 22 := hc ▸ heap_alloc_new Wb _
  have s3 : Wc.heap.size = Wb.heap.size + 1 := hc ▸ World.size_alloc _ _
  have c3 : Below Wb.heap.size Wb Wc := hc ▸ below_alloc (Below.refl _ _) _
  rw [hc] at hW
  obtain ⟨Wd, hd⟩ : ∃ Wd, Wc.alloc (.cells #[.int .i64 0] 3) = Wd := ⟨_, rfl⟩
  have a4 : Blk Wd Wc.heap.size #[.int .i64 0] 3 := hd ▸ heap_alloc_new Wc _
  have s4 : Wd.heap.size = Wc.heap.size + 1 := hd ▸ World.size_alloc _ _
  have c4 : Below Wc.heap.size Wc Wd := hd ▸ below_alloc (Below.refl _ _) _
  rw [hd] at hW
  have a5 : Blk W1 Wd.heap.size #[.int .i64 e0] 26 := hW ▸ heap_alloc_new Wd _
  have s5 : W1.heap.size = Wd.heap.size + 1 := hW ▸ World.size_alloc _ _
  have c5 : Below Wd.heap.size Wd W1 := hW ▸ below_alloc (Below.refl _ _) _
  rw [s4, s3, s2, s1, hA, h4, h6, h7, h8] at a5
  rw [s3, s2, s1, hA, h4, h6, h7] at a4
  rw [s2, s1, hA, h4, h6] at a3
  rw [s1, hA, h4] at a2
  rw [hA] at a1
  exact ⟨(((a1.below c2).below c3).below c4).below c5, ((a2.below c3).below c4).below c5, (a3.below c4).below c5, a4.below c5, a5, below2 (below2 (below2 (below2 c1 c2) c3) c4) c5, by omega⟩
/-- An error is laid into the results. -/
theorem choose_put {W : World} {g6 g7 g8 : Nat} {v0 : Value} {n0 e0 : Int} (b6 : Blk W g6 #[v0] 22) (b7 : Blk W g7 #[.int .i64 n0] 3) (b8 : Blk W g8 #[.int .i64 e0] 26) (h67 : g6 < g7) (h78 : g7 < g8) (v : Value) (n e : Int) :
    Blk (((W.setCell ⟨g6, 0, none⟩ v).setCell ⟨g7, 0, none⟩ (.int .i64 n)).setCell ⟨g8, 0, none⟩ (.int .i64 e)) g6 #[v] 22 ∧ Blk (((W.setCell ⟨g6, 0, none⟩ v).setCell ⟨g7, 0, none⟩ (.int .i64 n)).setCell ⟨g8, 0, none⟩ (.int .i64 e)) g7 #[.int .i64 n] 3 ∧
      Blk (((W.setCell ⟨g6, 0, none⟩ v).setCell ⟨g7, 0, none⟩ (.int .i64 n)).setCell ⟨g8, 0, none⟩ (.int .i64 e)) g8 #[.int .i64 e] 26 ∧ Upd (fun x => x = g6 ∨ x = g7 ∨ x = g8) W (((W.setCell ⟨g6, 0, none⟩ v).setCell ⟨g7, 0, none⟩ (.int .i64 n)).setCell ⟨g8, 0, none⟩ (.int .i64 e)) := by
  have ua : Upd (fun x => x = g6) W (W.setCell ⟨g6, 0, none⟩ v) := Upd.setCell (fun x => x = g6) _ g6 0 _ rfl
  have ub : Upd (fun x => x = g7) (W.setCell ⟨g6, 0, none⟩ v) ((W.setCell ⟨g6, 0, none⟩ v).setCell ⟨g7, 0, none⟩ (.int .i64 n)) := Upd.setCell (fun x => x = g7) _ g7 0 _ rfl
  have uc : Upd (fun x => x = g8) ((W.setCell ⟨g6, 0, none⟩ v).setCell ⟨g7, 0, none⟩ (.int .i64 n)) (((W.setCell ⟨g6, 0, none⟩ v).setCell ⟨g7, 0, none⟩ (.int .i64 n)).setCell ⟨g8, 0, none⟩ (.int .i64 e)) := Upd.setCell (fun x => x = g8) _ g8 0 _ rfl
  refine ⟨((b6.set 0 v).keep (ub.keep (ok := fun x => x ≠ g7) fun _ h => h) (by omega)).keep (uc.keep (ok := fun x => x ≠ g8) fun _ h => h) (by omega), ((b7.keep (ua.keep (ok := fun x => x ≠ g6) fun _ h => h) (by omega)).set 0 _).keep (uc.keep (ok := fun x => x ≠ g8) fun _ h => h) (by omega),
    ((b8.keep (ua.keep (ok := fun x => x ≠ g6) fun _ h => h) (by omega)).keep (ub.keep (ok := fun x => x ≠ g7) fun _ h => h) (by omega)).set 0 _, ?_⟩
  exact ((ua.weak (o' := fun x => x = g6 ∨ x = g7 ∨ x = g8) fun _ _ h => .inl h).trans ub fun _ _ h => .inr (.inl h)).trans uc fun _ _ h => .inr (.inr h)
end Go.Proofs.Ytkfgomhhenmmeaa

namespace Go.Proofs.Ytkfgomhhenmmeaa
open Go.RowKit Go.Shelf
attribute [local go_sem] Oper.semAt_some run_storeFn

def ChooseP (low high : List Int) (us : List Bool) (w : World) (e : Ending) (w' : World) : Prop :=
  ∃ v, e = .returned (.tuple #[v, .int .i64 (chooseN low high us), .int .i64 (chooseE low high us)]) ∧ OwnI 3 .i64 w.heap.size w' v (chooseO low high us) ∧ Below w.heap.size w w'
theorem choose_errP {low high : List Int} {us : List Bool} {w W1 W : World} {E : Int} (h : chooseE low high us = E) (hE : E ≠ 0) {g6 g7 g8 : Nat} (hw : w.heap.size ≤ g6) (h67 : g6 < g7) (h78 : g7 < g8) (hb : Below w.heap.size w W1) (hu : Upd (fun x => x = g6 ∨ x = g7 ∨ x = g8) W1 W) {e : Ending}
    (he : e = .returned (.tuple #[.slice none 0 0, .int .i64 0, .int .i64 E])) : ChooseP low high us w e W := by
  obtain ⟨h1, h2⟩ := choose_err h hE
  exact ⟨_, by rw [he, h2, h], by rw [h1]; exact OwnI.nil _ _ _ _, hb.trans (hu.below hb.size fun x _ e => by omega)⟩

set_option maxHeartbeats 4000000 in
set_option maxRecDepth 100000 in
theorem schoose1 (A B C : Option Addr) (c d f : Nat) (low high : List Int) (us : List Bool) (w : World) (h : low.length ≠ us.length ∨ high.length ≠ us.length ∨ 128 < us.length) (h1 : low.length ≤ 9223372036854775807) (_ : high.length ≤ 9223372036854775807) (_ : us.length ≤ 9223372036854775807) :
    Calls Try.prog 23 #[.slice A low.length c, .slice B high.length d, .slice C us.length f] w (ChooseP low high us w) := by
  have HE := Lib.hid (show chooseE low high us = 1 by unfold chooseE; rw [if_pos h])
  obtain ⟨gA, hA⟩ : ∃ gA, w.heap.size = gA := ⟨_, rfl⟩
  obtain ⟨g4, h4⟩ : ∃ g4, gA + 1 = g4 := ⟨_, rfl⟩
  obtain ⟨g6, h6⟩ : ∃ g6, g4 + 1 = g6 := ⟨_, rfl⟩
  obtain ⟨g7, h7⟩ : ∃ g7, g6 + 1 = g7 := ⟨_, rfl⟩
  obtain ⟨g8, h8⟩ : ∃ g8, g7 + 1 = g8 := ⟨_, rfl⟩
  have HST := Lib.hid (fun W1 => choose_start w W1 gA g4 g6 g7 g8 low.length high.length c d A B 1 hA h4 h6 h7 h8)
  have HN := Lib.hid (show w.heap.size = gA ∧ gA + 1 = g4 ∧ g4 + 1 = g6 ∧ g6 + 1 = g7 ∧ g7 + 1 = g8 from ⟨hA, h4, h6, h7, h8⟩)
  have hcs : (((low.length : Int) != (us.length : Int)) = true) ∨ (((low.length : Int) != (us.length : Int)) = false ∧ ((high.length : Int) != (us.length : Int)) = true) ∨ (((low.length : Int) != (us.length : Int)) = false ∧ ((high.length : Int) != (us.length : Int)) = false ∧ decide (128 < (us.length : Int)) = true) := by
    by_cases e1 : low.length = us.length
    · by_cases e2 : high.length = us.length
      · exact .inr (.inr ⟨by simp [e1], by simp [e2], decide_eq_true (by omega)⟩)
      · exact .inr (.inl ⟨by simp [e1], by simp; omega⟩)
    · exact .inl (by simp; omega)
  clear h hA h4 h6 h7 h8
  rcases hcs with e1 | ⟨e1, e2⟩ | ⟨e1, e2, e3⟩
  all_goals
    go_enter Try.func23, Try.ntmps23
    go_wp2
    obtain ⟨hA, h4, h6, h7, h8⟩ := HN.out
    simp only [hA, h4, h6, h7, h8]
    obtain ⟨W1, hW1⟩ : ∃ W1, ((((w.alloc (.cells #[.slice A low.length c] 22)).alloc (.cells #[.slice B high.length d] 22)).alloc (.cells #[.slice none 0 0] 22)).alloc (.cells #[.int .i64 0] 3)).alloc (.cells #[.int .i64 1] 26) = W1 := ⟨_, rfl⟩
    obtain ⟨x1, x4, x6, x7, x8, xb, xz⟩ := HST.out W1 hW1
    rw [hW1]
    refine bodyPost_ret (choose_res _ _ g6 g7 g8 _ _ _ rfl rfl rfl x6 x7 x8) rfl ?_
    exact choose_errP HE.out (by decide) (g6 := g6) (g7 := g7) (g8 := g8) (by omega) (by omega) (by omega) xb (Upd.refl _ _) rfl

set_option maxHeartbeats 4000000 in
set_option maxRecDepth 100000 in
theorem schoose6 (A B C : Option Addr) (c d f : Nat) (low high : List Int) (us : List Bool) (w : World) (hS : RI w A c low) (hT : RI w B d high) (_ : RB w C f us) (hl : low.length = us.length) (hh : high.length = us.length) (h128 : us.length ≤ 128) (h60 : isBoth low high us.length = false) :
    Calls Try.prog 23 #[.slice A low.length c, .slice B high.length d, .slice C us.length f] w (ChooseP low high us w) := by
  have HE := Lib.hid (show chooseE low high us = 6 by unfold chooseE; rw [if_neg (by omega), if_pos h60])
  have H6 := Lib.hid h60
  obtain ⟨gA, hA⟩ : ∃ gA, w.heap.size = gA := ⟨_, rfl⟩
  obtain ⟨g4, h4⟩ : ∃ g4, gA + 1 = g4 := ⟨_, rfl⟩
  obtain ⟨g6, h6⟩ : ∃ g6, g4 + 1 = g6 := ⟨_, rfl⟩
  obtain ⟨g7, h7⟩ : ∃ g7, g6 + 1 = g7 := ⟨_, rfl⟩
  obtain ⟨g8, h8⟩ : ∃ g8, g7 + 1 = g8 := ⟨_, rfl⟩
  obtain ⟨W1, hW1⟩ : ∃ W1, ((((w.alloc (.cells #[.slice A low.length c] 22)).alloc (.cells #[.slice B high.length d] 22)).alloc (.cells #[.slice none 0 0] 22)).alloc (.cells #[.int .i64 0] 3)).alloc (.cells #[.int .i64 0] 26) = W1 := ⟨_, rfl⟩
  have HST := Lib.hid (choose_start w W1 gA g4 g6 g7 g8 low.length high.length c d A B 0 hA h4 h6 h7 h8 hW1)
  have HN := Lib.hid (show w.heap.size = gA ∧ gA + 1 = g4 ∧ g4 + 1 = g6 ∧ g6 + 1 = g7 ∧ g7 + 1 = g8 from ⟨hA, h4, h6, h7, h8⟩)
  have HW1 := Lib.hid hW1
  have HS := Lib.hid (hS.below HST.out.2.2.2.2.2.1)
  have HT := Lib.hid (hT.below HST.out.2.2.2.2.2.1)
  have e1 : ((low.length : Int) != (us.length : Int)) = false := by simp [hl]
  have e2 : ((high.length : Int) != (us.length : Int)) = false := by simp [hh]
  have e3 : decide (128 < (us.length : Int)) = false := decide_eq_false (by omega)
  have HL := Lib.hid (show low.length = us.length ∧ high.length = us.length from ⟨hl, hh⟩)
  clear hS hT hl hh h60 hA h4 h6 h7 h8 hW1
  go_enter Try.func23, Try.ntmps23
  go_wp2
  obtain ⟨hA, h4, h6, h7, h8⟩ := HN.out
  simp only [hA, h4, h6, h7, h8, HW1.out]
  clear hA h4 h6 h7 h8
  go_loopw [40] (fun iv wr => ∃ k : Nat, iv = .int .i64 (k : Int) ∧ k ≤ us.length ∧ Hid (isBoth low high k = true) ∧ wr = W1) (fun iv _ => us.length - (intOf iv).toNat)
  case atStart => exact ⟨0, rfl, Nat.zero_le _, Lib.hid rfl, rfl⟩
  case round =>
    obtain ⟨k, rfl, hk, hP, rfl⟩ := hrel
    by_cases hlt : k < us.length
    · obtain ⟨ad, rfl, hc⟩ := rd_int HS.out k (by have := HL.out; omega)
      obtain ⟨ad2, rfl, hc2⟩ := rd_int HT.out k (by have := HL.out; omega)
      have hki : (k : Int) < (us.length : Int) := by omega
      have hki1 : (k : Int) < (low.length : Int) := by have := HL.out; omega
      have hki2 : (k : Int) < (high.length : Int) := by have := HL.out; omega
      have k1 := HST.out.1.cell 0 rfl
      have k4 := HST.out.2.1.cell 0 rfl
      have HNX := Lib.hid (isBoth_succ low high k)
      generalize nth 0 low k = x at hc HNX
      generalize nth 0 high k = y at hc2 HNX
      have HX := Lib.hid (fun W => is_any x W)
      have HY := Lib.hid (fun W => is_any y W)
      obtain ⟨p, hp⟩ : ∃ p, isB x = p := ⟨_, rfl⟩
      obtain ⟨q, hq⟩ : ∃ q, isB y = q := ⟨_, rfl⟩
      rw [hp] at HX HNX
      rw [hq] at HY HNX
      clear hp hq hlt
      have hbad : p = false ∨ (p = true ∧ q = false) ∨ (p = true ∧ q = true) := by cases p <;> cases q <;> simp
      rcases hbad with rfl | ⟨rfl, rfl⟩ | ⟨rfl, rfl⟩
      · have c6 := HST.out.2.2.1.cell 0 rfl
        have c7 := HST.out.2.2.2.1.cell 0 rfl
        have c8 := HST.out.2.2.2.2.1.cell 0 rfl
        have f6 := HST.out.2.2.1.free 0
        have f7 := HST.out.2.2.2.1.free 0
        have f8 := HST.out.2.2.2.2.1.free 0
        have n67 : g6 ≠ g7 := by have := HN.out; omega
        have n68 : g6 ≠ g8 := by have := HN.out; omega
        have n78 : g7 ≠ g8 := by have := HN.out; omega
        go_wp2_with (first | (go_at_call 48; refine (HX.out _).mono ?_; rintro e w2 ⟨rfl, rfl⟩) | (go_at_call 48; refine (HY.out _).mono ?_; rintro e w2 ⟨rfl, rfl⟩))
        have hN := HN.out
        obtain ⟨p6, p7, p8, pu⟩ := choose_put HST.out.2.2.1 HST.out.2.2.2.1 HST.out.2.2.2.2.1 (by omega) (by omega) (.slice none 0 0) 0 6
        refine bodyPost_ret (choose_res _ _ g6 g7 g8 _ _ _ rfl rfl rfl p6 p7 p8) rfl ?_
        exact choose_errP HE.out (by decide) (g6 := g6) (g7 := g7) (g8 := g8) (by omega) (by omega) (by omega) HST.out.2.2.2.2.2.1 pu rfl
      · have c6 := HST.out.2.2.1.cell 0 rfl
        have c7 := HST.out.2.2.2.1.cell 0 rfl
        have c8 := HST.out.2.2.2.2.1.cell 0 rfl
        have f6 := HST.out.2.2.1.free 0
        have f7 := HST.out.2.2.2.1.free 0
        have f8 := HST.out.2.2.2.2.1.free 0
        have n67 : g6 ≠ g7 := by have := HN.out; omega
        have n68 : g6 ≠ g8 := by have := HN.out; omega
        have n78 : g7 ≠ g8 := by have := HN.out; omega
        go_wp2_with (first | (go_at_call 48; refine (HX.out _).mono ?_; rintro e w2 ⟨rfl, rfl⟩) | (go_at_call 48; refine (HY.out _).mono ?_; rintro e w2 ⟨rfl, rfl⟩))
        have hN := HN.out
        obtain ⟨p6, p7, p8, pu⟩ := choose_put HST.out.2.2.1 HST.out.2.2.2.1 HST.out.2.2.2.2.1 (by omega) (by omega) (.slice none 0 0) 0 6
        refine bodyPost_ret (choose_res _ _ g6 g7 g8 _ _ _ rfl rfl rfl p6 p7 p8) rfl ?_
        exact choose_errP HE.out (by decide) (g6 := g6) (g7 := g7) (g8 := g8) (by omega) (by omega) (by omega) HST.out.2.2.2.2.2.1 pu rfl
      · go_wp2_with (first | (go_at_call 48; refine (HX.out _).mono ?_; rintro e w2 ⟨rfl, rfl⟩) | (go_at_call 48; refine (HY.out _).mono ?_; rintro e w2 ⟨rfl, rfl⟩))
        go_roundw
        case rel => exact ⟨k + 1, by go_num, by omega, Lib.hid (by rw [HNX.out, hP.out]; rfl), trivial⟩
        case measure => simp [intOf]; omega
    · obtain rfl : k = us.length := by omega
      have h1 := H6.out
      have h2 := hP.out
      rw [h1] at h2
      cases h2
end Go.Proofs.Ytkfgomhhenmmeaa

namespace Go.Proofs.Ytkfgomhhenmmeaa
open Go.RowKit Go.Shelf
attribute [local go_sem] Oper.semAt_some run_storeFn

/-- The bounds so far. -/
structure ChA (low high : List Int) (W0 : World) (g10 : Nat) (pre : List (Nat × Int)) (W : World) : Prop where
  box : ∃ v, Blk W g10 #[v] 83 ∧ OwnK kBd 85 W0.heap.size (fun _ => False) W v (bndL low high pre)
  ok : (bndL low high pre).all (fun b => decide (b.1 ≤ b.2)) = true
  upd : Upd (fun x => x = g10) W0 W
theorem OwnK.firm {α : Type} {k : Kd α} {ok : Nat → Prop} (hk : ∀ b, ¬ ok b) {W W' : World} {row : Option Nat} {n : Nat} {e : TypeId} {v : Value} {xs : List α} (h : OwnK k e n ok W v xs) (hg : W.grownBy W' row) (hr : Other W row) : OwnK k e n ok W' v xs := by
  refine h.keep (o2 := fun b => some b ≠ row) (Keep.of_grown hg) (fun b e e2 => ?_) (fun b h => absurd h (hk b)) ⟨hg.1, hg.2, hg.3⟩
  obtain ⟨cells, ho, _⟩ := h
  rcases ho.2 with ⟨rfl, _⟩ | ⟨g, cap, cur, rfl, hb, hgb, _⟩
  · cases e
  · obtain ⟨x, hx, hc⟩ := hr b e2.symm
    have : g = b := Option.some.inj e
    subst this
    rw [hgb] at hx; cases hx; cases hc
theorem OwnK.isCells {α : Type} {k : Kd α} {ok : Nat → Prop} {W : World} {n : Nat} {e : TypeId} {v : Value} {xs : List α} (h : OwnK k e n ok W v xs) : ∀ r, v.ownBlock = some r → ∃ cs t fr, W.heap[r]? = some (.cells cs t fr) := fun r e => by
  obtain ⟨cells, ho, _⟩ := h
  rcases ho.2 with ⟨rfl, _⟩ | ⟨g, cap, cur, rfl, hb, hgb, _⟩
  · cases e
  · have : g = r := Option.some.inj e
    subst this
    exact ⟨_, _, _, hgb⟩
theorem keepsG {B : Nat} {W W' : World} {row : Option Nat} (hg : W.grownBy W' row) (hr : ∀ r, row = some r → ∃ cs t fr, W.heap[r]? = some (.cells cs t fr)) : KeepsFrom B W W' :=
  ⟨hg.size, fun i o _ hi ho => (hg.block i (Array.getElem?_eq_some_iff.1 hi).1 (fun e => by
    obtain ⟨cs, t, fr, hx⟩ := hr i e.symm
    rw [hi] at hx; cases hx; cases ho)).trans hi⟩
theorem keepsB {B : Nat} {W W' : World} (hb : Below W.heap.size W W') : KeepsFrom B W W' := ⟨hb.size, fun i _ _ hi _ => (hb.block i (Array.getElem?_eq_some_iff.1 hi).1).trans hi⟩
theorem bndL_snoc (low high : List Int) (pre : List (Nat × Int)) (x : Nat × Int) : bndL low high (pre ++ [x]) = bndL low high pre ++ [(nth 0 low x.1, nth 0 high x.1)] := by simp [bndL]
theorem ChA.next {low high : List Int} {W0 W V3 w4 : World} {g10 g n cap : Nat} {pre : List (Nat × Int)} {x : Nat × Int} {lo hi : Int} {v : Value} (hs : ChA low high W0 g10 pre W) (hl : g10 < W0.heap.size) (hb3 : Below W.heap.size W V3) (hov : OwnK kBd 85 W0.heap.size (fun _ => False) V3 v (bndL low high pre))
    (hO4 : OwnK kBd 85 W0.heap.size (fun _ => False) w4 (.slice (some ⟨g, 0, none⟩) n cap) (bndL low high pre ++ [(lo, hi)])) (hg4 : V3.grownBy w4 v.ownBlock) (hx : bndL low high (pre ++ [x]) = bndL low high pre ++ [(lo, hi)]) (hok : (bndL low high (pre ++ [x])).all (fun b => decide (b.1 ≤ b.2)) = true) (h10 : Blk w4 g10 #[v] 83) :
    KeepsFrom W0.heap.size W (w4.setCell ⟨g10, 0, none⟩ (.slice (some ⟨g, 0, none⟩) n cap)) ∧ Keep (fun x => x < W0.heap.size ∧ x ≠ g10) W (w4.setCell ⟨g10, 0, none⟩ (.slice (some ⟨g, 0, none⟩) n cap)) ∧ ChA low high W0 g10 (pre ++ [x]) (w4.setCell ⟨g10, 0, none⟩ (.slice (some ⟨g, 0, none⟩) n cap)) := by
  have hlt := hov.base_le
  have hu3 : Upd (fun y => W0.heap.size ≤ y) V3 w4 := Upd.of_grown hg4 hlt
  have hu9 : Upd (fun y => y = g10) w4 (w4.setCell ⟨g10, 0, none⟩ (.slice (some ⟨g, 0, none⟩) n cap)) := Upd.setCell (fun y => y = g10) _ g10 0 _ rfl
  have hu : Upd (fun y => y = g10 ∨ W0.heap.size ≤ y) W (w4.setCell ⟨g10, 0, none⟩ (.slice (some ⟨g, 0, none⟩) n cap)) := ((Upd.of_below hb3 _).trans hu3 (fun _ _ h => .inr h)).trans hu9 (fun _ _ h => .inl h)
  refine ⟨((keepsB hb3).trans (keepsG hg4 hov.isCells)).trans (keepsG (grown_setCell w4 g10 0 _) (fun r e => by cases e; exact ⟨_, _, _, h10⟩)), hu.keep (fun y h h2 => by rcases h2 with h2 | h2 <;> omega), ⟨_, h10.set 0 _, ?_⟩, hok, hs.upd.trans hu (fun b hb h => by omega)⟩
  rw [hx]
  exact hO4.keep (o2 := fun y => y ≠ g10) (hu9.keep fun _ h => h) (fun b e => by have := hO4.base_le b e; omega) (fun _ h => h.elim) ⟨rfl, rfl, rfl⟩
theorem infoBd : (Try.prog.info? 85).map (fun i => (i.zero, i.size, i.bytes)) = some (some (.agg #[.int .i64 0, .int .i64 0]), 2, 16) := by kernel_rfl
theorem sizeBd : (Try.prog.info? 85).map (·.size) = some 2 := by kernel_rfl
theorem chB_start (W2 W3 : World) (g13 gr g14 g15 n : Nat) (TV : Value) (hn : n ≤ 128) (h13 : W2.heap.size = g13) (hr : g13 + 1 = gr) (h14 : gr + 1 = g14) (h15 : g14 + 1 = g15)
    (hW : (((W2.alloc (.cells #[TV] 86)).alloc (.cells (madeCells #[.int .i64 0] n) 3)).alloc (.cells #[.slice (some ⟨gr, 0, none⟩) n n] 22)).alloc (.cells #[.int .i64 0] 3) = W3) :
    Blk W3 g13 #[TV] 86 ∧ OwnI 3 .i64 g13 W3 (.slice (some ⟨gr, 0, none⟩) n n) (List.replicate n 0) ∧ Blk W3 g14 #[.slice (some ⟨gr, 0, none⟩) n n] 22 ∧ Blk W3 g15 #[.int .i64 0] 3 ∧ Below W2.heap.size W2 W3 ∧ W3.heap.size = g15 + 1 := by
  obtain ⟨Wa, ha⟩ : ∃ Wa, W2.alloc (.cells #[TV] 86) = Wa := ⟨_, rfl⟩
  have a1 : Blk Wa W2.heap.size #[TV] 86 := ha ▸ heap_alloc_new W2 _
  have s1 : Wa.heap.size = W2.heap.size + 1 := ha ▸ World.size_alloc _ _
  have c1 : Below W2.heap.size W2 Wa := ha ▸ below_alloc (Below.refl _ _) _
  rw [ha] at hW
  obtain ⟨Wb, hb⟩ : ∃ Wb, Wa.alloc (.cells (madeCells #[.int .i64 0] n) 3) = Wb := ⟨_, rfl⟩
  have a2 : OwnI 3 .i64 Wa.heap.size Wb (.slice (some ⟨Wa.heap.size, 0, none⟩) n n) (List.replicate n 0) := hb ▸ own_made Wa 3 .i64 n (by omega)
  have s2 : Wb.heap.size = Wa.heap.size + 1 := hb ▸ World.size_alloc _ _
  have c2 : Below Wa.heap.size Wa Wb := hb ▸ below_alloc (Below.refl _ _) _
  rw [hb] at hW
  obtain ⟨Wc, hc⟩ : ∃ Wc, Wb.alloc (.cells #[.slice (some ⟨gr, 0, none⟩) n n] 22) = Wc := ⟨_, rfl⟩
  have a3 : Blk Wc Wb.heap.size #[.slice (some ⟨gr, 0, none⟩) n n] 22 := hc ▸ heap_alloc_new Wb _
  have s3 : Wc.heap.size = Wb.heap.size + 1 := hc ▸ World.size_alloc _ _
  have c3 : Below Wb.heap.size Wb Wc := hc ▸ below_alloc (Below.refl _ _) _
  rw [hc] at hW
  have a4 : Blk W3 Wc.heap.size #[.int .i64 0] 3 := hW ▸ heap_alloc_new Wc _
  have s4 : W3.heap.size = Wc.heap.size + 1 := hW ▸ World.size_alloc _ _
  have c4 : Below Wc.heap.size Wc W3 := hW ▸ below_alloc (Below.refl _ _) _
  rw [s3, s2, s1, h13, hr, h14, h15] at a4
  rw [s2, s1, h13, hr, h14] at a3
  rw [s1, h13, hr] at a2
  rw [h13] at a1
  exact ⟨((a1.below c2).below c3).below c4, ((a2.mono (by omega)).below c3).below c4, a3.below c4, a4, below2 (below2 (below2 c1 c2) c3) c4, by omega⟩
/-- The scales so far. -/
structure ChB (T : List (List Int)) (n : Nat) (W0 : World) (gr g15 base : Nat) (pre : List (Nat × Int)) (W : World) : Prop where
  row : OwnI 3 .i64 base W (.slice (some ⟨gr, 0, none⟩) n n) (chP T n pre).1
  cnt : Blk W g15 #[.int .i64 ((chP T n pre).2 : Int)] 3
  upd : Upd (fun x => x = gr ∨ x = g15) W0 W
theorem ChB.next {T : List (List Int)} {n gr g15 base k kk : Nat} {W0 W V : World} {pre : List (Nat × Int)} {R : List Int} {b Y : Int} (hs : ChB T n W0 gr g15 base pre W) (hb : Below W.heap.size W V) (h1 : gr < g15) (h2 : g15 < W0.heap.size) (hst : chP T n pre = (R, kk)) (hY : (lstF (chV T kk R b) allL).1 = Y) :
    KeepsFrom W0.heap.size W ((V.setCell ⟨gr, k, none⟩ (.int .i64 Y)).setCell ⟨g15, 0, none⟩ (.int .i64 ((kk : Int) + 1))) ∧ Keep (fun x => x ≠ gr ∧ x ≠ g15) W ((V.setCell ⟨gr, k, none⟩ (.int .i64 Y)).setCell ⟨g15, 0, none⟩ (.int .i64 ((kk : Int) + 1))) ∧ ChB T n W0 gr g15 base (pre ++ [(k, b)]) ((V.setCell ⟨gr, k, none⟩ (.int .i64 Y)).setCell ⟨g15, 0, none⟩ (.int .i64 ((kk : Int) + 1))) := by
  have hrow := hs.row.below hb
  have hcnt := hs.cnt.below hb
  rw [hst] at hrow hcnt
  have ua : Upd (fun x => x = gr) V (V.setCell ⟨gr, k, none⟩ (.int .i64 Y)) := Upd.setCell (fun x => x = gr) _ gr k _ rfl
  have ub : Upd (fun x => x = g15) (V.setCell ⟨gr, k, none⟩ (.int .i64 Y)) ((V.setCell ⟨gr, k, none⟩ (.int .i64 Y)).setCell ⟨g15, 0, none⟩ (.int .i64 ((kk : Int) + 1))) := Upd.setCell (fun x => x = g15) _ g15 0 _ rfl
  have hu : Upd (fun x => x = gr ∨ x = g15) W ((V.setCell ⟨gr, k, none⟩ (.int .i64 Y)).setCell ⟨g15, 0, none⟩ (.int .i64 ((kk : Int) + 1))) := ((Upd.of_below hb _).trans ua (fun _ _ h => .inl h)).trans ub (fun _ _ h => .inr h)
  have hsn := chP_snoc T n pre (k, b)
  rw [hst] at hsn
  refine ⟨keepsU hu (fun x _ h => by rcases h with h | h <;> omega), hu.keep (fun x h h3 => by rcases h3 with h3 | h3; exact h.1 h3; exact h.2 h3), ⟨?_, ?_, hs.upd.trans hu fun _ _ h => h⟩⟩
  · rw [hsn]
    show OwnI _ _ _ _ _ (R.set k (lstF (chV T kk R b) allL).1)
    rw [hY]
    exact ownI_keep (hrow.set k Y).1 (ub.keep (ok := fun x => x ≠ g15) fun _ h => h) (fun x e => by have h9 : gr = x := Option.some.inj e; omega)
  · rw [hsn]
    have h3 := (hcnt.keep (ua.keep (ok := fun x => x ≠ gr) fun _ h => h) (by omega)).set 0 (.int .i64 ((kk : Int) + 1))
    exact h3
theorem appendIn_k {F : Fence} {nF : Nat} {P : Program} {ops : Array Oper} {rest : List Oper} {o : Oper} {a : Act} {Q : Exit → Act → World → Prop} {α : Type} {k : Kd α} {W : World} (base : Nat) (hgd : o.guard = none) (s x0 : Operand) (t e : TypeId) (z : Value) (bytes : Nat) (ok : Nat → Prop)
    (ho : o.op = .call { callee := .builtin .append, args := #[s, x0], argTypes := #[t, t] })
    (ht : P.underlying t = some (.slice e)) (hinfo : (P.info? e).map (fun i => (i.zero, i.size, i.bytes)) = some (some z, k.size, bytes)) (hz : z.cells.size = k.size) (hk0 : 0 < k.size) (hb0 : 0 < bytes)
    (v : Value) (xs : List α) (x : α) (cs : List Value) (h1 : cs.all (·.oneCell') = true) (hs : a.eval s = v) (hx0 : a.eval x0 = .slice (some ⟨W.heap.size, 0, none⟩) 1 1)
    (HO : OwnK k e base ok W v xs) (hx : k.K (fun b => ok b ∧ v.ownBlock ≠ some b) W x cs) (hbase : base ≤ W.heap.size) (hl : (xs.length + 1) * bytes ≤ 140737488355328)
    (h : ∀ g cap w1, OwnK k e base ok w1 (.slice (some ⟨g, 0, none⟩) (xs.length + 1) cap) (xs ++ [x]) → W.grownBy w1 v.ownBlock → base ≤ g → (v.ownBlock = some g ∨ W.heap.size < g) → wpListIn F nF P ops Q rest (a.put o.dst (.slice (some ⟨g, 0, none⟩) (xs.length + 1) cap)) w1) :
    wpListIn F nF P ops Q (o :: rest) a (W.alloc (.cells cs.toArray e)) := by
  obtain ⟨g, cap, w1, hr, h2, h3, h4, h5⟩ := run_append_k (P := P) base t o.type e z bytes ok ht hinfo hz hk0 hb0 v xs x cs h1 HO hx hbase hl
  refine wpListIn_plain hgd fun K hK => ?_
  unfold Oper.wpIn
  refine ⟨by simp [Oper.about, ho, resolve, Target.leads, Sem.run_pure], ?_⟩
  rw [Oper.semAt_plain F _ _ (by rw [ho]; intro c hc'; cases hc')]
  simp [execOp, ho, resolve, invoke, builtin, hs, hx0, hr, Result.andThen]
  exact hK _ _ (h g cap w1 h2 h3 h4 h5)

end Go.Proofs.Ytkfgomhhenmmeaa

namespace Go.Proofs.Ytkfgomhhenmmeaa
open Go.RowKit Go.Shelf
attribute [local go_sem] Oper.semAt_some run_storeFn

set_option maxHeartbeats 4000000 in
set_option maxRecDepth 100000 in
theorem schoose0 (A B C : Option Addr) (c d f : Nat) (low high : List Int) (us : List Bool) (w : World) (hS : RI w A c low) (hT : RI w B d high) (hU : RB w C f us) (hl : low.length = us.length) (hh : high.length = us.length) (h128 : us.length ≤ 128) (h60 : isBoth low high us.length = true) (hE : (bndL low high (walkK us us.length)).all (fun b => decide (b.1 ≤ b.2)) = true) :
    Calls Try.prog 23 #[.slice A low.length c, .slice B high.length d, .slice C us.length f] w (ChooseP low high us w) := by
  have HE := Lib.hid hE
  have H6 := Lib.hid h60
  obtain ⟨gA, hA⟩ : ∃ gA, w.heap.size = gA := ⟨_, rfl⟩
  obtain ⟨g4, h4⟩ : ∃ g4, gA + 1 = g4 := ⟨_, rfl⟩
  obtain ⟨g6, h6⟩ : ∃ g6, g4 + 1 = g6 := ⟨_, rfl⟩
  obtain ⟨g7, h7⟩ : ∃ g7, g6 + 1 = g7 := ⟨_, rfl⟩
  obtain ⟨g8, h8⟩ : ∃ g8, g7 + 1 = g8 := ⟨_, rfl⟩
  obtain ⟨W1, hW1⟩ : ∃ W1, ((((w.alloc (.cells #[.slice A low.length c] 22)).alloc (.cells #[.slice B high.length d] 22)).alloc (.cells #[.slice none 0 0] 22)).alloc (.cells #[.int .i64 0] 3)).alloc (.cells #[.int .i64 0] 26) = W1 := ⟨_, rfl⟩
  have HST := Lib.hid (choose_start w W1 gA g4 g6 g7 g8 low.length high.length c d A B 0 hA h4 h6 h7 h8 hW1)
  have HN := Lib.hid (show w.heap.size = gA ∧ gA + 1 = g4 ∧ g4 + 1 = g6 ∧ g6 + 1 = g7 ∧ g7 + 1 = g8 from ⟨hA, h4, h6, h7, h8⟩)
  have HW1 := Lib.hid hW1
  have HS9 := Lib.hid hS
  have HT9 := Lib.hid hT
  have HU9 := Lib.hid hU
  have HS := Lib.hid (hS.below HST.out.2.2.2.2.2.1)
  have HT := Lib.hid (hT.below HST.out.2.2.2.2.2.1)
  have HU := Lib.hid ((hU.weak (ok' := fun x => x < gA) (fun x hx _ => by omega)).below HST.out.2.2.2.2.2.1)
  have e1 : ((low.length : Int) != (us.length : Int)) = false := by simp [hl]
  have e2 : ((high.length : Int) != (us.length : Int)) = false := by simp [hh]
  have e3 : decide (128 < (us.length : Int)) = false := decide_eq_false (by omega)
  have HL := Lib.hid (show low.length = us.length ∧ high.length = us.length ∧ us.length ≤ 128 from ⟨hl, hh, h128⟩)
  clear hS hT hU hl hh h60 hA h4 h6 h7 h8 hW1 hE
  refine (callsIn_wide (n := 9)).1 ?_
  refine callsIn_of_wp_marks Try.func23 rfl trivial ?_ rfl
  simp only [Try.ntmps23, List.size_toArray, List.length_cons, List.length_nil, Nat.reduceAdd, Nat.reduceSub, Array.replicate_succ, Array.replicate_zero, List.push_toArray, List.append_toArray, List.nil_append, List.cons_append]
  gi_wp2
  obtain ⟨hA, h4, h6, h7, h8⟩ := HN.out
  simp only [hA, h4, h6, h7, h8, HW1.out]
  clear hA h4 h6 h7 h8 HW1
  gi_loopw [40] (fun iv wr => ∃ k : Nat, iv = .int .i64 (k : Int) ∧ k ≤ us.length ∧ wr = W1) (fun iv _ => us.length - (intOf iv).toNat)
  case atStart => exact ⟨0, rfl, Nat.zero_le _, rfl⟩
  case round =>
  obtain ⟨k, rfl, hk, rfl⟩ := hrel
  by_cases hlt : k < us.length
  · obtain ⟨ad, rfl, hc⟩ := rd_int HS.out k (by have := HL.out; omega)
    obtain ⟨ad2, rfl, hc2⟩ := rd_int HT.out k (by have := HL.out; omega)
    have hki : (k : Int) < (us.length : Int) := by omega
    have hki1 : (k : Int) < (low.length : Int) := by have := HL.out; omega
    have hki2 : (k : Int) < (high.length : Int) := by have := HL.out; omega
    have k1 := HST.out.1.cell 0 rfl
    have k4 := HST.out.2.1.cell 0 rfl
    have hxy := isBoth_at H6.out hlt
    generalize nth 0 low k = x at hc hxy
    generalize nth 0 high k = y at hc2 hxy
    have HX := Lib.hid (fun W => is_any x W)
    have HY := Lib.hid (fun W => is_any y W)
    rw [show isB x = true by simp [isB]; omega] at HX
    rw [show isB y = true by simp [isB]; omega] at HY
    clear hxy hlt
    gi_wp2_with (first | (refine ⟨trivial, ?_⟩; gi_at_call 48; refine (callsIn_wide.2 (HX.out _)).mono ?_; rintro e w2 ⟨rfl, rfl⟩) | (refine ⟨trivial, ?_⟩; gi_at_call 48; refine (callsIn_wide.2 (HY.out _)).mono ?_; rintro e w2 ⟨rfl, rfl⟩))
    go_roundw
    case rel => exact ⟨k + 1, by go_num, by omega, trivial⟩
    case measure => simp [intOf]; omega
  obtain rfl : k = us.length := by omega
  clear hlt hk
  gi_wp2_with (refine ⟨trivial, ?_⟩; gi_at_call 39; refine (callsIn_wide.2 (walk_any _ _ _ _)).mono ?_; rintro e W0 ⟨gb, rfl, e1, e2, bB, b6⟩)
  obtain ⟨g10, hg10⟩ : ∃ g10, wr.heap.size = g10 := ⟨_, rfl⟩
  obtain ⟨x1, x4, x6, x7, x8, xb, xz⟩ := HST.out
  have hb10 := below_alloc (Below.refl wr.heap.size wr) (.cells #[.slice none 0 0] 83)
  have x10 : Blk (wr.alloc (.cells #[.slice none 0 0] 83)) g10 #[.slice none 0 0] 83 := by rw [← hg10]; exact heap_alloc_new wr _
  have hb0 := below2 hb10 b6
  have y1 := x1.below hb0
  have y4 := x4.below hb0
  have y6 := x6.below hb0
  have y7 := x7.below hb0
  have y8 := x8.below hb0
  have y10 := x10.below b6
  have hS0 := HS.out.below hb0
  have hT0 := HT.out.below hb0
  have hU0 := (HU.out.below hb0).weak (ok' := fun x => x < gA ∨ x = gb) fun _ _ h => .inl h
  have hbw := below2 xb hb0
  have he1 := e1.out
  have he2 := e2.out
  simp only [World.size_alloc, hg10] at he1
  have HN2 := Lib.hid (show w.heap.size = gA ∧ gA + 1 = g4 ∧ g4 + 1 = g6 ∧ g6 + 1 = g7 ∧ g7 + 1 = g8 ∧ g8 + 1 = g10 ∧ g10 + 1 = gb ∧ W0.heap.size = gb + 1 from ⟨HN.out.1, HN.out.2.1, HN.out.2.2.1, HN.out.2.2.2.1, HN.out.2.2.2.2, by omega, by omega, by omega⟩)
  have HBW := Lib.hid hbw
  have hI0 : ChA low high W0 g10 [] W0 := ⟨⟨_, y10, OwnK.nil _ _ _ _ _⟩, rfl, Upd.refl _ _⟩
  have lgb : gb < W0.heap.size := by omega
  have lgA : gA < gb := by have := HN2.out; omega
  simp only [hg10]
  clear e1 e2 he1 he2 b6 hb10 x1 x4 x6 x7 x8 x10 xb xz hb0 hbw hg10
  have hS9 : Sl (kInt .i64) (fun x => x ≠ g10) W0 A c low := (HS9.out.weak (ok' := fun x => x < gA) (fun x hx _ => by have := HN2.out; omega)).below HBW.out |>.weak fun x _ h => by have := HN2.out; omega
  have hT9 : Sl (kInt .i64) (fun x => x ≠ g10) W0 B d high := (HT9.out.weak (ok' := fun x => x < gA) (fun x hx _ => by have := HN2.out; omega)).below HBW.out |>.weak fun x _ h => by have := HN2.out; omega
  refine range_next rfl (by decide) (gf := 63) (lb := #[.pointer (some ⟨gb, 0, none⟩)]) rfl trivial (enters_of Try.func63 (by kernel_rfl) rfl)
    (walk1_yields gb C f us W0 (fun x => x < gA ∨ x = gb) hU0 bB (.inr rfl) 8 (by decide)) (fun r h => h.elim) (fun r h => by rcases h with h | h <;> omega) (Below.refl _ _) (fun _ => rfl)
    (fun pre W => ChA low high W0 g10 pre W) (fun _ _ _ => False) ?hI (fun _ _ _ _ _ h _ _ => h) hI0
    (fun x a' W => a' = { tmps := (.slice A low.length c :: .slice B high.length d :: .slice C us.length f :: .pointer (some ⟨gA, 0, none⟩) :: .pointer (some ⟨g4, 0, none⟩) :: undef :: .pointer (some ⟨g6, 0, none⟩) :: .pointer (some ⟨g7, 0, none⟩) :: .pointer (some ⟨g8, 0, none⟩) :: u9 :: .pointer (some ⟨g10, 0, none⟩) :: .int .i64 (x.1 : Int) :: undef :: undef :: undef :: undef :: undef :: undef :: undef :: undef :: undef :: .slice A low.length c :: .int .i64 (low.length : Int) :: .slice C us.length f :: .int .i64 (us.length : Int) :: .bool false :: .bool false :: .slice B high.length d :: .int .i64 (high.length : Int) :: .slice C us.length f :: .int .i64 (us.length : Int) :: .bool false :: .bool false :: .bool false :: .slice C us.length f :: .int .i64 (us.length : Int) :: .bool false :: .bool false :: .slice C us.length f :: .int .i64 (us.length : Int) :: .int .i64 (us.length : Int) :: .bool false :: u42 :: u43 :: u44 :: u45 :: u46 :: u47 :: u48 :: u49 :: u50 :: u51 :: u52 :: u53 :: u54 :: u55 :: u56 :: u57 :: .slice C us.length f :: .func (.func 63) #[] #[.pointer (some ⟨gb, 0, none⟩)] :: .int .i64 (x.1 : Int) :: .int .i64 x.2 :: undef :: undef :: undef :: undef :: undef :: undef :: undef :: undef :: undef :: undef :: undef :: undef :: undef :: undef :: undef :: undef :: undef :: undef :: undef :: undef :: undef :: undef :: undef :: undef :: undef :: undef :: undef :: undef :: undef :: undef :: undef :: undef :: undef :: undef :: undef :: undef :: undef :: undef :: undef :: undef :: undef :: undef :: undef :: undef :: undef :: undef :: undef :: undef :: undef :: undef :: undef :: undef :: undef :: undef :: undef :: undef :: undef :: undef :: undef :: undef :: undef :: undef :: undef :: []).toArray, defers := [] })
    (fun _ _ _ _ _ _ h _ _ => h) ?assign ?body ?done (fun _ _ _ _ _ _ h _ => h.elim)
  case hI =>
    rintro s X Y row hs hg hr
    have hO : Other X row := fun r e => by
      rcases hr r e with h | ⟨_, x, hx, hc⟩
      · exact h.elim
      · exact ⟨x, hx, hc⟩
    have hu : Upd (fun x => W0.heap.size ≤ x) X Y := Upd.of_grown hg (fun r e => by
      rcases hr r e with h | ⟨h, _⟩
      · exact h.elim
      · exact h)
    obtain ⟨v, h1, h2⟩ := hs.box
    exact ⟨⟨v, h1.firm hg hO, h2.firm (fun _ h => h) hg hO⟩, hs.ok, hs.upd.trans hu (fun b hb e => by omega)⟩
  case assign =>
    intro l pre x W K hi _ hK
    gi_wp2
    exact hK _ _ (KeepsOthers.refl _ |>.from _) (Keep.refl _ _) hi rfl
  case body =>
    rintro l pre x a' W hs rfl ⟨k, hk, huk, hpre, hx⟩
    subst hx
    have hkp := hs.upd.keep (ok := fun x => x ≠ g10) (fun _ h => h)
    have n10 : ∀ x, x < g10 → x ≠ g10 := fun x h => by omega
    have k1 := (y1.keep hkp (n10 _ (by have := HN2.out; omega))).cell 0 rfl
    have k4 := (y4.keep hkp (n10 _ (by have := HN2.out; omega))).cell 0 rfl
    obtain ⟨ad, rfl, hcx⟩ := rd_int (hS9.keep hkp) k (by have := HL.out; omega)
    obtain ⟨ad2, rfl, hcy⟩ := rd_int (hT9.keep hkp) k (by have := HL.out; omega)
    have hki1 : (k : Int) < (low.length : Int) := by have := HL.out; omega
    have hki2 : (k : Int) < (high.length : Int) := by have := HL.out; omega
    have HSN := Lib.hid (bndL_snoc low high pre (k, befK us k))
    have hrx := isBoth_at H6.out hk
    have HOKX := Lib.hid (show ∀ b : Bool, decide (nth 0 low k ≤ nth 0 high k) = b → (bndL low high (pre ++ [(k, befK us k)])).all (fun b => decide (b.1 ≤ b.2)) = b from fun b hb => by
      rw [bndL_snoc, List.all_append, hs.ok]; simp [hb])
    have HPL := Lib.hid (show (bndL low high pre).length ≤ 128 by rw [bndL, List.length_map, hpre]; have := walkK_len us k; have := HL.out; omega)
    have HPRE := Lib.hid (show k < us.length ∧ pre ++ [(k, befK us k)] = walkK us (k + 1) from ⟨hk, by rw [hpre]; exact (walkK_hit huk).1.symm⟩)
    have HLE := Lib.hid (fun (h : (bndL low high (walkK us us.length)).all (fun b => decide (b.1 ≤ b.2)) = true) => show nth 0 low k ≤ nth 0 high k from by
      obtain ⟨t, ht⟩ := walkK_prefix us (k + 1) us.length (by omega)
      rw [ht, ← HPRE.out.2, bndL, List.map_append, List.all_append, Bool.and_eq_true] at h
      have h2 := List.all_eq_true.1 h.1 (nth 0 low k, nth 0 high k) (List.mem_map.2 ⟨(k, befK us k), by simp, rfl⟩)
      simpa using h2)
    generalize nth 0 low k = lo at hcx hrx HSN HOKX HLE
    generalize nth 0 high k = hi at hcy hrx HSN HOKX HLE
    have HWI := Lib.hid hs
    clear hs hkp hpre huk n10
    gi_wp2
    refine wpIn_region_G 10 (fun W9 => W9.cell? ⟨gA, 0, none⟩ = some (.slice (some ad) low.length c) ∧ W9.cell? ⟨g4, 0, none⟩ = some (.slice (some ad2) high.length d) ∧ W9.cell? (ad.add k) = some (.int .i64 lo) ∧ W9.cell? (ad2.add k) = some (.int .i64 hi)) (by kernel_rfl) (by kernel_rfl) (fun ⟨_, _, h⟩ => h) ⟨k1, k4, hcx, hcy⟩ (fun hHeld => ?_)
    refine wpAnyG_takeL (i := 0) (.slice (some ad) low.length c) [10] rfl (by kernel_rfl) (fun _ _ _ h => h) hHeld (by rfl) ?_ ?_
    · (intro W' hSw; (try dsimp only at hSw); go_simp)
    try simp only [Act.put, List.setIfInBounds_toArray, List.set_cons_zero, List.set_cons_succ]
    refine wpAnyG_takeL (i := 1) (.int .i64 k) [10] rfl (by kernel_rfl) (fun _ _ _ h => h) hHeld (by rfl) ?_ ?_
    · (intro W' hSw; (try dsimp only at hSw); go_simp)
    try simp only [Act.put, List.setIfInBounds_toArray, List.set_cons_zero, List.set_cons_succ]
    refine wpAnyG_takeL (i := 2) (.pointer (some (ad.add k))) [10] rfl (by kernel_rfl) (fun _ _ _ h => h) hHeld (by rfl) ?_ ?_
    · (intro W' hSw; (try dsimp only at hSw); go_simp)
    try simp only [Act.put, List.setIfInBounds_toArray, List.set_cons_zero, List.set_cons_succ]
    refine wpAnyG_takeL (i := 3) (.int .i64 lo) [10] rfl (by kernel_rfl) (fun _ _ _ h => h) hHeld (by rfl) ?_ ?_
    · (intro W' hSw; (try dsimp only at hSw); go_simp)
    try simp only [Act.put, List.setIfInBounds_toArray, List.set_cons_zero, List.set_cons_succ]
    refine wpAnyG_takeL (i := 4) (.slice (some ad2) high.length d) [10] rfl (by kernel_rfl) (fun _ _ _ h => h) hHeld (by rfl) ?_ ?_
    · (intro W' hSw; (try dsimp only at hSw); go_simp)
    try simp only [Act.put, List.setIfInBounds_toArray, List.set_cons_zero, List.set_cons_succ]
    refine wpAnyG_takeL (i := 5) (.int .i64 k) [10] rfl (by kernel_rfl) (fun _ _ _ h => h) hHeld (by rfl) ?_ ?_
    · (intro W' hSw; (try dsimp only at hSw); go_simp)
    try simp only [Act.put, List.setIfInBounds_toArray, List.set_cons_zero, List.set_cons_succ]
    refine wpAnyG_takeL (i := 6) (.pointer (some (ad2.add k))) [10] rfl (by kernel_rfl) (fun _ _ _ h => h) hHeld (by rfl) ?_ ?_
    · (intro W' hSw; (try dsimp only at hSw); go_simp)
    try simp only [Act.put, List.setIfInBounds_toArray, List.set_cons_zero, List.set_cons_succ]
    refine wpAnyG_takeL (i := 7) (.int .i64 hi) [10] rfl (by kernel_rfl) (fun _ _ _ h => h) hHeld (by rfl) ?_ ?_
    · (intro W' hSw; (try dsimp only at hSw); go_simp)
    try simp only [Act.put, List.setIfInBounds_toArray, List.set_cons_zero, List.set_cons_succ]
    refine wpAnyG_takeL (i := 8) (.agg #[.int .i64 lo, .int .i64 hi]) [10] rfl (by kernel_rfl) (fun _ _ _ h => h) hHeld (by rfl) ?_ ?_
    · (intro W' hSw; (try dsimp only at hSw); go_simp)
    try simp only [Act.put, List.setIfInBounds_toArray, List.set_cons_zero, List.set_cons_succ]
    clear hHeld
    refine wpAnyG_oneL (i := 9) (by kernel_rfl) rfl (fun K hK => ?_)
    refine step_new #[.int .i64 0, .int .i64 0] 85 rfl ?hr ?_
    case hr => first | (go_simp; done) | (go_simp; rfl)
    intro g12 V2 eg12 zg12 d2 z12
    have HBX := Lib.hid (below2 (Below.refl W.heap.size W).drew d2)
    refine hK.out _ _ (fun _ => ⟨cell_below HBX.out k1, cell_below HBX.out k4, cell_below HBX.out hcx, cell_below HBX.out hcy⟩) ?_
    clear hK K
    try simp only [Act.put, List.setIfInBounds_toArray, List.set_cons_zero, List.set_cons_succ]
    refine wpAnyG_oneL (i := 10) (by kernel_rfl) rfl (fun K hK => ?_)
    refine step_put2 (.int .i64 lo) (.int .i64 hi) rfl 85 (.tmp 12) (.tmp 70) rfl g12 85 _ rfl rfl z12 sizeBd rfl rfl rfl ?_
    intro V3 q12 t12 r12
    refine hK.out _ _ (fun h => Bool.noConfusion (show true = false from h)) ?_
    clear hK K
    try simp only [Act.put]
    refine wpAnyG_done (by kernel_rfl) ?_ _
    have hWg : W.heap.size ≤ g12 := by have := eg12.out; have h9 : W.drew.heap.size = W.heap.size := rfl; omega
    have hb3 : Below W.heap.size W V3 := below_grown HBX.out HBX.out.size t12 (fun r e => by cases e; exact hWg)
    have p0 : V3.cell? ⟨g12, 0, none⟩ = some (.int .i64 lo) := q12.cell 0 rfl
    have p1 : V3.cell? ⟨g12, 1, none⟩ = some (.int .i64 hi) := q12.cell 1 rfl
    have HB3 := Lib.hid hb3
    have HQ12 := Lib.hid q12
    have HWG := Lib.hid hWg
    clear HBX d2 z12 eg12 zg12 t12 r12 q12 hb3 hWg k1 k4 hcx hcy hki1 hki2
    have hnl : ¬ hi < lo := by have := HLE.out HE.out; omega
    obtain ⟨v, hv, hov⟩ := HWI.out.box
    have hov3 := hov.below HB3.out
    have hv3 := hv.below HB3.out
    have hvb := hov3.base_le
    obtain ⟨Av, cv, rfl, _⟩ := hov3.rd
    have c10 : V3.cell? ⟨g10, 0, none⟩ = some (.slice Av (bndL low high pre).length cv) := hv3.cell 0 rfl
    obtain ⟨P, hP⟩ : ∃ P, (bndL low high pre).length = P := ⟨_, rfl⟩
    have HOV := Lib.hid hov3
    have HV3 := Lib.hid hv3
    have HVB := Lib.hid hvb
    have HPP := Lib.hid hP
    rw [hP] at c10
    have HUP := Lib.hid (show W0.heap.size ≤ V3.heap.size from by have := HWI.out.upd.size; have := HB3.out.size; omega)
    have H10 := Lib.hid (show g10 < W0.heap.size from by have := HN2.out; omega)
    have HOK2 := Lib.hid (HOKX.out true (decide_eq_true (HLE.out HE.out)))
    clear hv hov hov3 hv3 hvb hP
    gi_wp2_with (gi_at_builtin; (refine appendIn_k (k := kBd) (W := V3) W0.heap.size rfl (.tmp 81) (.tmp 83) 83 85 _ 16 (fun _ => False) rfl Try.underlying83 infoBd rfl (by decide) (by decide) _ (bndL low high pre) (lo, hi) [.int .i64 lo, .int .i64 hi] rfl rfl rfl (by rw [← HPP.out]; exact HOV.out) rfl HUP.out (by have := HPL.out; omega) ?_); intro g5 cap5 w5 hO5 hg5 hb5 ha5; rw [HPP.out] at hO5 ⊢; have h15 := HV3.out.keep (Keep.of_grown hg5) (fun e => by have := HVB.out g10 (by rw [HPP.out]; exact e.symm); have := H10.out; omega); rw [HPP.out] at h15; have c15 := h15.cell 0 rfl; have f15 := h15.free 0; have HO5 := Lib.hid hO5; have HG5 := Lib.hid hg5; have H15 := Lib.hid h15; clear hO5 hg5 hb5 ha5 h15)
    obtain ⟨t1, t2, t3⟩ := ChA.next (x := (k, befK us k)) HWI.out H10.out HB3.out HOV.out HO5.out (by rw [HPP.out]; exact HG5.out) HSN.out HOK2.out (by rw [HPP.out]; exact H15.out)
    exact ⟨t1, t2.weak fun y h => by have := HN2.out; rcases h with h | h <;> omega, t3⟩
  case done =>
  rintro D xs W hD rfl hs hK
  have hkp := hs.upd.keep (ok := fun x => x ≠ g10) (fun _ h => h)
  have n10 : ∀ x, x < g10 → x ≠ g10 := fun x h => by omega
  have hN := HN2.out
  have v6 := y6.keep hkp (n10 _ (by omega))
  have v7 := y7.keep hkp (n10 _ (by omega))
  have v8 := y8.keep hkp (n10 _ (by omega))
  have hbW : Below w.heap.size w W := HBW.out.trans (hs.upd.below HBW.out.size (fun x _ e => by omega))
  have hUW := ((HU9.out.weak (ok' := fun x => x < gA) (fun x hx _ => by omega)).below hbW)
  obtain ⟨v, hv, hov⟩ := hs.box
  obtain ⟨Av, cv, rfl, hbs⟩ := hov.rd
  have c10 := hv.cell 0 rfl
  obtain ⟨bs, hbse⟩ : ∃ bs, bndL low high (walkK us us.length) = bs := ⟨_, rfl⟩
  rw [hbse] at hbs c10
  have hbl : bs.length ≤ 128 := by rw [← hbse, bndL, List.length_map]; have := walkK_len us us.length; have := HL.out; omega
  have HTB := Lib.hid (tables_any Av cv bs W (hbs.weak fun _ _ _ => trivial) hbl)
  have hmk := make_row (P := Try.prog) 22 3 .i64 8 Try.underlying22 infoI (by decide) us.length (by omega)
  have HBS := Lib.hid (show bs.length = (walkK us us.length).length by rw [← hbse, bndL, List.length_map])
  have HBE := Lib.hid hbse
  have HV := Lib.hid (show Blk W g6 #[.slice none 0 0] 22 ∧ Blk W g7 #[.int .i64 0] 3 ∧ Blk W g8 #[.int .i64 0] 26 ∧ W.heap[D]? = some (.deferred (some [])) from ⟨v6, v7, v8, hK⟩)
  have HBWW := Lib.hid hbW
  have HUW := Lib.hid hUW
  have HD := Lib.hid (show W0.heap.size ≤ D ∧ g8 < W0.heap.size ∧ gA ≤ g6 ∧ g6 < g7 ∧ g7 < g8 ∧ w.heap.size = gA from ⟨hD, by omega, by omega, by omega, by omega, by omega⟩)
  clear hkp n10 hN v6 v7 v8 hbW hUW hv hov hbs hbse hbl hs hK y1 y4 y6 y7 y8 y10 hS0 hT0 hU0 hI0 lgb lgA hS9 hT9 bB HS HT HU HST HS9 HT9
  gi_wp2_with (first
    | (refine ⟨trivial, ?_⟩; gi_at_call 49; refine (callsIn_wide.2 HTB.out).mono ?_; rintro e W2 ⟨gt, ts, rfl, hT2, hDT, hgt, b2⟩; have HB2 := Lib.hid b2; have HT2 := Lib.hid hT2; have HDT := Lib.hid hDT; have HGT := Lib.hid hgt; clear b2 hT2 hDT hgt)
    | (refine ⟨trivial, ?_⟩; gi_at_call 39; refine (callsIn_wide.2 (walk_any _ _ _ _)).mono ?_; rintro e W4 ⟨gb2, rfl, e1, e2, bB, b6⟩))
  obtain ⟨g13, h13⟩ : ∃ g13, W2.heap.size = g13 := ⟨_, rfl⟩
  obtain ⟨gr, hr⟩ : ∃ gr, g13 + 1 = gr := ⟨_, rfl⟩
  obtain ⟨g14, h14⟩ : ∃ g14, gr + 1 = g14 := ⟨_, rfl⟩
  obtain ⟨g15, h15⟩ : ∃ g15, g14 + 1 = g15 := ⟨_, rfl⟩
  simp only [h13, hr, h14, h15] at e1 e2 b6 bB ⊢
  obtain ⟨W3, hW3⟩ : ∃ W3, (((W2.alloc (.cells #[.slice (some ⟨gt, 0, none⟩) (bs.length + 1) (bs.length + 1)] 86)).alloc (.cells (madeCells #[.int .i64 0] us.length) 3)).alloc (.cells #[.slice (some ⟨gr, 0, none⟩) us.length us.length] 22)).alloc (.cells #[.int .i64 0] 3) = W3 := ⟨_, rfl⟩
  rw [hW3] at e1 b6
  obtain ⟨x13, xr, x14, x15, xb, xz⟩ := chB_start W2 W3 g13 gr g14 g15 us.length _ HL.out.2.2 h13 hr h14 h15 hW3
  have hb24 := below2 xb b6
  have z13 := x13.below b6
  have zr := xr.below b6
  have z14 := x14.below b6
  have z15 := x15.below b6
  have zt := HT2.out.below hb24
  have he1 := e1.out
  have he2 := e2.out
  have hgtl := HT2.out.lt
  have hbWW := below2 HB2.out hb24
  have hlW := HV.out.1.lt
  have hlD := (Array.getElem?_eq_some_iff.1 HV.out.2.2.2).1
  have hz2 := HB2.out.size
  have HN3 := Lib.hid (show gt < g13 ∧ g13 + 1 = gr ∧ gr + 1 = g14 ∧ g14 + 1 = g15 ∧ g15 + 1 = gb2 ∧ W4.heap.size = gb2 + 1 ∧ D < g13 ∧ W.heap.size ≤ g13 from ⟨by omega, hr, h14, h15, by omega, by omega, by omega, by omega⟩)
  have HBW4 := Lib.hid hbWW
  have hgA9 : gA ≤ W.heap.size := by have := HBWW.out.size; have := HD.out; omega
  have HGL := Lib.hid (show gA ≤ W.heap.size from hgA9)
  have hU4 := (HUW.out.below hbWW).weak (ok' := fun x => x < gA ∨ x = gb2) fun _ _ h => .inl h
  obtain ⟨T, hT⟩ : ∃ T, tabP bs = T := ⟨_, rfl⟩
  have HTT := Lib.hid hT
  have HTL := Lib.hid (fun k (h : k < bs.length) => tabP_row_length bs k h)
  have HTM := Lib.hid (tabP_nth_le bs)
  rw [hT] at HDT HTL HTM
  have hI0 : ChB T us.length W4 gr g15 g13 [] W4 := ⟨zr, z15, Upd.refl _ _⟩
  have lgb2 : gb2 < W4.heap.size := by omega
  have lgA2 : gA < gb2 := by have := HN3.out; omega
  clear h13 hr h14 h15 hW3 x13 xr x14 x15 xb xz hb24 zr z15 he1 he2 hgtl hbWW hlW hlD hz2 hgA9 hT e1 e2 b6 hmk c10 HTB
  refine range_next rfl (by decide) (gf := 63) (lb := #[.pointer (some ⟨gb2, 0, none⟩)]) rfl trivial (enters_of Try.func63 (by kernel_rfl) rfl)
    (walk1_yields gb2 C f us W4 (fun x => x < gA ∨ x = gb2) hU4 bB (.inr rfl) 8 (by decide)) (fun r h => h.elim) (fun r h => by rcases h with h | h <;> omega) (Below.refl _ _) (fun _ => rfl)
    (fun pre W => ChB T us.length W4 gr g15 g13 pre W) (fun _ _ _ => False) ?hI (fun _ _ _ _ _ h _ _ => h) hI0
    (fun x a' W => a' = { tmps := (.slice A low.length c :: .slice B high.length d :: .slice C us.length f :: .pointer (some ⟨gA, 0, none⟩) :: .pointer (some ⟨g4, 0, none⟩) :: undef :: .pointer (some ⟨g6, 0, none⟩) :: .pointer (some ⟨g7, 0, none⟩) :: .pointer (some ⟨g8, 0, none⟩) :: u9 :: .pointer (some ⟨g10, 0, none⟩) :: undef :: undef :: .pointer (some ⟨g13, 0, none⟩) :: .pointer (some ⟨g14, 0, none⟩) :: .pointer (some ⟨g15, 0, none⟩) :: .int .i64 (x.1 : Int) :: .int .i64 x.2 :: undef :: undef :: undef :: .slice A low.length c :: .int .i64 (low.length : Int) :: .slice C us.length f :: .int .i64 (us.length : Int) :: .bool false :: .bool false :: .slice B high.length d :: .int .i64 (high.length : Int) :: .slice C us.length f :: .int .i64 (us.length : Int) :: .bool false :: .bool false :: .bool false :: .slice C us.length f :: .int .i64 (us.length : Int) :: .bool false :: .bool false :: .slice C us.length f :: .int .i64 (us.length : Int) :: .int .i64 (us.length : Int) :: .bool false :: u42 :: u43 :: u44 :: u45 :: u46 :: u47 :: u48 :: u49 :: u50 :: u51 :: u52 :: u53 :: u54 :: u55 :: u56 :: u57 :: .slice C us.length f :: .func (.func 63) #[] #[.pointer (some ⟨gb, 0, none⟩)] :: undef :: undef :: undef :: undef :: undef :: undef :: undef :: undef :: undef :: undef :: undef :: undef :: undef :: undef :: undef :: undef :: undef :: undef :: undef :: undef :: undef :: undef :: undef :: undef :: undef :: .slice Av bs.length cv :: .slice (some ⟨gt, 0, none⟩) (bs.length + 1) (bs.length + 1) :: .slice C us.length f :: .int .i64 (us.length : Int) :: .slice (some ⟨gr, 0, none⟩) us.length us.length :: .slice C us.length f :: .func (.func 63) #[] #[.pointer (some ⟨gb2, 0, none⟩)] :: .int .i64 (x.1 : Int) :: .int .i64 x.2 :: undef :: undef :: undef :: undef :: undef :: undef :: undef :: undef :: undef :: undef :: undef :: undef :: undef :: undef :: undef :: undef :: undef :: undef :: undef :: undef :: undef :: undef :: undef :: undef :: undef :: undef :: undef :: undef :: undef :: undef :: undef :: []).toArray, defers := [] })
    (fun _ _ _ _ _ _ h _ _ => h) ?assign ?body ?done (fun _ _ _ _ _ _ h _ => h.elim)
  case hI =>
    rintro s X Y row hs hg hr
    have hO : Other X row := fun r e => by
      rcases hr r e with h | ⟨_, x, hx, hc⟩
      · exact h.elim
      · exact ⟨x, hx, hc⟩
    have hu : Upd (fun x => W4.heap.size ≤ x) X Y := Upd.of_grown hg (fun r e => by
      rcases hr r e with h | ⟨h, _⟩
      · exact h.elim
      · exact h)
    exact ⟨hs.row.firm hg hO, hs.cnt.firm hg hO, hs.upd.trans hu (fun b hb e => by omega)⟩
  case assign =>
    intro l pre x W K hi _ hK
    gi_wp2
    exact hK _ _ (KeepsOthers.refl _ |>.from _) (Keep.refl _ _) hi rfl
  case body =>
    rintro l pre x a' W5 hs rfl ⟨k, hk, huk, hpre, hx⟩
    subst hx
    have hkp := hs.upd.keep (ok := fun x => x ≠ gr ∧ x ≠ g15) (fun _ h h2 => by rcases h2 with h2 | h2; exact h.1 h2; exact h.2 h2)
    have q13 := z13.keep hkp (by have := HN3.out; omega)
    have q14 := z14.keep hkp (by have := HN3.out; omega)
    have qt := zt.keep hkp (by have := HN3.out; omega)
    have k13 := q13.cell 0 rfl
    have k14 : W5.cell? ⟨g14, 0, none⟩ = some (.slice (some ⟨gr, 0, none⟩) us.length us.length) := q14.cell 0 rfl
    have hfa := chP_facts T us.length pre
    have hrow := hs.row
    have q15 := hs.cnt
    obtain ⟨st, hst⟩ : ∃ st, chP T us.length pre = st := ⟨_, rfl⟩
    obtain ⟨R, kk⟩ := st
    rw [hst] at hfa hrow q15
    simp only at hfa hrow q15
    have hpl : pre.length < bs.length := by
      obtain ⟨t, ht⟩ := walkK_prefix us (k + 1) us.length (by omega)
      rw [HBS.out, ht, (walkK_hit huk).1, ← hpre]; simp
    have hkk : kk < bs.length := by omega
    have hbl : bs.length ≤ 128 := by rw [HBS.out]; have := walkK_len us us.length; have := HL.out; omega
    have k15 : W5.cell? ⟨g15, 0, none⟩ = some (.int .i64 (kk : Int)) := q15.cell 0 rfl
    have hwkk : IntKind.i64.wrap ((kk : Int) + 1) = (kk : Int) + 1 := IntWalk.i64_in _ (by omega)
    have hkki : (kk : Int) < (bs.length : Int) + 1 := by omega
    have hki : (k : Int) < (us.length : Int) := by omega
    have HROW := Lib.hid hrow
    have HQ15 := Lib.hid q15
    have HST2 := Lib.hid hst
    have HRL := Lib.hid (show R.length = us.length ∧ k < us.length from ⟨hfa.1, hk⟩)
    have HQ13 := Lib.hid q13
    have HQT := Lib.hid qt
    have HWI := Lib.hid hs
    have hrg := hfa.2.2
    have HKK := Lib.hid hkk
    have n1 : gr ≠ g15 := by have := HN3.out; omega
    have hbj := befK_lt us k
    clear hs hkp q13 q14 q15 qt hrow hst hfa hpl hbl hpre huk hkk
    by_cases hb : befK us k < 0
    · have hd : decide (0 ≤ befK us k) = false := decide_eq_false (by omega)
      obtain ⟨V, hV⟩ : ∃ V : Int → Int, (fun s => nth 0 (nth [] T kk) s.toNat) = V := ⟨_, rfl⟩
      have hVV : chV T kk R (befK us k) = V := by unfold chV; rw [if_pos hb]; exact hV
      obtain ⟨L, hL⟩ : ∃ L, lstF V allL = L := ⟨_, rfl⟩
      obtain ⟨Y, Yb⟩ := L
      have HLV := Lib.hid hL
      have HY := Lib.hid (show (lstF (chV T kk R (befK us k)) allL).1 = Y by rw [hVV, hL])
      have HBC := Lib.hid (Below.refl W5.heap.size W5)
      have HP := Lib.hid (fun W (hW : Below W5.heap.size W5 W) => show ∀ W9, Below W.heap.size W W9 → ∀ x, (x ∈ allL ∨ x = 0) → Calls Try.prog 50 (#[.int .i64 x] ++ #[.pointer (some ⟨g13, 0, none⟩), .pointer (some ⟨g15, 0, none⟩)]) W9 fun e w' => e = .returned (.int .i64 (V x)) ∧ Below W9.heap.size W9 w' from by
        intro W9 h9 x hx
        have h3 : 0 ≤ x ∧ x < 96 := by
          rcases hx with hx | rfl
          · exact allL_mem hx
          · omega
        obtain ⟨y, rfl⟩ : ∃ y : Nat, x = (y : Int) := ⟨x.toNat, by omega⟩
        have h10 := below2 hW h9
        have hc := blk_nums (HQT.out.below h10) (kk * 96 + y) (by have := HDT.out.len; have := HKK.out; omega)
        rw [HDT.out.rows kk y (Nat.zero_le _) HKK.out (by omega)] at hc
        refine (choose1_any g13 g15 gt (bs.length + 1) kk y _ W9 (HQ13.out.below h10) (HQ15.out.below h10) hc (by have := HKK.out; omega) (by omega)).mono ?_
        rintro e w' ⟨rfl, rfl⟩
        exact ⟨by rw [← hV]; simp, Below.refl _ _⟩)
      clear hb hV hVV hL hbj hrg
      gi_wp2
      refine wpIn_region_G 9 (fun W9 => W9.cell? ⟨g14, 0, none⟩ = some (.slice (some ⟨gr, 0, none⟩) us.length us.length)) (by kernel_rfl) (by kernel_rfl) (fun ⟨_, _, h⟩ => h) (cell_below (Below.refl _ _).drew k14) (fun hHeld => ?_)
      refine wpAnyG_takeL (i := 0) (.slice (some ⟨gr, 0, none⟩) us.length us.length) [9] rfl (by kernel_rfl) (fun _ _ _ h => h) hHeld (by rfl) ?_ ?_
      · (intro W' hSw; (try dsimp only at hSw); go_simp)
      try simp only [Act.put, List.setIfInBounds_toArray, List.set_cons_zero, List.set_cons_succ]
      refine wpAnyG_takeL (i := 1) (.int .i64 k) [9] rfl (by kernel_rfl) (fun _ _ _ h => h) hHeld (by rfl) ?_ ?_
      · (intro W' hSw; (try dsimp only at hSw); go_simp)
      try simp only [Act.put, List.setIfInBounds_toArray, List.set_cons_zero, List.set_cons_succ]
      refine wpAnyG_takeL (i := 3) (.func (.func 50) #[] #[.pointer (some ⟨g13, 0, none⟩), .pointer (some ⟨g15, 0, none⟩)]) [9] rfl (by kernel_rfl) (fun _ _ _ h => h) hHeld (by rfl) ?_ ?_
      · (intro W' hSw; (try dsimp only at hSw); go_simp)
      try simp only [Act.put, List.setIfInBounds_toArray, List.set_cons_zero, List.set_cons_succ]
      clear hHeld
      refine wpAnyG_oneL (i := 2) (by kernel_rfl) rfl (fun K hK => ?_)
      (go_simp; go_at_call 53; refine (all_any _).mono ?_; rintro e W6 ⟨v3, rfl, hO3, b3⟩; obtain ⟨A3, c3, rfl, hL3⟩ := own_ri hO3; have HB6 := Lib.hid (below2 ((Below.refl _ _).drew) b3); have HLS := Lib.hid (least_any A3 c3 allL 50 #[.pointer (some ⟨g13, 0, none⟩), .pointer (some ⟨g15, 0, none⟩)] V W6 hL3 (enters_of Try.func50 (by kernel_rfl) rfl) (HP.out W6 HB6.out)); clear hO3 hL3 b3; rw [allL_length])
      refine hK.out _ _ (fun _ => cell_below HB6.out k14) ?_
      clear hK K
      try simp only [Act.put, List.setIfInBounds_toArray, List.set_cons_zero, List.set_cons_succ]
      rw [HLV.out, allL_length] at HLS
      refine wpAnyG_oneL (i := 4) (by kernel_rfl) rfl (fun K hK => ?_)
      (go_simp; go_at_call 52; refine HLS.out.mono ?_; rintro e W7 ⟨rfl, b7⟩; have HB7 := Lib.hid (below2 HB6.out b7); clear b7)
      refine hK.out _ _ (fun _ => cell_below HB7.out k14) ?_
      clear hK K
      have hHeld := cell_below HB7.out k14
      refine wpAnyG_takeL (i := 5) (.tuple #[.int .i64 Y, .bool Yb]) [9] rfl (by kernel_rfl) (fun _ _ _ h => h) hHeld (by rfl) ?_ ?_
      · (intro W' hSw; (try dsimp only at hSw); go_simp)
      try simp only [Act.put, List.setIfInBounds_toArray, List.set_cons_zero, List.set_cons_succ]
      refine wpAnyG_takeL (i := 6) (.int .i64 Y) [9] rfl (by kernel_rfl) (fun _ _ _ h => h) hHeld (by rfl) ?_ ?_
      · (intro W' hSw; (try dsimp only at hSw); go_simp)
      try simp only [Act.put, List.setIfInBounds_toArray, List.set_cons_zero, List.set_cons_succ]
      refine wpAnyG_takeL (i := 8) (.pointer (some ⟨gr, k, none⟩)) [9] rfl (by kernel_rfl) (fun _ _ _ h => h) hHeld (by rfl) ?_ ?_
      · (intro W' hSw; (try dsimp only at hSw); go_simp)
      try simp only [Act.put, List.setIfInBounds_toArray, List.set_cons_zero, List.set_cons_succ]
      have HB8 := Lib.hid (below2 HBC.out HB7.out)
      have hr8 := (HROW.out.below HB8.out).at_ k (by have := HRL.out; omega)
      have cr8 := hr8.1
      have fr8 := hr8.2
      have q8 := HQ15.out.below HB8.out
      have c85 := q8.cell 0 rfl
      have f85 := q8.free 0
      clear q8 hr8
      refine wpAnyG_br (rs := [7, 9]) (by kernel_rfl) (by simp) ?_
      refine AllG.cons (i := 7) rfl (fun K hK => ?_) (AllG.cons (i := 9) rfl (fun K hK => ?_) AllG.nil)
      · go_simp
        refine hK.out _ _ (fun _ => hHeld) ?_
        clear hK K
        try simp only [Act.put, List.setIfInBounds_toArray, List.set_cons_zero, List.set_cons_succ]
        refine wpAnyG_oneL (i := 9) (by kernel_rfl) rfl (fun K hK => ?_)
        go_simp
        refine hK.out _ _ (fun h => Bool.noConfusion (show true = false from h)) ?_
        clear hK K
        refine wpAnyG_done (by kernel_rfl) ?_ _
        gi_wp2
        obtain ⟨t1, t2, t3⟩ := ChB.next (k := k) HWI.out HB8.out (by have := HN3.out; omega) (by have := HN3.out; omega) HST2.out HY.out
        exact ⟨t1, t2.weak fun y h => by have := HN3.out; have := HGL.out; rcases h with h | h <;> omega, t3⟩
      · go_simp
        refine hK.out _ _ (fun h => Bool.noConfusion (show true = false from h)) ?_
        clear hK K
        try simp only [Act.put, List.setIfInBounds_toArray, List.set_cons_zero, List.set_cons_succ]
        refine wpAnyG_oneL (i := 7) (by kernel_rfl) rfl (fun K hK => ?_)
        go_simp
        refine hK.out _ _ (fun h => Bool.noConfusion (show true = false from h)) ?_
        clear hK K
        refine wpAnyG_done (by kernel_rfl) ?_ _
        gi_wp2
        obtain ⟨t1, t2, t3⟩ := ChB.next (k := k) HWI.out HB8.out (by have := HN3.out; omega) (by have := HN3.out; omega) HST2.out HY.out
        exact ⟨t1, t2.weak fun y h => by have := HN3.out; have := HGL.out; rcases h with h | h <;> omega, t3⟩

    · obtain ⟨j, hbe, hjk, huj⟩ := hbj.resolve_left (fun h => hb (by omega))
      have hd : decide ((0 : Int) ≤ (j : Int)) = true := decide_eq_true (by omega)
      rw [hbe]
      have hjl : j < us.length := by omega
      have hjli : (j : Int) < (us.length : Int) := by omega
      have crj := (HROW.out.at_ j (by have := HRL.out; omega)).1
      have hrj := hrg _ (nth_mem 0 R j (by have := HRL.out; omega))
      obtain ⟨V, hV⟩ : ∃ V : Int → Int, aftV (nth [] T kk) (nth 0 R j) = V := ⟨_, rfl⟩
      have hVV : chV T kk R (j : Int) = V := by unfold chV; rw [if_neg (by omega), Int.toNat_natCast]; exact hV
      obtain ⟨TK, hTK⟩ : ∃ TK, nth [] T kk = TK := ⟨_, rfl⟩
      have HTK := Lib.hid (HTL.out kk HKK.out)
      have HRG := Lib.hid (blk_range HQT.out HDT.out (Nat.zero_le _) HKK.out HTK.out)
      have HTB9 := Lib.hid (fun t => show nth 0 (nth [] T kk) t ≤ 1000000000 from by have := HTM.out kk t; have := HKK.out; have := HBS.out; have := walkK_len us us.length; have := HL.out; omega)
      rw [hTK] at hV HTK HRG HTB9
      obtain ⟨rj, hrje⟩ : ∃ rj, nth 0 R j = rj := ⟨_, rfl⟩
      rw [hrje] at hV crj hrj
      obtain ⟨rjn, hrjn⟩ : ∃ rjn : Nat, rj = (rjn : Int) := ⟨rj.toNat, by omega⟩
      have HRJ := Lib.hid hrjn
      have HRJB := Lib.hid (show rjn < 96 by omega)
      obtain ⟨L, hL⟩ : ∃ L, lstF V allL = L := ⟨_, rfl⟩
      obtain ⟨Y, Yb⟩ := L
      have HLV := Lib.hid hL
      have HY := Lib.hid (show (lstF (chV T kk R (j : Int)) allL).1 = Y by rw [hVV, hL])
      have HVE := Lib.hid hV
      clear hb hV hVV hL hbj hrg hbe hjk huj hTK hrje hrjn hrj
      gi_wp2
      have HBX := Lib.hid (Below.refl W5.heap.size W5).drew
      refine wpIn_region_G 9 (fun W9 => W9.cell? ⟨g13, 0, none⟩ = some (.slice (some ⟨gt, 0, none⟩) (bs.length + 1) (bs.length + 1)) ∧ W9.cell? ⟨g15, 0, none⟩ = some (.int .i64 (kk : Int)) ∧ W9.rangeAt gt (kk * 96) (nums .i64 TK) ∧ W9.cell? ⟨g14, 0, none⟩ = some (.slice (some ⟨gr, 0, none⟩) us.length us.length) ∧ W9.cell? ⟨gr, j, none⟩ = some (.int .i64 rj)) (by kernel_rfl) (by kernel_rfl) (fun ⟨_, _, h⟩ => h) ⟨cell_below HBX.out k13, cell_below HBX.out k15, rangeAt_below HRG.out HBX.out, cell_below HBX.out k14, cell_below HBX.out crj⟩ (fun hHeld => ?_)
      refine wpAnyG_takeL (i := 0) (.slice (some ⟨gt, 0, none⟩) (bs.length + 1) (bs.length + 1)) [9] rfl (by kernel_rfl) (fun _ _ _ h => h) hHeld (by rfl) ?_ ?_
      · (intro W' hSw; (try dsimp only at hSw); go_simp)
      try simp only [Act.put, List.setIfInBounds_toArray, List.set_cons_zero, List.set_cons_succ]
      refine wpAnyG_takeL (i := 1) (.int .i64 kk) [9] rfl (by kernel_rfl) (fun _ _ _ h => h) hHeld (by rfl) ?_ ?_
      · (intro W' hSw; (try dsimp only at hSw); go_simp)
      try simp only [Act.put, List.setIfInBounds_toArray, List.set_cons_zero, List.set_cons_succ]
      refine wpAnyG_takeL (i := 2) (.pointer (some ⟨gt, kk * 96, none⟩)) [9] rfl (by kernel_rfl) (fun _ _ _ h => h) hHeld (by rfl) ?_ ?_
      · (intro W' hSw; (try dsimp only at hSw); go_simp)
      try simp only [Act.put, List.setIfInBounds_toArray, List.set_cons_zero, List.set_cons_succ]
      refine wpAnyG_takeL (i := 3) (.agg (nums .i64 TK).toArray) [9] rfl (by kernel_rfl) (fun _ _ _ h => h) hHeld (by rfl) ?_ ?_
      · intro W9 hSw; obtain ⟨d9, hu9, hd9, hi9⟩ := costs_row; exact exec_load_mid _ _ rfl gt (kk * 96) rfl _ d9 hSw.2.2.1 hu9 hd9 (by rw [nums_length, HTK.out]; exact hi9)
      try simp only [Act.put, List.setIfInBounds_toArray, List.set_cons_zero, List.set_cons_succ]
      refine wpAnyG_takeL (i := 4) (.slice (some ⟨gr, 0, none⟩) us.length us.length) [9] rfl (by kernel_rfl) (fun _ _ _ h => h) hHeld (by rfl) ?_ ?_
      · (intro W' hSw; (try dsimp only at hSw); go_simp)
      try simp only [Act.put, List.setIfInBounds_toArray, List.set_cons_zero, List.set_cons_succ]
      refine wpAnyG_takeL (i := 5) (.int .i64 j) [9] rfl (by kernel_rfl) (fun _ _ _ h => h) hHeld (by rfl) ?_ ?_
      · (intro W' hSw; (try dsimp only at hSw); go_simp)
      try simp only [Act.put, List.setIfInBounds_toArray, List.set_cons_zero, List.set_cons_succ]
      refine wpAnyG_takeL (i := 6) (.pointer (some ⟨gr, j, none⟩)) [9] rfl (by kernel_rfl) (fun _ _ _ h => h) hHeld (by rfl) ?_ ?_
      · (intro W' hSw; (try dsimp only at hSw); go_simp)
      try simp only [Act.put, List.setIfInBounds_toArray, List.set_cons_zero, List.set_cons_succ]
      refine wpAnyG_takeL (i := 7) (.int .i64 rj) [9] rfl (by kernel_rfl) (fun _ _ _ h => h) hHeld (by rfl) ?_ ?_
      · (intro W' hSw; (try dsimp only at hSw); go_simp)
      try simp only [Act.put, List.setIfInBounds_toArray, List.set_cons_zero, List.set_cons_succ]
      clear hHeld
      refine wpAnyG_oneL (i := 8) (by kernel_rfl) rfl (fun K hK => ?_)
      (go_simp; go_at_call 51; refine (after_any TK rj _).mono ?_; rintro e W55 ⟨g1, g2, rfl, _, hk1, hk2, b4⟩; have HBC := Lib.hid (below2 HBX.out b4); have HK1 := Lib.hid hk1; have HK2 := Lib.hid hk2; clear hk1 hk2 b4)
      refine hK.out _ _ (fun _ => ⟨cell_below HBC.out k13, cell_below HBC.out k15, rangeAt_below HRG.out HBC.out, cell_below HBC.out k14, cell_below HBC.out crj⟩) ?_
      clear hK K
      try simp only [Act.put, List.setIfInBounds_toArray, List.set_cons_zero, List.set_cons_succ]
      refine wpAnyG_oneL (i := 9) (by kernel_rfl) rfl (fun K hK => ?_)
      go_simp
      refine hK.out _ _ (fun h => Bool.noConfusion (show true = false from h)) ?_
      clear hK K
      refine wpAnyG_done (by kernel_rfl) ?_ _
      have HP := Lib.hid (fun W (hW : Below W55.heap.size W55 W) => after_pure g1 g2 TK rjn W (by exact HK1.out.below hW) (by rw [← HRJ.out]; exact HK2.out.below hW) HTK.out HRJB.out HTB9.out)
      rw [← HRJ.out] at HP
      rw [HVE.out] at HP
      have k14' := k14
      replace k14 := cell_below HBC.out k14
      gi_wp2
      refine wpIn_region_G 9 (fun W9 => W9.cell? ⟨g14, 0, none⟩ = some (.slice (some ⟨gr, 0, none⟩) us.length us.length)) (by kernel_rfl) (by kernel_rfl) (fun ⟨_, _, h⟩ => h) (cell_below (Below.refl _ _).drew k14) (fun hHeld => ?_)
      refine wpAnyG_takeL (i := 0) (.slice (some ⟨gr, 0, none⟩) us.length us.length) [9] rfl (by kernel_rfl) (fun _ _ _ h => h) hHeld (by rfl) ?_ ?_
      · (intro W' hSw; (try dsimp only at hSw); go_simp)
      try simp only [Act.put, List.setIfInBounds_toArray, List.set_cons_zero, List.set_cons_succ]
      refine wpAnyG_takeL (i := 1) (.int .i64 k) [9] rfl (by kernel_rfl) (fun _ _ _ h => h) hHeld (by rfl) ?_ ?_
      · (intro W' hSw; (try dsimp only at hSw); go_simp)
      try simp only [Act.put, List.setIfInBounds_toArray, List.set_cons_zero, List.set_cons_succ]
      refine wpAnyG_takeL (i := 3) (.func (.func 74) #[] #[.pointer (some ⟨g1, 0, none⟩), .pointer (some ⟨g2, 0, none⟩)]) [9] rfl (by kernel_rfl) (fun _ _ _ h => h) hHeld (by rfl) ?_ ?_
      · (intro W' hSw; (try dsimp only at hSw); go_simp)
      try simp only [Act.put, List.setIfInBounds_toArray, List.set_cons_zero, List.set_cons_succ]
      clear hHeld
      refine wpAnyG_oneL (i := 2) (by kernel_rfl) rfl (fun K hK => ?_)
      (go_simp; go_at_call 53; refine (all_any _).mono ?_; rintro e W6 ⟨v3, rfl, hO3, b3⟩; obtain ⟨A3, c3, rfl, hL3⟩ := own_ri hO3; have HB6 := Lib.hid (below2 ((Below.refl _ _).drew) b3); have HLS := Lib.hid (least_any A3 c3 allL 74 #[.pointer (some ⟨g1, 0, none⟩), .pointer (some ⟨g2, 0, none⟩)] V W6 hL3 (enters_of Try.func74 (by kernel_rfl) rfl) (HP.out W6 HB6.out)); clear hO3 hL3 b3; rw [allL_length])
      refine hK.out _ _ (fun _ => cell_below HB6.out k14) ?_
      clear hK K
      try simp only [Act.put, List.setIfInBounds_toArray, List.set_cons_zero, List.set_cons_succ]
      rw [HLV.out, allL_length] at HLS
      refine wpAnyG_oneL (i := 4) (by kernel_rfl) rfl (fun K hK => ?_)
      (go_simp; go_at_call 52; refine HLS.out.mono ?_; rintro e W7 ⟨rfl, b7⟩; have HB7 := Lib.hid (below2 HB6.out b7); clear b7)
      refine hK.out _ _ (fun _ => cell_below HB7.out k14) ?_
      clear hK K
      have hHeld := cell_below HB7.out k14
      refine wpAnyG_takeL (i := 5) (.tuple #[.int .i64 Y, .bool Yb]) [9] rfl (by kernel_rfl) (fun _ _ _ h => h) hHeld (by rfl) ?_ ?_
      · (intro W' hSw; (try dsimp only at hSw); go_simp)
      try simp only [Act.put, List.setIfInBounds_toArray, List.set_cons_zero, List.set_cons_succ]
      refine wpAnyG_takeL (i := 6) (.int .i64 Y) [9] rfl (by kernel_rfl) (fun _ _ _ h => h) hHeld (by rfl) ?_ ?_
      · (intro W' hSw; (try dsimp only at hSw); go_simp)
      try simp only [Act.put, List.setIfInBounds_toArray, List.set_cons_zero, List.set_cons_succ]
      refine wpAnyG_takeL (i := 8) (.pointer (some ⟨gr, k, none⟩)) [9] rfl (by kernel_rfl) (fun _ _ _ h => h) hHeld (by rfl) ?_ ?_
      · (intro W' hSw; (try dsimp only at hSw); go_simp)
      try simp only [Act.put, List.setIfInBounds_toArray, List.set_cons_zero, List.set_cons_succ]
      have HB8 := Lib.hid (below2 HBC.out HB7.out)
      have hr8 := (HROW.out.below HB8.out).at_ k (by have := HRL.out; omega)
      have cr8 := hr8.1
      have fr8 := hr8.2
      have q8 := HQ15.out.below HB8.out
      have c85 := q8.cell 0 rfl
      have f85 := q8.free 0
      clear q8 hr8
      refine wpAnyG_br (rs := [7, 9]) (by kernel_rfl) (by simp) ?_
      refine AllG.cons (i := 7) rfl (fun K hK => ?_) (AllG.cons (i := 9) rfl (fun K hK => ?_) AllG.nil)
      · go_simp
        refine hK.out _ _ (fun _ => hHeld) ?_
        clear hK K
        try simp only [Act.put, List.setIfInBounds_toArray, List.set_cons_zero, List.set_cons_succ]
        refine wpAnyG_oneL (i := 9) (by kernel_rfl) rfl (fun K hK => ?_)
        go_simp
        refine hK.out _ _ (fun h => Bool.noConfusion (show true = false from h)) ?_
        clear hK K
        refine wpAnyG_done (by kernel_rfl) ?_ _
        gi_wp2
        obtain ⟨t1, t2, t3⟩ := ChB.next (k := k) HWI.out HB8.out (by have := HN3.out; omega) (by have := HN3.out; omega) HST2.out HY.out
        exact ⟨t1, t2.weak fun y h => by have := HN3.out; have := HGL.out; rcases h with h | h <;> omega, t3⟩
      · go_simp
        refine hK.out _ _ (fun h => Bool.noConfusion (show true = false from h)) ?_
        clear hK K
        try simp only [Act.put, List.setIfInBounds_toArray, List.set_cons_zero, List.set_cons_succ]
        refine wpAnyG_oneL (i := 7) (by kernel_rfl) rfl (fun K hK => ?_)
        go_simp
        refine hK.out _ _ (fun h => Bool.noConfusion (show true = false from h)) ?_
        clear hK K
        refine wpAnyG_done (by kernel_rfl) ?_ _
        gi_wp2
        obtain ⟨t1, t2, t3⟩ := ChB.next (k := k) HWI.out HB8.out (by have := HN3.out; omega) (by have := HN3.out; omega) HST2.out HY.out
        exact ⟨t1, t2.weak fun y h => by have := HN3.out; have := HGL.out; rcases h with h | h <;> omega, t3⟩

  case done =>
  rintro D2 xs W9 hD2 rfl hs hK2
  have hkp := hs.upd.keep (ok := fun x => x ≠ gr ∧ x ≠ g15) (fun _ h h2 => by rcases h2 with h2 | h2; exact h.1 h2; exact h.2 h2)
  have hfa := chP_facts T us.length (walkK us us.length)
  have q14 := z14.keep hkp (by have := HN3.out; omega)
  have k14 := q14.cell 0 rfl
  have hbw := HBW4.out.trans (hs.upd.below (n := W.heap.size) HBW4.out.size (fun x _ e => by have := HN3.out; omega))
  have hrow := hs.row
  obtain ⟨R, hR⟩ : ∃ R, (chP T us.length (walkK us us.length)).1 = R := ⟨_, rfl⟩
  rw [hR] at hrow hfa
  have HE0 := Lib.hid (show chooseE low high us = 0 by
    unfold chooseE; rw [if_neg (by have := HL.out; omega), if_neg (by rw [H6.out]; decide), if_neg (by rw [HE.out]; decide)])
  have HOO := Lib.hid (show chooseO low high us = R by unfold chooseO; rw [if_pos HE0.out, HBE.out, HTT.out]; exact hR)
  have HNN := Lib.hid (show chooseN low high us = (costS R us).1 by unfold chooseN; rw [if_pos HE0.out, HOO.out])
  have hC := scost_any (some ⟨gr, 0, none⟩) C us.length f R us W9 (by rw [← hfa.1]; exact own_sl (by rw [hfa.1]; exact hrow)) ((HUW.out.below hbw).any)
  rw [hfa.1] at hC
  have HC := Lib.hid hC
  have HROW := Lib.hid hrow
  have HBW9 := Lib.hid hbw
  have HK2 := Lib.hid hK2
  have HD2 := Lib.hid hD2
  have n67 : g6 ≠ g7 := by have := HD.out; omega
  have n68 : g6 ≠ g8 := by have := HD.out; omega
  have n78 : g7 ≠ g8 := by have := HD.out; omega
  have HQ14 := Lib.hid q14
  obtain ⟨⟨cn, ce⟩, hcc⟩ : ∃ cc, costS R us = cc := ⟨_, rfl⟩
  rw [hcc] at HC HNN
  clear hs hkp hfa q14 hbw hrow hR hC hK2 hD2 hcc bB z13 z14 zt hU4 hI0 lgb2 lgA2
  gi_wp2_with (refine ⟨trivial, ?_⟩; gi_at_call 13; refine (callsIn_wide.2 HC.out).mono ?_; rintro e W10 ⟨rfl, b10⟩; have HB10 := Lib.hid (below2 HBW9.out b10); have v6 := HV.out.1.below HB10.out; have v7 := HV.out.2.1.below HB10.out; have v8 := HV.out.2.2.1.below HB10.out; have k14 := (HQ14.out.below b10).cell 0 rfl; have c6 := v6.cell 0 rfl; have f6 := v6.free 0; have c7 := v7.cell 0 rfl; have f7 := v7.free 0; have c8 := v8.cell 0 rfl; have f8 := v8.free 0; have HV6 := Lib.hid v6; have HV7 := Lib.hid v7; have HV8 := Lib.hid v8; have HBT := Lib.hid b10; clear v6 v7 v8 b10)
  obtain ⟨p6, p7, p8, pu⟩ := choose_put HV6.out HV7.out HV8.out (by have := HD.out; omega) (by have := HD.out; omega) (.slice (some ⟨gr, 0, none⟩) us.length us.length) cn 0
  obtain ⟨W11, hW11⟩ : ∃ W11, ((W10.setCell ⟨g6, 0, none⟩ (.slice (some ⟨gr, 0, none⟩) us.length us.length)).setCell ⟨g7, 0, none⟩ (.int .i64 cn)).setCell ⟨g8, 0, none⟩ (.int .i64 0) = W11 := ⟨_, rfl⟩
  rw [hW11] at p6 p7 p8 pu ⊢
  have hD9 := HD.out
  have hN9 := HN3.out
  have hD29 := HD2.out
  have hK1' : W11.heap[D]? = some (.deferred (some [])) := (pu.blk D (by have h9 := (Array.getElem?_eq_some_iff.1 HV.out.2.2.2).1; have := HB10.out.size; omega) (by omega)).trans ((HB10.out.block D (Array.getElem?_eq_some_iff.1 HV.out.2.2.2).1).trans HV.out.2.2.2)
  have hl2 := (Array.getElem?_eq_some_iff.1 HK2.out).1
  have hK2' : W11.heap[D2]? = some (.deferred (some [])) := (pu.blk D2 (by have := HBT.out.size; omega) (by omega)).trans ((HBT.out.block D2 hl2).trans HK2.out)
  have hO2 : Other W11 (some D2) := fun r e => by cases e; exact ⟨_, hK2', rfl⟩
  have hK1'' : (W11.putObj D2 (.deferred none)).heap[D]? = some (.deferred (some [])) := (World.putObj_heap_other (by omega)).trans hK1'
  have hO1 : Other (W11.putObj D2 (.deferred none)) (some D) := fun r e => by cases e; exact ⟨_, hK1'', rfl⟩
  have g2 := grownBy_putObj' W11 D2 (.deferred none)
  have g1 := grownBy_putObj' (W11.putObj D2 (.deferred none)) D (.deferred none)
  refine ⟨by simp, .inl ⟨_, _, rfl, run_takeDeferred hK2', ⟨by simp, .inl ⟨_, _, rfl, run_takeDeferred hK1'', ?_⟩⟩⟩⟩
  refine ⟨_, choose_res _ _ g6 g7 g8 _ _ _ rfl rfl rfl ((p6.firm g2 hO2).firm g1 hO1) ((p7.firm g2 hO2).firm g1 hO1) ((p8.firm g2 hO2).firm g1 hO1), _, by rw [HNN.out, HE0.out], ?_, ?_⟩
  · rw [HOO.out]
    have hr9 := (HROW.out.below HBT.out)
    have hr11 := ownI_keep hr9 (pu.keep (ok := fun x => x ≠ g6 ∧ x ≠ g7 ∧ x ≠ g8) fun _ h h2 => by rcases h2 with h2 | h2 | h2; exact h.1 h2; exact h.2.1 h2; exact h.2.2 h2) (fun x e => by have h9 : gr = x := Option.some.inj e; have := HB2.out.size; have := HV.out.2.2.1.lt; omega)
    exact ((hr11.firm g2 hO2).firm g1 hO1).mono (by have := HBWW.out.size; omega)
  · have hb1 := HBWW.out.trans (HB10.out.mono HBWW.out.size)
    have hb2 := hb1.trans (pu.below (n := w.heap.size) hb1.size (fun x _ e => by omega))
    have hb3 := hb2.grown g2 hb2.size (fun r e => by cases e; omega)
    exact hb3.grown g1 hb3.size (fun r e => by cases e; omega)
end Go.Proofs.Ytkfgomhhenmmeaa

namespace Go.Proofs.Ytkfgomhhenmmeaa
open Go.RowKit Go.Shelf
attribute [local go_sem] Oper.semAt_some run_storeFn

/-- Left at a band whose bounds are not right. -/
structure ChX (low high : List Int) (us : List Bool) (W0 : World) (g6 g7 g8 g10 : Nat) (W : World) : Prop where
  b6 : Blk W g6 #[.slice none 0 0] 22
  b7 : Blk W g7 #[.int .i64 0] 3
  b8 : Blk W g8 #[.int .i64 5] 26
  upd : Upd (fun x => x = g6 ∨ x = g7 ∨ x = g8 ∨ x = g10) W0 W

set_option maxHeartbeats 4000000 in
set_option maxRecDepth 100000 in
theorem schoose5 (A B C : Option Addr) (c d f : Nat) (low high : List Int) (us : List Bool) (w : World) (hS : RI w A c low) (hT : RI w B d high) (hU : RB w C f us) (hl : low.length = us.length) (hh : high.length = us.length) (h128 : us.length ≤ 128) (h60 : isBoth low high us.length = true) (hE : (bndL low high (walkK us us.length)).all (fun b => decide (b.1 ≤ b.2)) = false) :
    Calls Try.prog 23 #[.slice A low.length c, .slice B high.length d, .slice C us.length f] w (ChooseP low high us w) := by
  have HE := Lib.hid hE
  have H6 := Lib.hid h60
  obtain ⟨gA, hA⟩ : ∃ gA, w.heap.size = gA := ⟨_, rfl⟩
  obtain ⟨g4, h4⟩ : ∃ g4, gA + 1 = g4 := ⟨_, rfl⟩
  obtain ⟨g6, h6⟩ : ∃ g6, g4 + 1 = g6 := ⟨_, rfl⟩
  obtain ⟨g7, h7⟩ : ∃ g7, g6 + 1 = g7 := ⟨_, rfl⟩
  obtain ⟨g8, h8⟩ : ∃ g8, g7 + 1 = g8 := ⟨_, rfl⟩
  obtain ⟨W1, hW1⟩ : ∃ W1, ((((w.alloc (.cells #[.slice A low.length c] 22)).alloc (.cells #[.slice B high.length d] 22)).alloc (.cells #[.slice none 0 0] 22)).alloc (.cells #[.int .i64 0] 3)).alloc (.cells #[.int .i64 0] 26) = W1 := ⟨_, rfl⟩
  have HST := Lib.hid (choose_start w W1 gA g4 g6 g7 g8 low.length high.length c d A B 0 hA h4 h6 h7 h8 hW1)
  have HN := Lib.hid (show w.heap.size = gA ∧ gA + 1 = g4 ∧ g4 + 1 = g6 ∧ g6 + 1 = g7 ∧ g7 + 1 = g8 from ⟨hA, h4, h6, h7, h8⟩)
  have HW1 := Lib.hid hW1
  have HS9 := Lib.hid hS
  have HT9 := Lib.hid hT
  have HS := Lib.hid (hS.below HST.out.2.2.2.2.2.1)
  have HT := Lib.hid (hT.below HST.out.2.2.2.2.2.1)
  have HU := Lib.hid ((hU.weak (ok' := fun x => x < gA) (fun x hx _ => by omega)).below HST.out.2.2.2.2.2.1)
  have e1 : ((low.length : Int) != (us.length : Int)) = false := by simp [hl]
  have e2 : ((high.length : Int) != (us.length : Int)) = false := by simp [hh]
  have e3 : decide (128 < (us.length : Int)) = false := decide_eq_false (by omega)
  have HL := Lib.hid (show low.length = us.length ∧ high.length = us.length ∧ us.length ≤ 128 from ⟨hl, hh, h128⟩)
  clear hS hT hU hl hh h60 hA h4 h6 h7 h8 hW1 hE
  refine (callsIn_wide (n := 9)).1 ?_
  refine callsIn_of_wp_marks Try.func23 rfl trivial ?_ rfl
  simp only [Try.ntmps23, List.size_toArray, List.length_cons, List.length_nil, Nat.reduceAdd, Nat.reduceSub, Array.replicate_succ, Array.replicate_zero, List.push_toArray, List.append_toArray, List.nil_append, List.cons_append]
  gi_wp2
  obtain ⟨hA, h4, h6, h7, h8⟩ := HN.out
  simp only [hA, h4, h6, h7, h8, HW1.out]
  clear hA h4 h6 h7 h8 HW1
  gi_loopw [40] (fun iv wr => ∃ k : Nat, iv = .int .i64 (k : Int) ∧ k ≤ us.length ∧ wr = W1) (fun iv _ => us.length - (intOf iv).toNat)
  case atStart => exact ⟨0, rfl, Nat.zero_le _, rfl⟩
  case round =>
  obtain ⟨k, rfl, hk, rfl⟩ := hrel
  by_cases hlt : k < us.length
  · obtain ⟨ad, rfl, hc⟩ := rd_int HS.out k (by have := HL.out; omega)
    obtain ⟨ad2, rfl, hc2⟩ := rd_int HT.out k (by have := HL.out; omega)
    have hki : (k : Int) < (us.length : Int) := by omega
    have hki1 : (k : Int) < (low.length : Int) := by have := HL.out; omega
    have hki2 : (k : Int) < (high.length : Int) := by have := HL.out; omega
    have k1 := HST.out.1.cell 0 rfl
    have k4 := HST.out.2.1.cell 0 rfl
    have hxy := isBoth_at H6.out hlt
    generalize nth 0 low k = x at hc hxy
    generalize nth 0 high k = y at hc2 hxy
    have HX := Lib.hid (fun W => is_any x W)
    have HY := Lib.hid (fun W => is_any y W)
    rw [show isB x = true by simp [isB]; omega] at HX
    rw [show isB y = true by simp [isB]; omega] at HY
    clear hxy hlt
    gi_wp2_with (first | (refine ⟨trivial, ?_⟩; gi_at_call 48; refine (callsIn_wide.2 (HX.out _)).mono ?_; rintro e w2 ⟨rfl, rfl⟩) | (refine ⟨trivial, ?_⟩; gi_at_call 48; refine (callsIn_wide.2 (HY.out _)).mono ?_; rintro e w2 ⟨rfl, rfl⟩))
    go_roundw
    case rel => exact ⟨k + 1, by go_num, by omega, trivial⟩
    case measure => simp [intOf]; omega
  obtain rfl : k = us.length := by omega
  clear hlt hk
  gi_wp2_with (refine ⟨trivial, ?_⟩; gi_at_call 39; refine (callsIn_wide.2 (walk_any _ _ _ _)).mono ?_; rintro e W0 ⟨gb, rfl, e1, e2, bB, b6⟩)
  obtain ⟨g10, hg10⟩ : ∃ g10, wr.heap.size = g10 := ⟨_, rfl⟩
  obtain ⟨x1, x4, x6, x7, x8, xb, xz⟩ := HST.out
  have hb10 := below_alloc (Below.refl wr.heap.size wr) (.cells #[.slice none 0 0] 83)
  have x10 : Blk (wr.alloc (.cells #[.slice none 0 0] 83)) g10 #[.slice none 0 0] 83 := by rw [← hg10]; exact heap_alloc_new wr _
  have hb0 := below2 hb10 b6
  have y1 := x1.below hb0
  have y4 := x4.below hb0
  have y6 := x6.below hb0
  have y7 := x7.below hb0
  have y8 := x8.below hb0
  have y10 := x10.below b6
  have hS0 := HS.out.below hb0
  have hT0 := HT.out.below hb0
  have hU0 := (HU.out.below hb0).weak (ok' := fun x => x < gA ∨ x = gb) fun _ _ h => .inl h
  have hbw := below2 xb hb0
  have he1 := e1.out
  have he2 := e2.out
  simp only [World.size_alloc, hg10] at he1
  have HN2 := Lib.hid (show w.heap.size = gA ∧ gA + 1 = g4 ∧ g4 + 1 = g6 ∧ g6 + 1 = g7 ∧ g7 + 1 = g8 ∧ g8 + 1 = g10 ∧ g10 + 1 = gb ∧ W0.heap.size = gb + 1 from ⟨HN.out.1, HN.out.2.1, HN.out.2.2.1, HN.out.2.2.2.1, HN.out.2.2.2.2, by omega, by omega, by omega⟩)
  have HBW := Lib.hid hbw
  have hI0 : ChA low high W0 g10 [] W0 := ⟨⟨_, y10, OwnK.nil _ _ _ _ _⟩, rfl, Upd.refl _ _⟩
  have lgb : gb < W0.heap.size := by omega
  have lgA : gA < gb := by have := HN2.out; omega
  simp only [hg10]
  clear e1 e2 he1 he2 b6 hb10 x1 x4 x6 x7 x8 x10 xb xz hb0 hbw hg10
  have hS9 : Sl (kInt .i64) (fun x => x ≠ g10) W0 A c low := (HS9.out.weak (ok' := fun x => x < gA) (fun x hx _ => by have := HN2.out; omega)).below HBW.out |>.weak fun x _ h => by have := HN2.out; omega
  have hT9 : Sl (kInt .i64) (fun x => x ≠ g10) W0 B d high := (HT9.out.weak (ok' := fun x => x < gA) (fun x hx _ => by have := HN2.out; omega)).below HBW.out |>.weak fun x _ h => by have := HN2.out; omega
  refine range_next rfl (by decide) (gf := 63) (lb := #[.pointer (some ⟨gb, 0, none⟩)]) rfl trivial (enters_of Try.func63 (by kernel_rfl) rfl)
    (walk1_yields gb C f us W0 (fun x => x < gA ∨ x = gb) hU0 bB (.inr rfl) 8 (by decide)) (fun r h => h.elim) (fun r h => by rcases h with h | h <;> omega) (Below.refl _ _) (fun _ => rfl)
    (fun pre W => ChA low high W0 g10 pre W) (fun c pre W => c = .ret ∧ ChX low high us W0 g6 g7 g8 g10 W) ?hI ?hIx hI0
    (fun x a' W => a' = { tmps := (.slice A low.length c :: .slice B high.length d :: .slice C us.length f :: .pointer (some ⟨gA, 0, none⟩) :: .pointer (some ⟨g4, 0, none⟩) :: undef :: .pointer (some ⟨g6, 0, none⟩) :: .pointer (some ⟨g7, 0, none⟩) :: .pointer (some ⟨g8, 0, none⟩) :: u9 :: .pointer (some ⟨g10, 0, none⟩) :: .int .i64 (x.1 : Int) :: undef :: undef :: undef :: undef :: undef :: undef :: undef :: undef :: undef :: .slice A low.length c :: .int .i64 (low.length : Int) :: .slice C us.length f :: .int .i64 (us.length : Int) :: .bool false :: .bool false :: .slice B high.length d :: .int .i64 (high.length : Int) :: .slice C us.length f :: .int .i64 (us.length : Int) :: .bool false :: .bool false :: .bool false :: .slice C us.length f :: .int .i64 (us.length : Int) :: .bool false :: .bool false :: .slice C us.length f :: .int .i64 (us.length : Int) :: .int .i64 (us.length : Int) :: .bool false :: u42 :: u43 :: u44 :: u45 :: u46 :: u47 :: u48 :: u49 :: u50 :: u51 :: u52 :: u53 :: u54 :: u55 :: u56 :: u57 :: .slice C us.length f :: .func (.func 63) #[] #[.pointer (some ⟨gb, 0, none⟩)] :: .int .i64 (x.1 : Int) :: .int .i64 x.2 :: undef :: undef :: undef :: undef :: undef :: undef :: undef :: undef :: undef :: undef :: undef :: undef :: undef :: undef :: undef :: undef :: undef :: undef :: undef :: undef :: undef :: undef :: undef :: undef :: undef :: undef :: undef :: undef :: undef :: undef :: undef :: undef :: undef :: undef :: undef :: undef :: undef :: undef :: undef :: undef :: undef :: undef :: undef :: undef :: undef :: undef :: undef :: undef :: undef :: undef :: undef :: undef :: undef :: undef :: undef :: undef :: undef :: undef :: undef :: undef :: undef :: undef :: undef :: []).toArray, defers := [] })
    (fun _ _ _ _ _ _ h _ _ => h) ?assign ?body ?done ?stop
  case hI =>
    rintro s X Y row hs hg hr
    have hO : Other X row := fun r e => by
      rcases hr r e with h | ⟨_, x, hx, hc⟩
      · exact h.elim
      · exact ⟨x, hx, hc⟩
    have hu : Upd (fun x => W0.heap.size ≤ x) X Y := Upd.of_grown hg (fun r e => by
      rcases hr r e with h | ⟨h, _⟩
      · exact h.elim
      · exact h)
    obtain ⟨v, h1, h2⟩ := hs.box
    exact ⟨⟨v, h1.firm hg hO, h2.firm (fun _ h => h) hg hO⟩, hs.ok, hs.upd.trans hu (fun b hb e => by omega)⟩
  case hIx =>
    rintro c s X Y row ⟨rfl, hs⟩ hg hr
    have hO : Other X row := fun r e => by
      rcases hr r e with h | ⟨_, x, hx, hc⟩
      · exact h.elim
      · exact ⟨x, hx, hc⟩
    have hu : Upd (fun x => W0.heap.size ≤ x) X Y := Upd.of_grown hg (fun r e => by
      rcases hr r e with h | ⟨h, _⟩
      · exact h.elim
      · exact h)
    exact ⟨rfl, hs.b6.firm hg hO, hs.b7.firm hg hO, hs.b8.firm hg hO, hs.upd.trans hu (fun b hb e => by omega)⟩
  case assign =>
    intro l pre x W K hi _ hK
    gi_wp2
    exact hK _ _ (KeepsOthers.refl _ |>.from _) (Keep.refl _ _) hi rfl
  case body =>
    rintro l pre x a' W hs rfl ⟨k, hk, huk, hpre, hx⟩
    subst hx
    have hkp := hs.upd.keep (ok := fun x => x ≠ g10) (fun _ h => h)
    have n10 : ∀ x, x < g10 → x ≠ g10 := fun x h => by omega
    have k1 := (y1.keep hkp (n10 _ (by have := HN2.out; omega))).cell 0 rfl
    have k4 := (y4.keep hkp (n10 _ (by have := HN2.out; omega))).cell 0 rfl
    obtain ⟨ad, rfl, hcx⟩ := rd_int (hS9.keep hkp) k (by have := HL.out; omega)
    obtain ⟨ad2, rfl, hcy⟩ := rd_int (hT9.keep hkp) k (by have := HL.out; omega)
    have hki1 : (k : Int) < (low.length : Int) := by have := HL.out; omega
    have hki2 : (k : Int) < (high.length : Int) := by have := HL.out; omega
    have HSN := Lib.hid (bndL_snoc low high pre (k, befK us k))
    have hrx := isBoth_at H6.out hk
    have HOKX := Lib.hid (show ∀ b : Bool, decide (nth 0 low k ≤ nth 0 high k) = b → (bndL low high (pre ++ [(k, befK us k)])).all (fun b => decide (b.1 ≤ b.2)) = b from fun b hb => by
      rw [bndL_snoc, List.all_append, hs.ok]; simp [hb])
    have HPL := Lib.hid (show (bndL low high pre).length ≤ 128 by rw [bndL, List.length_map, hpre]; have := walkK_len us k; have := HL.out; omega)
    have HPRE := Lib.hid (show k < us.length ∧ pre ++ [(k, befK us k)] = walkK us (k + 1) from ⟨hk, by rw [hpre]; exact (walkK_hit huk).1.symm⟩)
    have HLE := Lib.hid (fun (h : (bndL low high (walkK us us.length)).all (fun b => decide (b.1 ≤ b.2)) = true) => show nth 0 low k ≤ nth 0 high k from by
      obtain ⟨t, ht⟩ := walkK_prefix us (k + 1) us.length (by omega)
      rw [ht, ← HPRE.out.2, bndL, List.map_append, List.all_append, Bool.and_eq_true] at h
      have h2 := List.all_eq_true.1 h.1 (nth 0 low k, nth 0 high k) (List.mem_map.2 ⟨(k, befK us k), by simp, rfl⟩)
      simpa using h2)
    generalize nth 0 low k = lo at hcx hrx HSN HOKX HLE
    generalize nth 0 high k = hi at hcy hrx HSN HOKX HLE
    have HWI := Lib.hid hs
    clear hs hkp hpre huk n10
    gi_wp2
    refine wpIn_region_G 10 (fun W9 => W9.cell? ⟨gA, 0, none⟩ = some (.slice (some ad) low.length c) ∧ W9.cell? ⟨g4, 0, none⟩ = some (.slice (some ad2) high.length d) ∧ W9.cell? (ad.add k) = some (.int .i64 lo) ∧ W9.cell? (ad2.add k) = some (.int .i64 hi)) (by kernel_rfl) (by kernel_rfl) (fun ⟨_, _, h⟩ => h) ⟨k1, k4, hcx, hcy⟩ (fun hHeld => ?_)
    refine wpAnyG_takeL (i := 0) (.slice (some ad) low.length c) [10] rfl (by kernel_rfl) (fun _ _ _ h => h) hHeld (by rfl) ?_ ?_
    · (intro W' hSw; (try dsimp only at hSw); go_simp)
    try simp only [Act.put, List.setIfInBounds_toArray, List.set_cons_zero, List.set_cons_succ]
    refine wpAnyG_takeL (i := 1) (.int .i64 k) [10] rfl (by kernel_rfl) (fun _ _ _ h => h) hHeld (by rfl) ?_ ?_
    · (intro W' hSw; (try dsimp only at hSw); go_simp)
    try simp only [Act.put, List.setIfInBounds_toArray, List.set_cons_zero, List.set_cons_succ]
    refine wpAnyG_takeL (i := 2) (.pointer (some (ad.add k))) [10] rfl (by kernel_rfl) (fun _ _ _ h => h) hHeld (by rfl) ?_ ?_
    · (intro W' hSw; (try dsimp only at hSw); go_simp)
    try simp only [Act.put, List.setIfInBounds_toArray, List.set_cons_zero, List.set_cons_succ]
    refine wpAnyG_takeL (i := 3) (.int .i64 lo) [10] rfl (by kernel_rfl) (fun _ _ _ h => h) hHeld (by rfl) ?_ ?_
    · (intro W' hSw; (try dsimp only at hSw); go_simp)
    try simp only [Act.put, List.setIfInBounds_toArray, List.set_cons_zero, List.set_cons_succ]
    refine wpAnyG_takeL (i := 4) (.slice (some ad2) high.length d) [10] rfl (by kernel_rfl) (fun _ _ _ h => h) hHeld (by rfl) ?_ ?_
    · (intro W' hSw; (try dsimp only at hSw); go_simp)
    try simp only [Act.put, List.setIfInBounds_toArray, List.set_cons_zero, List.set_cons_succ]
    refine wpAnyG_takeL (i := 5) (.int .i64 k) [10] rfl (by kernel_rfl) (fun _ _ _ h => h) hHeld (by rfl) ?_ ?_
    · (intro W' hSw; (try dsimp only at hSw); go_simp)
    try simp only [Act.put, List.setIfInBounds_toArray, List.set_cons_zero, List.set_cons_succ]
    refine wpAnyG_takeL (i := 6) (.pointer (some (ad2.add k))) [10] rfl (by kernel_rfl) (fun _ _ _ h => h) hHeld (by rfl) ?_ ?_
    · (intro W' hSw; (try dsimp only at hSw); go_simp)
    try simp only [Act.put, List.setIfInBounds_toArray, List.set_cons_zero, List.set_cons_succ]
    refine wpAnyG_takeL (i := 7) (.int .i64 hi) [10] rfl (by kernel_rfl) (fun _ _ _ h => h) hHeld (by rfl) ?_ ?_
    · (intro W' hSw; (try dsimp only at hSw); go_simp)
    try simp only [Act.put, List.setIfInBounds_toArray, List.set_cons_zero, List.set_cons_succ]
    refine wpAnyG_takeL (i := 8) (.agg #[.int .i64 lo, .int .i64 hi]) [10] rfl (by kernel_rfl) (fun _ _ _ h => h) hHeld (by rfl) ?_ ?_
    · (intro W' hSw; (try dsimp only at hSw); go_simp)
    try simp only [Act.put, List.setIfInBounds_toArray, List.set_cons_zero, List.set_cons_succ]
    clear hHeld
    refine wpAnyG_oneL (i := 9) (by kernel_rfl) rfl (fun K hK => ?_)
    refine step_new #[.int .i64 0, .int .i64 0] 85 rfl ?hr ?_
    case hr => first | (go_simp; done) | (go_simp; rfl)
    intro g12 V2 eg12 zg12 d2 z12
    have HBX := Lib.hid (below2 (Below.refl W.heap.size W).drew d2)
    refine hK.out _ _ (fun _ => ⟨cell_below HBX.out k1, cell_below HBX.out k4, cell_below HBX.out hcx, cell_below HBX.out hcy⟩) ?_
    clear hK K
    try simp only [Act.put, List.setIfInBounds_toArray, List.set_cons_zero, List.set_cons_succ]
    refine wpAnyG_oneL (i := 10) (by kernel_rfl) rfl (fun K hK => ?_)
    refine step_put2 (.int .i64 lo) (.int .i64 hi) rfl 85 (.tmp 12) (.tmp 70) rfl g12 85 _ rfl rfl z12 sizeBd rfl rfl rfl ?_
    intro V3 q12 t12 r12
    refine hK.out _ _ (fun h => Bool.noConfusion (show true = false from h)) ?_
    clear hK K
    try simp only [Act.put]
    refine wpAnyG_done (by kernel_rfl) ?_ _
    have hWg : W.heap.size ≤ g12 := by have := eg12.out; have h9 : W.drew.heap.size = W.heap.size := rfl; omega
    have hb3 : Below W.heap.size W V3 := below_grown HBX.out HBX.out.size t12 (fun r e => by cases e; exact hWg)
    have p0 : V3.cell? ⟨g12, 0, none⟩ = some (.int .i64 lo) := q12.cell 0 rfl
    have p1 : V3.cell? ⟨g12, 1, none⟩ = some (.int .i64 hi) := q12.cell 1 rfl
    have HB3 := Lib.hid hb3
    have HQ12 := Lib.hid q12
    have HWG := Lib.hid hWg
    clear HBX d2 z12 eg12 zg12 t12 r12 q12 hb3 hWg k1 k4 hcx hcy hki1 hki2
    have HHU := Lib.hid (HWI.out.upd.keep (ok := fun x => x ≠ g10) (fun _ h => h))
    by_cases hle : lo ≤ hi
    · have hnl : ¬ hi < lo := by omega
      have HLX := Lib.hid hle
      clear hle
      obtain ⟨v, hv, hov⟩ := HWI.out.box
      have hov3 := hov.below HB3.out
      have hv3 := hv.below HB3.out
      have hvb := hov3.base_le
      obtain ⟨Av, cv, rfl, _⟩ := hov3.rd
      have c10 : V3.cell? ⟨g10, 0, none⟩ = some (.slice Av (bndL low high pre).length cv) := hv3.cell 0 rfl
      obtain ⟨P, hP⟩ : ∃ P, (bndL low high pre).length = P := ⟨_, rfl⟩
      have HOV := Lib.hid hov3
      have HV3 := Lib.hid hv3
      have HVB := Lib.hid hvb
      have HPP := Lib.hid hP
      rw [hP] at c10
      have HUP := Lib.hid (show W0.heap.size ≤ V3.heap.size from by have := HWI.out.upd.size; have := HB3.out.size; omega)
      have H10 := Lib.hid (show g10 < W0.heap.size from by have := HN2.out; omega)
      have HOK2 := Lib.hid (HOKX.out true (decide_eq_true (HLX.out)))
      clear hv hov hov3 hv3 hvb hP
      gi_wp2_with (gi_at_builtin; (refine appendIn_k (k := kBd) (W := V3) W0.heap.size rfl (.tmp 81) (.tmp 83) 83 85 _ 16 (fun _ => False) rfl Try.underlying83 infoBd rfl (by decide) (by decide) _ (bndL low high pre) (lo, hi) [.int .i64 lo, .int .i64 hi] rfl rfl rfl (by rw [← HPP.out]; exact HOV.out) rfl HUP.out (by have := HPL.out; omega) ?_); intro g5 cap5 w5 hO5 hg5 hb5 ha5; rw [HPP.out] at hO5 ⊢; have h15 := HV3.out.keep (Keep.of_grown hg5) (fun e => by have := HVB.out g10 (by rw [HPP.out]; exact e.symm); have := H10.out; omega); rw [HPP.out] at h15; have c15 := h15.cell 0 rfl; have f15 := h15.free 0; have HO5 := Lib.hid hO5; have HG5 := Lib.hid hg5; have H15 := Lib.hid h15; clear hO5 hg5 hb5 ha5 h15)
      obtain ⟨t1, t2, t3⟩ := ChA.next (x := (k, befK us k)) HWI.out H10.out HB3.out HOV.out HO5.out (by rw [HPP.out]; exact HG5.out) HSN.out HOK2.out (by rw [HPP.out]; exact H15.out)
      exact ⟨t1, t2.weak fun y h => by have := HN2.out; rcases h with h | h <;> omega, t3⟩
    · have hlt : hi < lo := by omega
      have w6 := (y6.keep HHU.out (by have := HN2.out; omega)).below HB3.out
      have w7 := (y7.keep HHU.out (by have := HN2.out; omega)).below HB3.out
      have w8 := (y8.keep HHU.out (by have := HN2.out; omega)).below HB3.out
      have c6 := w6.cell 0 rfl
      have f6 := w6.free 0
      have c7 := w7.cell 0 rfl
      have f7 := w7.free 0
      have c8 := w8.cell 0 rfl
      have f8 := w8.free 0
      have n67 : g6 ≠ g7 := by have := HN2.out; omega
      have n68 : g6 ≠ g8 := by have := HN2.out; omega
      have n78 : g7 ≠ g8 := by have := HN2.out; omega
      have hne : (lo == hi) = false := by simp; omega
      have HW678 := Lib.hid (show Blk V3 g6 #[.slice none 0 0] 22 ∧ Blk V3 g7 #[.int .i64 0] 3 ∧ Blk V3 g8 #[.int .i64 0] 26 from ⟨w6, w7, w8⟩)
      clear w6 w7 w8 hle
      gi_wp2
      obtain ⟨p6, p7, p8, pu⟩ := choose_put HW678.out.1 HW678.out.2.1 HW678.out.2.2 (by have := HN2.out; omega) (by have := HN2.out; omega) (.slice none 0 0) 0 5
      have hu := (Upd.of_below HB3.out (fun x => x = g6 ∨ x = g7 ∨ x = g8)).trans pu fun _ _ h => h
      exact ⟨keepsU hu (fun b _ h => by have := HN2.out; rcases h with h | h | h <;> omega), rfl, p6, p7, p8, (HWI.out.upd.weak (o' := fun x => x = g6 ∨ x = g7 ∨ x = g8 ∨ x = g10) fun _ _ h => .inr (.inr (.inr h))).trans hu (fun _ _ h => by rcases h with h | h | h; exact .inl h; exact .inr (.inl h); exact .inr (.inr (.inl h)))⟩
  case done =>
    rintro D xs W hD rfl hs hK
    have h1 := hs.ok
    rw [HE.out] at h1
    cases h1
  case stop =>
    rintro D c pre W hD _ ⟨rfl, hs⟩ hK
    refine wpIn_ret ?_
    have hN := HN2.out
    have hO : Other W (some D) := fun r e => by cases e; exact ⟨_, hK, rfl⟩
    have g1 := grownBy_putObj' W D (.deferred none)
    refine ⟨by simp, .inl ⟨_, _, rfl, run_takeDeferred hK, ?_⟩⟩
    refine ⟨_, choose_res _ _ g6 g7 g8 _ _ _ rfl rfl rfl (hs.b6.firm g1 hO) (hs.b7.firm g1 hO) (hs.b8.firm g1 hO), ?_⟩
    have hE5 : chooseE low high us = 5 := by unfold chooseE; rw [if_neg (by have := HL.out; omega), if_neg (by rw [H6.out]; decide), if_pos HE.out]
    obtain ⟨h1, h2⟩ := choose_err hE5 (by decide)
    have hb2 := HBW.out.trans (hs.upd.below (n := w.heap.size) HBW.out.size (fun x _ e => by omega))
    exact ⟨_, by rw [h2, hE5], by rw [h1]; exact OwnI.nil _ _ _ _, hb2.grown g1 hb2.size (fun r e => by cases e; omega)⟩
end Go.Proofs.Ytkfgomhhenmmeaa
