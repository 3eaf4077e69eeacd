/- book: best, Best: what each call returns. · book: Best: what it returns. -/
import Derived.Test.YtciknejchglmoaaDoorKh
namespace Go.Proofs.YtciknejchglmoaaDoor
open Go.RowKit

/-- Choices as they lie. -/
def kCh : Kd (Int × Int) where
  size := 2
  dflt := (0, 0)
  K := fun _ _ x cs => cs = [.int .i64 x.1, .int .i64 x.2]
  len := fun h => by rw [h]; rfl
  keep := fun _ h => h
  weak := fun _ h => h
theorem rd_ch {ok : Nat → Prop} {w : World} {A : Option Addr} {c : Nat} {xs : List (Int × Int)} (h : Sl kCh ok w A c xs) (j : Nat) (hj : j < xs.length) :
    ∃ ad, A = some ad ∧ ad.block < w.heap.size ∧ w.cell? (ad.add (j * 2)) = some (.int .i64 (nth (0, 0) xs j).1) ∧ w.cell? ⟨(ad.add (j * 2)).block, (ad.add (j * 2)).off + 1, none⟩ = some (.int .i64 (nth (0, 0) xs j).2) := by
  obtain ⟨ad, cs, e, _, hl, rfl, hc⟩ := h.rd j hj
  have h3 := hc 1 _ rfl
  have h2 := hc 0 _ rfl
  rw [← add_add] at h3
  exact ⟨ad, e, hl, h2, h3⟩
theorem infoCh : (Tryd.prog.info? 85).map (fun i => (i.zero, i.size, i.bytes)) = some (some (.agg #[.int .i64 0, .int .i64 0]), 2, 16) := by kernel_rfl
theorem sizeCh : (Tryd.prog.info? 85).map (·.size) = some 2 := by kernel_rfl
def bestS (o x : Int × Int) : Int × Int := if x.2 < o.2 then x else o
/-- The first element for which no other one is less. -/
def bestP (xs : List (Int × Int)) : Int × Int := xs.foldl bestS (nth (0, 0) xs 0)
def bestK (xs : List (Int × Int)) (k : Nat) : Int × Int := (xs.take k).foldl bestS (nth (0, 0) xs 0)
theorem bestK_succ (xs : List (Int × Int)) (k : Nat) (h : k < xs.length) : bestK xs (k + 1) = bestS (bestK xs k) (nth (0, 0) xs k) := by
  unfold bestK; rw [take_succ_nth (0, 0) xs k h, List.foldl_append]; rfl
theorem bestK_all (xs : List (Int × Int)) : bestK xs xs.length = bestP xs := by unfold bestK bestP; rw [List.take_length]

/-- Two cells of a block are written. -/
theorem put_two {W : World} {g : Nat} {a b x y : Value} {t : TypeId} (h : Blk W g #[a, b] t) :
    Blk ((W.setCell ⟨g, 0, none⟩ x).setCell ⟨g, 1, none⟩ y) g #[x, y] t ∧ Upd (fun z => z = g) W ((W.setCell ⟨g, 0, none⟩ x).setCell ⟨g, 1, none⟩ y) :=
  ⟨(h.set 0 x).set 1 y, (Upd.setCell (fun z => z = g) W g 0 x rfl).trans (Upd.setCell (fun z => z = g) _ g 1 y rfl) fun _ _ h => h⟩
theorem best_res (tmps : Array Value) (W : World) (g : Nat) (x y : Int) (h4 : tmps[4]?.getD undef = .pointer (some ⟨g, 0, none⟩)) (B : Blk W g #[.int .i64 x, .int .i64 y] 85) :
    (results Tryd.f53 tmps).run Tryd.prog W = .ok (.agg #[.int .i64 x, .int .i64 y]) W := by
  have z4 := B.cell 0 rfl
  have z5 := B.cell 1 rfl
  simp [results, Tryd.f53, go_sem, h4, z4, z5]

set_option maxHeartbeats 2000000 in
set_option maxRecDepth 100000 in
theorem best_any (A : Option Addr) (c : Nat) (xs : List (Int × Int)) (w : World) (hS : Sl kCh AnyB w A c xs) (h0 : 0 < xs.length) :
    Calls Tryd.prog 53 #[.slice A xs.length c, .func (.func 54) #[] #[]] w fun e w' => e = .returned (.agg #[.int .i64 (bestP xs).1, .int .i64 (bestP xs).2]) ∧ Below w.heap.size w w' := by
  have hn := hS.len
  have hba := below_alloc (Below.refl w.heap.size w) (.cells #[.int .i64 0, .int .i64 0] 85)
  obtain ⟨ad, rfl, _, hx0, hy0⟩ := rd_ch (hS.below hba) 0 h0
  have HA := Lib.hid (bestK_all xs)
  have HK := Lib.hid (bestK_succ xs)
  have HZ := Lib.hid (show bestK xs 0 = nth (0, 0) xs 0 from rfl)
  simp only [Nat.zero_mul, add_zero] at hx0 hy0
  generalize nth (0, 0) xs 0 = z at hx0 hy0 HZ
  have HS := Lib.hid hS
  obtain ⟨g4, hg4⟩ : ∃ g4, w.heap.size = g4 := ⟨_, rfl⟩
  have hba2 := below_alloc hba (.cells #[.int .i64 z.1, .int .i64 z.2] 85)
  have B4 : Blk (w.alloc (.cells #[.int .i64 0, .int .i64 0] 85)) g4 #[.int .i64 0, .int .i64 0] 85 := by rw [← hg4]; exact heap_alloc_new w _
  have B4' := B4.below (below_alloc (Below.refl _ _) (.cells #[.int .i64 z.1, .int .i64 z.2] 85))
  obtain ⟨g5, hg5⟩ : ∃ g5, g4 + 1 = g5 := ⟨_, rfl⟩
  have B5 : Blk ((w.alloc (.cells #[.int .i64 0, .int .i64 0] 85)).alloc (.cells #[.int .i64 z.1, .int .i64 z.2] 85)) g5 #[.int .i64 z.1, .int .i64 z.2] 85 := by
    have h := heap_alloc_new (w.alloc (.cells #[.int .i64 0, .int .i64 0] 85)) (.cells #[.int .i64 z.1, .int .i64 z.2] 85)
    rw [World.size_alloc, hg4, hg5] at h
    exact h
  have HN := Lib.hid (show w.heap.size = g4 ∧ g4 + 1 = g5 from ⟨hg4, hg5⟩)
  have HW0 := Lib.hid hba2
  clear B4 hba2 hS
  go_enter Tryd.func53, Tryd.ntmps53
  go_wp2
  clear hx0 hy0 hba hg4 hg5
  go_loopw [7, 13] (fun pv iv wr => ∃ (k : Nat) (o : Int × Int), iv = .int .i64 (k : Int) ∧ k ≤ xs.length ∧ Hid (bestK xs k = o) ∧ Hid (Blk wr g4 #[.int .i64 0, .int .i64 0] 85 ∧ Blk wr g5 #[.int .i64 o.1, .int .i64 o.2] 85 ∧ Below w.heap.size w wr)) (fun _ iv _ => xs.length - (intOf iv).toNat)
  case atStart => exact ⟨0, z, rfl, Nat.zero_le _, HZ, Lib.hid ⟨B4', B5, HW0.out⟩⟩
  case round =>
    clear B4' B5 HW0 HZ
    obtain ⟨k, o, rfl, hk, hO, hB⟩ := hrel
    by_cases hlt : k < xs.length
    · obtain ⟨ad2, e2, _, hx, hy⟩ := rd_ch (HS.out.below hB.out.2.2) k hlt
      cases e2
      have hki : (k : Int) < (xs.length : Int) := by omega
      have HT := Lib.hid (show bestK xs (k + 1) = bestS o (nth (0, 0) xs k) by rw [HK.out k hlt, hO.out])
      generalize nth (0, 0) xs k = x at hx hy HT
      have hwk : IntKind.i64.wrap ((k : Int) + 1) = (k : Int) + 1 := IntWalk.i64_in _ (by omega)
      have hb7 := below_alloc (Below.refl wr.heap.size wr) (.cells #[.int .i64 x.1, .int .i64 x.2] 85)
      obtain ⟨g7, hg7⟩ : ∃ g7, wr.heap.size = g7 := ⟨_, rfl⟩
      have D7 : Blk (wr.alloc (.cells #[.int .i64 x.1, .int .i64 x.2] 85)) g7 #[.int .i64 x.1, .int .i64 x.2] 85 := by rw [← hg7]; exact heap_alloc_new wr _
      have D4 := hB.out.1.below hb7
      have D5 := hB.out.2.1.below hb7
      have HW7 := Lib.hid (below2 hB.out.2.2 hb7)
      have k50 := D5.cell 0 rfl
      have k51 := D5.cell 1 rfl
      have HD := Lib.hid (And.intro D4 D5)
      have HD7 := Lib.hid D7
      have HG := Lib.hid (show g4 < g7 ∧ g5 < g7 ∧ g4 ≠ g5 ∧ w.heap.size ≤ g5 from ⟨by have := hB.out.1.lt; omega, by have := hB.out.2.1.lt; omega, by have := HN.out; omega, by have := HN.out; omega⟩)
      clear D4 D5 D7 hlt
      by_cases h1 : x.2 < o.2
      · have hd : decide (x.2 < o.2) = true := decide_eq_true h1
        have HR := Lib.hid (HT.out.trans (if_pos h1))
        clear h1
        go_wp2_with (go_at_call 54; refine (best1_any x.1 x.2 o.1 o.2 _).mono ?_; rintro e w2 ⟨rfl, b2⟩; have E7 := HD7.out.below b2; have E5 := HD.out.2.below b2; have q70 := E7.cell 0 rfl; have q71 := E7.cell 1 rfl; have q50 := E5.cell 0 rfl; have q51 := E5.cell 1 rfl; have f50 := E5.free 0; have f51 := E5.free 1; clear E7 E5)
        obtain ⟨p1, p2⟩ := put_two (x := .int .i64 x.1) (y := .int .i64 x.2) (HD.out.2.below b2)
        go_roundw
        case rel => exact ⟨k + 1, x, by go_num, by omega, Lib.hid HR.out, Lib.hid ⟨(HD.out.1.below b2).keep (p2.keep (ok := fun z => z ≠ g5) fun _ h => h) HG.out.2.2.1, p1, (below2 HW7.out b2).trans (p2.below (below2 HW7.out b2).size (fun _ _ e => by have := HG.out; omega))⟩⟩
        case measure => simp [intOf]; omega
      · have hd : decide (x.2 < o.2) = false := decide_eq_false h1
        have HR := Lib.hid (HT.out.trans (if_neg h1))
        clear h1
        go_wp2_with (go_at_call 54; refine (best1_any x.1 x.2 o.1 o.2 _).mono ?_; rintro e w2 ⟨rfl, b2⟩)
        go_roundw
        case rel => exact ⟨k + 1, o, by go_num, by omega, Lib.hid HR.out, Lib.hid ⟨HD.out.1.below b2, HD.out.2.below b2, below2 HW7.out b2⟩⟩
        case measure => simp [intOf]; omega
    · obtain rfl : k = xs.length := by omega
      have HR := Lib.hid (HA.out.symm.trans hO.out)
      have k50 := hB.out.2.1.cell 0 rfl
      have k51 := hB.out.2.1.cell 1 rfl
      have k40 := hB.out.1.cell 0 rfl
      have k41 := hB.out.1.cell 1 rfl
      have f40 := hB.out.1.free 0
      have f41 := hB.out.1.free 1
      go_wp2
      obtain ⟨p1, p2⟩ := put_two (x := .int .i64 o.1) (y := .int .i64 o.2) hB.out.1
      refine bodyPost_ret (best_res _ _ g4 o.1 o.2 rfl p1) rfl ?_
      exact ⟨by rw [HR.out], hB.out.2.2.trans (p2.below hB.out.2.2.size (fun _ _ e => by have := HN.out; omega))⟩
end Go.Proofs.YtciknejchglmoaaDoor

namespace Go.Proofs.YtciknejchglmoaaDoor
open Go.RowKit

/-- The books that a list fits, with their costs. -/
def chL (l : List Int) (k : Nat) : List (Int × Int) := ((List.range k).filter fun b => fitB b l).map fun (b : Nat) => ((b : Int), ((rowK b l).length : Int))
theorem chL_succ (l : List Int) (k : Nat) : chL l (k + 1) = chL l k ++ if fitB k l = true then [((k : Int), ((rowK k l).length : Int))] else [] := by
  unfold chL
  rw [List.range_succ, List.filter_append, List.map_append]
  by_cases h : fitB k l = true
  · rw [if_pos h]; simp [h]
  · rw [if_neg h]; simp [h]
theorem chL_len (l : List Int) : ∀ k, (chL l k).length ≤ k
  | 0 => Nat.le_refl _
  | k + 1 => by
    have := chL_len l k
    rw [chL_succ, List.length_append]
    split <;> simp <;> omega
theorem fitB_7 (l : List Int) : fitB 7 l = true := by
  unfold fitB
  rw [Bool.and_eq_true, List.all_eq_true]
  exact ⟨fun v _ => by simp [inB, escB], decide_eq_true (Nat.mod_one _)⟩
theorem chL_pos (l : List Int) : 0 < (chL l 8).length := by
  rw [chL_succ, if_pos (fitB_7 l)]; simp
def bestE (l : List Int) : Int := if quantB l = false then 6 else 0
def bestV (l : List Int) : Int × Int := if quantB l = false then (0, 0) else bestP (chL l 8)

set_option maxHeartbeats 2000000 in
set_option maxRecDepth 100000 in
theorem bBest_any (A : Option Addr) (c : Nat) (l : List Int) (w : World) (hS : RI w A c l) (hG : GF w) (hT : GT w) (hlm : l.length ≤ 1000000) :
    Calls Tryd.prog 21 #[.slice A l.length c] w fun e w' => e = .returned (.tuple #[.int .i64 (bestV l).1, .int .i64 (bestV l).2, .int .i64 (bestE l)]) ∧ Below w.heap.size w w' := by
  have HA := Lib.hid (are_any A c l w hS)
  cases hq : quantB l
  · have HV := Lib.hid (show bestV l = (0, 0) ∧ bestE l = 6 by unfold bestV bestE; rw [if_pos hq, if_pos hq]; exact ⟨rfl, rfl⟩)
    rw [hq] at HA
    clear hq
    go_enter Tryd.func21, Tryd.ntmps21
    go_wp2_with (go_at_call 52; refine HA.out.mono ?_; rintro e w2 ⟨rfl, rfl⟩)
    go_ret3
    exact ⟨by rw [HV.out.1, HV.out.2]; rfl, Below.refl _ _⟩
  · have HV := Lib.hid (show bestV l = bestP (chL l 8) ∧ bestE l = 0 by unfold bestV bestE; rw [if_neg (by rw [hq]; decide), if_neg (by rw [hq]; decide)]; exact ⟨rfl, rfl⟩)
    rw [hq] at HA
    have HF := Lib.hid (fun b W (hb : Below w.heap.size w W) => fits_any A c b l W (hS.below hb) hq)
    have HK := Lib.hid (fun b W (hb : Below w.heap.size w W) (h8 : b < 8) (hf : fitB b l = true) => bcost_any A c b l W (hS.below hb) (hG.below hb) (hT.below hb) h8 hq (fitB_mod hf) hlm)
    have HG := Lib.hid hG
    have HCS := Lib.hid (chL_succ l)
    have HCL := Lib.hid (chL_len l)
    have HCP := Lib.hid (chL_pos l)
    clear hq hS hG hT
    go_enter Tryd.func21, Tryd.ntmps21
    go_wp2_with (go_at_call 52; refine HA.out.mono ?_; rintro e w2 ⟨rfl, rfl⟩)
    go_loopw [5, 6, 11] (fun ov bv iv wr => ∃ k : Nat, iv = .int .i64 (k : Int) ∧ k ≤ 8 ∧ Hid (OwnK kCh 85 w.heap.size (fun _ => False) wr ov (chL l k)) ∧ Hid (Below w.heap.size w wr)) (fun _ _ iv _ => 8 - (intOf iv).toNat)
    case atStart => exact ⟨0, rfl, by omega, Lib.hid (OwnK.nil _ _ _ _ _), Lib.hid (Below.refl _ _)⟩
    case round =>
      obtain ⟨k, rfl, hk, hO, hB⟩ := hrel
      by_cases hlt : k < 8
      · have c0 := (HG.out.below hB.out).dim k hlt
        have c1 := (HG.out.below hB.out).most k hlt
        have c2 := (HG.out.below hB.out).esc k hlt
        have hki : (k : Int) < 8 := by omega
        have hwk : IntKind.i64.wrap ((k : Int) + 1) = (k : Int) + 1 := IntWalk.i64_in _ (by omega)
        have HF2 := Lib.hid (HF.out k wr hB.out)
        have HC2 := Lib.hid (HCS.out k)
        cases hf : fitB k l
        · rw [hf] at HF2 HC2
          have HC3 := Lib.hid (show chL l (k + 1) = chL l k by rw [HC2.out]; simp)
          clear hf
          go_wp2_with (go_at_call 47; refine HF2.out.mono ?_; rintro e w3 ⟨rfl, b3⟩)
          go_roundw
          case rel => exact ⟨k + 1, by go_num, by omega, Lib.hid (by rw [HC3.out]; exact hO.out.below b3), Lib.hid (below2 hB.out b3)⟩
          case measure => simp [intOf]; omega
        · have HK2 := Lib.hid (fun W hb => HK.out k W hb hlt hf)
          rw [hf] at HF2 HC2
          have HC3 := Lib.hid (show chL l (k + 1) = chL l k ++ [((k : Int), ((rowK k l).length : Int))] by rw [HC2.out]; simp)
          have hlen := HCL.out k
          generalize (rowK k l).length = R at HK2 HC3
          clear hf HC2
          go_wp2_with (first
            | (go_at_call 47; refine HF2.out.mono ?_; rintro e w3 ⟨rfl, b3⟩)
            | (go_at_call 50; refine (HK2.out _ (below2 hB.out b3)).mono ?_; rintro e w4 ⟨rfl, b4⟩; have HO4 := Lib.hid (hO.out.below (below2 b3 b4)); have HB4 := Lib.hid (below2 hB.out (below2 b3 b4)); have hz4 := HB4.out.size)
            | (at_builtin; (refine append_k (W := w4) (k := kCh) w.heap.size rfl (.tmp 19) (.tmp 25) 83 85 (.agg #[.int .i64 0, .int .i64 0]) 16 (fun _ => False) rfl Tryd.underlying83 infoCh rfl (by decide) (by decide) _ (chL l k) ((k : Int), (R : Int)) [.int .i64 k, .int .i64 R] rfl rfl rfl HO4.out rfl (by omega) (by omega) ?_); intro g5 cap5 w5 hO5 hg5 hb5 ha5; have HO5 := Lib.hid hO5; have HB5 := Lib.hid (HB4.out.grown hg5 HB4.out.size HO4.out.base_le); clear hO5 hg5 ha5))
          go_roundw
          case rel => exact ⟨k + 1, by go_num, by omega, Lib.hid (by rw [HC3.out]; simpa using HO5.out), HB5⟩
          case measure => simp [intOf]; omega
      · obtain rfl : k = 8 := by omega
        obtain ⟨A5, c5, rfl, hR⟩ := hO.out.rd
        have HBS := Lib.hid (best_any A5 c5 (chL l 8) wr hR.any HCP.out)
        have hcl := HCL.out 8
        generalize bestP (chL l 8) = z at HBS HV
        clear hR
        go_wp2_with (go_at_call 53; refine HBS.out.mono ?_; rintro e w3 ⟨rfl, b3⟩)
        go_quiet (fail)
        go_wp2
        go_ret3
        exact ⟨by rw [HV.out.1, HV.out.2]; rfl, below_drewN (below_alloc (below2 hB.out b3) _) _⟩
end Go.Proofs.YtciknejchglmoaaDoor
