/- pcm: the file's record: data, pass. -/
import Derived.Test.YtijcecakofmhcaaDoorPcmW
import Derived.Test.YtijcecakofmhcaaDoorPcmN
import Derived.Test.YtijcecakofmhcaaDoorCut
namespace Go.Proofs.YtijcecakofmhcaaDoor
open Go.RowKit

/-- What was read of a file. -/
structure FileS where
  ch : Int
  rate : Int
  known : Bool
  done : Bool
  l : List Int
/-- The record lies in block g, its samples in a row v of its own, from block n on. -/
def FileAt (g n : Nat) (v : Value) (w : World) (s : FileS) : Prop := Blk w g #[.int .i64 s.ch, .int .i64 s.rate, .bool s.known, .bool s.done, v] 67 ∧ OwnI 3 .i64 n w v s.l
theorem FileAt.below {g n : Nat} {v : Value} {w w' : World} {s : FileS} (h : FileAt g n v w s) (hb : Below w.heap.size w w') : FileAt g n v w' s := ⟨h.1.below hb, h.2.below hb⟩
/-- Nothing has changed but block g, the row v's block, and what is new. -/
structure Chg (g : Nat) (v : Value) (w w' : World) : Prop where
  os : w'.os = w.os
  tape : w'.tape = w.tape
  output : w'.output = w.output
  size : w.heap.size ≤ w'.heap.size
  blk : ∀ i, i < w.heap.size → i ≠ g → v.ownBlock ≠ some i → w'.heap[i]? = w.heap[i]?
section
variable {g : Nat} {v : Value} {w w1 w2 : World}
theorem Chg.refl (g : Nat) (v : Value) (w : World) : Chg g v w w := ⟨rfl, rfl, rfl, Nat.le_refl _, fun _ _ _ _ => rfl⟩
theorem Chg.grown (h : Chg g v w w1) {row : Option Nat} (k : w1.grownBy w2 row) (hr : ∀ i, row = some i → i = g ∨ v.ownBlock = some i ∨ w.heap.size ≤ i) : Chg g v w w2 :=
  ⟨k.os.trans h.os, k.tape.trans h.tape, k.output.trans h.output, Nat.le_trans h.size k.size, fun i hi hg hv => (k.block i (Nat.lt_of_lt_of_le hi h.size) (fun e => by
    rcases hr i e.symm with a | a | a
    · exact hg a
    · exact hv a
    · omega)).trans (h.blk i hi hg hv)⟩
theorem Chg.then_ (h : Chg g v w w1) (k : Below w1.heap.size w1 w2) : Chg g v w w2 := h.grown (grown_of_below k none) (fun _ e => by cases e)
theorem Chg.pre (h : Below w.heap.size w w1) (k : Chg g v w1 w2) : Chg g v w w2 :=
  ⟨k.os.trans h.os, k.tape.trans h.tape, k.output.trans h.output, Nat.le_trans h.size k.size, fun i hi hg hv => (k.blk i (Nat.lt_of_lt_of_le hi h.size) hg hv).trans (h.block i hi)⟩
theorem Chg.low (h : Chg g v w w1) (hg : g ≤ w.heap.size) (hv : ∀ k, v.ownBlock = some k → g ≤ k) : Below g w w1 :=
  ⟨h.os, h.tape, h.output, h.size, fun i hi => h.blk i (by omega) (by omega) (fun e => by have := hv i e; omega)⟩
end
def pairL (b : List Int) (i : Nat) : List Int := (b.take (2 * i + 2)).drop (2 * i)
def dataL (b : List Int) (k : Nat) : List Int := (List.range k).map fun i => IntKind.i16.wrap (numB (pairL b i))
def dataE (s : FileS) (b : List Int) : Int := if s.done = true ∨ s.known = false ∨ (b.length : Int) % (2 * s.ch) ≠ 0 then 4 else if 8192 < (b.length : Int) / (2 * s.ch) then 2 else 0
def dataS (s : FileS) (b : List Int) : FileS := if dataE s b = 0 then { s with done := true, l := s.l ++ dataL b (b.length / 2) } else s

theorem i16_range (x : Int) : -32768 ≤ IntKind.i16.wrap x ∧ IntKind.i16.wrap x ≤ 32767 := by
  simp only [IntKind.wrap, IntKind.bits, IntKind.signed]; simp; split <;> omega
theorem dataL_length (b : List Int) (k : Nat) : (dataL b k).length = k := by simp [dataL]

set_option maxHeartbeats 1000000 in
set_option maxRecDepth 100000 in
theorem data_any (g n : Nat) (hgn : g < n) (v0 : Value) (s : FileS) (A : Option Addr) (c : Nat) (b : List Int) (w : World) (ok : Nat → Prop) (hF : FileAt g n v0 w s) (hnw : n ≤ w.heap.size) (hR : Sl (kInt .u8) ok w A c b) (hok : ∀ i, i < w.heap.size → ok i → i < g) (hb : Bytes b)
    (hk : s.known = true → s.ch = 1 ∨ s.ch = 2) (hl : b.length ≤ 1000000) (hsl : s.l.length ≤ 1000000) :
    Calls Tryd.prog 88 #[.pointer (some ⟨g, 0, none⟩), .slice A b.length c] w fun e w' => e = .returned (.int .i64 (dataE s b)) ∧ (∃ v', FileAt g n v' w' (dataS s b)) ∧ Chg g v0 w w' := by
  obtain ⟨ch, rate, known, done, l⟩ := s
  obtain ⟨hB, hO⟩ := hF
  have hv0 := hO.base_le
  simp only at hB hO hk hsl
  have k0 := hB.cell 0 rfl
  have k2 := hB.cell 2 rfl
  have k3 := hB.cell 3 rfl
  have fr3 := hB.free 3
  have hle := hR.le
  have hcap := hR.cap
  cases done with
  | true =>
    have HP := Lib.hid (show dataE ⟨ch, rate, known, true, l⟩ b = 4 by simp [dataE])
    go_enter Tryd.func88, Tryd.ntmps88
    go_wp2
    go_ret
    refine ⟨by rw [HP.out]; rfl, ⟨v0, ?_⟩, Chg.refl _ _ _⟩
    unfold dataS
    rw [HP.out, if_neg (by decide)]
    exact ⟨hB, hO⟩
  | false =>
    cases known with
    | false =>
      have HP := Lib.hid (show dataE ⟨ch, rate, false, false, l⟩ b = 4 by simp [dataE])
      go_enter Tryd.func88, Tryd.ntmps88
      go_wp2
      go_ret
      refine ⟨by rw [HP.out]; rfl, ⟨v0, ?_⟩, Chg.refl _ _ _⟩
      unfold dataS
      rw [HP.out, if_neg (by decide)]
      exact ⟨hB, hO⟩
    | true =>
      obtain ⟨q, hq, hq2⟩ : ∃ q : Nat, (q : Int) = 2 * ch ∧ (q = 2 ∨ q = 4) := by
        rcases hk rfl with rfl | rfl
        · exact ⟨2, rfl, .inl rfl⟩
        · exact ⟨4, rfl, .inr rfl⟩
      have hch : ch = 1 ∨ ch = 2 := hk rfl
      clear hk
      have hmul : wrap64 (2 * ch) = (q : Int) := by rw [IntWalk.wrap64_in _ (by omega)]; exact hq.symm
      have hmul2 : IntKind.i64.wrap (2 * ch) = (q : Int) := (IntWalk.i64_in _ (by omega)).trans hq.symm
      have hE0 : dataE ⟨ch, rate, true, false, l⟩ b = if b.length % q ≠ 0 then 4 else if 8192 < b.length / q then 2 else 0 := by
        unfold dataE
        simp only [← hq, Bool.false_eq_true, reduceCtorEq, false_or]
        have e1 : ((b.length : Int) % (q : Int) ≠ 0) ↔ (b.length % q ≠ 0) := by rw [← Int.natCast_emod]; omega
        have e2 : ((8192 : Int) < (b.length : Int) / (q : Int)) ↔ (8192 < b.length / q) := by rw [← Int.natCast_ediv]; omega
        simp only [e1, e2]
      have HE0 := Lib.hid hE0
      clear hE0
      have HQ := Lib.hid hq
      have HCH := Lib.hid hch
      have hn0 : ¬ q = 0 := by omega
      have hn1 : ¬ (q : Int) = 0 := by omega
      clear hq hch
      obtain ⟨r, hr⟩ : ∃ r : Nat, b.length % q = r := ⟨_, rfl⟩
      have hrm : (b.length : Int) % (q : Int) = (r : Int) := by rw [← Int.natCast_emod, hr]
      have hrt : Int.tmod (b.length : Int) (q : Int) = (r : Int) := by rw [Int.tmod_eq_emod_of_nonneg (by omega)]; exact hrm
      obtain ⟨z, hz⟩ : ∃ z : Nat, b.length / q = z := ⟨_, rfl⟩
      have hzm : (b.length : Int) / (q : Int) = (z : Int) := by rw [← Int.natCast_ediv, hz]
      have hzt : Int.tdiv (b.length : Int) (q : Int) = (z : Int) := by rw [Int.tdiv_eq_ediv_of_nonneg (by omega)]; exact hzm
      have hzb : z ≤ 1000000 := by rw [← hz]; exact Nat.le_trans (Nat.div_le_self _ _) hl
      have HR1 := Lib.hid hr
      have HZ1 := Lib.hid hz
      clear hr hz
      by_cases hr0 : r = 0
      · by_cases hzz : 8192 < z
        · have HP := Lib.hid (show dataE ⟨ch, rate, true, false, l⟩ b = 2 by rw [HE0.out, HR1.out, HZ1.out, if_neg (by simp [hr0]), if_pos hzz])
          go_enter Tryd.func88, Tryd.ntmps88
          go_wp2
          go_ret
          refine ⟨by rw [HP.out]; rfl, ⟨v0, ?_⟩, Chg.refl _ _ _⟩
          unfold dataS
          rw [HP.out, if_neg (by decide)]
          exact ⟨hB, hO⟩
        · have HP := Lib.hid (show dataE ⟨ch, rate, true, false, l⟩ b = 0 by rw [HE0.out, HR1.out, HZ1.out, if_neg (by simp [hr0]), if_neg hzz])
          have heven : Hid (b.length % 2 = 0) := Lib.hid (by
            have h1 := HR1.out
            rcases hq2 with rfl | rfl <;> omega)
          have hzi : ¬ (8192 : Int) < (z : Int) := by omega
          obtain ⟨i0, hi0, hz0, hz1, hz2⟩ := info_parts infoY
          subst hr0
          go_enter Tryd.func88, Tryd.ntmps88
          go_wp2
          go_loopw [5] (fun i wr => ∃ (k j : Nat) (v : Value), j ≤ b.length ∧ Hid (j = 2 * k) ∧ i = .int .i64 j ∧ Blk wr g #[.int .i64 ch, .int .i64 rate, .bool true, .bool true, v] 67 ∧ OwnI 3 .i64 n wr v (l ++ dataL b k) ∧ (v.ownBlock = v0.ownBlock ∨ ∃ i, v.ownBlock = some i ∧ w.heap.size ≤ i) ∧ Chg g v0 w wr) (fun i _ => b.length - (intOf i).toNat)
          case atStart =>
            have hst := hB.set 3 (.bool true)
            refine ⟨0, 0, v0, Nat.zero_le _, Lib.hid rfl, rfl, hst, ?_, .inl rfl, (Chg.refl g v0 w).grown (grown_setCell w g 3 _) (fun i e => .inl (Option.some.inj e).symm)⟩
            rw [show l ++ dataL b 0 = l by simp [dataL]]
            exact hO.grown (grown_setCell w g 3 _) (.inr (fun e => by have := hO.base_le g e; omega))
          case round =>
            obtain ⟨k, j, v, hj, hjk, rfl, hB, hO, hvr, hCw⟩ := hrel
            have hBw := hCw.low (Nat.le_trans (Nat.le_of_lt hgn) hnw) (fun k e => by have := hv0 k e; omega)
            have HVR := Lib.hid hvr
            clear hvr
            have k4 := hB.cell 4 rfl
            have fr4 := hB.free 4
            have hlt := hB.lt
            by_cases hjl : j < b.length
            · have h2 : j + 2 ≤ b.length := by have := heven.out; have := hjk.out; omega
              obtain ⟨A6, hcut, hsl6⟩ := cut_mid (P := Tryd.prog) 25 5 Tryd.underlying25 hi0 A b.length c j (j + 2) (by omega) h2 hle
              have e6 : ((j + 2 : Nat) : Int) = (j : Int) + 2 := by omega
              have e7 : j + 2 - j = 2 := by omega
              rw [e6, e7] at hcut
              replace hcut : ∀ W : World, (Instr.slice 25 (.slice A b.length c) (some (.int .i64 (j : Int))) (some (.int .i64 ((j : Int) + 2))) none).run Tryd.prog W = .ok (.slice A6 2 (c - j)) W := hcut
              have hs6 := hsl6 (kInt .u8) ok w b hz1.symm rfl hR
              have hp6 : (b.take (j + 2)).drop j = pairL b k := by unfold pairL; rw [hjk.out]
              rw [hp6] at hs6
              have hl6 : (pairL b k).length = 2 := by rw [← hp6, List.length_drop, List.length_take]; omega
              have hy6 : Bytes (pairL b k) := fun x hx => hb x (by unfold pairL at hx; exact List.mem_of_mem_take (List.mem_of_mem_drop hx))
              have HNd := number_any A6 (c - j) (pairL b k) wr.drew ((((hs6.weak (ok' := fun i => i < g) (fun i hi ho => hok i hi ho)).keep (Keep.of_below hBw)).below (Below.refl _ _).drew).any) hy6 (by omega)
              rw [hl6] at HNd
              have hx0 := (numB_nonneg _ hy6).1
              have hx1 := (numB_nonneg _ hy6).2
              rw [hl6] at hx1
              have HD0 := Lib.hid (show dataL b (k + 1) = dataL b k ++ [IntKind.i16.wrap (numB (pairL b k))] by simp [dataL, List.range_succ])
              obtain ⟨x, hx⟩ : ∃ x, numB (pairL b k) = x := ⟨_, rfl⟩
              rw [hx] at HNd hx0 hx1 HD0
              have HX := Lib.hid hx
              obtain ⟨y, hy⟩ : ∃ y, IntKind.i16.wrap x = y := ⟨_, rfl⟩
              have hyb : IntKind.i64.wrap y = y := IntWalk.i64_in _ (by have := i16_range x; omega)
              rw [hy] at HD0
              have HN := Lib.hid HNd
              clear hx HNd e6 e7 hs6 hp6 hl6 hy6 hsl6
              go_wp2_with fail
              have hbase : n ≤ wr.heap.size := Nat.le_trans hnw hBw.size
              have hbk := hO.base_le
              have hOd := own_kI (hO.below (Below.refl wr.heap.size wr).drew)
              have hBd := hB.below (Below.refl wr.heap.size wr).drew
              have k4a := cell_below (below_alloc (Below.refl wr.heap.size wr) (.cells #[.int .i64 y] 3)) k4
              have HL := Lib.hid (show ((l ++ dataL b k).length + 1) * 8 ≤ 140737488355328 by rw [List.length_append, dataL_length]; have := hjk.out; omega)
              have hw2 : IntKind.i64.wrap ((j : Int) + 2) = (j : Int) + 2 := IntWalk.i64_in _ (by omega)
              go_region_law (first | (go_simp; go_at_call 58; refine HN.out.mono ?_; rintro e w' ⟨rfl, rfl⟩) | ((go_loud (refine step_append_k (W := wr.drew) (k := kInt .i64) n ?a1 (.tmp 52) (.tmp 61) 36 3 (.int .i64 0) 8 (fun _ => True) ?a2 Tryd.underlying36 infoI ?a3 ?a4 ?a5 v (l ++ dataL b k) y [.int .i64 y] ?a6 ?a7 ?a8 ?hO ?hx ?hb ?hl ?_)); (case a1 => rfl); (case a2 => rfl); (case a3 => rfl); (case a4 => decide); (case a5 => decide); (case a6 => rfl); (case a7 => rfl); (case a8 => rfl); (case hO => exact hOd); (case hx => rfl); (case hb => exact hbase); (case hl => exact HL.out); intro g6 cap6 w6 hO6 hg6 hb6 ha6; have B6 := hBd.keep (Keep.of_grown hg6) (fun e => by have := hbk _ e.symm; omega); have f6 := B6.free 4; have q6 := B6.cell 4 rfl))
              all_goals
                have hO7 := own_Ik hO6
                simp only [List.length_append] at hO7
                rw [List.append_assoc, ← HD0.out] at hO7
                have hstB := B6.set 4 (.slice (some ⟨g6, 0, none⟩) (l.length + (dataL b k).length + 1) cap6)
                have hstO := hO7.grown (grown_setCell w6 g 4 (.slice (some ⟨g6, 0, none⟩) (l.length + (dataL b k).length + 1) cap6)) (.inr (fun e => by have := hO7.base_le g e; omega))
                have hsz := hCw.size
                have hbf := ((hCw.then_ (Below.refl wr.heap.size wr).drew).grown hg6 (fun i e => by
                  rcases HVR.out with h1 | ⟨i1, h1, h2⟩
                  · exact .inr (.inl (h1.symm.trans e))
                  · rw [h1] at e; have := Option.some.inj e; exact .inr (.inr (by omega)))).grown (grown_setCell w6 g 4 (.slice (some ⟨g6, 0, none⟩) (l.length + (dataL b k).length + 1) cap6)) (fun i e => .inl (Option.some.inj e).symm)
                have hvn : ((Value.slice (some ⟨g6, 0, none⟩) (l.length + (dataL b k).length + 1) cap6).ownBlock = v0.ownBlock ∨ ∃ i, (Value.slice (some ⟨g6, 0, none⟩) (l.length + (dataL b k).length + 1) cap6).ownBlock = some i ∧ w.heap.size ≤ i) := by
                  rcases ha6 with h4 | h4
                  · rcases HVR.out with h1 | ⟨i1, h1, h2⟩
                    · exact .inl (h4.symm.trans h1)
                    · rw [h1] at h4; have := Option.some.inj h4; exact .inr ⟨g6, rfl, by omega⟩
                  · exact .inr ⟨g6, rfl, by have : wr.heap.size < g6 := h4; omega⟩
                clear hw2 hyb
                go_wp2_with fail
                go_roundw
                case rel => exact ⟨k + 1, j + 2, _, by omega, Lib.hid (by have := hjk.out; omega), by go_num, hstB, hstO, hvn, hbf⟩
                case measure => simp [intOf]; omega
            · obtain rfl : j = b.length := by omega
              have hk2 : b.length / 2 = k := by have := hjk.out; omega
              go_wp2
              go_ret
              refine ⟨by rw [HP.out]; rfl, ⟨v, ?_⟩, hCw⟩
              unfold dataS
              rw [HP.out, if_pos rfl, hk2]
              exact ⟨hB, hO⟩
      · have HP := Lib.hid (show dataE ⟨ch, rate, true, false, l⟩ b = 4 by rw [HE0.out, HR1.out, if_pos hr0])
        have hri : ¬ (r : Int) = 0 := by omega
        go_enter Tryd.func88, Tryd.ntmps88
        go_wp2
        go_ret
        refine ⟨by rw [HP.out]; rfl, ⟨v0, ?_⟩, Chg.refl _ _ _⟩
        unfold dataS
        rw [HP.out, if_neg (by decide)]
        exact ⟨hB, hO⟩

theorem pass_any (g : Nat) (v : Value) (w : World) :
    Calls Tryd.prog 86 #[.pointer (some ⟨g, 0, none⟩), v] w fun e w' => e = .returned (.int .i64 0) ∧ w = w' := by
  go_enter Tryd.func86, Tryd.ntmps86
  go_wp2
  go_ret
  exact ⟨rfl, rfl⟩
end Go.Proofs.YtijcecakofmhcaaDoor
