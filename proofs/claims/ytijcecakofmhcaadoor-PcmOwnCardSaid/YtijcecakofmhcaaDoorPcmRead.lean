/- pcm: Read: what the call returns, for any bytes. -/
import Derived.Test.YtijcecakofmhcaaDoorPcmReadL
namespace Go.Proofs.YtijcecakofmhcaaDoor
open Go.RowKit Go.Shelf

def fst0 : FileS := ⟨0, 0, false, false, []⟩
def nRiff : List Int := [82, 73, 70, 70]
def nWave : List Int := [87, 65, 86, 69]
def headB (b : List Int) : Bool := decide (b.take 4 = nRiff) && (decide (numB ((b.take 8).drop 4) = (b.length : Int) - 8) && decide ((b.take 12).drop 8 = nWave))
def readS (b : List Int) : Int × List (List Int) × Int :=
  if b.length < 12 then (0, [], 3) else if headB b = false then (0, [], 4) else
  if (readC fst0 (chunksF ((b.drop 12).length + 1) (b.drop 12))).1 ≠ 0 then (0, [], (readC fst0 (chunksF ((b.drop 12).length + 1) (b.drop 12))).1) else
  if (readC fst0 (chunksF ((b.drop 12).length + 1) (b.drop 12))).2.done = false then (0, [], 4) else
  splitS (readC fst0 (chunksF ((b.drop 12).length + 1) (b.drop 12))).2.l (readC fst0 (chunksF ((b.drop 12).length + 1) (b.drop 12))).2.ch (readC fst0 (chunksF ((b.drop 12).length + 1) (b.drop 12))).2.rate

theorem read_res (tmps : Array Value) (W : World) (g2 g3 : Nat) (r e : Int) (A : Option Addr) (n c : Nat) (h2 : tmps[2]?.getD undef = .pointer (some ⟨g2, 0, none⟩)) (h3 : tmps[3]?.getD undef = .pointer (some ⟨g3, 0, none⟩))
    (B2 : Blk W g2 #[.int .i64 r, .slice A n c] 24) (B3 : Blk W g3 #[.int .i64 e] 28) : (results Tryd.f16 tmps).run Tryd.prog W = .ok (.tuple #[.agg #[.int .i64 r, .slice A n c], .int .i64 e]) W := by
  have z0 := B2.cell 0 rfl
  have z1 := B2.cell 1 rfl
  have z3 := B3.cell 0 rfl
  simp [results, Tryd.f16, go_sem, h2, h3, z0, z1, z3]
/-- A statement that goes on: what its panics would have to show is of no account. -/
theorem wp_nopanic {P : Program} {c : Code} {K : Act → World → Prop} {Q' : Exit → Act → World → Prop} {a : Act} {w : World} (h : c.wp P (Exit.then K (fun _ _ _ => False)) a w) : c.wp P (Exit.then K Q') a w :=
  wp_mono h (fun e a w q => by cases e <;> first | exact q | exact q.elim)
theorem GR.lt {w : World} (h : GR w) : 0 < w.heap.size := by
  obtain ⟨ad, cs, e, _, hl, _⟩ := h.rd 0 (by decide)
  cases e; exact hl
theorem headB_no1 {b : List Int} (h : ¬ b.take 4 = nRiff) : headB b = false := by simp [headB, h]
theorem headB_no2 {b : List Int} (h : ¬ numB ((b.take 8).drop 4) = (b.length : Int) - 8) : headB b = false := by simp [headB, h]
theorem headB_no3 {b : List Int} (h : ¬ (b.take 12).drop 8 = nWave) : headB b = false := by simp [headB, h]
theorem ba_nums (l : List Int) (l' : List UInt8) (h : l.map (fun n => UInt8.ofNat n.toNat) = l') : ((strOfNums l).toList == l') = true := by
  rw [ba_toList, strOfNums_data, h]; exact beq_self_eq_true _

set_option maxHeartbeats 2000000 in
set_option maxRecDepth 100000 in
theorem read_any (A : Option Addr) (c : Nat) (b : List Int) (w : World) (hG : GR w) (hR : RY w A c b) (hb : Bytes b) (hl : b.length ≤ 60000) :
    Calls Tryd.prog 16 #[.slice A b.length c] w fun e w' => RetS w.heap.size (readS b) e w' ∧ Below w.heap.size w w' := by
  have hle := hR.le
  have hcap := hR.cap
  refine (callsIn_wide (n := 9)).1 ?_
  refine callsIn_of_wp_marks Tryd.func16 rfl trivial ?_ rfl
  refine wpIn_wide.2 ?_
  simp only [Tryd.ntmps16, List.size_toArray, List.length_cons, List.length_nil, Nat.reduceAdd, Nat.reduceSub, Array.replicate_succ, Array.replicate_zero, List.push_toArray, List.append_toArray, List.nil_append, List.cons_append]
  by_cases h12 : b.length < 12
  · have HP := Lib.hid (show readS b = (0, [], 3) by rw [readS, if_pos h12])
    go_wp2_with (first | ((with_reducible refine at_dst (N := 2) rfl ?_); refine ev_new #[.int .i64 0, .slice none 0 0] 24 rfl ?hr ?_; (case hr => first | (go_simp; done) | (go_simp; rfl)); intro g2 w2 eg2 zg2 b2 Bg2; skip) | ((with_reducible refine at_dst (N := 3) rfl ?_); refine ev_new #[.int .i64 0] 28 rfl ?hr ?_; (case hr => first | (go_simp; done) | (go_simp; rfl)); intro g3 w3 eg3 zg3 b3 Bg3; skip) | ((with_reducible refine at_store (p := 2) rfl ?_); (refine ev_put #[.int .i64 0, .slice none 0 0] rfl 24 (.tmp 2) (.tmp 11) rfl g2 24 _ rfl rfl (Bg2.below b3) sizeS rfl rfl ?_); intro wf Bq hqf hzf; have D3 := Bg3.keep (Keep.of_grown hqf) (fun e => by have := Option.some.inj e; have := eg3.out; have := Bg2.lt; omega); have y0 := D3.cell 0 rfl; have yf := D3.free 0))
    have D2 := Bq.keep (Keep.of_grown1 (grown_setCell wf g3 0 (.int .i64 3))) (by have := eg3.out; have := Bg2.lt; omega)
    refine ⟨_, read_res _ _ g2 g3 _ _ _ _ _ rfl rfl D2 (D3.set 0 (.int .i64 3)), ?_, ?_⟩
    · rw [HP.out]; exact RetS.none _ _ _
    · have hg2 := eg2.out
      have hg3 := eg3.out
      have hz2 := zg2.out
      have hz3 := zg3.out
      exact below_grown (below_grown (below2 b2 b3) (by omega) hqf (fun k e => by have := Option.some.inj e; omega)) (by have := hqf.size; omega) (grown_setCell wf g3 0 (.int .i64 3)) (fun k e => by have := Option.some.inj e; omega)
  · obtain ⟨i0, hi0, hz0, hz1, hz2⟩ := info_parts infoY
    obtain ⟨A1, hcut1, hsl1⟩ := cut_to (P := Tryd.prog) 25 5 Tryd.underlying25 hi0 A b.length c 4 (by omega) hle
    obtain ⟨A2, hcut2, hsl2⟩ := cut_mid (P := Tryd.prog) 25 5 Tryd.underlying25 hi0 A b.length c 4 8 (by omega) (by omega) hle
    obtain ⟨A3, hcut3, hsl3⟩ := cut_mid (P := Tryd.prog) 25 5 Tryd.underlying25 hi0 A b.length c 8 12 (by omega) (by omega) hle
    replace hcut1 : ∀ W : World, (Instr.slice 25 (.slice A b.length c) none (some (.int .i64 4)) none).run Tryd.prog W = .ok (.slice A1 4 c) W := hcut1
    replace hcut2 : ∀ W : World, (Instr.slice 25 (.slice A b.length c) (some (.int .i64 4)) (some (.int .i64 8)) none).run Tryd.prog W = .ok (.slice A2 4 (c - 4)) W := hcut2
    replace hcut3 : ∀ W : World, (Instr.slice 25 (.slice A b.length c) (some (.int .i64 8)) (some (.int .i64 12)) none).run Tryd.prog W = .ok (.slice A3 4 (c - 8)) W := hcut3
    have hs1 := hsl1 (kInt .u8) AnyB w b hz1.symm rfl hR
    have hs2 := hsl2 (kInt .u8) AnyB w b hz1.symm rfl hR
    have hs3 := hsl3 (kInt .u8) AnyB w b hz1.symm rfl hR
    have hl1 : (b.take 4).length = 4 := by rw [List.length_take]; omega
    have hl2 : ((b.take 8).drop 4).length = 4 := by rw [List.length_drop, List.length_take]; omega
    have hl3 : ((b.take 12).drop 8).length = 4 := by rw [List.length_drop, List.length_take]; omega
    have hb1 : Bytes (b.take 4) := fun x hx => hb x (List.mem_of_mem_take hx)
    have hb2 : Bytes ((b.take 8).drop 4) := fun x hx => hb x (List.mem_of_mem_take (List.mem_of_mem_drop hx))
    have hb3 : Bytes ((b.take 12).drop 8) := fun x hx => hb x (List.mem_of_mem_take (List.mem_of_mem_drop hx))
    obtain ⟨st1, hst1⟩ : ∃ st1, strOfNums (b.take 4) = st1 := ⟨_, rfl⟩
    obtain ⟨st3, hst3⟩ : ∃ st3, strOfNums ((b.take 12).drop 8) = st3 := ⟨_, rfl⟩
    obtain ⟨M, hM⟩ : ∃ M, numB ((b.take 8).drop 4) = M := ⟨_, rfl⟩
    have HV1 : Hid (∀ W : World, Below w.heap.size w W → (convert 25 9 (.slice A1 4 c)).run Tryd.prog W = .ok (.string st1) W) := Lib.hid fun W hW => by
      have := conv_str (P := Tryd.prog) Tryd.underlying25 Tryd.underlying5 Tryd.underlying9 (c := c) (hs1.below hW)
      rw [hl1, hst1] at this
      exact this
    have HV3 : Hid (∀ W : World, Below w.heap.size w W → (convert 25 9 (.slice A3 4 (c - 8))).run Tryd.prog W = .ok (.string st3) W) := Lib.hid fun W hW => by
      have := conv_str (P := Tryd.prog) Tryd.underlying25 Tryd.underlying5 Tryd.underlying9 (c := c - 8) (hs3.below hW)
      rw [hl3, hst3] at this
      exact this
    have HN : Hid (∀ W : World, Below w.heap.size w W → Calls Tryd.prog 58 #[.slice A2 4 (c - 4)] W fun e w' => e = .returned (.int .i64 M) ∧ W = w') := Lib.hid fun W hW => by
      have := number_any A2 (c - 4) ((b.take 8).drop 4) W (hs2.below hW).any hb2 (by omega)
      rw [hl2, hM] at this
      exact this
    have hMb := numB_nonneg _ hb2
    rw [hl2, hM] at hMb
    clear hsl1 hsl2 hsl3 hs1 hs2 hs3 hl1 hl2 hl3 hb2
    by_cases h1 : b.take 4 = nRiff
    · have he1 : (st1.toList == [82, 73, 70, 70]) = true := by rw [← hst1, h1]; exact ba_nums _ _ rfl
      have HS1 := Lib.hid h1
      have HT1 := Lib.hid hst1
      clear h1 hst1 hb1
      by_cases h2 : M = (b.length : Int) - 8
      · by_cases h3 : (b.take 12).drop 8 = nWave
        · have he3 : (st3.toList == [87, 65, 86, 69]) = true := by rw [← hst3, h3]; exact ba_nums _ _ rfl
          have HS3 := Lib.hid (show readS b = _ by rw [readS, if_neg h12, if_neg (show ¬ headB b = false by simp [headB, HS1.out, hM, h2, h3])])
          obtain ⟨A4, hcut4, hsl4⟩ := cut_from (P := Tryd.prog) 25 5 Tryd.underlying25 hi0 A b.length c 12 (by omega)
          replace hcut4 : ∀ W : World, (Instr.slice 25 (.slice A b.length c) (some (.int .i64 12)) none none).run Tryd.prog W = .ok (.slice A4 (b.length - 12) (c - 12)) W := hcut4
          have hs4 := Lib.hid (hsl4 (kInt .u8) AnyB w b hz1.symm rfl hR)
          have hl4 := Lib.hid (show (b.drop 12).length = b.length - 12 by rw [List.length_drop])
          have HCH : Hid (∀ W : World, Calls Tryd.prog 59 #[.slice A4 (b.length - 12) (c - 12)] W fun e w' => ∃ g, e = .returned (.func (.func 85) #[] #[.pointer (some ⟨g, 0, none⟩)]) ∧ Hid (g = W.heap.size) ∧ Blk w' g #[.slice A4 (b.drop 12).length (c - 12)] 25 ∧ Hid (w'.heap.size = g + 1) ∧ Below W.heap.size W w') := Lib.hid fun W => by
            have := chunks_any A4 (c - 12) (b.drop 12) W
            rw [hl4.out] at this ⊢
            exact this
          clear h3 hst3 hb3 hM hsl4
          go_wp2_with (first | ((with_reducible refine at_dst (N := 2) rfl ?_); refine ev_new #[.int .i64 0, .slice none 0 0] 24 rfl ?hr ?_; (case hr => first | (go_simp; done) | (go_simp; rfl)); intro g2 w2 eg2 zg2 b2 Bg2; skip) | ((with_reducible refine at_dst (N := 3) rfl ?_); refine ev_new #[.int .i64 0] 28 rfl ?hr ?_; (case hr => first | (go_simp; done) | (go_simp; rfl)); intro g3 w3 eg3 zg3 b3 Bg3; have hcv1 := HV1.out w3 (below2 b2 b3); have hcv3 := HV3.out w3 (below2 b2 b3)) | (go_at_call 58; refine (HN.out w3 (below2 b2 b3)).mono ?_; rintro e w4 ⟨rfl, rfl⟩) | ((with_reducible refine at_dst (N := 34) rfl ?_); refine ev_new #[.int .i64 0, .int .i64 0, .bool false, .bool false, .slice none 0 0] 67 rfl ?hr ?_; (case hr => first | (go_simp; done) | (go_simp; rfl)); intro g wf eg zg bf Bg; skip) | ((with_reducible refine at_dst (N := 4) rfl ?_); refine ev_new #[.pointer none] 65 rfl ?hr ?_; (case hr => first | (go_simp; done) | (go_simp; rfl)); intro g4 w5 eg4 zg4 b5 Bg4; have p0 := Bg4.cell 0 rfl; have pf := Bg4.free 0) | (go_at_call 59; refine (HCH.out _).mono ?_; rintro e w6 ⟨gb, rfl, egb, Bgb, zgb, hBb⟩))
          have F2 := eg2.out
          have F3 := eg3.out
          have Fg := eg.out
          have F4 := eg4.out
          have Fb := egb.out
          have Z2 := zg2.out
          have Z3 := zg3.out
          have Zg := zg.out
          have Z4 := zg4.out
          have Zb := zgb.out
          have hst := grown_setCell w5 g4 0 (.pointer (some ⟨g, 0, none⟩))
          have Zs : (w5.setCell ⟨g4, 0, none⟩ (.pointer (some ⟨g, 0, none⟩))).heap.size = w5.heap.size := World.size_setCell _ _ _
          have kst := Keep.of_grown1 hst
          have T2 := (((((Bg2.below b3).below bf).below b5).keep kst (by omega)).below hBb)
          have T3 := ((((Bg3.below bf).below b5).keep kst (by omega)).below hBb)
          have Tg := (((Bg.below b5).keep kst (by omega)).below hBb)
          have T4 := (Bg4.set 0 (.pointer (some ⟨g, 0, none⟩))).below hBb
          have hlo : Below w.heap.size w w6 := below_then (below_grown (below2 (below2 (below2 b2 b3) bf) b5) (by omega) hst (fun k e => by have := Option.some.inj e; omega)) (by omega) hBb
          have hs6 : Sl (kInt .u8) (fun i => i < w.heap.size) w6 A4 (c - 12) (b.drop 12) := (hs4.out.weak (fun i hi _ => hi)).keep (Keep.of_below hlo)
          have hgl : 0 < w.heap.size := hG.lt
          refine (wpIn_wide (n := 9)).1 ?_
          refine read_loop w w6 g2 g3 g4 g gb A4 (c - 12) (b.drop 12) fst0 _ _ _ _ _ _ _ _ _ _ _ _ _ _ _ _ _ _ _ _ _ _ _ _ _ _ _ _ _ _ _ _ _ _ _ _ _ _ _ _ _ _ _ _ _ _ _ _ _ _ _ _ _ _ _ _ _ _ _ _ _ _ _ _ hG hgl (by omega) (by omega) (by omega) (by omega) (by omega) (by omega) ⟨⟨.slice none 0 0, Tg, OwnI.nil _ _ _ _⟩, T2, T3, T4, hlo, by omega⟩ ⟨(fun e => (by cases e)), fun _ => rfl, by decide⟩ (fun x hx => hb x (List.mem_of_mem_drop hx)) (by rw [List.length_drop]; omega) hs6 Bgb ?_ ?_
          · intro D W s hD hI hC hF hK
            obtain ⟨ch, rate, known, done, l⟩ := s
            obtain ⟨v, hFB, hFO⟩ := hI.file
            have q4 := hI.ptr.cell 0 rfl
            have c0 := hFB.cell 0 rfl
            have c1 := hFB.cell 1 rfl
            have c3 := hFB.cell 3 rfl
            have c4 := hFB.cell 4 rfl
            have a0 := hI.snd.cell 0 rfl
            have a1 := hI.snd.cell 1 rfl
            have f0 := hI.snd.free 0
            have f1 := hI.snd.free 1
            have e0 := hI.err.cell 0 rfl
            have ef := hI.err.free 0
            have HI := Lib.hid hI
            have HK := Lib.hid hK
            have HFB := Lib.hid hFB
            have hvb := hFO.base_le
            have l3 := hI.err.lt
            have hle' := hFO.slice
            obtain ⟨Av, cv, hvv⟩ := hFO.slice
            have hlow := hI.low
            have RV := own_sl (by rw [hvv] at hFO; exact hFO)
            subst hvv
            have x2 : w.heap.size ≤ g2 := by omega
            have x23 : g2 < g3 := by omega
            have x3g : g3 < g := by omega
            have x4 : g < g4 := by omega
            have x4b : g4 < gb := by omega
            have xD : gb < D := by omega
            clear hI hK hFB hFO hle'
            clear F2 F3 Fg F4 Fb Z2 Z3 Zg Z4 Zb hst Zs kst T2 T3 Tg T4 hs6 hlo Bgb hBb Bg2 Bg3 Bg Bg4 p0 pf hcv1 hcv3 hcut1 hcut2 hcut3 hcut4 he1 he3
            simp only at c0 c1 c3 c4
            cases done with
            | false =>
              have HP := Lib.hid (show readS b = (0, [], 4) by rw [HS3.out, if_neg (by rw [hC]; simp), if_pos (by rw [hC])])
              go_wp2
              have B2 := ((HI.out.snd.set 0 (.int .i64 0)).set 1 (.slice none 0 0)).keep (Keep.of_grown1 (grown_setCell _ g3 0 (.int .i64 4))) (by omega)
              have B3 := ((HI.out.err.keep (Keep.of_grown1 (grown_setCell W g2 0 (.int .i64 0))) (by omega)).keep (Keep.of_grown1 (grown_setCell _ g2 1 (.slice none 0 0))) (by omega)).set 0 (.int .i64 4)
              have L5 : Below w.heap.size w (((W.setCell ⟨g2, 0, none⟩ (.int .i64 0)).setCell ⟨g2, 1, none⟩ (.slice none 0 0)).setCell ⟨g3, 0, none⟩ (.int .i64 4)) :=
                below_grown (below_grown (below_grown hlow hlow.size (grown_setCell W g2 0 (.int .i64 0)) (fun k e => by have := Option.some.inj e; omega)) (by have := hlow.size; have := (grown_setCell W g2 0 (.int .i64 0)).size; omega) (grown_setCell _ g2 1 (.slice none 0 0)) (fun k e => by have := Option.some.inj e; omega)) (by have := hlow.size; have := (grown_setCell W g2 0 (.int .i64 0)).size; have := (grown_setCell (W.setCell ⟨g2, 0, none⟩ (.int .i64 0)) g2 1 (.slice none 0 0)).size; omega) (grown_setCell _ g3 0 (.int .i64 4)) (fun k e => by have := Option.some.inj e; omega)
              have K5 := (((KeepsOthers.setCell W ⟨g2, 0, none⟩ (.int .i64 0)).trans (KeepsOthers.setCell _ ⟨g2, 1, none⟩ (.slice none 0 0))).trans (KeepsOthers.setCell _ ⟨g3, 0, none⟩ (.int .i64 4))).same D _ HK.out rfl
              refine ⟨by simp, .inl ⟨_, _, rfl, run_takeDeferred K5, ?_⟩⟩
              have kp := Keep.of_grown1 (grownBy_putObj' (((W.setCell ⟨g2, 0, none⟩ (.int .i64 0)).setCell ⟨g2, 1, none⟩ (.slice none 0 0)).setCell ⟨g3, 0, none⟩ (.int .i64 4)) D (.deferred none))
              refine ⟨_, read_res _ _ g2 g3 _ _ _ _ _ rfl rfl (B2.keep kp (by omega)) (B3.keep kp (by omega)), ?_, ?_⟩
              · rw [HP.out]; exact RetS.none _ _ _
              · exact below_grown L5 L5.size (grownBy_putObj' _ D (.deferred none)) (fun k e => by have := Option.some.inj e; have := hlow.size; omega)
            | true =>
              have HP := Lib.hid (show readS b = splitS l ch rate by rw [HS3.out, if_neg (by rw [hC]; simp), if_neg (by rw [hC]; simp), hC])
              go_wp2_with fail
              obtain ⟨R1, R2', R3, hRR⟩ : ∃ R1 R2' R3, splitS l ch rate = (R1, R2', R3) := ⟨_, _, _, rfl⟩
              have HSP := Lib.hid (split_any Av cv l ch rate W.drew (hG.below (hlow.drew)) (RV.below (Below.refl _ _).drew))
              rw [hRR] at HSP
              have HRR := Lib.hid hRR
              clear hRR
              refine wp_nopanic ?_
              have y42 : g4 ≠ g2 := by omega
              have y43 : g4 ≠ g3 := by omega
              have yg2 : g ≠ g2 := by omega
              have yg3 : g ≠ g3 := by omega
              have z42 : g2 ≠ g4 := by omega
              have z43 : g3 ≠ g4 := by omega
              have zg2 : g2 ≠ g := by omega
              have zg3 : g3 ≠ g := by omega
              clear hMb HV1 HV3 HN h2 hC a0 a1 f0 f1 e0 ef
              go_region_held3 (fun W => W.cell? ⟨g4, 0, none⟩ = some (.pointer (some ⟨g, 0, none⟩)) ∧ W.cell? ⟨g, 0, none⟩ = some (.int .i64 ch) ∧ W.cell? ⟨g, 1, none⟩ = some (.int .i64 rate) ∧ W.cell? ⟨g, 4, none⟩ = some (.slice Av l.length cv)) (go_keep) (first | (go_at_call 22; refine HSP.out.mono ?_; rintro e w8 ⟨⟨A8, c8, rfl, S8⟩, B8⟩; (dsimp only at S8 ⊢); have HS8 := Lib.hid S8; have HB8 := Lib.hid (below2 (Below.refl W.heap.size W).drew B8); have N2 := HI.out.snd.below HB8.out; have N3 := HI.out.err.below HB8.out; have n0 := N2.cell 0 rfl; have n1 := N2.cell 1 rfl; have m0 := N2.free 0; have m1 := N2.free 1; have n3 := N3.cell 0 rfl; have m3 := N3.free 0; have d4 := (HI.out.ptr.below HB8.out).cell 0 rfl; have d0 := (HFB.out.below HB8.out).cell 0 rfl; have d1 := (HFB.out.below HB8.out).cell 1 rfl; have d3 := (HFB.out.below HB8.out).cell 4 rfl; (clear S8 B8 N2 N3 HSP c0 c1 c3 c4 q4 RV)))
              go_wp2
              have hWs := HI.out.err.lt
              have hDW : D < W.heap.size := (Array.getElem?_eq_some_iff.1 HK.out).1
              have hl8 := below2 hlow HB8.out
              have B2 := (((HI.out.snd.below HB8.out).set 0 (.int .i64 R1)).set 1 (.slice A8 R2'.length c8)).keep (Keep.of_grown1 (grown_setCell _ g3 0 (.int .i64 R3))) (by omega)
              have B3 := (((HI.out.err.below HB8.out).keep (Keep.of_grown1 (grown_setCell w8 g2 0 (.int .i64 R1))) (by omega)).keep (Keep.of_grown1 (grown_setCell _ g2 1 (.slice A8 R2'.length c8))) (by omega)).set 0 (.int .i64 R3)
              have L5 : Below w.heap.size w (((w8.setCell ⟨g2, 0, none⟩ (.int .i64 R1)).setCell ⟨g2, 1, none⟩ (.slice A8 R2'.length c8)).setCell ⟨g3, 0, none⟩ (.int .i64 R3)) :=
                below_grown (below_grown (below_grown hl8 hl8.size (grown_setCell w8 g2 0 (.int .i64 R1)) (fun k e => by have := Option.some.inj e; omega)) (by have := hl8.size; have := (grown_setCell w8 g2 0 (.int .i64 R1)).size; omega) (grown_setCell _ g2 1 (.slice A8 R2'.length c8)) (fun k e => by have := Option.some.inj e; omega)) (by have := hl8.size; have := (grown_setCell w8 g2 0 (.int .i64 R1)).size; have := (grown_setCell (w8.setCell ⟨g2, 0, none⟩ (.int .i64 R1)) g2 1 (.slice A8 R2'.length c8)).size; omega) (grown_setCell _ g3 0 (.int .i64 R3)) (fun k e => by have := Option.some.inj e; omega)
              have K8 : w8.heap[D]? = some (.deferred (some [])) := (HB8.out.block D hDW).trans HK.out
              have K5 := (((KeepsOthers.setCell w8 ⟨g2, 0, none⟩ (.int .i64 R1)).trans (KeepsOthers.setCell _ ⟨g2, 1, none⟩ (.slice A8 R2'.length c8))).trans (KeepsOthers.setCell _ ⟨g3, 0, none⟩ (.int .i64 R3))).same D _ K8 rfl
              refine ⟨by simp, .inl ⟨_, _, rfl, run_takeDeferred K5, ?_⟩⟩
              have kp := Keep.of_grown1 (grownBy_putObj' (((w8.setCell ⟨g2, 0, none⟩ (.int .i64 R1)).setCell ⟨g2, 1, none⟩ (.slice A8 R2'.length c8)).setCell ⟨g3, 0, none⟩ (.int .i64 R3)) D (.deferred none))
              refine ⟨_, read_res _ _ g2 g3 _ _ _ _ _ rfl rfl (B2.keep kp (by omega)) (B3.keep kp (by omega)), ?_, ?_⟩
              · rw [HP.out, HRR.out]
                have hws := hlow.size
                refine ⟨A8, c8, rfl, ((HS8.out.keep ((((Keep.of_grown1 (grown_setCell w8 g2 0 (.int .i64 R1))).weak (ok' := fun i => W.heap.size ≤ i) (fun i hi => by omega)).trans ((Keep.of_grown1 (grown_setCell _ g2 1 (.slice A8 R2'.length c8))).weak (fun i hi => by omega))).trans ((Keep.of_grown1 (grown_setCell _ g3 0 (.int .i64 R3))).weak (fun i hi => by omega)))).keep (kp.weak fun i hi => by have : W.heap.size ≤ i := hi; omega)).weak fun i _ hi => ?_⟩
                have : W.heap.size ≤ i := hi
                omega
              · exact below_grown L5 L5.size (grownBy_putObj' _ D (.deferred none)) (fun k e => by have := Option.some.inj e; have := hlow.size; omega)
          · intro D W er hD hI he hC hK
            refine ⟨by simp, .inl ⟨_, _, rfl, run_takeDeferred hK, ?_⟩⟩
            have kp := Keep.of_grown1 (grownBy_putObj' W D (.deferred none))
            refine ⟨_, read_res _ _ g2 g3 _ _ _ _ _ rfl rfl (hI.snd.keep kp (by omega)) (hI.err.keep kp (by omega)), ?_, ?_⟩
            · rw [HS3.out, if_pos (by rw [hC]; exact he), hC]; exact RetS.none _ _ _
            · exact below_grown hI.low hI.low.size (grownBy_putObj' W D (.deferred none)) (fun k e => by have := Option.some.inj e; omega)
        · have he3 : (st3.toList == [87, 65, 86, 69]) = false := by
            rw [← hst3]
            exact ba_ne _ _ fun e => h3 ((strOfNums_inj hb3 (by intro x hx; simp [nWave] at hx; omega)).1 (e.trans (show _ = strOfNums nWave from rfl)))
          have HP := Lib.hid (show readS b = (0, [], 4) by rw [readS, if_neg h12, if_pos (headB_no3 h3)])
          clear h3 hst3 hb3 hM
          go_wp2_with (first | ((with_reducible refine at_dst (N := 2) rfl ?_); refine ev_new #[.int .i64 0, .slice none 0 0] 24 rfl ?hr ?_; (case hr => first | (go_simp; done) | (go_simp; rfl)); intro g2 w2 eg2 zg2 b2 Bg2; skip) | ((with_reducible refine at_dst (N := 3) rfl ?_); refine ev_new #[.int .i64 0] 28 rfl ?hr ?_; (case hr => first | (go_simp; done) | (go_simp; rfl)); intro g3 w3 eg3 zg3 b3 Bg3; have hcv1 := HV1.out w3 (below2 b2 b3); have hcv3 := HV3.out w3 (below2 b2 b3)) | (go_at_call 58; refine (HN.out w3 (below2 b2 b3)).mono ?_; rintro e w4 ⟨rfl, rfl⟩) | ((with_reducible refine at_store (p := 2) rfl ?_); (refine ev_put #[.int .i64 0, .slice none 0 0] rfl 24 (.tmp 2) (.tmp 32) rfl g2 24 _ rfl rfl (Bg2.below b3) sizeS rfl rfl ?_); intro wf Bq hqf hzf; have D3 := Bg3.keep (Keep.of_grown hqf) (fun e => by have := Option.some.inj e; have := eg3.out; have := Bg2.lt; omega); have y0 := D3.cell 0 rfl; have yf := D3.free 0))
          have D2 := Bq.keep (Keep.of_grown1 (grown_setCell wf g3 0 (.int .i64 4))) (by have := eg3.out; have := Bg2.lt; omega)
          refine ⟨_, read_res _ _ g2 g3 _ _ _ _ _ rfl rfl D2 (D3.set 0 (.int .i64 4)), ?_, ?_⟩
          · rw [HP.out]; exact RetS.none _ _ _
          · have hg2 := eg2.out
            have hg3 := eg3.out
            have hz2 := zg2.out
            have hz3 := zg3.out
            exact below_grown (below_grown (below2 b2 b3) (by omega) hqf (fun k e => by have := Option.some.inj e; omega)) (by have := hqf.size; omega) (grown_setCell wf g3 0 (.int .i64 4)) (fun k e => by have := Option.some.inj e; omega)
      · have HP := Lib.hid (show readS b = (0, [], 4) by rw [readS, if_neg h12, if_pos (headB_no2 (by rw [hM]; exact h2))])
        clear hst3 hb3 hM
        go_wp2_with (first | ((with_reducible refine at_dst (N := 2) rfl ?_); refine ev_new #[.int .i64 0, .slice none 0 0] 24 rfl ?hr ?_; (case hr => first | (go_simp; done) | (go_simp; rfl)); intro g2 w2 eg2 zg2 b2 Bg2; skip) | ((with_reducible refine at_dst (N := 3) rfl ?_); refine ev_new #[.int .i64 0] 28 rfl ?hr ?_; (case hr => first | (go_simp; done) | (go_simp; rfl)); intro g3 w3 eg3 zg3 b3 Bg3; have hcv1 := HV1.out w3 (below2 b2 b3); have hcv3 := HV3.out w3 (below2 b2 b3)) | (go_at_call 58; refine (HN.out w3 (below2 b2 b3)).mono ?_; rintro e w4 ⟨rfl, rfl⟩) | ((with_reducible refine at_store (p := 2) rfl ?_); (refine ev_put #[.int .i64 0, .slice none 0 0] rfl 24 (.tmp 2) (.tmp 32) rfl g2 24 _ rfl rfl (Bg2.below b3) sizeS rfl rfl ?_); intro wf Bq hqf hzf; have D3 := Bg3.keep (Keep.of_grown hqf) (fun e => by have := Option.some.inj e; have := eg3.out; have := Bg2.lt; omega); have y0 := D3.cell 0 rfl; have yf := D3.free 0))
        have D2 := Bq.keep (Keep.of_grown1 (grown_setCell wf g3 0 (.int .i64 4))) (by have := eg3.out; have := Bg2.lt; omega)
        refine ⟨_, read_res _ _ g2 g3 _ _ _ _ _ rfl rfl D2 (D3.set 0 (.int .i64 4)), ?_, ?_⟩
        · rw [HP.out]; exact RetS.none _ _ _
        · have hg2 := eg2.out
          have hg3 := eg3.out
          have hz2 := zg2.out
          have hz3 := zg3.out
          exact below_grown (below_grown (below2 b2 b3) (by omega) hqf (fun k e => by have := Option.some.inj e; omega)) (by have := hqf.size; omega) (grown_setCell wf g3 0 (.int .i64 4)) (fun k e => by have := Option.some.inj e; omega)
    · have he1 : (st1.toList == [82, 73, 70, 70]) = false := by
        rw [← hst1]
        exact ba_ne _ _ fun e => h1 ((strOfNums_inj hb1 (by intro x hx; simp [nRiff] at hx; omega)).1 (e.trans (show _ = strOfNums nRiff from rfl)))
      have HP := Lib.hid (show readS b = (0, [], 4) by rw [readS, if_neg h12, if_pos (headB_no1 h1)])
      clear h1 hst1 hst3 hb1 hb3 hM
      go_wp2_with (first | ((with_reducible refine at_dst (N := 2) rfl ?_); refine ev_new #[.int .i64 0, .slice none 0 0] 24 rfl ?hr ?_; (case hr => first | (go_simp; done) | (go_simp; rfl)); intro g2 w2 eg2 zg2 b2 Bg2; skip) | ((with_reducible refine at_dst (N := 3) rfl ?_); refine ev_new #[.int .i64 0] 28 rfl ?hr ?_; (case hr => first | (go_simp; done) | (go_simp; rfl)); intro g3 w3 eg3 zg3 b3 Bg3; have hcv1 := HV1.out w3 (below2 b2 b3); have hcv3 := HV3.out w3 (below2 b2 b3)) | (go_at_call 58; refine (HN.out w3 (below2 b2 b3)).mono ?_; rintro e w4 ⟨rfl, rfl⟩) | ((with_reducible refine at_store (p := 2) rfl ?_); (refine ev_put #[.int .i64 0, .slice none 0 0] rfl 24 (.tmp 2) (.tmp 32) rfl g2 24 _ rfl rfl (Bg2.below b3) sizeS rfl rfl ?_); intro wf Bq hqf hzf; have D3 := Bg3.keep (Keep.of_grown hqf) (fun e => by have := Option.some.inj e; have := eg3.out; have := Bg2.lt; omega); have y0 := D3.cell 0 rfl; have yf := D3.free 0))
      have D2 := Bq.keep (Keep.of_grown1 (grown_setCell wf g3 0 (.int .i64 4))) (by have := eg3.out; have := Bg2.lt; omega)
      refine ⟨_, read_res _ _ g2 g3 _ _ _ _ _ rfl rfl D2 (D3.set 0 (.int .i64 4)), ?_, ?_⟩
      · rw [HP.out]; exact RetS.none _ _ _
      · have hg2 := eg2.out
        have hg3 := eg3.out
        have hz2 := zg2.out
        have hz3 := zg3.out
        exact below_grown (below_grown (below2 b2 b3) (by omega) hqf (fun k e => by have := Option.some.inj e; omega)) (by have := hqf.size; omega) (grown_setCell wf g3 0 (.int .i64 4)) (fun k e => by have := Option.some.inj e; omega)
end Go.Proofs.YtijcecakofmhcaaDoor
