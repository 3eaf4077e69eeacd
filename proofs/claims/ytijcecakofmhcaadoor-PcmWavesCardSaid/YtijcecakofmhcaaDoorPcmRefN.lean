/- The document's answer, layer 2: number, value, format, Wave. -/
import Derived.Test.YtijcecakofmhcaaDoorPcmRefC
import Derived.Test.YtijcecakofmhcaaDoorPcmPlainB
import Derived.Test.YtijcecakofmhcaaDoorPcmW
namespace Go.Proofs.YtijcecakofmhcaaDoor
open Go.RowKit

set_option maxHeartbeats 1000000 in
set_option maxRecDepth 100000 in
theorem refNumber_any (v : Int) (n : Nat) (w : World) (hn : n ≤ 8) :
    Calls Tryd.prog 56 #[.int .i64 v, .int .i64 n] w fun e w' => ∃ u, e = .returned u ∧ OwnI 5 .u8 w.heap.size w' u (leB n v) ∧ Below w.heap.size w w' := by
  go_enter Tryd.func56, Tryd.ntmps56
  go_wp2
  go_loopw [5, 8] (fun u i wr => ∃ k : Nat, k ≤ n ∧ i = .int .i64 k ∧ OwnI 5 .u8 w.heap.size wr u (leB k v) ∧ Below w.heap.size w wr) (fun _ i _ => n - (intOf i).toNat)
  case atStart => exact ⟨0, Nat.zero_le _, rfl, OwnI.nil _ _ _ _, Below.refl _ _⟩
  case round =>
    obtain ⟨k, hk, rfl, hO, hB⟩ := hrel
    by_cases hlt : k < n
    · have hl : ((leB k v).length + 1) * 1 ≤ 140737488355328 := by rw [leB_length]; omega
      go_wp2_with (at_builtin; go_loud (refine append_one (w0 := w) w.heap.size rfl (.tmp 11) (.tmp 17) 25 5 .u8 1 rfl Tryd.underlying25 infoY (by decide) _ _ (v / 2 ^ (8 * k) % 256) rfl rfl hO hB hB.size hl ?_); intro v1 w4 hO1 hB1 hg1 ha1)
      rw [show v / 2 ^ (8 * k) % 256 = byteAt v k from rfl, ← leB_succ] at hO1
      go_roundw
      case rel => exact ⟨k + 1, by omega, by go_num, hO1, hB1⟩
      case measure => simp [intOf]; omega
    · obtain rfl : k = n := by omega
      go_wp2
      go_ret
      exact ⟨_, rfl, hO, hB⟩

set_option maxHeartbeats 1000000 in
set_option maxRecDepth 100000 in
theorem refValue_any (A : Option Addr) (c : Nat) (xs : List Int) (w : World) {ok : Nat → Prop} (hR : Sl (kInt .u8) ok w A c xs) (hy : Bytes xs) (hm : xs.length ≤ 7) :
    Calls Tryd.prog 61 #[.slice A xs.length c] w fun e w' => e = .returned (.int .i64 (numB xs)) ∧ w' = w := by
  have hw1 : IntKind.i64.wrap ((xs.length : Int) - 1) = (xs.length : Int) - 1 := IntWalk.i64_in _ (by omega)
  go_enter Tryd.func61, Tryd.ntmps61
  go_wp2
  go_loop [3, 4] (fun v i => ∃ k : Nat, k ≤ xs.length ∧ i = .int .i64 ((k : Int) - 1) ∧ v = .int .i64 (numB (xs.drop k))) (fun _ i => (intOf i + 1).toNat)
  case atStart => exact ⟨xs.length, Nat.le_refl _, rfl, by rw [List.drop_length]; rfl⟩
  case round =>
    obtain ⟨k, hk, rfl, rfl⟩ := hrel
    by_cases hlt : 0 < k
    · obtain ⟨j, rfl⟩ : ∃ j, k = j + 1 := ⟨k - 1, by omega⟩
      have hji : ((j + 1 : Nat) : Int) - 1 = (j : Int) := by omega
      rw [hji]
      obtain ⟨ad, rfl, hc⟩ := rd_int hR j (by omega)
      have hx := hy _ (nth_mem 0 xs j (by omega))
      have hnn := numB_nonneg (xs.drop (j + 1)) (fun y hy' => hy y (List.mem_of_mem_drop hy'))
      rw [List.length_drop] at hnn
      have hS : numB (xs.drop j) = nth 0 xs j + 256 * numB (xs.drop (j + 1)) := by rw [drop_nth 0 xs j (by omega)]; rfl
      obtain ⟨V, hV⟩ : ∃ V, numB (xs.drop (j + 1)) = V := ⟨_, rfl⟩
      rw [hV] at hnn hS
      have hp : (256 : Int) ^ (xs.length - (j + 1)) ≤ 256 ^ 6 := by
        have := Nat.pow_le_pow_right (show 0 < 256 by decide) (show xs.length - (j + 1) ≤ 6 by omega)
        exact_mod_cast this
      have hV6 : 0 ≤ V ∧ V < 281474976710656 := ⟨hnn.1, Int.lt_of_lt_of_le hnn.2 hp⟩
      have hq1 : IntKind.i64.wrap (256 * V) = 256 * V := IntWalk.i64_in _ (by omega)
      have hq2 : IntKind.i64.wrap (256 * V + nth 0 xs j) = 256 * V + nth 0 xs j := IntWalk.i64_in _ (by omega)
      have hq3 : IntKind.i64.wrap ((j : Int) - 1) = (j : Int) - 1 := IntWalk.i64_in _ (by omega)
      have hjl : (j : Int) < (xs.length : Int) := by omega
      have HS := Lib.hid (show numB (xs.drop j) = 256 * V + nth 0 xs j by omega)
      clear hnn hS hp hV6 hji
      rw [hV]
      clear hV
      go_wp2_with fail
      go_round
      case rel => exact ⟨j, by omega, rfl, by rw [HS.out]⟩
      case measure => simp [intOf]
    · obtain rfl : k = 0 := by omega
      go_wp2
      go_ret
      exact ⟨rfl, rfl⟩

set_option maxHeartbeats 2000000 in
set_option maxRecDepth 100000 in
theorem refFormat_any (ch rate : Int) (w : World) (h1 : 1 ≤ ch) (h2 : ch ≤ 2) (h3 : 0 ≤ rate) (h4 : rate ≤ 48000) :
    Calls Tryd.prog 57 #[.int .i64 ch, .int .i64 rate] w fun e w' => ∃ u, e = .returned u ∧ OwnI 5 .u8 w.heap.size w' u (fmtB ch rate) ∧ Below w.heap.size w w' := by
  have q1 : IntKind.i64.wrap (2 * ch) = 2 * ch := IntWalk.i64_in _ (by omega)
  have q2 : IntKind.i64.wrap (2 * ch * rate) = 2 * ch * rate := IntWalk.i64_in _ (by rcases (show ch = 1 ∨ ch = 2 by omega) with rfl | rfl <;> omega)
  clear h1 h2 h3 h4
  go_enter Tryd.func57, Tryd.ntmps57
  have BX := Below.refl w.heap.size w
  go_wp2_with fail
  refine (refNumber_any 1 2 _ (by decide)).mono ?_
  rintro e w1 ⟨u1, rfl, Ou1, bu1⟩
  go_wp2_with fail
  refine (refNumber_any ch 2 _ (by decide)).mono ?_
  rintro e w2 ⟨u2, rfl, Ou2, bu2⟩
  have O1 := (Ou1.below bu2)
  replace BX := below2 bu1 bu2
  obtain ⟨A2, c2, rfl, S2⟩ := Ou2.rd
  go_wp2_with (at_builtin; go_loud (refine append_row (w0 := w) w.heap.size rfl (.tmp 6) (.tmp 8) 25 5 .u8 1 rfl Tryd.underlying25 infoY (by decide) u1 (leB 2 1) (leB 2 ch) A2 c2 rfl rfl O1 S2 BX BX.size (by simp [leB_length]) ?_); intro v3 w3 Ov3 BY _ _)
  replace BX := BY
  clear BY
  go_wp2_with fail
  refine (refNumber_any rate 4 _ (by decide)).mono ?_
  rintro e w4 ⟨y0, rfl, Oy0, by0⟩
  have P0 := Ov3.below by0
  replace BX := below2 BX by0
  obtain ⟨B0, d0, rfl, T0⟩ := Oy0.rd
  go_wp2_with (at_builtin; go_loud (refine append_row (w0 := w) w.heap.size rfl (.tmp 10) (.tmp 12) 25 5 .u8 1 rfl Tryd.underlying25 infoY (by decide) v3 (leB 2 1 ++ leB 2 ch) (leB 4 rate) B0 d0 rfl rfl P0 T0 BX BX.size (by simp [leB_length]) ?_); intro z0 w5 Oz0 BY _ _)
  replace BX := BY
  clear BY
  go_wp2_with fail
  refine (refNumber_any (2 * ch * rate) 4 _ (by decide)).mono ?_
  rintro e w6 ⟨y1, rfl, Oy1, by1⟩
  have P1 := Oz0.below by1
  replace BX := below2 BX by1
  obtain ⟨B1, d1, rfl, T1⟩ := Oy1.rd
  go_wp2_with (at_builtin; go_loud (refine append_row (w0 := w) w.heap.size rfl (.tmp 14) (.tmp 19) 25 5 .u8 1 rfl Tryd.underlying25 infoY (by decide) z0 (leB 2 1 ++ leB 2 ch ++ leB 4 rate) (leB 4 (2 * ch * rate)) B1 d1 rfl rfl P1 T1 BX BX.size (by simp [leB_length]) ?_); intro z1 w7 Oz1 BY _ _)
  replace BX := BY
  clear BY
  go_wp2_with fail
  refine (refNumber_any (2 * ch) 2 _ (by decide)).mono ?_
  rintro e w8 ⟨y2, rfl, Oy2, by2⟩
  have P2 := Oz1.below by2
  replace BX := below2 BX by2
  obtain ⟨B2, d2, rfl, T2⟩ := Oy2.rd
  go_wp2_with (at_builtin; go_loud (refine append_row (w0 := w) w.heap.size rfl (.tmp 21) (.tmp 24) 25 5 .u8 1 rfl Tryd.underlying25 infoY (by decide) z1 (leB 2 1 ++ leB 2 ch ++ leB 4 rate ++ leB 4 (2 * ch * rate)) (leB 2 (2 * ch)) B2 d2 rfl rfl P2 T2 BX BX.size (by simp [leB_length]) ?_); intro z2 w9 Oz2 BY _ _)
  replace BX := BY
  clear BY
  go_wp2_with fail
  refine (refNumber_any 16 2 _ (by decide)).mono ?_
  rintro e w10 ⟨y3, rfl, Oy3, by3⟩
  have P3 := Oz2.below by3
  replace BX := below2 BX by3
  obtain ⟨B3, d3, rfl, T3⟩ := Oy3.rd
  go_wp2_with (at_builtin; go_loud (refine append_row (w0 := w) w.heap.size rfl (.tmp 26) (.tmp 27) 25 5 .u8 1 rfl Tryd.underlying25 infoY (by decide) z2 (leB 2 1 ++ leB 2 ch ++ leB 4 rate ++ leB 4 (2 * ch * rate) ++ leB 2 (2 * ch)) (leB 2 16) B3 d3 rfl rfl P3 T3 BX BX.size (by simp [leB_length]) ?_); intro z3 w11 Oz3 BY _ _)
  replace BX := BY
  clear BY
  go_wp2_with fail
  go_ret
  refine ⟨_, rfl, ?_, BX⟩
  have : fmtB ch rate = leB 2 1 ++ leB 2 ch ++ leB 4 rate ++ leB 4 (2 * ch * rate) ++ leB 2 (2 * ch) ++ leB 2 16 := by simp [fmtB]
  rw [this]
  exact Oz3

/-- 'append' of a list to a full slice: a new row. -/
theorem append_full_row {P : Program} {ops : Array Oper} {rest : List Oper} {o : Oper} {a : Act} {Q : Exit → Act → World → Prop} {W : World} (hgd : o.guard = none) (s x : Operand) (t e : TypeId) (k : IntKind) (bytes : Nat)
    (ho : o.op = .call { callee := .builtin .append, args := #[s, x], argTypes := #[t, t] })
    (ht : P.underlying t = some (.slice e)) (hinfo : (P.info? e).map (fun i => (i.zero, i.size, i.bytes)) = some (some (.int k 0), 1, bytes)) (hb0 : 0 < bytes)
    (ad : Addr) (xs : List Int) (A2 : Option Addr) (c2 : Nat) (ys : List Int) {ok ok2 : Nat → Prop} (hs : a.eval s = .slice (some ad) xs.length xs.length) (hx : a.eval x = .slice A2 ys.length c2)
    (HR : Sl (kInt k) ok W (some ad) xs.length xs) (HR2 : Sl (kInt k) ok2 W A2 c2 ys) (hy : 0 < ys.length) (hl : (xs.length + ys.length) * bytes ≤ 140737488355328)
    (h : ∀ v1 w1, OwnI e k W.heap.size w1 v1 (xs ++ ys) → Below W.heap.size W w1 → wpList P ops Q rest (a.put o.dst v1) w1) :
    wpList P ops Q (o :: rest) a W := by
  obtain ⟨i0, hi, hzz⟩ := Option.map_eq_some_iff.1 hinfo
  simp only [Prod.mk.injEq] at hzz
  obtain ⟨hz0, hz1, hz2⟩ := hzz
  have hlen : xs.length + ys.length ≤ 140737488355328 := Nat.le_trans (Nat.le_mul_of_pos_right _ hb0) hl
  obtain ⟨ad2, rfl, _⟩ := rd_int HR2 0 hy
  refine wpList_append_grows _ hgd s x t ho e i0 (.int k 0) 1 bytes ht hi hz0 hz1 hz2 rfl (by decide) (some ad) xs.length xs.length (nums k xs) hs (fun e => by cases e) (by simp [nums]) (fun b hb j u hu => ?_)
    ad2 ys.length c2 (nums k ys) hx (by rw [nums_length, Nat.mul_one]) (fun j u hu => ?_) (fun u hu => ?_) (by omega) (by simp only [maxLen]; omega) hl (fun v' w' hr hg => ?_)
  · injection hb with hb
    subst hb
    have hj : j < xs.length := by
      rcases Nat.lt_or_ge j xs.length with h | h
      · exact h
      · simp [nums, List.getElem?_eq_none h] at hu
    obtain ⟨ad', h', hc⟩ := rd_int HR j hj
    injection h' with h'
    subst h'
    rw [nums_get k xs j hj] at hu
    injection hu with hu
    rw [hc, hu]
  · have hj : j < ys.length := by
      rcases Nat.lt_or_ge j ys.length with h | h
      · exact h
      · simp [nums, List.getElem?_eq_none h] at hu
    obtain ⟨ad', h', hc⟩ := rd_int HR2 j hj
    injection h' with h'
    subst h'
    rw [nums_get k ys j hj] at hu
    injection hu with hu
    rw [hc, hu]
  · simp only [nums, List.mem_map] at hu
    obtain ⟨q, _, rfl⟩ := hu
    rfl
  · refine h v' w' ?_ ⟨hg.os, hg.tape, hg.output, hg.size, fun i hi => hg.block i hi (by simp)⟩
    unfold OwnI
    rw [List.length_append, nums_append]
    exact hr

set_option maxHeartbeats 2000000 in
set_option maxRecDepth 100000 in
theorem refWave_any (r : Int) (A : Option Addr) (c : Nat) (s : List (List Int)) (w : World) (hS : R2 w A c s) :
    Calls Tryd.prog 15 #[.agg #[.int .i64 r, .slice A s.length c]] w fun e w' => (∃ v, e = .returned (.tuple #[v, .int .i64 (waveS r s).2]) ∧ OwnI 5 .u8 w.heap.size w' v (waveS r s).1) ∧ Below w.heap.size w w' := by
  have hn := hS.len
  cases hv : validB r s
  · have HP := Lib.hid (show waveS r s = ([], 1) by simp [waveS, hv])
    have HI := Lib.hid (show interS r s = ([], 1) by simp [interS, hv])
    clear hv
    go_enter Tryd.func15, Tryd.ntmps15
    go_wp2_with (((with_reducible refine at_dst (N := 1) rfl ?_); refine ev_new #[.int .i64 r, .slice A s.length c] 24 rfl ?hr ?_; (case hr => first | (go_simp; done) | (go_simp; rfl)); intro g1 w1 eg1 zg1 b1 Bg1; have k0 := Bg1.cell 0 rfl; have k1 := Bg1.cell 1 rfl))
    refine (refInter_any r A c s _ (hS.below b1)).mono ?_
    rw [HI.out]
    rintro e w3 ⟨v3, rfl, O3, b3⟩
    go_wp2_with fail
    go_ret2
    rw [HP.out]
    exact ⟨⟨_, rfl, OwnI.nil _ _ _ _⟩, below2 b1 b3⟩
  · have V := valid_facts hv
    have HP := Lib.hid (show waveS r s = (waveL r s, 0) by simp [waveS, hv])
    have HI := Lib.hid (show interS r s = (weave s, 0) by simp [interS, hv])
    have h1 := V.one
    have h2 := V.two
    have h3 := V.len
    have hr := rate_range V.rate
    have hwl := weave_length s
    have hN : len0 s * s.length ≤ 16384 := Nat.le_trans (Nat.mul_le_mul h3 h2) (by decide)
    have HWE := Lib.hid (waveL_eq r s)
    have HK : Hid ((2 : Int) * (s.length : Int) * (len0 s : Int) = ((2 * (weave s).length : Nat) : Int)) := Lib.hid (by rw [hwl, Int.natCast_mul, Int.natCast_mul, Int.mul_assoc, Int.mul_comm (s.length : Int)]; rfl)
    obtain ⟨D, hD⟩ : ∃ D, weave s = D := ⟨_, rfl⟩
    rw [hD] at HI HWE HK hwl
    have hDl : D.length ≤ 16384 := by omega
    have hx1 : IntKind.i64.wrap (2 * (D.length : Int)) = 2 * (D.length : Int) := IntWalk.i64_in _ (by omega)
    have hx2 : IntKind.i64.wrap (36 + 2 * (D.length : Int)) = 36 + 2 * (D.length : Int) := IntWalk.i64_in _ (by omega)
    have hch1 : (1 : Int) ≤ (s.length : Int) := by omega
    have hch2 : (s.length : Int) ≤ 2 := by omega
    clear hv V hN hwl hD
    have kc := fun (w : World) (C : Array Value) (n c : Nat) => Lib.run_convert_bytes_const (P := Tryd.prog) w 25 5 C n c Tryd.underlying25 Tryd.underlying5
    go_enter Tryd.func15, Tryd.ntmps15
    go_wp2_with (((with_reducible refine at_dst (N := 1) rfl ?_); refine ev_new #[.int .i64 r, .slice A s.length c] 24 rfl ?hr ?_; (case hr => first | (go_simp; done) | (go_simp; rfl)); intro g1 w1 eg1 zg1 b1 Bg1; have k0 := Bg1.cell 0 rfl; have k1 := Bg1.cell 1 rfl))
    refine (refInter_any r A c s _ (hS.below b1)).mono ?_
    rw [HI.out]
    rintro e w3 ⟨v3, rfl, O3, b3⟩
    dsimp only at O3 ⊢
    obtain ⟨A3, c3, rfl, S3⟩ := O3.rd
    replace S3 := S3.any
    clear O3 k0 k1
    replace b1 := below2 b1 b3
    replace Bg1 := Bg1.below b3
    go_wp2_with fail
    have Ba := below_alloc (Below.refl w3.heap.size w3) (.cells (nums .u8 [82, 73, 70, 70]).toArray 5 (4, 5))
    have S18 : Sl (kInt .u8) (fun b => b = w3.heap.size) (w3.alloc (.cells (nums .u8 [82, 73, 70, 70]).toArray 5 (4, 5))) (some ⟨w3.heap.size, 0, none⟩) 4 [82, 73, 70, 70] := row_sl (heap_alloc_new w3 _) (by decide)
    refine (refNumber_any (36 + 2 * (D.length : Int)) 4 _ (by decide)).mono ?_
    rintro e w4 ⟨u4, rfl, O4, b4⟩
    have BX := below2 Ba b4
    obtain ⟨A4, c4, rfl, S4⟩ := O4.rd
    replace S18 := S18.below b4
    have t1 := trivial
    have t2 := trivial
    go_wp2_with (first | (at_builtin; have _t := t1; refine append_full_row (W := w4) rfl (.tmp 18) (.tmp 23) 25 5 .u8 1 rfl Tryd.underlying25 infoY (by decide) ⟨w3.heap.size, 0, none⟩ [82, 73, 70, 70] A4 c4 (leB 4 (36 + 2 * (D.length : Int))) rfl rfl S18 S4 (by rw [leB_length]; decide) (by simp [leB_length]) ?_; clear t1; intro v5 w5 O5 b5; replace O5 := O5.mono BX.size; replace BX := below2 BX b5) | (at_builtin; have _t := t2; refine append_str (w0 := w3) w3.heap.size rfl (.tmp 25) (.const (.string ⟨#[87, 65, 86, 69, 102, 109, 116, 32]⟩)) 25 9 5 rfl Tryd.underlying25 Tryd.underlying9 infoY v5 ([82, 73, 70, 70] ++ leB 4 (36 + 2 * (D.length : Int))) [87, 65, 86, 69, 102, 109, 116, 32] _ rfl rfl rfl O5 BX BX.size (by simp [leB_length, fmtB_length]) ?_; clear t2; intro v6 w6 Ov6 BY; replace BX := BY; clear BY))
    refine (refNumber_any 16 4 _ (by decide)).mono ?_
    rintro e w7 ⟨u7, rfl, O7, b7⟩
    replace Ov6 := Ov6.below b7
    replace BX := below2 BX b7
    obtain ⟨A7, c7, rfl, S7⟩ := O7.rd
    go_wp2_with ((at_builtin; refine append_row (w0 := w3) w3.heap.size rfl (.tmp 27) (.tmp 28) 25 5 .u8 1 rfl Tryd.underlying25 infoY (by decide) v6 ([82, 73, 70, 70] ++ leB 4 (36 + 2 * (D.length : Int)) ++ [87, 65, 86, 69, 102, 109, 116, 32]) (leB 4 16) A7 c7 rfl rfl Ov6 S7 BX BX.size (by simp [leB_length, fmtB_length]) ?_; intro v8 w8 Ov8 BY _ _; replace BX := BY; clear BY); have k0 : w8.cell? ⟨g1, 0, none⟩ = some (.int .i64 r) := (Bg1.below BX).cell 0 rfl; have k1 : w8.cell? ⟨g1, 1, none⟩ = some (.slice A s.length c) := (Bg1.below BX).cell 1 rfl)
    refine (refFormat_any s.length r _ hch1 hch2 (by omega) hr.2).mono ?_
    rintro e w9 ⟨u9, rfl, O9, b9⟩
    replace Ov8 := Ov8.below b9
    replace BX := below2 BX b9
    obtain ⟨A9, c9, rfl, S9⟩ := O9.rd
    clear k0 k1
    have t1 := trivial
    have t2 := trivial
    go_wp2_with (first | (at_builtin; have _t := t1; refine append_row (w0 := w3) w3.heap.size rfl (.tmp 30) (.tmp 36) 25 5 .u8 1 rfl Tryd.underlying25 infoY (by decide) v8 ([82, 73, 70, 70] ++ leB 4 (36 + 2 * (D.length : Int)) ++ [87, 65, 86, 69, 102, 109, 116, 32] ++ leB 4 16) (fmtB s.length r) A9 c9 rfl rfl Ov8 S9 BX BX.size (by simp [leB_length, fmtB_length]) ?_; clear t1; intro v10 w10 Ov10 BY _ _; replace BX := BY; clear BY) | (at_builtin; have _t := t2; refine append_str (w0 := w3) w3.heap.size rfl (.tmp 38) (.const (.string ⟨#[100, 97, 116, 97]⟩)) 25 9 5 rfl Tryd.underlying25 Tryd.underlying9 infoY v10 ([82, 73, 70, 70] ++ leB 4 (36 + 2 * (D.length : Int)) ++ [87, 65, 86, 69, 102, 109, 116, 32] ++ leB 4 16 ++ fmtB s.length r) [100, 97, 116, 97] _ rfl rfl rfl Ov10 BX BX.size (by simp [leB_length, fmtB_length]) ?_; clear t2; intro v11 w11 Ov11 BY; replace BX := BY; clear BY))
    refine (refNumber_any (2 * (D.length : Int)) 4 _ (by decide)).mono ?_
    rintro e w12 ⟨u12, rfl, O12, b12⟩
    replace Ov11 := Ov11.below b12
    replace BX := below2 BX b12
    obtain ⟨A12, c12, rfl, S12⟩ := O12.rd
    go_wp2_with ((at_builtin; refine append_row (w0 := w3) w3.heap.size rfl (.tmp 40) (.tmp 44) 25 5 .u8 1 rfl Tryd.underlying25 infoY (by decide) v11 ([82, 73, 70, 70] ++ leB 4 (36 + 2 * (D.length : Int)) ++ [87, 65, 86, 69, 102, 109, 116, 32] ++ leB 4 16 ++ fmtB s.length r ++ [100, 97, 116, 97]) (leB 4 (2 * (D.length : Int))) A12 c12 rfl rfl Ov11 S12 BX BX.size (by simp [leB_length, fmtB_length]) ?_; intro v13 w13 Ov13 BY _ _; replace BX := BY; clear BY))
    obtain ⟨PP, hPP⟩ : ∃ PP, [82, 73, 70, 70] ++ leB 4 (36 + 2 * (D.length : Int)) ++ [87, 65, 86, 69, 102, 109, 116, 32] ++ leB 4 16 ++ fmtB s.length r ++ [100, 97, 116, 97] ++ leB 4 (2 * (D.length : Int)) = PP := ⟨_, rfl⟩
    have hPl : PP.length = 44 := by rw [← hPP]; simp [leB_length, fmtB_length]
    rw [hPP] at Ov13
    have HPP := Lib.hid hPP
    clear hPP
    go_loopw [6, 48] (fun u i wr => ∃ k : Nat, k ≤ D.length ∧ i = .int .i64 k ∧ OwnI 5 .u8 w3.heap.size wr u (PP ++ leL 2 (D.take k)) ∧ Below w3.heap.size w3 wr) (fun _ i _ => D.length - (intOf i).toNat)
    case atStart => exact ⟨0, Nat.zero_le _, rfl, by simpa [leL] using Ov13, BX⟩
    case round =>
      obtain ⟨k, hk, rfl, hO, hB⟩ := hrel
      by_cases hlt : k < D.length
      · obtain ⟨ad3, rfl, q3⟩ := rd_int (S3.below hB) k hlt
        go_wp2_with fail
        refine (refNumber_any (nth 0 D k) 2 _ (by decide)).mono ?_
        rintro e w15 ⟨u15, rfl, O15, b15⟩
        have hO2 := hO.below b15
        have hB2 := below2 hB b15
        obtain ⟨A15, c15, rfl, S15⟩ := O15.rd
        have hlen : ((PP ++ leL 2 (D.take k)).length + (leB 2 (nth 0 D k)).length) * 1 ≤ 140737488355328 := by rw [List.length_append, hPl, leL_length, leB_length, List.length_take, Nat.min_eq_left hk]; omega
        go_wp2_with (at_builtin; go_loud (refine append_row (w0 := w3) w3.heap.size rfl (.tmp 52) (.tmp 54) 25 5 .u8 1 rfl Tryd.underlying25 infoY (by decide) _ _ _ A15 c15 rfl rfl hO2 S15 hB2 hB2.size hlen ?_); intro v16 w16 hO3 hB3 _ _)
        rw [List.append_assoc, ← leL_take 2 D k hlt] at hO3
        go_roundw
        case rel => exact ⟨k + 1, by omega, by go_num, hO3, hB3⟩
        case measure => simp [intOf]; omega
      · obtain rfl : k = D.length := by omega
        rw [List.take_length] at hO
        go_wp2_with fail
        go_ret2
        rw [HP.out]
        refine ⟨⟨_, rfl, ?_⟩, below2 b1 hB⟩
        have he : waveL r s = PP ++ leL 2 D := by
          rw [HWE.out, HK.out, ← HPP.out]
          simp [chunkL, nRiff, nWave, nFmt, nData, fmtB_length, leL_length, Int.mul_comm]
        show OwnI _ _ _ _ _ (waveL r s)
        rw [he]
        exact hO.mono b1.size
end Go.Proofs.YtijcecakofmhcaaDoor
