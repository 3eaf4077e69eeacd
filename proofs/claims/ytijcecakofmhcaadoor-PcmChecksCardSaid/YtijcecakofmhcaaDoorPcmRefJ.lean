/- The document's answer, layer 2: Pad. -/
import Derived.Test.YtijcecakofmhcaaDoorPcmRefE
import Derived.Test.YtijcecakofmhcaaDoorPcmT
import Derived.Test.YtijcecakofmhcaaDoorPcmI
import Derived.Test.YtijcecakofmhcaaDoorPcmRefG
import Derived.Laws.CopyOwn
namespace Go.Proofs.YtijcecakofmhcaaDoor
open Go.RowKit

theorem made_nums (k : IntKind) (m : Nat) : madeCells #[Value.int k 0] m = (nums k (List.replicate m 0)).toArray := by
  apply Array.toList_inj.1
  apply List.ext_getElem
  · simp [nums, madeCells]
  · intro i h1 h2
    simp [nums, madeCells, Nat.mod_one]
theorem own_rd {e : TypeId} {ik : IntKind} {base n c : Nat} {w : World} {A : Option Addr} {xs : List Int} (h : OwnI e ik base w (.slice A n c) xs) : n = xs.length ∧ Sl (kInt ik) (fun b => base ≤ b) w A c xs := by
  obtain ⟨A', c', he, hs⟩ := h.rd
  injection he with h1 h2 h3
  subst h1; subst h3
  exact ⟨h2, hs.weak fun b _ hb => hb.1⟩
section
variable {P : Program} {ops : Array Oper} {rest : List Oper} {o : Oper} {a : Act} {Q : Exit → Act → World → Prop}
/-- A list copied into a row that was just made. -/
theorem copy_fill {W : World} (hgd : o.guard = none) (d s : Operand) (t sT e : TypeId) (k : IntKind) (bytes : Nat)
    (ho : o.op = .call { callee := .builtin .copy, args := #[d, s], argTypes := #[t, sT] }) (ht : P.underlying t = some (.slice e))
    (hinfo : (P.info? e).map (fun i => (i.zero, i.size, i.bytes)) = some (some (.int k 0), 1, bytes)) (m : Nat) (A : Option Addr) (c : Nat) (ys : List Int) {ok : Nat → Prop}
    (hd : a.eval d = .slice (some ⟨W.heap.size, 0, none⟩) m m) (hs : a.eval s = .slice A ys.length c)
    (HR : Sl (kInt k) ok W A c ys) (hle : ys.length ≤ m) (hm : m ≤ 9223372036854775807)
    (h : ∀ w1, OwnI e k W.heap.size w1 (.slice (some ⟨W.heap.size, 0, none⟩) m m) (ys ++ List.replicate (m - ys.length) 0) → Below W.heap.size W w1 → wpList P ops Q rest (a.put o.dst (goInt ys.length)) w1) :
    wpList P ops Q (o :: rest) a (W.alloc (.cells (madeCells #[.int k 0] m) e)) := by
  obtain ⟨i0, hi, hzz⟩ := Option.map_eq_some_iff.1 hinfo
  simp only [Prod.mk.injEq] at hzz
  have hb := below_alloc (Below.refl W.heap.size W) (.cells (madeCells #[.int k 0] m) e)
  have hR := HR.below hb
  refine wpList_copy_splice hgd d s t sT ho e ht (by rw [hi]; simp [hzz.2.1]) _ _ _ _ _ _ hd hs W.heap.size 0 (nums k (List.replicate m 0)) e (by rw [← made_nums]; exact heap_alloc_new W _) (nums k ys) (by rw [nums_length]; show _ = min _ _; omega) (fun _ => ⟨rfl, ?_⟩) (by rw [nums_length, nums_length, List.length_replicate]; omega) ?_ W.heap.size W hb (Nat.le_refl _) fun w1 hg hbel => ?_
  · match ys, hR with
    | [], hR => simp [nums] at *
    | y :: ys, hR =>
      obtain ⟨ad, rfl, _⟩ := rd_int hR 0 (by simp)
      refine ⟨ad, rfl, fun j v hv => ?_⟩
      have hj : j < (y :: ys).length := by
        have := (List.getElem?_eq_some_iff.1 hv).1
        simpa [nums] using this
      obtain ⟨ad', e', hc⟩ := rd_int hR j hj
      obtain rfl := Option.some.inj e'
      rw [nums_get k _ j hj] at hv
      rw [hc, hv]
  · intro v hv
    simp only [nums, List.mem_map] at hv
    obtain ⟨x, _, rfl⟩ := hv
    rfl
  · rw [show (goInt ↑(nums k ys).length) = goInt ys.length by rw [nums_length]]
    have hlen : (ys ++ List.replicate (m - ys.length) (0 : Int)).length = m := by rw [List.length_append, List.length_replicate]; omega
    have hrow : (splice (nums k (List.replicate m 0)) 0 (nums k ys)) = nums k (ys ++ List.replicate (m - ys.length) 0) := by
      simp [splice, nums]
    refine h w1 ⟨by rw [hlen, nums_length, hlen]; omega, .inr ⟨W.heap.size, m, _, by rw [hlen], Nat.le_refl _, hg.out, by rw [hlen]; exact Nat.le_refl _, by simpa [maxLen] using hm, ?_, ?_⟩⟩ hbel
    · rw [hrow]; simp [nums]; omega
    · rw [hrow, List.take_of_length_le]
      rw [nums_length, hlen]; omega
end

set_option maxHeartbeats 1000000 in
set_option maxRecDepth 100000 in
theorem refPad_any (r : Int) (A : Option Addr) (c : Nat) (s : List (List Int)) (w : World) (hS : R2 w A c s) :
    Calls Tryd.prog 45 #[.agg #[.int .i64 r, .slice A s.length c]] w fun e w' => RetA (padS r s) e w' ∧ Below w.heap.size w w' := by
  have hn := hS.len
  cases hv : validB r s
  · have HP := Lib.hid (show padS r s = (0, [], 1) by simp [padS, hv])
    have HV := Lib.hid (show framesS r s = (0, 1) by simp [framesS, hv])
    clear hv
    go_enter Tryd.func45, Tryd.ntmps45
    go_wp2_with (first | ((with_reducible refine at_dst (N := 1) rfl ?_); refine ev_new #[.int .i64 r, .slice A s.length c] 24 rfl ?hr ?_; (case hr => first | (go_simp; done) | (go_simp; rfl)); intro g1 w1 eg1 zg1 b1 Bg1; skip) | ((with_reducible refine at_dst (N := 2) rfl ?_); refine ev_new #[.int .i64 0, .slice none 0 0] 24 rfl ?hr ?_; (case hr => first | (go_simp; done) | (go_simp; rfl)); intro g2 w2 eg2 zg2 b2 Bg2; replace Bg1 := Bg1.below b2; replace b1 := below2 b1 b2; have k0 := Bg1.cell 0 rfl; have k1 := Bg1.cell 1 rfl) | (go_at_call 44; refine (refFrames_any r A c s _ (hS.below b1)).mono ?_; rintro e w3 ⟨rfl, b3⟩; rw [HV.out]; replace Bg2 := Bg2.below b3; replace b1 := below2 b1 b3) | ((with_reducible refine at_store (p := 2) rfl ?_); (refine ev_put #[.int .i64 0, .slice none 0 0] rfl 24 (.tmp 2) (.tmp 17) rfl g2 24 _ rfl rfl Bg2 sizeS rfl rfl ?_); intro wf Bq hqf hzf; have z0 := Bq.cell 0 rfl; have z1 := Bq.cell 1 rfl))
    have e1 := eg1.out
    have e2 := eg2.out
    have e3 := zg1.out
    refine bodyPost_ret (v := .tuple #[.agg #[.int .i64 0, .slice none 0 0], .int .i64 1]) (by simp [results, Tryd.results45, go_sem, z0, z1]) rfl ⟨by rw [HP.out]; exact RetA.none _ _, below_grown b1 b1.size hqf (fun k e => by have := Option.some.inj e; omega)⟩
  · have V := valid_facts hv
    have h1 := V.one
    have h2 := V.two
    have h3 := V.len
    have hfn := pad_more s
    obtain ⟨n, hnn⟩ : ∃ n, len0 s = n := ⟨_, rfl⟩
    obtain ⟨fr, hfr⟩ : ∃ fr, framesN s = fr := ⟨_, rfl⟩
    obtain ⟨m, hm⟩ : ∃ m, padMore s = m := ⟨_, rfl⟩
    have HP := Lib.hid (show padS r s = (r, s.map (fun c => c ++ List.replicate m 0), 0) by simp [padS, hv, hm])
    have HV := Lib.hid (show framesS r s = (((fr : Nat) : Int), 0) by simp [framesS, hv, hfr])
    have hlen : ∀ j, j < s.length → (nth [] s j).length = n := fun j hj => by rw [← hnn]; exact V.same _ (nth_mem [] s j hj)
    have HLEN := Lib.hid hlen
    rw [hnn] at h3
    rw [hnn, hfr, hm] at hfn
    obtain ⟨M, hM⟩ : ∃ M : Nat, 128 * fr = M := ⟨_, rfl⟩
    have hMI : (128 : Int) * (fr : Int) = ((M : Nat) : Int) := by omega
    have hMm : n ≤ M ∧ M - n = m ∧ M ≤ 10000 ∧ fr ≤ 10000 := by omega
    have hmk := make_row (P := Tryd.prog) 36 3 .i64 8 Tryd.underlying36 infoI (by decide) M (by omega)
    rw [← hMI] at hmk
    have hfr1 := hMm.2.2.2
    have HMm := Lib.hid hMm
    clear hv hnn hfr hm hlen hfn hM hMI hMm V
    go_enter Tryd.func45, Tryd.ntmps45
    go_wp2_with (first | ((with_reducible refine at_dst (N := 1) rfl ?_); refine ev_new #[.int .i64 r, .slice A s.length c] 24 rfl ?hr ?_; (case hr => first | (go_simp; done) | (go_simp; rfl)); intro g1 w1 eg1 zg1 b1 Bg1; skip) | ((with_reducible refine at_dst (N := 2) rfl ?_); refine ev_new #[.int .i64 0, .slice none 0 0] 24 rfl ?hr ?_; (case hr => first | (go_simp; done) | (go_simp; rfl)); intro g2 w2 eg2 zg2 b2 Bg2; replace Bg1 := Bg1.below b2; replace b1 := below2 b1 b2; have k0 := Bg1.cell 0 rfl; have k1 := Bg1.cell 1 rfl) | (go_at_call 44; refine (refFrames_any r A c s _ (hS.below b1)).mono ?_; rintro e w3 ⟨rfl, b3⟩; rw [HV.out]; replace Bg2 := Bg2.below b3; replace Bg1 := Bg1.below b3; replace b1 := below2 b1 b3; clear k0 k1; have k0 : w3.cell? ⟨g1, 0, none⟩ = some (.int .i64 r) := Bg1.cell 0 rfl; have k1 : w3.cell? ⟨g1, 1, none⟩ = some (.slice A s.length c) := Bg1.cell 1 rfl) | ((with_reducible refine at_dst (N := 6) rfl ?_); refine ev_new #[.int .i64 0, .slice none 0 0] 24 rfl ?hr ?_; (case hr => first | (go_simp; done) | (go_simp; rfl)); intro g3 w6 eg3 zg3 b6 Bg3; replace Bg2 := Bg2.below b6; replace Bg1 := Bg1.below b6; clear k0 k1) | ((with_reducible refine at_store (p := 6) rfl ?_); (refine ev_put #[.int .i64 r, .slice none 0 0] rfl 24 (.tmp 6) (.tmp 21) rfl g3 24 _ rfl rfl Bg3 sizeS rfl rfl ?_); intro w4 B3 hb4 hz4; have e13 : g1 ≠ g3 := (by have := Bg1.lt; have := eg3.out; have l1 := eg1.out; have l2 := eg2.out; have l3 := zg1.out; have l4 := zg2.out; have l6 := b3.size; omega); have e23 : g2 ≠ g3 := (by have := eg3.out; have l2 := eg2.out; have l4 := zg2.out; have l6 := b3.size; omega); have B1 := Bg1.keep (Keep.of_grown hb4) (fun e => e13 (Option.some.inj e)); have B2 := Bg2.keep (Keep.of_grown hb4) (fun e => e23 (Option.some.inj e)); have k1 := B1.cell 1 rfl))
    have G3 : w.heap.size ≤ g3 := by have := eg3.out; have := b1.size; omega
    have BX : Below w.heap.size w w4 := below_grown (below2 b1 b6) (below2 b1 b6).size hb4 (fun k e => by have := Option.some.inj e; omega)
    have hA := (hS.apart (below2 b1 b6) G3).keep (Keep.of_grown1 hb4)
    have L1 := B1.lt
    have L2 := B2.lt
    have L3 := B3.lt
    have HL3 := Lib.hid h3
    obtain ⟨F, hF⟩ : ∃ F : Nat → List Int, F = fun j => nth [] s j ++ List.replicate m 0 := ⟨_, rfl⟩
    have HF := Lib.hid hF
    clear hF k1
    go_loopw [25] (fun i wr => ∃ (k : Nat) (v : Value), k ≤ s.length ∧ i = .int .i64 k ∧ Blk wr g1 #[.int .i64 r, .slice A s.length c] 24 ∧ Blk wr g2 #[.int .i64 0, .slice none 0 0] 24 ∧ Blk wr g3 #[.int .i64 r, v] 24
        ∧ OwnK (kSl (kInt .i64)) 36 w4.heap.size (fun b => w4.heap.size ≤ b) wr v ((List.range k).map F) ∧ w4.grownBy wr (some g3)) (fun i _ => s.length - (intOf i).toNat)
    case atStart => exact ⟨0, _, Nat.zero_le _, rfl, B1, B2, B3, OwnK.nil _ _ _ _ _, World.grownBy.refl _ _⟩
    case round =>
      clear B1 B2 B3
      obtain ⟨k, v, hk, rfl, B1, B2, B3, hO, hg⟩ := hrel
      have k3 := B3.cell 1 rfl
      have hgs := hg.size
      by_cases hlt : k < s.length
      · obtain ⟨ad, A', c', rfl, hc, hs'⟩ := rd_sl (hA.keep (Keep.of_grown1 hg)) k hlt
        have hnk := HLEN.out k hlt
        have hFk := Lib.hid (show nth [] s k ++ List.replicate (M - (nth [] s k).length) 0 = F k by rw [HF.out, hnk, HMm.out.2.1])
        have hFl := Lib.hid (show (F k).length = M by rw [← hFk.out, List.length_append, List.length_replicate]; have := HMm.out.1; omega)
        have hle : (nth [] s k).length ≤ M := by rw [hnk]; exact HMm.out.1
        have hMb : M ≤ 10000 := HMm.out.2.2.1
        rw [hnk] at hc
        clear hnk
        go_wp2_with (first | ((with_reducible refine at_dst (N := 34) rfl ?_); go_loud (refine copy_fill (W := wr) rfl (.tmp 32) (.tmp 33) 36 36 3 .i64 8 rfl Tryd.underlying36 infoI M A' c' (nth [] s k) rfl (by rw [HLEN.out k hlt]; rfl) hs' hle (by omega) ?_); intro w5 hO5 hb5; rw [hFk.out] at hO5; have k5 : w5.cell? ⟨g3, 1, none⟩ = some v := (B3.below hb5).cell 1 rfl; have f5 := (B3.below hb5).free 1; have k5a := cell_below (below_alloc (Below.refl w5.heap.size w5) (.cells #[.slice (some ⟨wr.heap.size, 0, none⟩) M M] 36)) k5) | (at_builtin; go_loud ((refine append_k (W := w5) (k := kSl (kInt .i64)) w4.heap.size ?a1 (.tmp 36) (.tmp 38) 22 36 (.slice none 0 0) 24 (fun b => w4.heap.size ≤ b) ?a2 Tryd.underlying22 infoS ?a3 ?a4 ?a5 v ((List.range k).map F) (F k) [.slice (some ⟨wr.heap.size, 0, none⟩) M M] ?a6 ?a7 ?a8 ?hO ?hx ?hb ?hl ?_); (case a1 => rfl); (case a2 => rfl); (case a3 => rfl); (case a4 => decide); (case a5 => decide); (case a6 => rfl); (case a7 => rfl); (case a8 => rfl); (case hO => exact hO.below hb5); (case hx => exact ⟨_, M, by rw [hFl.out], (own_rd hO5).2.weak (fun b _ hb => ⟨by have : wr.heap.size ≤ b := hb; omega, fun he => by have := (hO.lt b he).2; have : wr.heap.size ≤ b := hb; omega⟩)⟩); (case hb => exact Nat.le_trans hgs hb5.size); (case hl => simp; omega)); intro g6 cap6 w6 hO6 hg6 hb6 ha6; have C3 : Blk w6 g3 #[.int .i64 r, v] 24 := (B3.below hb5).keep (Keep.of_grown hg6) (fun e => by have := hO.base_le g3 e.symm; omega); have k6 := C3.cell 1 rfl; have f6 := C3.free 1; clear k5 k5a f5))
        go_roundw
        case rel =>
          have hst := grown_setCell w6 g3 1 (.slice (some ⟨g6, 0, none⟩) (k + 1) cap6)
          refine ⟨k + 1, _, by omega, by go_num, ((B1.below hb5).keep (Keep.of_grown hg6) (fun e => by have := hO.base_le g1 e.symm; omega)).keep (Keep.of_grown1 hst) e13, ((B2.below hb5).keep (Keep.of_grown hg6) (fun e => by have := hO.base_le g2 e.symm; omega)).keep (Keep.of_grown1 hst) e23, C3.set 1 _, ?_, ?_⟩
          · rw [List.range_succ, List.map_append]
            simp only [List.length_map, List.length_range] at hO6
            exact hO6.keep (Keep.of_grown1 hst) (fun b hb e => by have := hO6.base_le b hb; omega) (fun b hb e => by omega) ⟨rfl, rfl, rfl⟩
          · exact grown_trans (grown_row (grown_row hg (grown_of_below hb5 none) (fun _ e => by cases e)) hg6 (fun b e => hO.base_le b e)) hst
        case measure => simp [intOf]; omega
      · obtain rfl : k = s.length := by omega
        obtain ⟨Ao, co, rfl, Ro⟩ := hO.rd
        simp only [List.length_map, List.length_range] at Ro B3 k3 ⊢
        have k3' := B3.cell 0 rfl
        go_wp2_with ((with_reducible refine at_store (p := 2) rfl ?_); (refine ev_put #[.int .i64 r, .slice Ao s.length co] rfl 24 (.tmp 2) (.tmp 42) rfl g2 24 _ rfl rfl B2 sizeS rfl rfl ?_); intro wf Bq hqf hzf; have z0 := Bq.cell 0 rfl; have z1 := Bq.cell 1 rfl)
        have e2 := eg2.out
        have e3 := zg1.out
        have e1 := eg1.out
        refine bodyPost_ret (v := .tuple #[.agg #[.int .i64 r, .slice Ao s.length co], .int .i64 0]) (by simp [results, Tryd.results45, go_sem, z0, z1]) rfl ⟨?_, ?_⟩
        · rw [HP.out, ← pad_map, ← HF.out]
          refine ⟨Ao, co, by simp, ?_⟩
          refine ((Ro.weak (ok' := fun b => w4.heap.size ≤ b) (fun b _ hb => ?_)).keep ((Keep.of_grown1 hqf).weak (fun i hi => by omega))).any
          rcases hb with hb | hb
          · exact hb
          · exact hO.base_le b (by simpa using hb)
        · exact below_grown (below_grown BX BX.size hg (fun k e => by have := Option.some.inj e; omega)) (Nat.le_trans BX.size hg.size) hqf (fun k e => by have := Option.some.inj e; omega)
end Go.Proofs.YtijcecakofmhcaaDoor
