/- The document's answer, layer 2: Interleave, Split. -/
import Derived.Test.YtijcecakofmhcaaDoorPcmRefB
import Derived.Test.YtijcecakofmhcaaDoorPcmT
namespace Go.Proofs.YtijcecakofmhcaaDoor
open Go.RowKit

set_option maxHeartbeats 1000000 in
set_option maxRecDepth 100000 in
theorem refInter_any (r : Int) (A : Option Addr) (c : Nat) (s : List (List Int)) (w : World) (hS : R2 w A c s) :
    Calls Tryd.prog 21 #[.agg #[.int .i64 r, .slice A s.length c]] w fun e w' => ∃ v, e = .returned (.tuple #[v, .int .i64 (interS r s).2]) ∧ OwnI 3 .i64 w.heap.size w' v (interS r s).1 ∧ Below w.heap.size w w' := by
  have hn := hS.len
  cases hv : validB r s
  · have HP := Lib.hid (show interS r s = ([], 1) by simp [interS, hv])
    have HV := Lib.hid hv
    clear hv
    go_enter Tryd.func21, Tryd.ntmps21
    go_wp2_with (first | ((with_reducible refine at_dst (N := 1) rfl ?_); refine ev_new #[.int .i64 r, .slice A s.length c] 24 rfl ?hr ?_; (case hr => first | (go_simp; done) | (go_simp; rfl)); intro g1 w1 eg1 zg1 b1 Bg1; have k0 := Bg1.cell 0 rfl; have k1 := Bg1.cell 1 rfl) | (go_at_call 25; refine (refValid_any r A c s _ (hS.below b1)).mono ?_; rintro e w2 ⟨rfl, b2⟩; rw [HV.out]))
    go_ret2
    rw [HP.out]
    exact ⟨_, rfl, OwnI.nil _ _ _ _, below2 b1 b2⟩
  · have V := valid_facts hv
    have h1 := V.one
    have h2 := V.two
    have h3 := V.len
    have H4 := Lib.hid V.same
    have HP := Lib.hid (show interS r s = (weave s, 0) by simp [interS, hv])
    have HV := Lib.hid hv
    clear hv
    go_enter Tryd.func21, Tryd.ntmps21
    go_wp2_with (first | ((with_reducible refine at_dst (N := 1) rfl ?_); refine ev_new #[.int .i64 r, .slice A s.length c] 24 rfl ?hr ?_; (case hr => first | (go_simp; done) | (go_simp; rfl)); intro g1 w1 eg1 zg1 b1 Bg1; have k0 := Bg1.cell 0 rfl; have k1 := Bg1.cell 1 rfl) | (go_at_call 25; refine (refValid_any r A c s _ (hS.below b1)).mono ?_; rintro e w2 ⟨rfl, b2⟩; rw [HV.out]; replace b1 := below2 b1 b2; replace Bg1 := Bg1.below b2; clear k0 k1; have k0 : w2.cell? ⟨g1, 0, none⟩ = some (.int .i64 r) := Bg1.cell 0 rfl; have k1 : w2.cell? ⟨g1, 1, none⟩ = some (.slice A s.length c) := Bg1.cell 1 rfl) | (go_at_call 34; refine (refLen_any r A c s _ (hS.below b1) h1).mono ?_; rintro e w3 ⟨rfl, b3⟩))
    have hb := below2 b1 b3
    have q1 := (Bg1.below b3).cell 1 rfl
    clear k0 k1
    go_loopw [4, 13] (fun v i wr => ∃ k : Nat, k ≤ len0 s ∧ i = .int .i64 k ∧ OwnI 3 .i64 w3.heap.size wr v (weaveN s k) ∧ Below w3.heap.size w3 wr) (fun _ i _ => len0 s - (intOf i).toNat)
    case atStart => exact ⟨0, Nat.zero_le _, rfl, OwnI.nil _ _ _ _, Below.refl _ _⟩
    case round =>
      obtain ⟨k, hk, rfl, hO, hB⟩ := hrel
      obtain ⟨wo, rfl⟩ : ∃ wo : World, wo = wr := ⟨_, rfl⟩
      have r1 := cell_below hB q1
      by_cases hlt : k < len0 s
      · go_wp2
        go_loopw [4, 19] (fun v i wr => ∃ j : Nat, j ≤ s.length ∧ i = .int .i64 j ∧ OwnI 3 .i64 w3.heap.size wr v (weaveN s k ++ (col s k).take j) ∧ Below w3.heap.size w3 wr) (fun _ i _ => s.length - (intOf i).toNat)
        case atStart => exact ⟨0, Nat.zero_le _, rfl, by simpa using hO, hB⟩
        case round =>
          clear hO r1 hB
          obtain ⟨j, hj, rfl, hO, hB⟩ := hrel
          by_cases hl : j < s.length
          · obtain ⟨ad, A', c', rfl, hc, hs'⟩ := rd_sl ((hS.below hb).below hB) j hl
            have hm : k < (nth [] s j).length := by rw [H4.out _ (nth_mem [] s j hl)]; exact hlt
            obtain ⟨ad', rfl, hc'⟩ := rd_int hs' k hm
            have hb8 : ((weaveN s k ++ (col s k).take j).length + 1) * 8 ≤ 140737488355328 := by
              have h5 : k * s.length ≤ 8192 * 2 := Nat.mul_le_mul (by omega) h2
              rw [List.length_append, weaveN_length, List.length_take, col_length]; omega
            go_wp2_with (at_builtin; go_loud (refine append_one (w0 := w3) w3.heap.size rfl (.tmp 23) (.tmp 28) 36 3 .i64 8 rfl Tryd.underlying36 infoI (by decide) _ _ _ rfl rfl hO hB hB.size hb8 ?_); intro v1 w4 hO1 hB1 _ _)
            go_roundw
            case rel => exact ⟨j + 1, by omega, by go_num, by rw [col_take s k j hl, ← List.append_assoc]; exact hO1, hB1⟩
            case measure => simp [intOf]; omega
          · rw [List.take_of_length_le (by rw [col_length]; omega), ← weaveN_succ] at hO
            go_wp2
            go_roundw
            case rel => exact ⟨k + 1, by omega, by go_num, hO, hB⟩
            case measure => simp [intOf]; omega
      · obtain rfl : k = len0 s := by omega
        go_wp2
        go_ret2
        rw [HP.out]
        exact ⟨_, rfl, hO.mono hb.size, below2 hb hB⟩

set_option maxHeartbeats 2000000 in
set_option maxRecDepth 100000 in
theorem refSplit_any (A : Option Addr) (c : Nat) (l : List Int) (ch rate : Int) (w : World) (hL : RI w A c l) :
    Calls Tryd.prog 23 #[.slice A l.length c, .int .i64 ch, .int .i64 rate] w fun e w' => RetS w.heap.size (splitS l ch rate) e w' ∧ Below w.heap.size w w' := by
  have hn := hL.len
  have hcase : (ch < 1) ∨ (¬ ch < 1 ∧ 2 < ch) ∨ (¬ ch < 1 ∧ ¬ 2 < ch) := by omega
  rcases hcase with h1 | ⟨h1, h2⟩ | ⟨h1, h2⟩
  · have HP := Lib.hid (show splitS l ch rate = (0, [], 1) by simp [splitS, h1])
    go_enter Tryd.func23, Tryd.ntmps23
    go_wp2_with (first | ((with_reducible refine at_dst (N := 6) rfl ?_); refine ev_new #[.int .i64 0, .slice none 0 0] 24 rfl ?hr ?_; (case hr => first | (go_simp; done) | (go_simp; rfl)); intro g2 w2 eg2 zg2 b2 Bg2; skip) | ((with_reducible refine at_store (p := 6) rfl ?_); (refine ev_put #[.int .i64 0, .slice none 0 0] rfl 24 (.tmp 6) (.tmp 23) rfl g2 24 _ rfl rfl Bg2 sizeS rfl rfl ?_); intro wf Bq hqf hzf; have z0 := Bq.cell 0 rfl; have z1 := Bq.cell 1 rfl))
    have G2 : w.heap.size ≤ g2 := by have := eg2.out; omega
    refine bodyPost_ret (v := .tuple #[.agg #[.int .i64 0, .slice none 0 0], .int .i64 1]) (by simp [results, Tryd.results23, go_sem, z0, z1]) rfl ⟨?_, ?_⟩
    · rw [HP.out]; exact RetS.none _ _ _
    · exact below_grown b2 b2.size hqf (fun k e => by have := Option.some.inj e; omega)
  · have HP := Lib.hid (show splitS l ch rate = (0, [], 1) by simp [splitS, h2])
    go_enter Tryd.func23, Tryd.ntmps23
    go_wp2_with (first | ((with_reducible refine at_dst (N := 6) rfl ?_); refine ev_new #[.int .i64 0, .slice none 0 0] 24 rfl ?hr ?_; (case hr => first | (go_simp; done) | (go_simp; rfl)); intro g2 w2 eg2 zg2 b2 Bg2; skip) | ((with_reducible refine at_store (p := 6) rfl ?_); (refine ev_put #[.int .i64 0, .slice none 0 0] rfl 24 (.tmp 6) (.tmp 23) rfl g2 24 _ rfl rfl Bg2 sizeS rfl rfl ?_); intro wf Bq hqf hzf; have z0 := Bq.cell 0 rfl; have z1 := Bq.cell 1 rfl))
    have G2 : w.heap.size ≤ g2 := by have := eg2.out; omega
    refine bodyPost_ret (v := .tuple #[.agg #[.int .i64 0, .slice none 0 0], .int .i64 1]) (by simp [results, Tryd.results23, go_sem, z0, z1]) rfl ⟨?_, ?_⟩
    · rw [HP.out]; exact RetS.none _ _ _
    · exact below_grown b2 b2.size hqf (fun k e => by have := Option.some.inj e; omega)
  · cases hR : isRateB rate
    · have HP := Lib.hid (show splitS l ch rate = (0, [], 1) by simp [splitS, hR])
      have HR := Lib.hid hR
      clear hR
      go_enter Tryd.func23, Tryd.ntmps23
      go_wp2_with (first | ((with_reducible refine at_dst (N := 6) rfl ?_); refine ev_new #[.int .i64 0, .slice none 0 0] 24 rfl ?hr ?_; (case hr => first | (go_simp; done) | (go_simp; rfl)); intro g2 w2 eg2 zg2 b2 Bg2; skip) | (go_at_call 66; refine (refRate_any _ _).mono ?_; rintro e w4 ⟨rfl, b4⟩; rw [HR.out]; replace b2 := below2 b2 b4; replace Bg2 := Bg2.below b4) | ((with_reducible refine at_store (p := 6) rfl ?_); (refine ev_put #[.int .i64 0, .slice none 0 0] rfl 24 (.tmp 6) (.tmp 23) rfl g2 24 _ rfl rfl Bg2 sizeS rfl rfl ?_); intro wf Bq hqf hzf; have z0 := Bq.cell 0 rfl; have z1 := Bq.cell 1 rfl))
      have G2 : w.heap.size ≤ g2 := by have := eg2.out; omega
      refine bodyPost_ret (v := .tuple #[.agg #[.int .i64 0, .slice none 0 0], .int .i64 1]) (by simp [results, Tryd.results23, go_sem, z0, z1]) rfl ⟨?_, ?_⟩
      · rw [HP.out]; exact RetS.none _ _ _
      · exact below_grown b2 b2.size hqf (fun k e => by have := Option.some.inj e; omega)
    · obtain ⟨n, rfl⟩ : ∃ n : Nat, ch = n := ⟨ch.toNat, by omega⟩
      have hS : splitS l n rate = if l.length % n ≠ 0 then (0, [], 4) else if 8192 < l.length / n then (0, [], 2) else if l.all smpB then (rate, splitK l n l.length, 0) else (0, [], 6) := by
        unfold splitS
        rw [if_neg (by simp [hR]; omega), Int.toNat_natCast]
      have HR := Lib.hid hR
      clear hR
      have hn1 : 1 ≤ n := by omega
      have hn2 : n ≤ 2 := by omega
      obtain ⟨d, hd⟩ : ∃ d : Nat, l.length / n = d := ⟨_, rfl⟩
      have hdl : d ≤ l.length := by rw [← hd]; exact Nat.div_le_self _ _
      have hdq : wrap64 ((l.length : Int) / (n : Int)) = (d : Int) := by
        rw [← Int.natCast_ediv, hd]
        unfold wrap64
        omega
      rw [hd] at hS
      by_cases hm : l.length % n = 0
      · rw [if_neg (by simp [hm])] at hS
        have hmm : (l.length : Int) % (n : Int) = 0 := by rw [← Int.natCast_emod, hm]; rfl
        by_cases hf : 8192 < d
        · have HP := Lib.hid (hS.trans (if_pos hf))
          clear hS
          have hff : (8192 : Int) < (d : Int) := by omega
          clear hd
          go_enter Tryd.func23, Tryd.ntmps23
          go_wp2_with (first | ((with_reducible refine at_dst (N := 6) rfl ?_); refine ev_new #[.int .i64 0, .slice none 0 0] 24 rfl ?hr ?_; (case hr => first | (go_simp; done) | (go_simp; rfl)); intro g2 w2 eg2 zg2 b2 Bg2; skip) | (go_at_call 66; refine (refRate_any _ _).mono ?_; rintro e w4 ⟨rfl, b4⟩; rw [HR.out]; replace b2 := below2 b2 b4; replace Bg2 := Bg2.below b4) | ((with_reducible refine at_store (p := 6) rfl ?_); (refine ev_put #[.int .i64 0, .slice none 0 0] rfl 24 (.tmp 6) (.tmp 37) rfl g2 24 _ rfl rfl Bg2 sizeS rfl rfl ?_); intro wf Bq hqf hzf; have z0 := Bq.cell 0 rfl; have z1 := Bq.cell 1 rfl))
          have G2 : w.heap.size ≤ g2 := by have := eg2.out; omega
          refine bodyPost_ret (v := .tuple #[.agg #[.int .i64 0, .slice none 0 0], .int .i64 2]) (by simp [results, Tryd.results23, go_sem, z0, z1]) rfl ⟨?_, ?_⟩
          · rw [HP.out]; exact RetS.none _ _ _
          · exact below_grown b2 b2.size hqf (fun k e => by have := Option.some.inj e; omega)
        · rw [if_neg hf] at hS
          have hff : ¬ (8192 : Int) < (d : Int) := by omega
          have HD := Lib.hid hd
          have hl16 : l.length ≤ 16385 := by
            have h1 := Nat.div_add_mod l.length n
            rw [hd, hm] at h1
            have h2 : n * d ≤ 2 * 8192 := Nat.mul_le_mul hn2 (by omega)
            omega
          clear hd
          have HSP := Lib.hid hS
          clear hS
          have hmk := run_make_row' (P := Tryd.prog) 22 36 (.slice none 0 0) 24 Tryd.underlying22 infoS rfl .i64 .i64 n (by omega) (by omega)
          go_enter Tryd.func23, Tryd.ntmps23
          go_wp2_with (first | ((with_reducible refine at_dst (N := 6) rfl ?_); refine ev_new #[.int .i64 0, .slice none 0 0] 24 rfl ?hr ?_; (case hr => first | (go_simp; done) | (go_simp; rfl)); intro g2 w2 eg2 zg2 b2 Bg2; skip) | (go_at_call 66; refine (refRate_any _ _).mono ?_; rintro e w4 ⟨rfl, b4⟩; rw [HR.out]; replace b2 := below2 b2 b4; replace Bg2 := Bg2.below b4))
          have g2l4 := Bg2.lt
          clear hmm hdq
          have BT : Blk ((w4.alloc (.cells (madeCells #[.slice none 0 0] n) 36)).alloc (.cells #[.int .i64 rate, .slice (some ⟨w4.heap.size, 0, none⟩) n n] 24)) w4.heap.size (List.replicate n (.slice none 0 0)).toArray 36 := by
            rw [← made_replicate]
            exact (show Blk (w4.alloc _) w4.heap.size _ _ from heap_alloc_new w4 _).below (below_alloc (Below.refl _ _) _)
          have B8 : Blk ((w4.alloc (.cells (madeCells #[.slice none 0 0] n) 36)).alloc (.cells #[.int .i64 rate, .slice (some ⟨w4.heap.size, 0, none⟩) n n] 24)) (w4.heap.size + 1) #[.int .i64 rate, .slice (some ⟨w4.heap.size, 0, none⟩) n n] 24 := by
            have := heap_alloc_new (w4.alloc (.cells (madeCells #[.slice none 0 0] n) 36)) (.cells #[.int .i64 rate, .slice (some ⟨w4.heap.size, 0, none⟩) n n] 24)
            rwa [World.size_alloc] at this
          have hB := below_alloc (below_alloc (Below.refl w4.heap.size w4) (.cells (madeCells #[.slice none 0 0] n) 36)) (.cells #[.int .i64 rate, .slice (some ⟨w4.heap.size, 0, none⟩) n n] 24)
          have hsz : ((w4.alloc (.cells (madeCells #[.slice none 0 0] n) 36)).alloc (.cells #[.int .i64 rate, .slice (some ⟨w4.heap.size, 0, none⟩) n n] 24)).heap.size = w4.heap.size + 1 + 1 := by simp [World.size_alloc]
          generalize ((w4.alloc (.cells (madeCells #[.slice none 0 0] n) 36)).alloc (.cells #[.int .i64 rate, .slice (some ⟨w4.heap.size, 0, none⟩) n n] 24)) = W at BT B8 hB hsz ⊢
          have HZ := Lib.hid hsz
          clear hsz hmk
          have B2 := Bg2.below hB
          have BX := below2 b2 hB
          have G2 : w.heap.size ≤ g2 := by have := eg2.out; omega
          have G3 : w.heap.size ≤ w4.heap.size := b2.size
          have hA := hL.apart BX G3
          have g2lt := B2.lt
          go_loopw [44] (fun i wr => ∃ (k : Nat) (vs : List Value), k ≤ l.length ∧ i = .int .i64 k ∧ Hid ((l.take k).all smpB = true) ∧ Rows (w4.heap.size + 1 + 1) w4.heap.size wr vs (splitK l n k) ∧ W.grownBy wr (some w4.heap.size)) (fun i _ => l.length - (intOf i).toNat)
          case atStart =>
            exact ⟨0, _, Nat.zero_le _, rfl, rfl, Rows.start n w4.heap.size W (w4.heap.size + 1 + 1) BT (by omega), World.grownBy.refl _ _⟩
          case round =>
            obtain ⟨k, vs, hk, rfl, hall, hR, hg⟩ := hrel
            have C8 := B8.keep (Keep.of_grown hg) (fun e => by have := Option.some.inj e; omega)
            have m0 := C8.cell 0 rfl
            have m1 := C8.cell 1 rfl
            have hlen := splitK_length l n k
            have hvl := hR.len.trans hlen
            by_cases hlt : k < l.length
            · have hLr := hA.keep (Keep.of_grown1 hg)
              obtain ⟨ad, rfl, hc⟩ := rd_int hLr k hlt
              have hjn : k % n < n := Nat.mod_lt _ (by omega)
              obtain ⟨j, hj⟩ : ∃ j, k % n = j := ⟨_, rfl⟩
              have hmj : (k : Int) % (n : Int) = (j : Int) := by rw [← Int.natCast_emod, hj]
              have hmt : Int.tmod (k : Int) (n : Int) = (j : Int) := by rw [Int.tmod_eq_emod_of_nonneg (by omega)]; exact hmj
              have hn0 : ¬ n = 0 := by omega
              rw [hj] at hjn
              have HJ := Lib.hid hj
              clear hj
              have hOj := hR.own j (by rw [hlen]; exact hjn)
              obtain ⟨A', c', hv, hsj⟩ := hOj.rd
              have hcT : wr.cell? ⟨w4.heap.size, j, none⟩ = some (.slice A' (nth [] (splitK l n k) j).length c') := by
                rw [← hv]
                exact hR.blk.cell j (by simpa using nth_some undef vs j (by rw [hvl]; exact hjn))
              have hfT := hR.blk.free j
              clear hlen hvl
              have hsn := Lib.hid (all_snoc smpB l k hlt)
              have hmem := Lib.hid (nth_mem 0 l k hlt)
              cases hx : smpB (nth 0 l k)
              · have HX := Lib.hid hx
                have HP : Hid (splitS l n rate = (0, [], 6)) := Lib.hid (by
                  have : l.all smpB = false := by rw [List.all_eq_false]; exact ⟨_, hmem.out, by rw [hx]; decide⟩
                  rw [HSP.out, this]; rfl)
                have D2 := B2.keep (Keep.of_grown hg) (fun e => by have := Option.some.inj e; omega)
                clear hx
                go_wp2_with (first | (go_at_call 67; refine (refSample_any _ _).mono ?_; rintro e w9 ⟨rfl, rfl⟩; rw [HX.out]) | ((with_reducible refine at_store (p := 6) rfl ?_); (refine ev_put #[.int .i64 0, .slice none 0 0] rfl 24 (.tmp 6) (.tmp 52) rfl g2 24 _ rfl rfl D2 sizeS rfl rfl ?_); intro wf Bq hqf hzf; have z0 := Bq.cell 0 rfl; have z1 := Bq.cell 1 rfl))
                refine bodyPost_ret (v := .tuple #[.agg #[.int .i64 0, .slice none 0 0], .int .i64 6]) (by simp [results, Tryd.results23, go_sem, z0, z1]) rfl ⟨?_, ?_⟩
                · rw [HP.out]; exact RetS.none _ _ _
                · exact below_grown (below_grown BX BX.size hg (fun k e => by have := Option.some.inj e; omega)) (Nat.le_trans BX.size hg.size) hqf (fun k e => by have := Option.some.inj e; omega)
              · have HX := Lib.hid hx
                have hall' : Hid ((l.take (k + 1)).all smpB = true) := by rw [hsn.out, hall.out, hx]; rfl
                clear hx
                go_wp2_with ((go_at_call 67; refine (refSample_any _ _).mono ?_; rintro e w9 ⟨rfl, rfl⟩; rw [HX.out]))
                have hrl := splitK_row l n k j
                have hbase : w4.heap.size + 1 + 1 ≤ wr.heap.size := by have := hg.size; have := HZ.out; omega
                have HV := Lib.hid hv
                have hO' : OwnI 3 .i64 (w4.heap.size + 1 + 1) wr (.slice A' (nth [] (splitK l n k) j).length c') (nth [] (splitK l n k) j) := by rw [← hv]; exact hOj
                have hbk := hO'.base_le
                have hRd := hR.below (Below.refl wr.heap.size wr).drew
                have C8d := C8.below (Below.refl wr.heap.size wr).drew
                have hOd := own_kI (hO'.below (Below.refl wr.heap.size wr).drew)
                have hltT : w4.heap.size < wr.heap.size := by omega
                have hcTa := cell_below (below_alloc (Below.refl wr.heap.size wr) (.cells #[.int .i64 (nth 0 l k)] 3)) hcT
                have m1a := cell_below (below_alloc (Below.refl wr.heap.size wr) (.cells #[.int .i64 (nth 0 l k)] 3)) m1
                clear hv hOj
                go_region_law ((go_loud (refine step_append_k (W := wr.drew) (k := kInt .i64) (w4.heap.size + 1 + 1) ?a1 (.tmp 64) (.tmp 66) 36 3 (.int .i64 0) 8 (fun _ => True) ?a2 Tryd.underlying36 infoI ?a3 ?a4 ?a5 (.slice A' (nth [] (splitK l n k) j).length c') (nth [] (splitK l n k) j) (nth 0 l k) [.int .i64 (nth 0 l k)] ?a6 ?a7 ?a8 ?hO ?hx ?hb ?hl ?_)); (case a1 => rfl); (case a2 => rfl); (case a3 => rfl); (case a4 => decide); (case a5 => decide); (case a6 => rfl); (case a7 => rfl); (case a8 => rfl); (case hO => exact hOd); (case hx => rfl); (case hb => exact hbase); (case hl => omega); intro g6 cap6 w6 hO6 hg6 hb6 ha6; have T6 := hRd.blk.keep (Keep.of_grown hg6) (fun e => by have := hbk _ e.symm; omega); have c6 := T6.cell j (v := .slice A' (nth [] (splitK l n k) j).length c') (by rw [← HV.out]; simpa using nth_some undef vs j (by rw [hR.len, splitK_length]; exact hjn)); have f6 := T6.free j; have D6 := C8d.keep (Keep.of_grown hg6) (fun e => by have := hbk _ e.symm; omega); have k6 := D6.cell 1 rfl)
                all_goals
                  have hR' : Rows (w4.heap.size + 1 + 1) w4.heap.size (w6.setCell ⟨w4.heap.size, j, none⟩ (.slice (some ⟨g6, 0, none⟩) ((nth [] (splitK l n k) j).length + 1) cap6)) (vs.set j (.slice (some ⟨g6, 0, none⟩) ((nth [] (splitK l n k) j).length + 1) cap6)) (splitK l n (k + 1)) := by
                    rw [show splitK l n (k + 1) = (splitK l n k).set j (nth [] (splitK l n k) j ++ [nth 0 l k]) by rw [splitK, HJ.out]]
                    refine hRd.step j (by rw [splitK_length]; exact hjn) (own_Ik hO6) (by rw [HV.out]; exact hg6) (fun b hb => ?_)
                    rw [HV.out]
                    have hb := Option.some.inj hb
                    rw [← hb]
                    rcases ha6 with h4 | h4
                    · exact .inl h4
                    · exact .inr (Nat.le_of_lt h4)
                  have hg' := grown_trans (grown_row (grown_row hg (grown_of_below (Below.refl wr.heap.size wr).drew none) (fun _ e => by cases e)) hg6 (fun b e => by have := hbk b e; have := HZ.out; omega)) (grown_setCell w6 w4.heap.size j (.slice (some ⟨g6, 0, none⟩) ((nth [] (splitK l n k) j).length + 1) cap6))
                  go_wp2_with fail
                  go_roundw
                  case rel => first | exact ⟨k + 1, _, by omega, by go_num, hall', hR', hg'⟩ | exact ⟨_, _, _, _, _, _, _, _, _, _, _, _, _, _, _, _, _, _, _, _, _, _, _, _, _, _, _, _, _, ⟨k + 1, _, by omega, by go_num, hall', hR', hg'⟩, rfl⟩ | exact ⟨_, _, _, _, _, _, _, _, _, _, _, _, _, _, _, _, _, _, _, _, _, _, _, _, _, _, _, _, ⟨k + 1, _, by omega, by go_num, hall', hR', hg'⟩, rfl⟩ | exact ⟨_, _, _, _, _, _, _, _, _, _, _, _, _, _, _, _, _, _, _, _, _, _, _, _, _, _, _, _, _, _, ⟨k + 1, _, by omega, by go_num, hall', hR', hg'⟩, rfl⟩ | exact ⟨_, _, _, _, _, _, _, _, _, _, _, _, _, _, _, _, _, _, _, _, _, _, _, _, _, _, _, ⟨k + 1, _, by omega, by go_num, hall', hR', hg'⟩, rfl⟩
                  case measure => simp [intOf]; omega
            · obtain rfl : k = l.length := by omega
              rw [List.take_length] at hall
              have HP : Hid (splitS l n rate = (rate, splitK l n l.length, 0)) := Lib.hid (by rw [HSP.out, hall.out]; rfl)
              have D2 := B2.keep (Keep.of_grown hg) (fun e => by have := Option.some.inj e; have := eg2.out; omega)
              go_wp2_with (((with_reducible refine at_store (p := 6) rfl ?_); (refine ev_put #[.int .i64 rate, .slice (some ⟨w4.heap.size, 0, none⟩) n n] rfl 24 (.tmp 6) (.tmp 70) rfl g2 24 _ rfl rfl D2 sizeS rfl rfl ?_); intro wf Bq hqf hzf; have z0 := Bq.cell 0 rfl; have z1 := Bq.cell 1 rfl))
              refine bodyPost_ret (v := .tuple #[.agg #[.int .i64 rate, .slice (some ⟨w4.heap.size, 0, none⟩) n n], .int .i64 0]) (by simp [results, Tryd.results23, go_sem, z0, z1]) rfl ⟨?_, ?_⟩
              · rw [HP.out]
                refine ⟨some ⟨w4.heap.size, 0, none⟩, n, by simp [hlen], ?_⟩
                have hs := hR.rd (by rw [hlen]; simp [maxLen]; omega)
                rw [hlen] at hs
                have e12 := eg2.out
                exact (hs.keep ((Keep.of_grown1 hqf).weak fun b hb => by omega)).weak fun b _ hb => by omega
              · exact below_grown (below_grown BX BX.size hg (fun k e => by have := Option.some.inj e; omega)) (Nat.le_trans BX.size hg.size) hqf (fun k e => by have := Option.some.inj e; omega)
      · have HP := Lib.hid (hS.trans (if_pos hm))
        clear hS
        have hmm : (0 : Int) < (l.length : Int) % (n : Int) := by rw [← Int.natCast_emod]; omega
        go_enter Tryd.func23, Tryd.ntmps23
        go_wp2_with (first | ((with_reducible refine at_dst (N := 6) rfl ?_); refine ev_new #[.int .i64 0, .slice none 0 0] 24 rfl ?hr ?_; (case hr => first | (go_simp; done) | (go_simp; rfl)); intro g2 w2 eg2 zg2 b2 Bg2; skip) | (go_at_call 66; refine (refRate_any _ _).mono ?_; rintro e w4 ⟨rfl, b4⟩; rw [HR.out]; replace b2 := below2 b2 b4; replace Bg2 := Bg2.below b4) | ((with_reducible refine at_store (p := 6) rfl ?_); (refine ev_put #[.int .i64 0, .slice none 0 0] rfl 24 (.tmp 6) (.tmp 30) rfl g2 24 _ rfl rfl Bg2 sizeS rfl rfl ?_); intro wf Bq hqf hzf; have z0 := Bq.cell 0 rfl; have z1 := Bq.cell 1 rfl))
        have G2 : w.heap.size ≤ g2 := by have := eg2.out; omega
        refine bodyPost_ret (v := .tuple #[.agg #[.int .i64 0, .slice none 0 0], .int .i64 4]) (by simp [results, Tryd.results23, go_sem, z0, z1]) rfl ⟨?_, ?_⟩
        · rw [HP.out]; exact RetS.none _ _ _
        · exact below_grown b2 b2.size hqf (fun k e => by have := Option.some.inj e; omega)
end Go.Proofs.YtijcecakofmhcaaDoor
