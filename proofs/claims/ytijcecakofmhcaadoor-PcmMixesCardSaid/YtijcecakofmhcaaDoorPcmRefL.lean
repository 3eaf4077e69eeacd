/- The document's answer, layer 2: Join. -/
import Derived.Test.YtijcecakofmhcaaDoorPcmRefI
import Derived.Test.YtijcecakofmhcaaDoorPcmRefG
import Derived.Test.YtijcecakofmhcaaDoorPcmO
import Derived.Test.YtijcecakofmhcaaDoorHeld
namespace Go.Proofs.YtijcecakofmhcaaDoor
open Go.RowKit

section
variable {P : Program} {ops : Array Oper} {o : Oper} {a : Act} {Q : Exit → Act → World → Prop}
/-- A list added to a row, as one step of a drawn region. -/
theorem step_append_row {E : Prop} {K : Act → World → Prop} {W : World} (base : Nat) (hgd : o.guard = none) (s x : Operand) (t e : TypeId) (k : IntKind) (bytes : Nat)
    (ho : o.op = .call { callee := .builtin .append, args := #[s, x], argTypes := #[t, t] })
    (ht : P.underlying t = some (.slice e)) (hinfo : (P.info? e).map (fun i => (i.zero, i.size, i.bytes)) = some (some (.int k 0), 1, bytes)) (hb0 : 0 < bytes)
    (v : Value) (xs ys : List Int) (A : Option Addr) (c : Nat) {ok : Nat → Prop} (hs : a.eval s = v) (hx : a.eval x = .slice A ys.length c)
    (HO : OwnI e k base W v xs) (HR : Sl (kInt k) ok W A c ys) (hbase : base ≤ W.heap.size) (hl : (xs.length + ys.length) * bytes ≤ 140737488355328)
    (h : ∀ v1 w1, OwnI e k base w1 v1 (xs ++ ys) → W.grownBy w1 v.ownBlock → (v1.ownBlock = v.ownBlock ∨ ∃ b, v1.ownBlock = some b ∧ W.heap.size ≤ b) → K (a.put o.dst v1) w1) :
    if Region.wanted o (yielded ops a.tmps) = true then Oper.wp P o a W K Q else E := by
  obtain ⟨v1, w1, hr, hown, hg, hat⟩ := run_append_row (P := P) base t o.type e k bytes ht hinfo hb0 v xs ys A c HO HR hbase hl
  rw [if_pos (by simp [Region.wanted, hgd])]
  unfold Oper.wp execOp
  simp only [ho, resolve, invoke, builtin, Sem.run_bind, Sem.run_pure, Result.andThen_ok, List.map_toArray, List.map_cons, List.map_nil, hs, hx, hr]
  exact h v1 w1 hown hg hat
end
theorem keep_set1 {W : World} {b i : Nat} {v : Value} {a : Addr} {x : Value} (h : W.cell? a = some x) (hne : a.block ≠ b) : (W.setCell ⟨b, i, none⟩ v).cell? a = some x := (Keep.of_grown1 (grown_setCell W b i v)).cell hne h

set_option maxHeartbeats 2000000 in
set_option maxRecDepth 100000 in
theorem refJoin_any (r : Int) (A : Option Addr) (c : Nat) (s : List (List Int)) (r2 : Int) (A2 : Option Addr) (c2 : Nat) (s2 : List (List Int)) (w : World) (hS : R2 w A c s) (hS2 : R2 w A2 c2 s2) :
    Calls Tryd.prog 36 #[.agg #[.int .i64 r, .slice A s.length c], .agg #[.int .i64 r2, .slice A2 s2.length c2]] w fun e w' => RetA (joinS r s r2 s2) e w' ∧ Below w.heap.size w w' := by
  have hn := hS.len
  have hn2 := hS2.len
  by_cases hv : alikeE r s r2 s2 = 0
  · obtain ⟨V, V2, hl, hr⟩ := alike_ok hv
    have H := Lib.hid hv
    have h1 := V.one
    have h2 := V.two
    have h3 := V.len
    have h12 := V2.one
    have h32 := V2.len
    have hj : joinS r s r2 s2 = if len0 s + len0 s2 ≤ 8192 then (r, (List.range s.length).map (fun j => nth [] s j ++ nth [] s2 j), 0) else (0, [], 2) := by simp [joinS, hv]
    have HLEN := Lib.hid (fun j (hj : j < s.length) => V.same _ (nth_mem [] s j hj))
    have HLEN2 := Lib.hid (fun j (hj : j < s2.length) => V2.same _ (nth_mem [] s2 j hj))
    clear hv V V2
    have HL := Lib.hid hl
    clear hl hr
    by_cases hf : len0 s + len0 s2 ≤ 8192
    · have HP := Lib.hid (hj.trans (if_pos hf))
      clear hj
      go_enter Tryd.func36, Tryd.ntmps36
      go_wp2_with (first | ((with_reducible refine at_dst (N := 2) rfl ?_); refine ev_new #[.int .i64 r, .slice A s.length c] 24 rfl ?hr ?_; (case hr => first | (go_simp; done) | (go_simp; rfl)); intro g1 w1 eg1 zg1 b1 Bg1; skip) | ((with_reducible refine at_dst (N := 3) rfl ?_); refine ev_new #[.int .i64 r2, .slice A2 s2.length c2] 24 rfl ?hr ?_; (case hr => first | (go_simp; done) | (go_simp; rfl)); intro g3 w3 eg3 zg3 b3 Bg3; replace Bg1 := Bg1.below b3; replace b1 := below2 b1 b3) | ((with_reducible refine at_dst (N := 4) rfl ?_); refine ev_new #[.int .i64 0, .slice none 0 0] 24 rfl ?hr ?_; (case hr => first | (go_simp; done) | (go_simp; rfl)); intro g2 w2 eg2 zg2 b2 Bg2; replace Bg1 := Bg1.below b2; replace Bg3 := Bg3.below b2; replace b1 := below2 b1 b2; have k0 := Bg1.cell 0 rfl; have k1 := Bg1.cell 1 rfl; have k2 := Bg3.cell 0 rfl; have k3 := Bg3.cell 1 rfl) | (go_at_call 78; refine (refAlike_any _ _ _ _ _ _ _ _ _ (hS.below b1) (hS2.below b1)).mono ?_; rintro e w4 ⟨rfl, b4⟩; rw [H.out]; replace b1 := below2 b1 b4; replace Bg1 := Bg1.below b4; replace Bg3 := Bg3.below b4; replace Bg2 := Bg2.below b4; clear k0 k1 k2 k3; have k0 : w4.cell? ⟨g1, 0, none⟩ = some (.int .i64 r) := Bg1.cell 0 rfl; have k1 : w4.cell? ⟨g1, 1, none⟩ = some (.slice A s.length c) := Bg1.cell 1 rfl; have k2 : w4.cell? ⟨g3, 0, none⟩ = some (.int .i64 r2) := Bg3.cell 0 rfl; have k3 : w4.cell? ⟨g3, 1, none⟩ = some (.slice A2 s2.length c2) := Bg3.cell 1 rfl))
      have tok : True := trivial
      have hwr : IntKind.i64.wrap ((len0 s : Int) + (len0 s2 : Int)) = (len0 s : Int) + (len0 s2 : Int) := IntWalk.i64_in _ (by omega)
      go_region_held3 (fun W => W.cell? ⟨g1, 0, none⟩ = some (.int .i64 r) ∧ W.cell? ⟨g1, 1, none⟩ = some (.slice A s.length c) ∧ W.cell? ⟨g3, 0, none⟩ = some (.int .i64 r2) ∧ W.cell? ⟨g3, 1, none⟩ = some (.slice A2 s2.length c2)) (go_keep) (first | (go_at_call 34; have _t := tok; refine (refLen_any r A c s _ ?h1 h1).mono ?_; (case h1 => exact hS.below (b1.drew)); clear tok; rintro e w5 ⟨rfl, b5⟩; have q0 := cell_below b5 k0; have q1 := cell_below b5 k1; have q2 := cell_below b5 k2; have q3 := cell_below b5 k3) | (go_at_call 34; refine (refLen_any r2 A2 c2 s2 _ ?h1 h12).mono ?_; (case h1 => exact hS2.below (below2 b1.drew b5)); rintro e w6 ⟨rfl, b6⟩; replace q0 := cell_below b6 q0; replace q1 := cell_below b6 q1; replace q2 := cell_below b6 q2; replace q3 := cell_below b6 q3))
      clear hwr
      have b46 := below2 ((Below.refl w4.heap.size w4).drew.trans b5) b6
      have BX := below2 (below2 b1.drew b5) b6
      replace Bg2 := Bg2.below b46
      replace Bg1 := Bg1.below b46
      replace Bg3 := Bg3.below b46
      have G2 : w.heap.size ≤ g2 := by have := eg2.out; have := zg3.out; have := eg3.out; have := zg1.out; have := eg1.out; omega
      have z26 : g2 < w6.heap.size := Bg2.lt
      have z36 : g3 < w6.heap.size := Bg3.lt
      have z16 : g1 < w6.heap.size := Bg1.lt
      clear k0 k1 k2 k3
      go_wp2_with (first | ((with_reducible refine at_dst (N := 7) rfl ?_); refine ev_new #[.int .i64 0, .slice none 0 0] 24 rfl ?hr ?_; (case hr => first | (go_simp; done) | (go_simp; rfl)); intro g7 w7 eg7 zg7 b7 Bg7; replace Bg1 := Bg1.below b7; replace Bg2 := Bg2.below b7; replace Bg3 := Bg3.below b7; have BX7 := below2 BX b7; clear q0 q1 q2 q3) | ((with_reducible refine at_store (p := 7) rfl ?_); (refine ev_put #[.int .i64 r, .slice none 0 0] rfl 24 (.tmp 7) (.tmp 25) rfl g7 24 _ rfl rfl Bg7 sizeS rfl rfl ?_); intro w8 B7 hb8 hz8; have e17 : g1 ≠ g7 := (by have := eg7.out; omega); have e27 : g2 ≠ g7 := (by have := eg7.out; omega); have e37 : g3 ≠ g7 := (by have := eg7.out; omega); have B1 := Bg1.keep (Keep.of_grown1 hb8) e17; have B2 := Bg2.keep (Keep.of_grown1 hb8) e27; have B3 := Bg3.keep (Keep.of_grown1 hb8) e37; have k1 := B1.cell 1 rfl))
      have G7 : w.heap.size ≤ g7 := by have := eg7.out; have := BX.size; omega
      have BX8 : Below w.heap.size w w8 := below_grown BX7 BX7.size hb8 (fun k e => by have := Option.some.inj e; omega)
      have L1 := B1.lt
      have L2 := B2.lt
      have L3 := B3.lt
      have L7 := B7.lt
      obtain ⟨F, hF⟩ : ∃ F : Nat → List Int, F = fun j => nth [] s j ++ nth [] s2 j := ⟨_, rfl⟩
      have HF := Lib.hid hF
      have HFF := Lib.hid hf
      clear hF k1 hf
      go_loopw [29] (fun i wr => ∃ (k : Nat) (v : Value), k ≤ s.length ∧ i = .int .i64 k ∧ Blk wr g1 #[.int .i64 r, .slice A s.length c] 24 ∧ Blk wr g3 #[.int .i64 r2, .slice A2 s2.length c2] 24 ∧ Blk wr g2 #[.int .i64 0, .slice none 0 0] 24 ∧ Blk wr g7 #[.int .i64 r, v] 24
          ∧ OwnK (kSl (kInt .i64)) 36 w8.heap.size (fun b => w8.heap.size ≤ b) wr v ((List.range k).map F) ∧ w8.grownBy wr (some g7)) (fun i _ => s.length - (intOf i).toNat)
      case atStart => exact ⟨0, _, Nat.zero_le _, rfl, B1, B3, B2, B7, OwnK.nil _ _ _ _ _, World.grownBy.refl _ _⟩
      case round =>
        clear B1 B2 B3 B7
        obtain ⟨k, v, hk, rfl, B1, B3, B2, B7, hO, hg⟩ := hrel
        have k7 := B7.cell 1 rfl
        have hgs := hg.size
        by_cases hlt : k < s.length
        · have hlt2 : k < s2.length := by have := HL.out; omega
          have HX : Below w.heap.size w wr := below_grown BX8 BX8.size hg (fun b e => by have := Option.some.inj e; omega)
          obtain ⟨ad, A', c', rfl, qc0, hs0'⟩ := rd_sl hS k hlt
          obtain ⟨ad2, A2', c2', rfl, qd0, hs20'⟩ := rd_sl hS2 k hlt2
          have ec : (ad.add k).block < w.heap.size := World.block_lt_of_cell? w _ qc0
          have ed : (ad2.add k).block < w.heap.size := World.block_lt_of_cell? w _ qd0
          have hs' := hs0'.below HX
          have hs2' := hs20'.below HX
          have qc := cell_below HX qc0
          have qd := cell_below HX qd0
          have qa : wr.cell? ⟨g1, 1, none⟩ = some (.slice (some ad) s.length c) := B1.cell 1 rfl
          have qb : wr.cell? ⟨g3, 1, none⟩ = some (.slice (some ad2) s2.length c2) := B3.cell 1 rfl
          have hl1 : (nth [] s k).length ≤ 1000000 := by have := HLEN.out k hlt; omega
          have hl2 : ((nth [] s k).length + (nth [] s2 k).length) * 8 ≤ 140737488355328 := by have := HLEN.out k hlt; have := HLEN2.out k hlt2; have := HFF.out; omega
          have ea7 : (ad.add k).block ≠ g7 := by omega
          have eb7 : (ad2.add k).block ≠ g7 := by omega
          have hS8 := BX8.size
          have eac : ¬ (w8.heap.size ≤ (ad.add k).block) := by omega
          have ebc : ¬ (w8.heap.size ≤ (ad2.add k).block) := by omega
          have hFk := Lib.hid (show nth [] s k ++ nth [] s2 k = F k by rw [HF.out])
          clear qc0 qd0 hs0' hs20'
          have ka := qa
          have kb := qb
          have kc := qc
          have kd := qd
          go_wp2_with fail
          have hdr := (Below.refl wr.heap.size wr).drew
          refine wp_region_G 17 (fun W => W.cell? ⟨g1, 1, none⟩ = some (.slice (some ad) s.length c) ∧ W.cell? ⟨g3, 1, none⟩ = some (.slice (some ad2) s2.length c2) ∧ W.cell? (ad.add k) = some (.slice A' (nth [] s k).length c') ∧ W.cell? (ad2.add k) = some (.slice A2' (nth [] s2 k).length c2') ∧ W.cell? ⟨g7, 1, none⟩ = some v) (by kernel_rfl) ⟨cell_below hdr qa, cell_below hdr qb, cell_below hdr qc, cell_below hdr qd, cell_below hdr k7⟩ (fun hHeld => ?_)
          refine wpAnyG_takeL (i := 0) (.pointer (some ⟨g7, 1, none⟩)) [1, 15, 17] rfl (by kernel_rfl) (fun _ _ _ h => h) hHeld (by rfl) ?_ ?_
          · (intro W hSw; (try dsimp only at hSw); go_simp)
          try simp only [Act.put, List.setIfInBounds_toArray, List.set_cons_zero, List.set_cons_succ]
          refine wpAnyG_takeL (i := 1) (v) [15, 17] rfl (by kernel_rfl) (fun _ _ _ h => h) hHeld (by rfl) ?_ ?_
          · (intro W hSw; (try dsimp only at hSw); go_simp)
          try simp only [Act.put, List.setIfInBounds_toArray, List.set_cons_zero, List.set_cons_succ]
          refine wpAnyG_takeL (i := 2) (.pointer (some ⟨g1, 1, none⟩)) [3, 5, 6, 7, 13, 14, 15, 17] rfl (by kernel_rfl) (fun _ _ _ h => h) hHeld (by rfl) ?_ ?_
          · (intro W hSw; (try dsimp only at hSw); go_simp)
          try simp only [Act.put, List.setIfInBounds_toArray, List.set_cons_zero, List.set_cons_succ]
          refine wpAnyG_takeL (i := 3) (.slice (some ad) s.length c) [5, 6, 7, 13, 14, 15, 17] rfl (by kernel_rfl) (fun _ _ _ h => h) hHeld (by rfl) ?_ ?_
          · (intro W hSw; (try dsimp only at hSw); go_simp)
          try simp only [Act.put, List.setIfInBounds_toArray, List.set_cons_zero, List.set_cons_succ]
          refine wpAnyG_takeL (i := 4) (.int .i64 k) [5, 6, 7, 13, 14, 15, 17] rfl (by kernel_rfl) (fun _ _ _ h => h) hHeld (by rfl) ?_ ?_
          · (intro W hSw; (try dsimp only at hSw); go_simp)
          try simp only [Act.put, List.setIfInBounds_toArray, List.set_cons_zero, List.set_cons_succ]
          refine wpAnyG_takeL (i := 5) (.pointer (some (ad.add k))) [6, 7, 13, 14, 15, 17] rfl (by kernel_rfl) (fun _ _ _ h => h) hHeld (by rfl) ?_ ?_
          · (intro W hSw; (try dsimp only at hSw); go_simp)
          try simp only [Act.put, List.setIfInBounds_toArray, List.set_cons_zero, List.set_cons_succ]
          refine wpAnyG_takeL (i := 6) (.slice A' (nth [] s k).length c') [7, 13, 14, 15, 17] rfl (by kernel_rfl) (fun _ _ _ h => h) hHeld (by rfl) ?_ ?_
          · (intro W hSw; (try dsimp only at hSw); go_simp)
          try simp only [Act.put, List.setIfInBounds_toArray, List.set_cons_zero, List.set_cons_succ]
          refine wpAnyG_takeL (i := 8) (.pointer (some ⟨g3, 1, none⟩)) [9, 11, 12, 13, 14, 15, 17] rfl (by kernel_rfl) (fun _ _ _ h => h) hHeld (by rfl) ?_ ?_
          · (intro W hSw; (try dsimp only at hSw); go_simp)
          try simp only [Act.put, List.setIfInBounds_toArray, List.set_cons_zero, List.set_cons_succ]
          refine wpAnyG_takeL (i := 9) (.slice (some ad2) s2.length c2) [11, 12, 13, 14, 15, 17] rfl (by kernel_rfl) (fun _ _ _ h => h) hHeld (by rfl) ?_ ?_
          · (intro W hSw; (try dsimp only at hSw); go_simp)
          try simp only [Act.put, List.setIfInBounds_toArray, List.set_cons_zero, List.set_cons_succ]
          refine wpAnyG_takeL (i := 10) (.int .i64 k) [11, 12, 13, 14, 15, 17] rfl (by kernel_rfl) (fun _ _ _ h => h) hHeld (by rfl) ?_ ?_
          · (intro W hSw; (try dsimp only at hSw); go_simp)
          try simp only [Act.put, List.setIfInBounds_toArray, List.set_cons_zero, List.set_cons_succ]
          refine wpAnyG_takeL (i := 11) (.pointer (some (ad2.add k))) [12, 13, 14, 15, 17] rfl (by kernel_rfl) (fun _ _ _ h => h) hHeld (by rfl) ?_ ?_
          · (intro W hSw; (try dsimp only at hSw); go_simp)
          try simp only [Act.put, List.setIfInBounds_toArray, List.set_cons_zero, List.set_cons_succ]
          refine wpAnyG_takeL (i := 12) (.slice A2' (nth [] s2 k).length c2') [13, 14, 15, 17] rfl (by kernel_rfl) (fun _ _ _ h => h) hHeld (by rfl) ?_ ?_
          · (intro W hSw; (try dsimp only at hSw); go_simp)
          try simp only [Act.put, List.setIfInBounds_toArray, List.set_cons_zero, List.set_cons_succ]
          refine wpAnyG_oneL (i := 7) (by kernel_rfl) rfl (fun K hK => ?_)
          (go_simp; go_at_call 70; refine (own_any A' c' (nth [] s k) _ ?h1 hl1).mono ?_; (case h1 => exact hs'.below (Below.refl _ _).drew); rintro e w5 ⟨v5, rfl, hO5, hb5⟩; have hbd := below2 (Below.refl wr.heap.size wr).drew hb5; replace qa := cell_below hb5 qa; replace qb := cell_below hb5 qb; replace qc := cell_below hb5 qc; replace qd := cell_below hb5 qd; have q7 : w5.cell? ⟨g7, 1, none⟩ = some v := cell_below hbd k7)
          refine hK.out _ _ (fun _ => ⟨qa, qb, qc, qd, q7⟩) ?_
          clear hK K hHeld
          try simp only [Act.put, List.setIfInBounds_toArray, List.set_cons_zero, List.set_cons_succ]
          refine wpAnyG_oneL (i := 13) (by kernel_rfl) rfl (fun K hK => ?_)
          ((refine step_append_row (W := w5) (ok := fun _ => True) wr.heap.size ?a1 (.tmp 39) (.tmp 44) 36 3 .i64 8 ?a2 Tryd.underlying36 infoI ?a3 v5 (nth [] s k) (nth [] s2 k) A2' c2' ?a4 ?a5 hO5 ?hR ?hb ?hl ?_); (case a1 => rfl); (case a2 => rfl); (case a3 => decide); (case a4 => rfl); (case a5 => rfl); (case hR => exact (hs2'.below hbd).any); (case hb => exact hbd.size); (case hl => exact hl2); intro v6 w6 hO6 hg6 _h6; rw [hFk.out] at hO6; have hbe := below_grown hbd hbd.size hg6 (fun b e => hO5.base_le b e); replace qa := cell_below hbe ka; replace qb := cell_below hbe kb; replace qc := cell_below hbe kc; replace qd := cell_below hbe kd; replace q7 := cell_below hbe k7; clear _h6; obtain ⟨A6, c6, rfl, hs6⟩ := hO6.rd; have q7a := cell_below (below_alloc (Below.refl w6.heap.size w6) (.cells #[.slice A6 (F k).length c6] 36)) q7)
          refine hK.out _ _ (fun _ => ⟨qa, qb, qc, qd, q7⟩) ?_
          clear hK K
          try simp only [Act.put, List.setIfInBounds_toArray, List.set_cons_zero, List.set_cons_succ]
          refine wpAnyG_oneL (i := 14) (by kernel_rfl) rfl (fun K hK => ?_)
          go_simp
          refine hK.out _ _ (fun _ => ⟨cell_below (below_alloc (Below.refl _ _) _) qa, cell_below (below_alloc (Below.refl _ _) _) qb, cell_below (below_alloc (Below.refl _ _) _) qc, cell_below (below_alloc (Below.refl _ _) _) qd, q7a⟩) ?_
          clear hK K
          try simp only [Act.put, List.setIfInBounds_toArray, List.set_cons_zero, List.set_cons_succ]
          refine wpAnyG_oneL (i := 15) (by kernel_rfl) rfl (fun K hK => ?_)
          ((refine step_append_k (W := w6) (k := kSl (kInt .i64)) w8.heap.size ?a1 (.tmp 33) (.tmp 46) 22 36 (.slice none 0 0) 24 (fun b => w8.heap.size ≤ b) ?a2 Tryd.underlying22 infoS ?a3 ?a4 ?a5 v ((List.range k).map F) (F k) [.slice A6 (F k).length c6] ?a6 ?a7 ?a8 ?hO ?hx ?hb ?hl ?_); (case a1 => rfl); (case a2 => rfl); (case a3 => rfl); (case a4 => decide); (case a5 => decide); (case a6 => rfl); (case a7 => rfl); (case a8 => rfl); (case hO => exact hO.below hbe); (case hx => exact ⟨A6, c6, rfl, hs6.weak (fun b _ hb => ⟨by have : wr.heap.size ≤ b := hb.1; omega, fun he => by have := (hO.lt b he).2; have : wr.heap.size ≤ b := hb.1; omega⟩)⟩); (case hb => exact Nat.le_trans hgs hbe.size); (case hl => simp; omega); intro g9 cap9 w9 hO9 hg8 hb9 ha9; have C7 : Blk w9 g7 #[.int .i64 r, v] 24 := (B7.below hbe).keep (Keep.of_grown hg8) (fun e => by have := hO.base_le g7 e.symm; omega); have qA : w9.cell? ⟨g1, 1, none⟩ = _ := ((B1.below hbe).keep (Keep.of_grown hg8) (fun e => by have := hO.base_le g1 e.symm; omega)).cell 1 rfl; have qB : w9.cell? ⟨g3, 1, none⟩ = _ := ((B3.below hbe).keep (Keep.of_grown hg8) (fun e => by have := hO.base_le g3 e.symm; omega)).cell 1 rfl; replace qc := (Keep.of_grown hg8).cell (fun e => eac (hO.base_le _ e.symm)) qc; replace qd := (Keep.of_grown hg8).cell (fun e => ebc (hO.base_le _ e.symm)) qd; clear qa qb; have qa := qA; have qb := qB; clear qA qB; have q9 := C7.cell 1 rfl; have f9 := C7.free 1; clear q7 q7a)
          refine hK.out _ _ (fun _ => ⟨qa, qb, qc, qd, q9⟩) ?_
          clear hK K
          try simp only [Act.put, List.setIfInBounds_toArray, List.set_cons_zero, List.set_cons_succ]
          refine wpAnyG_oneL (i := 16) (by kernel_rfl) rfl (fun K hK => ?_)
          go_simp
          refine hK.out _ _ (fun _ => ⟨qa, qb, qc, qd, q9⟩) ?_
          clear hK K
          try simp only [Act.put, List.setIfInBounds_toArray, List.set_cons_zero, List.set_cons_succ]
          refine wpAnyG_oneL (i := 17) (by kernel_rfl) rfl (fun K hK => ?_)
          go_simp
          refine hK.out _ _ (fun h => Bool.noConfusion (show true = false from h)) ?_
          clear hK K
          try simp only [Act.put, List.setIfInBounds_toArray, List.set_cons_zero, List.set_cons_succ]
          refine wpAnyG_done (by kernel_rfl) ?_ _
          go_wp2
          go_roundw
          case rel =>
              have hst := grown_setCell w9 g7 1 (.slice (some ⟨g9, 0, none⟩) (k + 1) cap9)
              refine ⟨k + 1, _, by omega, by go_num, ((B1.below hbe).keep (Keep.of_grown hg8) (fun e => by have := hO.base_le g1 e.symm; omega)).keep (Keep.of_grown1 hst) e17, ((B3.below hbe).keep (Keep.of_grown hg8) (fun e => by have := hO.base_le g3 e.symm; omega)).keep (Keep.of_grown1 hst) e37, ((B2.below hbe).keep (Keep.of_grown hg8) (fun e => by have := hO.base_le g2 e.symm; omega)).keep (Keep.of_grown1 hst) e27, C7.set 1 _, ?_, ?_⟩
              · rw [List.range_succ, List.map_append]
                simp only [List.length_map, List.length_range] at hO9
                exact hO9.keep (Keep.of_grown1 hst) (fun b hb e => by have := hO9.base_le b hb; omega) (fun b hb e => by omega) ⟨rfl, rfl, rfl⟩
              · exact grown_trans (grown_row (grown_row hg (grown_of_below hbe none) (fun _ e => by cases e)) hg8 (fun b e => hO.base_le b e)) hst
          case measure => simp [intOf]; omega
        · obtain rfl : k = s.length := by omega
          obtain ⟨Ao, co, rfl, Ro⟩ := hO.rd
          simp only [List.length_map, List.length_range] at Ro B7 k7 ⊢
          have k7' := B7.cell 0 rfl
          have ka := B1.cell 1 rfl
          go_wp2_with ((with_reducible refine at_store (p := 4) rfl ?_); (refine ev_put #[.int .i64 r, .slice Ao s.length co] rfl 24 (.tmp 4) (.tmp 50) rfl g2 24 _ rfl rfl B2 sizeS rfl rfl ?_); intro wf Bq hqf hzf; have z0 := Bq.cell 0 rfl; have z1 := Bq.cell 1 rfl)
          refine bodyPost_ret (v := .tuple #[.agg #[.int .i64 r, .slice Ao s.length co], .int .i64 0]) (by simp [results, Tryd.results36, go_sem, z0, z1]) rfl ⟨?_, ?_⟩
          · rw [HP.out, ← HF.out]
            refine ⟨Ao, co, by simp, ?_⟩
            refine ((Ro.weak (ok' := fun b => w8.heap.size ≤ b) (fun b _ hb => ?_)).keep ((Keep.of_grown1 hqf).weak (fun i hi => by omega))).any
            rcases hb with hb | hb
            · exact hb
            · exact hO.base_le b (by simpa using hb)
          · exact below_grown (below_grown BX8 BX8.size hg (fun k e => by have := Option.some.inj e; omega)) (Nat.le_trans BX8.size hg.size) hqf (fun k e => by have := Option.some.inj e; omega)
    · have HP := Lib.hid (hj.trans (if_neg hf))
      clear hj
      go_enter Tryd.func36, Tryd.ntmps36
      go_wp2_with (first | ((with_reducible refine at_dst (N := 2) rfl ?_); refine ev_new #[.int .i64 r, .slice A s.length c] 24 rfl ?hr ?_; (case hr => first | (go_simp; done) | (go_simp; rfl)); intro g1 w1 eg1 zg1 b1 Bg1; skip) | ((with_reducible refine at_dst (N := 3) rfl ?_); refine ev_new #[.int .i64 r2, .slice A2 s2.length c2] 24 rfl ?hr ?_; (case hr => first | (go_simp; done) | (go_simp; rfl)); intro g3 w3 eg3 zg3 b3 Bg3; replace Bg1 := Bg1.below b3; replace b1 := below2 b1 b3) | ((with_reducible refine at_dst (N := 4) rfl ?_); refine ev_new #[.int .i64 0, .slice none 0 0] 24 rfl ?hr ?_; (case hr => first | (go_simp; done) | (go_simp; rfl)); intro g2 w2 eg2 zg2 b2 Bg2; replace Bg1 := Bg1.below b2; replace Bg3 := Bg3.below b2; replace b1 := below2 b1 b2; have k0 := Bg1.cell 0 rfl; have k1 := Bg1.cell 1 rfl; have k2 := Bg3.cell 0 rfl; have k3 := Bg3.cell 1 rfl) | (go_at_call 78; refine (refAlike_any _ _ _ _ _ _ _ _ _ (hS.below b1) (hS2.below b1)).mono ?_; rintro e w4 ⟨rfl, b4⟩; rw [H.out]; replace b1 := below2 b1 b4; replace Bg1 := Bg1.below b4; replace Bg3 := Bg3.below b4; replace Bg2 := Bg2.below b4; clear k0 k1 k2 k3; have k0 : w4.cell? ⟨g1, 0, none⟩ = some (.int .i64 r) := Bg1.cell 0 rfl; have k1 : w4.cell? ⟨g1, 1, none⟩ = some (.slice A s.length c) := Bg1.cell 1 rfl; have k2 : w4.cell? ⟨g3, 0, none⟩ = some (.int .i64 r2) := Bg3.cell 0 rfl; have k3 : w4.cell? ⟨g3, 1, none⟩ = some (.slice A2 s2.length c2) := Bg3.cell 1 rfl))
      have tok : True := trivial
      have hwr : IntKind.i64.wrap ((len0 s : Int) + (len0 s2 : Int)) = (len0 s : Int) + (len0 s2 : Int) := IntWalk.i64_in _ (by omega)
      go_region_held3 (fun W => W.cell? ⟨g1, 0, none⟩ = some (.int .i64 r) ∧ W.cell? ⟨g1, 1, none⟩ = some (.slice A s.length c) ∧ W.cell? ⟨g3, 0, none⟩ = some (.int .i64 r2) ∧ W.cell? ⟨g3, 1, none⟩ = some (.slice A2 s2.length c2)) (go_keep) (first | (go_at_call 34; have _t := tok; refine (refLen_any r A c s _ ?h1 h1).mono ?_; (case h1 => exact hS.below (b1.drew)); clear tok; rintro e w5 ⟨rfl, b5⟩; have q0 := cell_below b5 k0; have q1 := cell_below b5 k1; have q2 := cell_below b5 k2; have q3 := cell_below b5 k3) | (go_at_call 34; refine (refLen_any r2 A2 c2 s2 _ ?h1 h12).mono ?_; (case h1 => exact hS2.below (below2 b1.drew b5)); rintro e w6 ⟨rfl, b6⟩; replace q0 := cell_below b6 q0; replace q1 := cell_below b6 q1; replace q2 := cell_below b6 q2; replace q3 := cell_below b6 q3))
      clear hwr
      have b46 := below2 ((Below.refl w4.heap.size w4).drew.trans b5) b6
      have BX := below2 (below2 b1.drew b5) b6
      replace Bg2 := Bg2.below b46
      have G2 : w.heap.size ≤ g2 := by have := eg2.out; have := zg3.out; have := eg3.out; have := zg1.out; have := eg1.out; omega
      go_wp2_with (((with_reducible refine at_store (p := 4) rfl ?_); (refine ev_put #[.int .i64 0, .slice none 0 0] rfl 24 (.tmp 4) (.tmp 22) rfl g2 24 _ rfl rfl Bg2 sizeS rfl rfl ?_); intro wf Bq hqf hzf; have z0 := Bq.cell 0 rfl; have z1 := Bq.cell 1 rfl))
      refine bodyPost_ret (v := .tuple #[.agg #[.int .i64 0, .slice none 0 0], .int .i64 2]) (by simp [results, Tryd.results36, go_sem, z0, z1]) rfl ⟨?_, ?_⟩
      · rw [HP.out]; exact RetA.none _ _
      · exact below_grown BX BX.size hqf (fun k e => by have := Option.some.inj e; omega)
  · have HP := Lib.hid (show joinS r s r2 s2 = (0, [], alikeE r s r2 s2) by simp [joinS, hv])
    obtain ⟨err, he⟩ : ∃ err, alikeE r s r2 s2 = err := ⟨_, rfl⟩
    rw [he] at hv HP
    have hb : (err != 0) = true := by simpa using hv
    have HE := Lib.hid he
    clear hv he
    go_enter Tryd.func36, Tryd.ntmps36
    go_wp2_with (first | ((with_reducible refine at_dst (N := 2) rfl ?_); refine ev_new #[.int .i64 r, .slice A s.length c] 24 rfl ?hr ?_; (case hr => first | (go_simp; done) | (go_simp; rfl)); intro g1 w1 eg1 zg1 b1 Bg1; skip) | ((with_reducible refine at_dst (N := 3) rfl ?_); refine ev_new #[.int .i64 r2, .slice A2 s2.length c2] 24 rfl ?hr ?_; (case hr => first | (go_simp; done) | (go_simp; rfl)); intro g3 w3 eg3 zg3 b3 Bg3; replace Bg1 := Bg1.below b3; replace b1 := below2 b1 b3) | ((with_reducible refine at_dst (N := 4) rfl ?_); refine ev_new #[.int .i64 0, .slice none 0 0] 24 rfl ?hr ?_; (case hr => first | (go_simp; done) | (go_simp; rfl)); intro g2 w2 eg2 zg2 b2 Bg2; replace Bg1 := Bg1.below b2; replace Bg3 := Bg3.below b2; replace b1 := below2 b1 b2; have k0 := Bg1.cell 0 rfl; have k1 := Bg1.cell 1 rfl; have k2 := Bg3.cell 0 rfl; have k3 := Bg3.cell 1 rfl) | (go_at_call 78; refine (refAlike_any _ _ _ _ _ _ _ _ _ (hS.below b1) (hS2.below b1)).mono ?_; rintro e w4 ⟨rfl, b4⟩; rw [HE.out]; replace b1 := below2 b1 b4; replace Bg2 := Bg2.below b4) | ((with_reducible refine at_store (p := 4) rfl ?_); (refine ev_put #[.int .i64 0, .slice none 0 0] rfl 24 (.tmp 4) (.tmp 14) rfl g2 24 _ rfl rfl Bg2 sizeS rfl rfl ?_); intro wf Bq hqf hzf; have z0 := Bq.cell 0 rfl; have z1 := Bq.cell 1 rfl))
    have G2 : w.heap.size ≤ g2 := by have := eg2.out; have := zg3.out; have := eg3.out; have := zg1.out; have := eg1.out; omega
    refine bodyPost_ret (v := .tuple #[.agg #[.int .i64 0, .slice none 0 0], .int .i64 err]) (by simp [results, Tryd.results36, go_sem, z0, z1]) rfl ⟨?_, ?_⟩
    · rw [HP.out]; exact RetA.none _ _
    · exact below_grown b1 b1.size hqf (fun k e => by have := Option.some.inj e; omega)
end Go.Proofs.YtijcecakofmhcaaDoor
