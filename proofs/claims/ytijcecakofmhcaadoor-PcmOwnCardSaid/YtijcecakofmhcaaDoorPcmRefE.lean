/- The document's answer, layer 2: Mono. -/
import Derived.Test.YtijcecakofmhcaaDoorPcmRefD
import Derived.Test.YtijcecakofmhcaaDoorPcmM
namespace Go.Proofs.YtijcecakofmhcaaDoor
open Go.RowKit

/-- A sound and an error that are returned. -/
def RetA (R : Int × List (List Int) × Int) (e : Ending) (w' : World) : Prop :=
  ∃ A c, e = .returned (.tuple #[.agg #[.int .i64 R.1, .slice A R.2.1.length c], .int .i64 R.2.2]) ∧ R2 w' A c R.2.1
theorem RetA.none (e : Int) (w' : World) : RetA (0, [], e) (.returned (.tuple #[.agg #[.int .i64 0, .slice Option.none 0 0], .int .i64 e])) w' := ⟨Option.none, 0, rfl, Nat.le_refl _, by omega, Kd.Rd.nil _ _ _ _⟩
theorem RetS.any {n0 : Nat} {R : Int × List (List Int) × Int} {e : Ending} {w' : World} (h : RetS n0 R e w') : RetA R e w' := let ⟨A, c, h1, h2⟩ := h; ⟨A, c, h1, h2.any⟩
def monoF (s : List (List Int)) (i : Nat) : Int := if s.length = 2 then (nth 0 (nth [] s 0) i + nth 0 (nth [] s 1) i) / 2 else nth 0 (nth [] s 0) i
def monoT (s : List (List Int)) (k : Nat) : List Int := (List.range k).map (monoF s)
theorem monoT_succ (s : List (List Int)) (k : Nat) : monoT s (k + 1) = monoT s k ++ [monoF s k] := by simp [monoT, List.range_succ]
theorem monoT_length (s : List (List Int)) (k : Nat) : (monoT s k).length = k := by simp [monoT]

set_option maxHeartbeats 1000000 in
set_option maxRecDepth 100000 in
theorem refMono_any (r : Int) (A : Option Addr) (c : Nat) (s : List (List Int)) (w : World) (hS : R2 w A c s) :
    Calls Tryd.prog 27 #[.agg #[.int .i64 r, .slice A s.length c]] w fun e w' => RetA (monoS r s) e w' ∧ Below w.heap.size w w' := by
  have hn := hS.len
  cases hv : validB r s
  · have HP := Lib.hid (show monoS r s = (0, [], 1) by simp [monoS, hv])
    have HV := Lib.hid hv
    clear hv
    go_enter Tryd.func27, Tryd.ntmps27
    go_wp2_with (first | ((with_reducible refine at_dst (N := 1) rfl ?_); refine ev_new #[.int .i64 r, .slice A s.length c] 24 rfl ?hr ?_; (case hr => first | (go_simp; done) | (go_simp; rfl)); intro g1 w1 eg1 zg1 b1 Bg1; skip) | ((with_reducible refine at_dst (N := 2) rfl ?_); refine ev_new #[.int .i64 0, .slice none 0 0] 24 rfl ?hr ?_; (case hr => first | (go_simp; done) | (go_simp; rfl)); intro g2 w2 eg2 zg2 b2 Bg2; replace Bg1 := Bg1.below b2; replace b1 := below2 b1 b2; have k0 := Bg1.cell 0 rfl; have k1 := Bg1.cell 1 rfl) | (go_at_call 25; refine (refValid_any r A c s _ (hS.below b1)).mono ?_; rintro e w3 ⟨rfl, b3⟩; rw [HV.out]; replace Bg2 := Bg2.below b3; replace b1 := below2 b1 b3) | ((with_reducible refine at_store (p := 2) rfl ?_); (refine ev_put #[.int .i64 0, .slice none 0 0] rfl 24 (.tmp 2) (.tmp 10) rfl g2 24 _ rfl rfl Bg2 sizeS rfl rfl ?_); intro wf Bq hqf hzf; have z0 := Bq.cell 0 rfl; have z1 := Bq.cell 1 rfl))
    have e1 := eg1.out
    have e2 := eg2.out
    have e3 := zg1.out
    refine bodyPost_ret (v := .tuple #[.agg #[.int .i64 0, .slice none 0 0], .int .i64 1]) (by simp [results, Tryd.results27, go_sem, z0, z1]) rfl ⟨by rw [HP.out]; exact RetA.none _ _, below_grown b1 b1.size hqf (fun k e => by have := Option.some.inj e; omega)⟩
  · have V := valid_facts hv
    have h1 := V.one
    have h2 := V.two
    have h3 := V.len
    have H4 := Lib.hid V.same
    have H5 := Lib.hid V.smp
    have HP := Lib.hid (show monoS r s = (r, [monoT s (len0 s)], 0) by simp [monoS, hv, monoL, monoT, monoF])
    have HV := Lib.hid hv
    clear hv
    go_enter Tryd.func27, Tryd.ntmps27
    go_wp2_with (first | ((with_reducible refine at_dst (N := 1) rfl ?_); refine ev_new #[.int .i64 r, .slice A s.length c] 24 rfl ?hr ?_; (case hr => first | (go_simp; done) | (go_simp; rfl)); intro g1 w1 eg1 zg1 b1 Bg1; skip) | ((with_reducible refine at_dst (N := 2) rfl ?_); refine ev_new #[.int .i64 0, .slice none 0 0] 24 rfl ?hr ?_; (case hr => first | (go_simp; done) | (go_simp; rfl)); intro g2 w2 eg2 zg2 b2 Bg2; replace Bg1 := Bg1.below b2; replace b1 := below2 b1 b2; have k0 := Bg1.cell 0 rfl; have k1 := Bg1.cell 1 rfl) | (go_at_call 25; refine (refValid_any r A c s _ (hS.below b1)).mono ?_; rintro e w3 ⟨rfl, b3⟩; rw [HV.out]; replace Bg2 := Bg2.below b3; replace Bg1 := Bg1.below b3; replace b1 := below2 b1 b3; clear k0 k1; have k1 : w3.cell? ⟨g1, 1, none⟩ = some (.slice A s.length c) := Bg1.cell 1 rfl; obtain ⟨ad, A0, c0, hA, hc0, hs0⟩ := rd_sl (hS.below b1) 0 h1; subst hA; rw [Addr.add] at hc0; simp only [if_true] at hc0))
    have hS3 := hS.below b1
    go_loopw [4, 16] (fun v i wr => ∃ k : Nat, k ≤ len0 s ∧ i = .int .i64 k ∧ OwnI 3 .i64 w3.heap.size wr v (monoT s k) ∧ Below w3.heap.size w3 wr) (fun _ i _ => len0 s - (intOf i).toNat)
    case atStart => exact ⟨0, Nat.zero_le _, rfl, OwnI.nil _ _ _ _, Below.refl _ _⟩
    case round =>
      obtain ⟨k, hk, rfl, hO, hB⟩ := hrel
      have C1 := Bg1.below hB
      have C2 := Bg2.below hB
      have hbx := below2 b1 hB
      clear k1
      have k0 := C1.cell 0 rfl
      have k1 := C1.cell 1 rfl
      by_cases hlt : k < len0 s
      · have hb8 : ((monoT s k).length + 1) * 8 ≤ 140737488355328 := by rw [monoT_length]; omega
        have hsn := Lib.hid (monoT_succ s k)
        have hl0 : k < (nth [] s 0).length := hlt
        obtain ⟨ad0, rfl, hx0⟩ := rd_int (hs0.below hB) k hl0
        rcases (show Hid (s.length = 1) ∨ Hid (s.length = 2) by rcases (show s.length = 1 ∨ s.length = 2 by omega) with h | h; exact .inl (Lib.hid h); exact .inr (Lib.hid h)) with h | h
        · have h' := h.out
          have hF : Hid (monoF s k = nth 0 (nth [] s 0) k) := Lib.hid (by unfold monoF; rw [if_neg (by omega)])
          obtain ⟨y, hy⟩ : ∃ y, nth 0 (nth [] s 0) k = y := ⟨_, rfl⟩
          rw [hy] at hx0 hF
          rw [hF.out] at hsn
          have hi : ¬ (s.length : Int) = 2 := by omega
          clear hy h'
          go_wp2_with (at_builtin; go_loud (refine append_one (w0 := w3) w3.heap.size rfl (.tmp 35) (.tmp 37) 36 3 .i64 8 rfl Tryd.underlying36 infoI (by decide) _ _ y rfl rfl hO hB hB.size hb8 ?_); intro v1 w4 hO1 hB1 _ _)
          go_roundw
          case rel => exact ⟨k + 1, by omega, by go_num, by rw [hsn.out]; exact hO1, hB1⟩
          case measure => simp [intOf]; omega
        · have h' := h.out
          obtain ⟨ad1, A1, c1, e1, hc1, hs1⟩ := rd_sl (hS3.below hB) 1 (by omega)
          injection e1 with e1
          subst e1
          rw [Addr.add] at hc1
          simp only [Nat.one_ne_zero, if_false] at hc1
          have hl1 : k < (nth [] s 1).length := by rw [H4.out _ (nth_mem [] s 1 (by omega))]; exact hlt
          have hl1' : (nth [] s 1).length ≤ 8192 := by rw [H4.out _ (nth_mem [] s 1 (by omega))]; exact h3
          obtain ⟨ad2, rfl, hx1⟩ := rd_int hs1 k hl1
          have r0 := H5.out _ (nth_mem [] s 0 (by omega)) _ (nth_mem 0 (nth [] s 0) k hl0)
          have r1 := H5.out _ (nth_mem [] s 1 (by omega)) _ (nth_mem 0 (nth [] s 1) k hl1)
          have hF : Hid (monoF s k = (nth 0 (nth [] s 0) k + nth 0 (nth [] s 1) k) / 2) := Lib.hid (by unfold monoF; rw [if_pos h'])
          obtain ⟨y, hy⟩ : ∃ y, nth 0 (nth [] s 0) k = y := ⟨_, rfl⟩
          obtain ⟨z, hz⟩ : ∃ z, nth 0 (nth [] s 1) k = z := ⟨_, rfl⟩
          rw [hy] at hx0 hF r0
          rw [hz] at hx1 hF r1
          rw [hF.out] at hsn
          have hi : (s.length : Int) = 2 := by omega
          have hk1 : (1 : Int) < (s.length : Int) := by omega
          have hk2 : 1 < s.length := by omega
          clear hy hz h'
          go_wp2_with (first | (go_at_call 69; refine (down_any (y + z) 2 wr (by omega) (by decide)).mono ?_; rintro e w5 ⟨rfl, rfl⟩) | (at_builtin; go_loud (refine append_one (w0 := w3) w3.heap.size rfl (.tmp 35) (.tmp 37) 36 3 .i64 8 rfl Tryd.underlying36 infoI (by decide) _ _ ((y + z) / 2) rfl rfl hO hB hB.size hb8 ?_); intro v1 w4 hO1 hB1 _ _))
          go_roundw
          case rel => exact ⟨k + 1, by omega, by go_num, by rw [hsn.out]; exact hO1, hB1⟩
          case measure => simp [intOf]; omega
      · obtain rfl : k = len0 s := by omega
        obtain ⟨Ao, co, rfl, Ro⟩ := hO.rd
        have L1 := lit_sl1k wr 36 (Ro.weak (ok' := fun b => w3.heap.size ≤ b) (fun b _ hb => hb.1)) hB.size
        have Ba := below_alloc (Below.refl wr.heap.size wr) (.cells #[.slice Ao (monoT s (len0 s)).length co] 36)
        have D2 := C2.below Ba
        have g2lt := C2.lt
        go_wp2_with ((with_reducible refine at_store (p := 2) rfl ?_); (refine ev_put #[.int .i64 r, .slice (some ⟨wr.heap.size, 0, none⟩) 1 1] rfl 24 (.tmp 2) (.tmp 44) rfl g2 24 _ rfl rfl D2 sizeS rfl rfl ?_); intro wf Bq hqf hzf; have z0 := Bq.cell 0 rfl; have z1 := Bq.cell 1 rfl)
        have e1 := eg1.out
        have e2 := eg2.out
        have e3 := zg1.out
        have g2l3 := Bg2.lt
        refine bodyPost_ret (v := .tuple #[.agg #[.int .i64 r, .slice (some ⟨wr.heap.size, 0, none⟩) 1 1], .int .i64 0]) (by simp [results, Tryd.results27, go_sem, z0, z1]) rfl ⟨?_, ?_⟩
        · rw [HP.out]
          exact ⟨_, 1, rfl, (L1.keep ((Keep.of_grown1 hqf).weak (fun i hi => by omega))).any⟩
        · exact below_grown (below2 hbx Ba) (below2 hbx Ba).size hqf (fun k e => by have := Option.some.inj e; omega)
end Go.Proofs.YtijcecakofmhcaaDoor
