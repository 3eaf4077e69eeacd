/- book: Read: what it returns, and where the reader is then. · The reference's books: bare: what it returns. · The reference's books: made: what it returns. · The reference's books: One, Shape, Lengths, Fits: what each call returns. · The reference's books: All: what it returns. -/
import Derived.Test.YtciknejchglmoaaDoorKk
import Derived.Test.YtciknejchglmoaaDoorKh
import Derived.Test.YtciknejchglmoaaDoorKf
namespace Go.Proofs.YtciknejchglmoaaDoor
open Go.RowKit

theorem GF.keep {w w' : World} {ok : Nat → Prop} (h : GF w) (hk : Keep ok w w') (ho : ok 0) : GF w' :=
  ⟨fun b h8 => hk.cell ho (h.dim b h8), fun b h8 => hk.cell ho (h.most b h8), fun b h8 => hk.cell ho (h.esc b h8)⟩
theorem GT.keep {w w' : World} {ok : Nat → Prop} (h : GT w) (hk : Keep ok w w') (ho : ok 1) : GT w' := ⟨fun b h8 => hk.cell ho (h.txt b h8)⟩
/-- What Read of n values returns: the list, the error, and how many bits it reads. -/
def brdE (n m : Int) (D : List Bool) : Int := if n < 0 ∨ 8 ≤ n then 5 else if m < 0 ∨ 4096 < m ∨ m.toNat % dimB n.toNat ≠ 0 then 4 else bkRE n.toNat m.toNat D
def brdL (n m : Int) (D : List Bool) : List Int := if brdE n m D ≠ 0 then [] else bkRL n.toNat m.toNat D
def brdN (n m : Int) (D : List Bool) : Nat := if brdE n m D ≠ 0 then 0 else bkRN n.toNat m.toNat D

set_option maxHeartbeats 1000000 in
theorem bRead_nil (n m : Int) (w : World) :
    Calls Tryd.prog 25 #[.pointer none, .int .i64 n, .int .i64 m] w fun e w' => e = .returned (.tuple #[.slice none 0 0, .int .i64 1]) ∧ w = w' := by
  go_enter Tryd.func25, Tryd.ntmps25
  go_wp2
  go_ret2
  exact ⟨rfl, rfl⟩
set_option maxHeartbeats 1000000 in
theorem bRead_5 (g : Nat) (n m : Int) (w : World) (h : n < 0 ∨ 8 ≤ n) :
    Calls Tryd.prog 25 #[.pointer (some ⟨g, 0, none⟩), .int .i64 n, .int .i64 m] w fun e w' => e = .returned (.tuple #[.slice none 0 0, .int .i64 5]) ∧ w = w' := by
  have hT : thereB n = false := by simp [thereB]; omega
  have HT := Lib.hid (there_any n w)
  rw [hT] at HT
  clear hT h
  go_enter Tryd.func25, Tryd.ntmps25
  go_wp2_with (go_at_call 40; refine HT.out.mono ?_; rintro e w2 ⟨rfl, rfl⟩)
  go_ret2
  exact ⟨rfl, rfl⟩
set_option maxHeartbeats 1000000 in
theorem bRead_4 (g b : Nat) (m : Int) (w : World) (hG : GF w) (h8 : b < 8) (h : m < 0 ∨ 4096 < m ∨ m.toNat % dimB b ≠ 0) :
    Calls Tryd.prog 25 #[.pointer (some ⟨g, 0, none⟩), .int .i64 (b : Int), .int .i64 m] w fun e w' => e = .returned (.tuple #[.slice none 0 0, .int .i64 4]) ∧ w = w' := by
  have hT : thereB b = true := by simp [thereB]; omega
  have HT := Lib.hid (there_any b w)
  rw [hT] at HT
  have c0 := hG.dim b h8
  have hb8 : (b : Int) < 8 := by omega
  have hd := dimB_pos b
  clear hT hG
  by_cases h1 : m < 0
  · have d1 : decide (m < 0) = true := decide_eq_true h1
    clear h
    go_enter Tryd.func25, Tryd.ntmps25
    go_wp2_with (go_at_call 40; refine HT.out.mono ?_; rintro e w2 ⟨rfl, rfl⟩)
    go_ret2
    exact ⟨rfl, rfl⟩
  · have d1 : decide (m < 0) = false := decide_eq_false h1
    by_cases h2 : 4096 < m
    · have d2 : decide (4096 < m) = true := decide_eq_true h2
      clear h
      go_enter Tryd.func25, Tryd.ntmps25
      go_wp2_with (go_at_call 40; refine HT.out.mono ?_; rintro e w2 ⟨rfl, rfl⟩)
      go_ret2
      exact ⟨rfl, rfl⟩
    · have d2 : decide (4096 < m) = false := decide_eq_false h2
      obtain ⟨n, rfl⟩ : ∃ n : Nat, m = (n : Int) := ⟨m.toNat, by omega⟩
      have h3 : n % dimB b ≠ 0 := by rcases h with h | h | h <;> first | omega | simpa using h
      have hn4 : ¬ 4096 < n := by omega
      generalize dimB b = D at *
      have hlt : n % D < D := Nat.mod_lt _ (by omega)
      have ht : (n : Int).tmod (D : Int) = ((n % D : Nat) : Int) := by rw [Int.tmod_eq_emod_of_nonneg (by omega), ← Int.natCast_emod]
      have hm : (n : Int) % (D : Int) = ((n % D : Nat) : Int) := by rw [← Int.natCast_emod]
      generalize n % D = r at *
      have hw : IntKind.i64.wrap ((n : Int).tmod (D : Int)) = (r : Int) := by rw [ht]; exact IntWalk.i64_in _ (by omega)
      have hwr : IntKind.i64.wrap (r : Int) = (r : Int) := IntWalk.i64_in _ (by omega)
      have hD0 : ((D : Int) == 0) = false := by simp; omega
      have hDn : ¬ D = 0 := by omega
      have hr0 : ((r : Int) != 0) = true := by simp [h3]
      clear h h1 h2
      go_enter Tryd.func25, Tryd.ntmps25
      go_wp2_with (go_at_call 40; refine HT.out.mono ?_; rintro e w2 ⟨rfl, rfl⟩)
      go_ret2
      exact ⟨rfl, rfl⟩
set_option maxHeartbeats 1000000 in
theorem bRead_0 (g n : Nat) (w : World) (hG : GF w) (hn : n ≤ 4096) :
    Calls Tryd.prog 25 #[.pointer (some ⟨g, 0, none⟩), .int .i64 0, .int .i64 (n : Int)] w fun e w' => ∃ v, e = .returned (.tuple #[v, .int .i64 0]) ∧ OwnI 3 .i64 w.heap.size w' v (List.replicate n 0) ∧ Below w.heap.size w w' := by
  have HT := Lib.hid (there_any 0 w)
  rw [show thereB 0 = true from rfl] at HT
  have c0 := hG.dim 0 (by omega)
  rw [show dimB 0 = 1 from rfl] at c0
  have hn4 : ¬ 4096 < n := by omega
  have hni : ¬ (4096 : Int) < (n : Int) := by omega
  have hmk := make_row (P := Tryd.prog) 25 3 .i64 8 Tryd.underlying25 infoI (by decide) n (by omega)
  have hO0 := Lib.hid (own_made w 3 .i64 n (by omega))
  have ht : (n : Int).tmod 1 = 0 := Int.tmod_one _
  have hn0 : (0 : Int) ≤ (n : Int) := by omega
  clear hG hn
  go_enter Tryd.func25, Tryd.ntmps25
  go_wp2_with (go_at_call 40; refine HT.out.mono ?_; rintro e w2 ⟨rfl, rfl⟩)
  go_ret2
  exact ⟨_, rfl, hO0.out, below_alloc (Below.refl _ _) _⟩
theorem grpP_next (b : Nat) (D : List Bool) (k : Nat) {st : List Int} {m : Nat} (h : grpP b D k = (st, 0, m)) : grpP b D (k + 1) = (st ++ (grpR b (D.drop m)).1, (grpR b (D.drop m)).2.1, m + (grpR b (D.drop m)).2.2) := by
  show grpS b D (grpP b D k) = _
  rw [h]; unfold grpS; rw [if_neg (by simp)]
set_option maxHeartbeats 4000000 in
set_option maxRecDepth 100000 in
theorem bRead_k (o : Nat → Prop) (g i b n : Nat) (l : List Bool) (w : World) (h : Rr o w g l i) (ho : ∀ x, o x → x < w.heap.size) (hG : GF w) (hT : GT w) (ng : g ≠ 0) (h1 : 1 ≤ b) (h8 : b < 8) (hn : n ≤ 4096) (hd : n % dimB b = 0) :
    Calls Tryd.prog 25 #[.pointer (some ⟨g, 0, none⟩), .int .i64 (b : Int), .int .i64 (n : Int)] w
      fun e w' => ∃ v, e = .returned (.tuple #[v, .int .i64 (bkRE b n (l.drop i))]) ∧ OwnI 3 .i64 w.heap.size w' v (bkRL b n (l.drop i)) ∧ Rr o w' g l (i + bkRN b n (l.drop i)) ∧ Upd (fun x => x = g) w w' := by
  have HT := Lib.hid (there_any b w)
  rw [show thereB (b : Int) = true by simp [thereB]; omega] at HT
  have c0 := hG.dim b h8
  have hb8 : (b : Int) < 8 := by omega
  have hb0 : ((b : Int) == 0) = false := by simp; omega
  have hdp := dimB_pos b
  have HRD := Lib.hid (breading_any g b w hT h1 h8)
  have HAT := Lib.hid (rat_any o g i l w h)
  have hlt := h.lt
  have hile := h.le
  obtain ⟨q, hq⟩ : ∃ q, n / dimB b = q := ⟨_, rfl⟩
  have hnq : n = q * dimB b := by rw [← hq]; have := Nat.div_add_mod n (dimB b); rw [hd, Nat.mul_comm] at this; omega
  have HQ := Lib.hid hnq
  have HX := Lib.hid (show bkRE b n (l.drop i) = (grpP b (l.drop i) q).2.1 ∧ (bkRL b n (l.drop i) = if (grpP b (l.drop i) q).2.1 ≠ 0 then [] else (grpP b (l.drop i) q).1) ∧ (bkRN b n (l.drop i) = if (grpP b (l.drop i) q).2.1 ≠ 0 then 0 else (grpP b (l.drop i) q).2.2) by
    unfold bkRL bkRN bkRE; rw [hq]; exact ⟨rfl, rfl, rfl⟩)
  generalize bkRE b n (l.drop i) = RE at HX
  generalize bkRL b n (l.drop i) = RL at HX
  generalize bkRN b n (l.drop i) = RN at HX
  have hn4 : ¬ 4096 < n := by omega
  have hni : ¬ (4096 : Int) < (n : Int) := by omega
  have hn0 : (0 : Int) ≤ (n : Int) := by omega
  have ht : (n : Int).tmod (dimB b : Int) = 0 := by rw [Int.tmod_eq_emod_of_nonneg (by omega), ← Int.natCast_emod, hd]; rfl
  have hm : (n : Int) % (dimB b : Int) = 0 := by rw [← Int.natCast_emod, hd]; rfl
  have hw : IntKind.i64.wrap ((n : Int).tmod (dimB b : Int)) = 0 := by rw [ht]; rfl
  have hD0 : ((dimB b : Int) == 0) = false := by simp; omega
  have hDn : ¬ dimB b = 0 := by omega
  have HH := Lib.hid h
  have HG := Lib.hid (fun W (hk : Keep (fun x => x ≠ g) w W) => hG.keep hk (Ne.symm ng))
  have HB := Lib.hid (And.intro h1 h8)
  have HO := Lib.hid ho
  have HK := Lib.hid (grpP_len b (l.drop i))
  have HER := Lib.hid (grpP_err b (l.drop i))
  have HNX := Lib.hid (fun k (st : List Int) m (h9 : grpP b (l.drop i) k = (st, 0, m)) => grpP_next b (l.drop i) k h9)
  have HILE := Lib.hid hile
  clear h hG hT ng h1 h8 hn hd hq hnq ho hile
  go_enter Tryd.func25, Tryd.ntmps25
  go_wp2_with (first
    | (go_at_call 40; refine HT.out.mono ?_; rintro e w2 ⟨rfl, rfl⟩)
    | (go_at_call 27; refine HAT.out.mono ?_; rintro e w2 ⟨rfl, rfl⟩)
    | (go_at_call 58; refine HRD.out.mono ?_; rintro e W1 ⟨g1, g6, bb, rfl, l1, l2, l3, l4, B1, B6, hsy, hb1⟩))
  have HB1 := Lib.hid hb1
  have HN := Lib.hid (show w.heap.size ≤ g1 ∧ g1 < bb ∧ bb < g6 ∧ g6 < W1.heap.size ∧ g < w.heap.size from ⟨l1, l2, l3, l4, hlt⟩)
  have HBK := Lib.hid (And.intro B1 (And.intro B6 hsy))
  have HR1 := Lib.hid (HH.out.below hb1)
  have hsz0 := hb1.size
  have HGA := Lib.hid (fun (j : Nat) W (hr : Rr o W g l j) (hu : Upd (fun x => x = g) W1 W) => group_any o g j b bb g1 g6 l W hr (fun x hx => by have := HO.out x hx; have := hu.size; omega)
    (B1.keep (hu.keep (ok := fun x => x ≠ g) fun _ h => h) (by omega)) (B6.keep (hu.keep (ok := fun x => x ≠ g) fun _ h => h) (by omega)) (hsy.keep (hu.keep (ok := fun x => x ≠ g) fun _ h => h) (by omega)) (by omega) (by omega) (by omega) HB.out.1 HB.out.2)
  clear l1 l2 l3 l4 B1 B6 hsy hb1 HRD HAT HT hlt c0 hn4 hni hn0 ht hm hw hD0 hDn hsz0
  go_loopw [10, 11, 12] (fun ov gv ev wr => ∃ (k m : Nat) (st : List Int), k ≤ q ∧ Hid (grpP b (l.drop i) k = (st, 0, m)) ∧ Hid (OwnI 3 .i64 W1.heap.size wr ov st) ∧ Hid (Rr o wr g l (i + m)) ∧ Hid (Upd (fun x => x = g) W1 wr)) (fun ov _ _ _ => match ov with | .slice _ n2 _ => n - n2 | _ => 0)
  case atStart => exact ⟨0, 0, [], Nat.zero_le _, Lib.hid rfl, Lib.hid (OwnI.nil _ _ _ _), HR1, Lib.hid (Upd.refl _ _)⟩
  case round =>
    obtain ⟨k, m, st, hk, hP, hO, hR, hU⟩ := hrel
    obtain ⟨A10, c10, rfl⟩ := hO.out.slice
    have hlen : st.length = k * dimB b := by have h9 := HK.out k (by rw [hP.out]); rw [hP.out] at h9; exact h9
    by_cases hlt : k < q
    · have hin := grp_in (d := dimB b) (k := k) (n := n) (by rw [HQ.out, Nat.mul_div_cancel _ (by omega)]; exact hlt)
      have hli : (st.length : Int) < (n : Int) := by omega
      have hG := HG.out wr ((Upd.of_below HB1.out (fun x => x = g)).trans hU.out (fun _ _ h => h) |>.keep fun _ h => h)
      have c0 := hG.dim b HB.out.2
      have c1 := hG.most b HB.out.2
      have c2 := hG.esc b HB.out.2
      have HGC := Lib.hid (HGA.out (i + m) wr hR.out hU.out)
      have HNK := Lib.hid (HNX.out k st m hP.out)
      rw [List.drop_drop] at HNK
      have hgl := grpR_len b (l.drop (i + m))
      generalize grpR b (l.drop (i + m)) = R at HGC HNK hgl
      obtain ⟨gl, E, cn⟩ := R
      simp only at HGC HNK hgl
      clear hG
      by_cases hE : E = 0
      · subst hE
        replace hgl := hgl rfl
        have HLG := Lib.hid (show okL (gl, (0 : Int), cn) = gl from rfl)
        rw [HLG.out] at HGC
        have HLN := Lib.hid (show st.length + dimB b ≤ n ∧ n ≤ 4096 ∧ st.length + gl.length ≤ 5000 from ⟨by omega, by omega, by omega⟩)
        have HOB := Lib.hid hO.out.base_le
        have HKQ := Lib.hid hlt
        have HGLN := Lib.hid hgl
        clear hlt hin hlen hgl
        go_wp2_with (first
          | (go_at_call 59; refine HGC.out.mono ?_; rintro e w3 ⟨v3, rfl, hO3, ha3, hu3⟩; obtain ⟨A3, c3, rfl, hs3⟩ := hO3.rd; have HS3 := Lib.hid hs3.any; have HO3 := Lib.hid (ownI_keep hO.out (hu3.keep (ok := fun x => x ≠ g) fun _ h => h) (fun x e => by have := HOB.out x e; have := HN.out; omega)); have HA3 := Lib.hid ha3; have HU3 := Lib.hid hu3; clear hO3 hs3 ha3 hu3)
          | (at_builtin; (refine append_row (w0 := w3) W1.heap.size rfl (.tmp 65) (.tmp 66) 25 3 .i64 8 rfl Tryd.underlying25 infoI (by decide) _ st gl A3 c3 rfl rfl HO3.out HS3.out (Below.refl _ _) (by have := HU3.out.size; have := hU.out.size; omega) (by have := HLN.out; omega) ?_); intro v1 w4 hO4 _ hg4 ha4; have HO4 := Lib.hid hO4; have HG4 := Lib.hid hg4; clear hO4 hg4 ha4))
        obtain ⟨j3, hr3, he3⟩ := HA3.out
        obtain rfl : j3 = i + m + cn := he3 rfl
        obtain ⟨A4, c4, rfl⟩ := HO4.out.slice
        have hgu := Upd.of_grown (o := fun x => W1.heap.size ≤ x) HG4.out (fun r e => HO3.out.base_le r e)
        go_roundw
        case rel =>
          refine ⟨k + 1, m + cn, st ++ gl, HKQ.out, HNK, HO4, Lib.hid ?_, Lib.hid ((hU.out.trans HU3.out fun _ _ h => h).trans hgu fun x hx h9 => by omega)⟩
          rw [← Nat.add_assoc]
          exact hr3.upd hgu (fun x _ h9 h8 => by have := HO.out x h9; have := HB1.out.size; omega)
        case measure => have := HLN.out; have := HGLN.out; have := (dimB_pos b).1; show n - (st ++ gl).length < n - st.length; rw [List.length_append]; omega
      · have hEb : (E != 0) = true := by simp [hE]
        have HPQ := Lib.hid (show grpP b (l.drop i) q = (st ++ gl, E, m + cn) by rw [HER.out (k + 1) (by rw [HNK.out]; exact hE) q (by omega), HNK.out])
        have HEX := Lib.hid hE
        clear hE hlt hin hlen hgl
        go_wp2_with (first
          | (go_at_call 59; refine HGC.out.mono ?_; rintro e w3 ⟨v3, rfl, hO3, ⟨j3, hr3, _⟩, hu3⟩; have HSK := Lib.hid (rseek_any o g j3 (i : Int) l w3 hr3); have HU3 := Lib.hid hu3; clear hO3 hr3 hu3)
          | (go_at_call 38; refine HSK.out.mono ?_; rintro e w4 ⟨rfl, hr4, hu4⟩))
        go_ret2
        have hsk : seekI l j3 (i : Int) = i := by unfold seekI; rw [if_neg (by have := HILE.out; omega)]; simp
        rw [hsk] at hr4
        refine ⟨_, by rw [HX.out.1, HPQ.out]; rfl, by rw [HX.out.2.1, HPQ.out, if_pos HEX.out]; exact OwnI.nil _ _ _ _, by rw [HX.out.2.2, HPQ.out, if_pos HEX.out]; exact hr4, ?_⟩
        exact ((Upd.of_below HB1.out (fun x => x = g)).trans hU.out fun _ _ h => h).trans (HU3.out.trans hu4 fun _ _ h => h) fun _ _ h => h
    · obtain rfl : k = q := by omega
      have hli : ¬ (st.length : Int) < (n : Int) := by rw [hlen, HQ.out]; omega
      have HPQ := Lib.hid hP.out
      clear hlt hlen
      go_wp2
      go_ret2
      refine ⟨_, by rw [HX.out.1, HPQ.out]; rfl, by rw [HX.out.2.1, HPQ.out, if_neg (by simp)]; exact hO.out.mono HB1.out.size, by rw [HX.out.2.2, HPQ.out, if_neg (by simp)]; exact hR.out, ?_⟩
      exact (Upd.of_below HB1.out (fun x => x = g)).trans hU.out fun _ _ h => h
theorem bRead_any (o : Nat → Prop) (g i : Nat) (n m : Int) (l : List Bool) (w : World) (h : Rr o w g l i) (hG : GF w) (hT : GT w) (ng : g ≠ 0) :
    Calls Tryd.prog 25 #[.pointer (some ⟨g, 0, none⟩), .int .i64 n, .int .i64 m] w
      fun e w' => ∃ v, e = .returned (.tuple #[v, .int .i64 (brdE n m (l.drop i))]) ∧ OwnI 3 .i64 w.heap.size w' v (brdL n m (l.drop i)) ∧ Rr o w' g l (i + brdN n m (l.drop i)) ∧ Upd (fun x => x = g) w w' := by
  by_cases h5 : n < 0 ∨ 8 ≤ n
  · have hE : brdE n m (l.drop i) = 5 := by unfold brdE; rw [if_pos h5]
    have hL : brdL n m (l.drop i) = [] := by unfold brdL; rw [hE, if_pos (by decide)]
    have hN : brdN n m (l.drop i) = 0 := by unfold brdN; rw [hE, if_pos (by decide)]
    refine (bRead_5 g n m w h5).mono ?_
    rintro e w' ⟨rfl, rfl⟩
    rw [hE, hL, hN]
    exact ⟨_, rfl, OwnI.nil _ _ _ _, h, Upd.refl _ _⟩
  · obtain ⟨b, rfl⟩ : ∃ b : Nat, n = (b : Int) := ⟨n.toNat, by omega⟩
    have h8 : b < 8 := by omega
    by_cases h4 : m < 0 ∨ 4096 < m ∨ m.toNat % dimB b ≠ 0
    · have hE : brdE (b : Int) m (l.drop i) = 4 := by unfold brdE; rw [if_neg h5, if_pos (by rw [Int.toNat_natCast]; exact h4)]
      have hL : brdL (b : Int) m (l.drop i) = [] := by unfold brdL; rw [hE, if_pos (by decide)]
      have hN : brdN (b : Int) m (l.drop i) = 0 := by unfold brdN; rw [hE, if_pos (by decide)]
      refine (bRead_4 g b m w hG h8 h4).mono ?_
      rintro e w' ⟨rfl, rfl⟩
      rw [hE, hL, hN]
      exact ⟨_, rfl, OwnI.nil _ _ _ _, h, Upd.refl _ _⟩
    · obtain ⟨k, rfl⟩ : ∃ k : Nat, m = (k : Int) := ⟨m.toNat, by omega⟩
      rw [Int.toNat_natCast] at h4
      have hE : brdE (b : Int) (k : Int) (l.drop i) = bkRE b k (l.drop i) := by unfold brdE; rw [if_neg h5, if_neg (by rw [Int.toNat_natCast, Int.toNat_natCast]; exact h4), Int.toNat_natCast, Int.toNat_natCast]
      have hk : k ≤ 4096 := by omega
      have hd : k % dimB b = 0 := by omega
      have hL : brdL (b : Int) (k : Int) (l.drop i) = bkRL b k (l.drop i) := by
        unfold brdL; rw [hE, Int.toNat_natCast, Int.toNat_natCast]
        split
        · rename_i h9; unfold bkRL; rw [if_pos h9]
        · rfl
      have hN : brdN (b : Int) (k : Int) (l.drop i) = bkRN b k (l.drop i) := by
        unfold brdN; rw [hE, Int.toNat_natCast, Int.toNat_natCast]
        split
        · rename_i h9; unfold bkRN; rw [if_pos h9]
        · rfl
      rw [hE, hL, hN]
      rcases Nat.eq_zero_or_pos b with rfl | h1
      · refine (bRead_0 g k w hG hk).mono ?_
        rintro e w' ⟨v, rfl, hO, hb⟩
        have e1 : bkRE 0 k (l.drop i) = 0 := by unfold bkRE; rw [grpP_0]
        have e2 : bkRL 0 k (l.drop i) = List.replicate k 0 := by unfold bkRL; rw [e1, if_neg (by simp), grpP_0, show k / dimB 0 = k from Nat.div_one k]
        have e3 : bkRN 0 k (l.drop i) = 0 := by unfold bkRN; rw [e1, if_neg (by simp), grpP_0]
        rw [e1, e2, e3]
        exact ⟨v, rfl, hO, h.below hb, Upd.of_below hb _⟩
      · refine (bRead_k (fun x => o x ∧ x < w.heap.size) g i b k l w h.cut (fun _ h => h.2) hG hT ng h1 h8 hk hd).mono ?_
        rintro e w' ⟨v, rfl, hO, hR, hu⟩
        exact ⟨v, rfl, hO, hR.weak fun _ _ h => h.1, hu⟩
end Go.Proofs.YtciknejchglmoaaDoor

namespace Go.Proofs.YtciknejchglmoaaDoor
open Go.RowKit

/-- A book with its lengths and words, as cells. -/
abbrev bookM (b : Nat) (A1 : Option Addr) (c1 : Nat) (A2 : Option Addr) (c2 : Nat) : Array Value := bookC b A1 (tabKI b).length c1 A2 (tabKI b).length c2
/-- Books as they lie: with lengths and words, or bare. -/
def BkK (ok : Nat → Prop) (w : World) (x : Nat × Bool) (cs : List Value) : Prop :=
  (x.2 = true ∧ ∃ A1 c1 A2 c2, cs = (bookM x.1 A1 c1 A2 c2).toList ∧ Sl (kInt .i64) ok w A1 c1 (tabKI x.1) ∧ Sl (kInt .i64) ok w A2 c2 (codesL (tabKI x.1))) ∨ (x.2 = false ∧ cs = (bookC x.1 none 0 0 none 0 0).toList)
def kBk : Kd (Nat × Bool) where
  size := 6
  dflt := (0, false)
  K := BkK
  len := fun h => by
    rcases h with ⟨_, A1, c1, A2, c2, rfl, _⟩ | ⟨_, rfl⟩ <;> rfl
  keep := fun hk h => by
    rcases h with ⟨e, A1, c1, A2, c2, e2, h1, h2⟩ | ⟨e, e2⟩
    · exact .inl ⟨e, A1, c1, A2, c2, e2, h1.keep hk, h2.keep hk⟩
    · exact .inr ⟨e, e2⟩
  weak := fun hk h => by
    rcases h with ⟨e, A1, c1, A2, c2, e2, h1, h2⟩ | ⟨e, e2⟩
    · exact .inl ⟨e, A1, c1, A2, c2, e2, h1.weak hk, h2.weak hk⟩
    · exact .inr ⟨e, e2⟩
def bareL : List (Nat × Bool) := (List.range 8).map fun b => (b, false)
def allK : List (Nat × Bool) := (List.range 8).map fun b => (b, true)
def bareC : List Value := (List.range 8).flatMap fun b => (bookC b none 0 0 none 0 0).toList
theorem bare_any (w : World) :
    Calls Tryd.prog 42 #[] w fun e w' => e = .returned (.slice (some ⟨w.heap.size, 0, none⟩) 8 8) ∧ w' = w.alloc (.cells bareC.toArray 74) := by
  go_enter Tryd.func42, Tryd.ntmps42
  go_wp2
  go_ret
  exact ⟨rfl, rfl⟩
theorem bare_reps (ok : Nat → Prop) (w : World) : Reps kBk ok w bareL bareC := by
  refine ⟨rfl, fun j hj => ?_⟩
  have : j < 8 := hj
  have : j = 0 ∨ j = 1 ∨ j = 2 ∨ j = 3 ∨ j = 4 ∨ j = 5 ∨ j = 6 ∨ j = 7 := by omega
  rcases this with rfl | rfl | rfl | rfl | rfl | rfl | rfl | rfl <;> exact .inr ⟨rfl, rfl⟩
theorem bare_own (w : World) : OwnK kBk 74 w.heap.size (fun b => b < w.heap.size) (w.alloc (.cells bareC.toArray 74)) (.slice (some ⟨w.heap.size, 0, none⟩) 8 8) bareL := by
  have h := World.ownsRow_lit (base := w.heap.size) (e := 74) (size := 6) w bareC.toArray 8 (Nat.le_refl _) (by simp [maxLen]) rfl
  exact ⟨bareC, h, bare_reps _ _⟩
/-- The cells of a bare book. -/
theorem bare_at (w : World) (b : Nat) (h8 : b < 8) (j : Nat) (v : Value) (hv : (bookC b none 0 0 none 0 0)[j]? = some v) : (w.alloc (.cells bareC.toArray 74)).cell? ⟨w.heap.size, b * 6 + j, none⟩ = some v := by
  have hB : Blk (w.alloc (.cells bareC.toArray 74)) w.heap.size bareC.toArray 74 := heap_alloc_new w _
  refine hB.cell _ ?_
  have hbb : b = 0 ∨ b = 1 ∨ b = 2 ∨ b = 3 ∨ b = 4 ∨ b = 5 ∨ b = 6 ∨ b = 7 := by omega
  have hj : j < 6 := (Array.getElem?_eq_some_iff.1 hv).1
  have hjj : j = 0 ∨ j = 1 ∨ j = 2 ∨ j = 3 ∨ j = 4 ∨ j = 5 := by omega
  rcases hbb with rfl | rfl | rfl | rfl | rfl | rfl | rfl | rfl <;> rcases hjj with rfl | rfl | rfl | rfl | rfl | rfl <;> exact hv
end Go.Proofs.YtciknejchglmoaaDoor

namespace Go.Proofs.YtciknejchglmoaaDoor
open Go.RowKit

theorem cntsB_length (b : Nat) : (cntsB b).length = symsB b := by simp [cntsB]
theorem cntsB_nth (b k : Nat) (h : k < symsB b) : nth 0 (cntsB b) k = ((cntE (fallB b) (sumE (mostB b) (dimB b) k) : Nat) : Int) := by
  rw [nth_eq 0 _ k (by rw [cntsB_length]; exact h)]; simp [cntsB]
theorem sumE_bd (b s : Nat) : sumE (mostB b) (dimB b) s ≤ 1000 := by
  have h1 := sumE_le (mostB b) (dimB b) s
  have h2 := Nat.mul_le_mul (dimB_pos b).2 (mostB_le b)
  omega
theorem made_res (tmps : Array Value) (W : World) (g b : Nat) (A1 : Option Addr) (n1 c1 : Nat) (A2 : Option Addr) (n2 c2 : Nat) (h : tmps[2]?.getD undef = .pointer (some ⟨g, 0, none⟩)) (B : Blk W g (bookC b A1 n1 c1 A2 n2 c2) 74) :
    (results Tryd.f71 tmps).run Tryd.prog W = .ok (.agg (bookC b A1 n1 c1 A2 n2 c2)) W := by
  have z0 := B.cell 0 rfl
  have z1 := B.cell 1 rfl
  have z2 := B.cell 2 rfl
  have z3 := B.cell 3 rfl
  have z4 := B.cell 4 rfl
  have z5 := B.cell 5 rfl
  simp [results, Tryd.f71, go_sem, h, z0, z1, z2, z3, z4, z5]
abbrev bookC0 : Array Value := #[.int .i64 0, .int .i64 0, .int .i64 0, .bool false, .slice none 0 0, .slice none 0 0]
/-- Six cells of a block are written. -/
theorem put_six {W : World} {g : Nat} {a0 a1 a2 a3 a4 a5 x0 x1 x2 x3 x4 x5 : Value} {t : TypeId} (h : Blk W g #[a0, a1, a2, a3, a4, a5] t) :
    Blk ((((((W.setCell ⟨g, 0, none⟩ x0).setCell ⟨g, 1, none⟩ x1).setCell ⟨g, 2, none⟩ x2).setCell ⟨g, 3, none⟩ x3).setCell ⟨g, 4, none⟩ x4).setCell ⟨g, 5, none⟩ x5) g #[x0, x1, x2, x3, x4, x5] t ∧
    Upd (fun z => z = g) W ((((((W.setCell ⟨g, 0, none⟩ x0).setCell ⟨g, 1, none⟩ x1).setCell ⟨g, 2, none⟩ x2).setCell ⟨g, 3, none⟩ x3).setCell ⟨g, 4, none⟩ x4).setCell ⟨g, 5, none⟩ x5) :=
  ⟨(((((h.set 0 x0).set 1 x1).set 2 x2).set 3 x3).set 4 x4).set 5 x5,
    (((((Upd.setCell (fun z => z = g) W g 0 x0 rfl).trans (Upd.setCell (fun z => z = g) _ g 1 x1 rfl) fun _ _ h => h).trans (Upd.setCell (fun z => z = g) _ g 2 x2 rfl) fun _ _ h => h).trans (Upd.setCell (fun z => z = g) _ g 3 x3 rfl) fun _ _ h => h).trans (Upd.setCell (fun z => z = g) _ g 4 x4 rfl) fun _ _ h => h).trans (Upd.setCell (fun z => z = g) _ g 5 x5 rfl) fun _ _ h => h⟩

set_option maxHeartbeats 2000000 in
set_option maxRecDepth 100000 in
theorem made_any (b : Nat) (w : World) (h1 : 1 ≤ b) (h8 : b < 8) :
    Calls Tryd.prog 71 #[.agg (bookC b none 0 0 none 0 0)] w fun e w' => ∃ A1 c1 A2 c2, e = .returned (.agg (bookM b A1 c1 A2 c2)) ∧ Sl (kInt .i64) (fun x => w.heap.size ≤ x) w' A1 c1 (tabKI b) ∧ Sl (kInt .i64) (fun x => w.heap.size ≤ x) w' A2 c2 (codesL (tabKI b)) ∧ Below w.heap.size w w' := by
  have hsb := symsB_le b h8
  have HCL := Lib.hid (cntsB_length b)
  have HCN := Lib.hid (show ∀ k, k < symsB b → (cntsB b).take (k + 1) = (cntsB b).take k ++ [((cntE (fallB b) (sumE (mostB b) (dimB b) k) : Nat) : Int)] from fun k h => by rw [take_succ_nth 0 _ k (by rw [cntsB_length]; exact h), cntsB_nth b k h])
  have HSY := Lib.hid (fun W => rsymbols_any none none 0 0 0 0 b W)
  have HSM := Lib.hid (fun s W (hs : s ≤ 1048576) => rsum_any none none 0 0 0 0 b s W hs)
  have HCT := Lib.hid (fun s W => rcount_any none none 0 0 0 0 b (sumE (mostB b) (dimB b) s) W (sumE_bd b s))
  have HLL := Lib.hid (fun A c W (hS : RI W A c (cntsB b)) => rlengths_all A c (cntsB b) 16 W hS)
  rw [(cnts_lengths b h1 h8).1, (cnts_lengths b h1 h8).2] at HLL
  have HCC := Lib.hid (fun A c W (hS : RI W A c (tabKI b)) => rcodes_any A c (tabKI b) W hS)
  rw [tabK_codes b h1 h8] at HCC
  have HCE := Lib.hid (fun s => cntE_le (F := fallB b) (fallB_le b) (sumE (mostB b) (dimB b) s))
  have HTL := Lib.hid (codesL_length (tabKI b))
  obtain ⟨g1, hg1⟩ : ∃ g1, w.heap.size = g1 := ⟨_, rfl⟩
  obtain ⟨g2, hg2⟩ : ∃ g2, g1 + 1 = g2 := ⟨_, rfl⟩
  have hba := below_alloc (Below.refl w.heap.size w) (.cells (bookC b none 0 0 none 0 0) 74)
  have B1 : Blk (w.alloc (.cells (bookC b none 0 0 none 0 0) 74)) g1 (bookC b none 0 0 none 0 0) 74 := by rw [← hg1]; exact heap_alloc_new w _
  have hbb := below_alloc (Below.refl _ (w.alloc (.cells (bookC b none 0 0 none 0 0) 74))) (.cells (bookC0) 74)
  have B2 : Blk ((w.alloc (.cells (bookC b none 0 0 none 0 0) 74)).alloc (.cells (bookC0) 74)) g2 bookC0 74 := by
    have h := heap_alloc_new (w.alloc (.cells (bookC b none 0 0 none 0 0) 74)) (.cells (bookC0) 74)
    rw [World.size_alloc, hg1, hg2] at h
    exact h
  replace B1 := B1.below hbb
  have hbz := below2 hba hbb
  obtain ⟨W0, hW0⟩ : ∃ W0, (w.alloc (.cells (bookC b none 0 0 none 0 0) 74)).alloc (.cells (bookC0) 74) = W0 := ⟨_, rfl⟩
  rw [hW0] at B1 B2 hbz
  unfold bookC0 at hW0
  go_enter Tryd.func71, Tryd.ntmps71
  have k0 := B1.cell 0 rfl
  have k1 := B1.cell 1 rfl
  have k2 := B1.cell 2 rfl
  have k3 := B1.cell 3 rfl
  have k4 := B1.cell 4 rfl
  have k5 := B1.cell 5 rfl
  go_wp2_with (go_at_call 88; refine (HSY.out _).mono ?_; rintro e W1 ⟨rfl, b1⟩)
  have HB := Lib.hid (And.intro (B1.below b1) (And.intro (B2.below b1) (below2 hbz b1)))
  have HN := Lib.hid (show w.heap.size = g1 ∧ g1 + 1 = g2 ∧ g2 < W1.heap.size from ⟨hg1, hg2, (B2.below b1).lt⟩)
  clear k0 k1 k2 k3 k4 k5 B1 B2 hbz b1 hba hbb hW0 hg1 hg2 HSY
  go_loopw [3, 4, 7] (fun ov sv iv wr => ∃ k : Nat, iv = .int .i64 (k : Int) ∧ k ≤ symsB b ∧ Hid (OwnI 3 .i64 W1.heap.size wr ov ((cntsB b).take k)) ∧ Hid (Below W1.heap.size W1 wr)) (fun _ _ iv _ => symsB b - (intOf iv).toNat)
  case atStart => exact ⟨0, rfl, Nat.zero_le _, Lib.hid (OwnI.nil _ _ _ _), Lib.hid (Below.refl _ _)⟩
  case round =>
    obtain ⟨k, rfl, hk, hO, hB⟩ := hrel
    have B1 := HB.out.1.below hB.out
    by_cases hlt : k < symsB b
    · have k0 := B1.cell 0 rfl
      have k1 := B1.cell 1 rfl
      have k2 := B1.cell 2 rfl
      have k3 := B1.cell 3 rfl
      have k4 := B1.cell 4 rfl
      have k5 := B1.cell 5 rfl
      have hki : (k : Int) < (symsB b : Int) := by omega
      have hwk : IntKind.i64.wrap ((k : Int) + 1) = (k : Int) + 1 := IntWalk.i64_in _ (by omega)
      have HT := Lib.hid (HCN.out k hlt)
      have HS1 := Lib.hid (HSM.out k wr.drew (by omega))
      have HC1 := Lib.hid (fun W => HCT.out k W)
      have hce := HCE.out k
      have hl : ((cntsB b).take k).length ≤ 256 := by rw [List.length_take]; omega
      generalize cntE (fallB b) (sumE (mostB b) (dimB b) k) = y at HT HC1 hce
      generalize sumE (mostB b) (dimB b) k = s at HS1 HC1
      have hd := (Below.refl wr.heap.size wr).drew
      clear B1 hlt
      go_wp2
      have HF := Lib.hid (show ∀ W : World, Below W1.heap.size W1 W → (W.cell? ⟨g1, 0, none⟩ = some (.int .i64 (dimB b)) ∧ W.cell? ⟨g1, 1, none⟩ = some (.int .i64 (mostB b)) ∧ W.cell? ⟨g1, 2, none⟩ = some (.int .i64 (fallB b)) ∧ W.cell? ⟨g1, 3, none⟩ = some (.bool (escB b)) ∧ W.cell? ⟨g1, 4, none⟩ = some (.slice none 0 0) ∧ W.cell? ⟨g1, 5, none⟩ = some (.slice none 0 0)) from fun W hb => ⟨(HB.out.1.below hb).cell 0 rfl, (HB.out.1.below hb).cell 1 rfl, (HB.out.1.below hb).cell 2 rfl, (HB.out.1.below hb).cell 3 rfl, (HB.out.1.below hb).cell 4 rfl, (HB.out.1.below hb).cell 5 rfl⟩)
      have hbd := below2 hB.out hd
      clear k0 k1 k2 k3 k4 k5
      refine wp_region_G 8 (fun W => W.cell? ⟨g1, 0, none⟩ = some (.int .i64 (dimB b)) ∧ W.cell? ⟨g1, 1, none⟩ = some (.int .i64 (mostB b)) ∧ W.cell? ⟨g1, 2, none⟩ = some (.int .i64 (fallB b)) ∧ W.cell? ⟨g1, 3, none⟩ = some (.bool (escB b)) ∧ W.cell? ⟨g1, 4, none⟩ = some (.slice none 0 0) ∧ W.cell? ⟨g1, 5, none⟩ = some (.slice none 0 0)) (by kernel_rfl) (HF.out _ hbd) (fun hHeld => ?_)
      refine wpAnyG_takeL (i := 0) (u3) [8] rfl (by kernel_rfl) (fun _ _ _ h => h) hHeld (by rfl) ?_ ?_
      · (intro W' hSw; (try dsimp only at hSw); go_simp)
      try simp only [Act.put, List.setIfInBounds_toArray, List.set_cons_zero, List.set_cons_succ]
      refine wpAnyG_takeL (i := 1) (.agg (bookC b none 0 0 none 0 0)) [8] rfl (by kernel_rfl) (fun _ _ _ h => h) hHeld (by rfl) ?_ ?_
      · (intro W' hSw; (try dsimp only at hSw); go_simp)
      try simp only [Act.put, List.setIfInBounds_toArray, List.set_cons_zero, List.set_cons_succ]
      refine wpAnyG_takeL (i := 2) (.agg (bookC b none 0 0 none 0 0)) [8] rfl (by kernel_rfl) (fun _ _ _ h => h) hHeld (by rfl) ?_ ?_
      · (intro W' hSw; (try dsimp only at hSw); go_simp)
      try simp only [Act.put, List.setIfInBounds_toArray, List.set_cons_zero, List.set_cons_succ]
      refine wpAnyG_takeL (i := 3) (.int .i64 (k : Int)) [8] rfl (by kernel_rfl) (fun _ _ _ h => h) hHeld (by rfl) ?_ ?_
      · (intro W' hSw; (try dsimp only at hSw); go_simp)
      try simp only [Act.put, List.setIfInBounds_toArray, List.set_cons_zero, List.set_cons_succ]
      clear hHeld
      refine wpAnyG_oneL (i := 4) (by kernel_rfl) rfl (fun K hK => ?_)
      (go_simp; go_at_call 90; refine HS1.out.mono ?_; rintro e w3 ⟨rfl, b3⟩)
      refine hK.out _ _ (fun _ => (HF.out _ (below2 hbd b3))) ?_
      clear hK K
      try simp only [Act.put, List.setIfInBounds_toArray, List.set_cons_zero, List.set_cons_succ]
      refine wpAnyG_oneL (i := 5) (by kernel_rfl) rfl (fun K hK => ?_)
      (go_simp; go_at_call 89; refine (HC1.out _).mono ?_; rintro e w4 ⟨rfl, b4⟩; have hb4 := below2 (below2 hbd b3) b4; have hba4 := below2 hb4 (below_alloc (Below.refl _ _) (.cells #[.int .i64 (y : Int)] 3)))
      refine hK.out _ _ (fun _ => (HF.out _ hb4)) ?_
      clear hK K
      try simp only [Act.put, List.setIfInBounds_toArray, List.set_cons_zero, List.set_cons_succ]
      refine wpAnyG_oneL (i := 6) (by kernel_rfl) rfl (fun K hK => ?_)
      go_simp
      refine hK.out _ _ (fun _ => (HF.out _ hba4)) ?_
      clear hK K
      try simp only [Act.put, List.setIfInBounds_toArray, List.set_cons_zero, List.set_cons_succ]
      refine wpAnyG_oneL (i := 7) (by kernel_rfl) rfl (fun K hK => ?_)
      refine step_append_row W1.heap.size rfl (.tmp 10) (.tmp 16) 25 3 .i64 8 rfl Tryd.underlying25 infoI (by decide) u3 ((cntsB b).take k) [(y : Int)] _ 1 rfl rfl ((hO.out.below (below2 (below2 hd b3) b4)).below (below_alloc (Below.refl _ _) _)) (lit_ri w4 3 .i64 [(y : Int)] (show 1 ≤ 9223372036854775807 by decide)) hba4.size (by simp; omega) ?_
      intro v1 w5 hO5 hg5 _
      have hb5 := hba4.grown hg5 hba4.size hO.out.base_le
      have HO5 := Lib.hid hO5
      have HB5 := Lib.hid hb5
      refine hK.out _ _ (fun _ => HF.out _ hb5) ?_
      clear hK K hO5 hg5 hb5
      try simp only [Act.put, List.setIfInBounds_toArray, List.set_cons_zero, List.set_cons_succ]
      refine wpAnyG_oneL (i := 8) (by kernel_rfl) rfl (fun K hK => ?_)
      go_simp
      refine hK.out _ _ (fun h => Bool.noConfusion (show true = false from h)) ?_
      clear hK K
      refine wpAnyG_done (by kernel_rfl) ?_ _
      go_wp2
      go_roundw
      case rel => exact ⟨k + 1, by go_num, by omega, by rw [HT.out]; exact HO5, HB5⟩
      case measure => simp [intOf]; omega
    · obtain rfl : k = symsB b := by omega
      have HT2 := Lib.hid (show (cntsB b).take (symsB b) = cntsB b from List.take_of_length_le (by rw [HCL.out]; exact Nat.le_refl _))
      rw [HT2.out] at hO
      obtain ⟨A3, c3, rfl, hS3⟩ := own_ri hO.out
      have HS3 := Lib.hid hS3
      have hz := hB.out.size
      have B2 := HB.out.2.1.below hB.out
      have HBB := Lib.hid (And.intro B1 B2)
      have HBL := Lib.hid (below2 HB.out.2.2 hB.out)
      obtain ⟨n, hn⟩ : ∃ n, (tabKI b).length = n := ⟨_, rfl⟩
      have HNL := Lib.hid hn
      have HM := Lib.hid (fun A c W (hS : RI W A c (tabKI b)) => (HCC.out A c W hS))
      rw [hn] at HM
      clear hS3 hO B1 B2 hlt
      have hgw := HN.out
      go_wp2_with (first
        | (go_at_call 91; refine (HLL.out _ _ _ HS3.out).mono ?_; rintro e w3 ⟨v3, rfl, hO3, b3⟩; obtain ⟨A4, c4, rfl, hs4⟩ := hO3.rd; rw [hn]; have E1 := HBB.out.1.below b3; have k4 := E1.cell 4 rfl; have f4 := E1.free 4; have D1 := Lib.hid (E1.set 4 (.slice A4 n c4)); have D2 := Lib.hid ((HBB.out.2.below b3).keep (Keep.of_grown1 (grown_setCell w3 g1 4 (.slice A4 n c4))) (by omega)); have HS4 := Lib.hid ((hs4.weak (ok' := fun x => g2 < x) (fun x _ h => by have := h.1; omega)).keep ((Keep.of_grown1 (grown_setCell w3 g1 4 (.slice A4 n c4))).weak fun x h => by omega)); have HB3 := Lib.hid b3; clear hO3 hs4 E1 b3)
        | (go_at_call 92; refine (HM.out _ _ _ HS4.out.any).mono ?_; rintro e w6 ⟨v6, rfl, hO6, b6⟩; obtain ⟨A5, c5, rfl, hs6⟩ := hO6.rd; rw [HTL.out, hn]; have E5 := D1.out.below b6; have k5 := E5.cell 5 rfl; have f5 := E5.free 5; have G1 := E5.set 5 (.slice A5 n c5); have G2 := (D2.out.below b6).keep (Keep.of_grown1 (grown_setCell w6 g1 5 (.slice A5 n c5))) (by omega); have q0 := G1.cell 0 rfl; have q1 := G1.cell 1 rfl; have q2 := G1.cell 2 rfl; have q3 := G1.cell 3 rfl; have q4 := G1.cell 4 rfl; have q5 := G1.cell 5 rfl; have p0 := G2.cell 0 rfl; have p1 := G2.cell 1 rfl; have p2 := G2.cell 2 rfl; have p3 := G2.cell 3 rfl; have p4 := G2.cell 4 rfl; have p5 := G2.cell 5 rfl; have r0 := G2.free 0; have r1 := G2.free 1; have r2 := G2.free 2; have r3 := G2.free 3; have r4 := G2.free 4; have r5 := G2.free 5; have HG2 := Lib.hid G2; have HS6 := Lib.hid hs6; have HB6 := Lib.hid b6; clear hO6 hs6 b6 E5 G1 G2))
      obtain ⟨p6, pu⟩ := put_six (x0 := .int .i64 (dimB b)) (x1 := .int .i64 (mostB b)) (x2 := .int .i64 (fallB b)) (x3 := .bool (escB b)) (x4 := .slice A4 n c4) (x5 := .slice A5 n c5) HG2.out
      refine bodyPost_ret (made_res _ _ g2 b A4 n c4 A5 n c5 rfl p6) rfl ?_
      have hw3 := HB3.out.size
      have hw6 := HB6.out.size
      have hw1 := HBL.out.size
      have U3 : Upd (fun x => w.heap.size ≤ x) wr (w3.setCell ⟨g1, 4, none⟩ (.slice A4 n c4)) := (Upd.of_below HB3.out _).trans (Upd.setCell (fun x => x = g1) w3 g1 4 _ rfl) (fun x _ e => by omega)
      have U6 : Upd (fun x => w.heap.size ≤ x) (w3.setCell ⟨g1, 4, none⟩ (.slice A4 n c4)) (w6.setCell ⟨g1, 5, none⟩ (.slice A5 n c5)) := (Upd.of_below HB6.out _).trans (Upd.setCell (fun x => x = g1) w6 g1 5 _ rfl) (fun x _ e => by omega)
      have U7 := pu.weak (o' := fun x => w.heap.size ≤ x) (fun x _ e => by omega)
      have hUU := (U3.trans U6 fun _ _ h => h).trans U7 fun _ _ h => h
      have hs4 := ((HS4.out.below HB6.out).keep ((Keep.of_grown1 (grown_setCell w6 g1 5 (.slice A5 n c5))).weak fun x h => by omega)).keep (pu.keep (ok := fun x => g2 < x) fun x h e => by omega)
      have hz3 : (w3.setCell ⟨g1, 4, none⟩ (.slice A4 n c4)).heap.size = w3.heap.size := by simp
      have hs5 := ((HS6.out.weak (ok' := fun x => g2 < x) (fun x _ h => by have := h.1; omega)).keep ((Keep.of_grown1 (grown_setCell w6 g1 5 (.slice A5 n c5))).weak fun x h => by omega)).keep (pu.keep (ok := fun x => g2 < x) fun x h e => by omega)
      refine ⟨A4, c4, A5, c5, by rw [← hn], hs4.weak (fun x _ h => by omega), hs5.weak (fun x _ h => by omega), ?_⟩
      exact HBL.out.trans (hUU.below hw1 (fun x _ h => h))
end Go.Proofs.YtciknejchglmoaaDoor

namespace Go.Proofs.YtciknejchglmoaaDoor
open Go.RowKit

/-- The bare books at rest. -/
structure BareAt (w : World) (g b : Nat) : Prop where
  c0 : w.cell? ⟨g, b * 6, none⟩ = some (.int .i64 (dimB b))
  c1 : w.cell? ⟨g, b * 6 + 1, none⟩ = some (.int .i64 (mostB b))
  c2 : w.cell? ⟨g, b * 6 + 2, none⟩ = some (.int .i64 (fallB b))
  c3 : w.cell? ⟨g, b * 6 + 3, none⟩ = some (.bool (escB b))
  c4 : w.cell? ⟨g, b * 6 + 4, none⟩ = some (.slice none 0 0)
  c5 : w.cell? ⟨g, b * 6 + 5, none⟩ = some (.slice none 0 0)
theorem bare_ex (w : World) :
    Calls Tryd.prog 42 #[] w fun e w' => ∃ g, e = .returned (.slice (some ⟨g, 0, none⟩) 8 8) ∧ Below w.heap.size w w' ∧ w.heap.size ≤ g ∧ (∀ b, b < 8 → BareAt w' g b) ∧ OwnK kBk 74 w.heap.size (fun b => b < w.heap.size) w' (.slice (some ⟨g, 0, none⟩) 8 8) bareL := by
  refine (bare_any w).mono ?_
  rintro e w' ⟨rfl, rfl⟩
  refine ⟨_, rfl, below_alloc (Below.refl _ _) _, Nat.le_refl _, fun b h8 => ⟨?_, ?_, ?_, ?_, ?_, ?_⟩, bare_own w⟩
  · exact bare_at w b h8 0 _ rfl
  · exact bare_at w b h8 1 _ rfl
  · exact bare_at w b h8 2 _ rfl
  · exact bare_at w b h8 3 _ rfl
  · exact bare_at w b h8 4 _ rfl
  · exact bare_at w b h8 5 _ rfl
theorem one_res (tmps : Array Value) (W : World) (g b : Nat) (A1 : Option Addr) (n1 c1 : Nat) (A2 : Option Addr) (n2 c2 : Nat) (h : tmps[2]?.getD undef = .pointer (some ⟨g, 0, none⟩)) (B : Blk W g (bookC b A1 n1 c1 A2 n2 c2) 74) :
    (results Tryd.f44 tmps).run Tryd.prog W = .ok (.agg (bookC b A1 n1 c1 A2 n2 c2)) W := by
  have z0 := B.cell 0 rfl
  have z1 := B.cell 1 rfl
  have z2 := B.cell 2 rfl
  have z3 := B.cell 3 rfl
  have z4 := B.cell 4 rfl
  have z5 := B.cell 5 rfl
  simp [results, Tryd.f44, go_sem, h, z0, z1, z2, z3, z4, z5]
theorem sl_nil {ok : Nat → Prop} (w : World) : Sl (kInt .i64) ok w none 0 [] := ⟨Nat.le_refl _, by omega, Kd.Rd.nil _ _ _ _⟩

set_option maxHeartbeats 1000000 in
set_option maxRecDepth 100000 in
theorem rone_any (b : Nat) (w : World) (h8 : b < 8) :
    Calls Tryd.prog 44 #[.int .i64 (b : Int)] w fun e w' => ∃ A1 c1 A2 c2, e = .returned (.agg (bookM b A1 c1 A2 c2)) ∧ Sl (kInt .i64) (fun x => w.heap.size ≤ x) w' A1 c1 (tabKI b) ∧ Sl (kInt .i64) (fun x => w.heap.size ≤ x) w' A2 c2 (codesL (tabKI b)) ∧ Below w.heap.size w w' := by
  have hb8 : (b : Int) < 8 := by omega
  obtain ⟨g2, hg2⟩ : ∃ g2, w.heap.size = g2 := ⟨_, rfl⟩
  have hba := below_alloc (Below.refl w.heap.size w) (.cells bookC0 74)
  have B2 : Blk (w.alloc (.cells bookC0 74)) g2 bookC0 74 := by rw [← hg2]; exact heap_alloc_new w _
  have HB2 := Lib.hid B2
  have HBA := Lib.hid hba
  have HN := Lib.hid hg2
  by_cases h0 : b = 0
  · subst h0
    clear B2 hba
    go_enter Tryd.func44, Tryd.ntmps44
    go_wp2_with (go_at_call 42; refine (bare_ex _).mono ?_; rintro e w3 ⟨g, rfl, b3, _, hA, _⟩; have k0 := (hA 0 (by omega)).c0; have k1 := (hA 0 (by omega)).c1; have k2 := (hA 0 (by omega)).c2; have k3 := (hA 0 (by omega)).c3; have k4 := (hA 0 (by omega)).c4; have k5 := (hA 0 (by omega)).c5; simp only [Nat.zero_mul, Nat.zero_add] at k0 k1 k2 k3 k4 k5; have G2 := HB2.out.below b3; have p0 := G2.cell 0 rfl; have p1 := G2.cell 1 rfl; have p2 := G2.cell 2 rfl; have p3 := G2.cell 3 rfl; have p4 := G2.cell 4 rfl; have p5 := G2.cell 5 rfl; have r0 := G2.free 0; have r1 := G2.free 1; have r2 := G2.free 2; have r3 := G2.free 3; have r4 := G2.free 4; have r5 := G2.free 5; have HG2 := Lib.hid G2; clear G2 hA)
    obtain ⟨p6, pu⟩ := put_six (x0 := .int .i64 (dimB 0)) (x1 := .int .i64 (mostB 0)) (x2 := .int .i64 (fallB 0)) (x3 := .bool (escB 0)) (x4 := .slice none 0 0) (x5 := .slice none 0 0) HG2.out
    refine bodyPost_ret (one_res _ _ g2 0 none 0 0 none 0 0 rfl p6) rfl ?_
    have hb := below2 HBA.out b3
    exact ⟨none, 0, none, 0, rfl, sl_nil _, sl_nil _, hb.trans (pu.below hb.size (fun x _ e => by have := HN.out; omega))⟩
  · have hb0 : ((b : Int) == 0) = false := by simp [h0]
    have HM := Lib.hid (fun W => made_any b W (by omega) h8)
    have H8 := Lib.hid h8
    obtain ⟨n, hn⟩ : ∃ n, (tabKI b).length = n := ⟨_, rfl⟩
    unfold bookM at HM ⊢
    rw [hn] at HM ⊢
    clear B2 hba h0 h8 hn
    go_enter Tryd.func44, Tryd.ntmps44
    go_wp2_with (first
      | (go_at_call 71; refine (HM.out _).mono ?_; rintro e w4 ⟨A1, c1, A2, c2, rfl, hs1, hs2, b4⟩; have G2 := (HB2.out.below b3).below b4; have p0 := G2.cell 0 rfl; have p1 := G2.cell 1 rfl; have p2 := G2.cell 2 rfl; have p3 := G2.cell 3 rfl; have p4 := G2.cell 4 rfl; have p5 := G2.cell 5 rfl; have r0 := G2.free 0; have r1 := G2.free 1; have r2 := G2.free 2; have r3 := G2.free 3; have r4 := G2.free 4; have r5 := G2.free 5; have HG2 := Lib.hid G2; have HS1 := Lib.hid hs1; have HS2 := Lib.hid hs2; clear G2 hs1 hs2)
      | (go_at_call 42; refine (bare_ex _).mono ?_; rintro e w3 ⟨g, rfl, b3, _, hA, _⟩; obtain ⟨k0, k1, k2, k3, k4, k5⟩ := hA b H8.out; clear hA))
    obtain ⟨p6, pu⟩ := put_six (x0 := .int .i64 (dimB b)) (x1 := .int .i64 (mostB b)) (x2 := .int .i64 (fallB b)) (x3 := .bool (escB b)) (x4 := .slice A1 n c1) (x5 := .slice A2 n c2) HG2.out
    refine bodyPost_ret (one_res _ _ g2 b A1 n c1 A2 n c2 rfl p6) rfl ?_
    have hb := below2 (below2 HBA.out b3) b4
    have hsz := (below2 HBA.out b3).size
    have hg := HN.out
    have hz1 := HBA.out.size
    have hz2 : (w.alloc (.cells bookC0 74)).heap.size = w.heap.size + 1 := World.size_alloc _ _
    have hz3 : (w.alloc (.cells bookC0 74)).heap.size ≤ w3.heap.size := b3.size
    exact ⟨A1, c1, A2, c2, rfl, (HS1.out.weak (ok' := fun x => g2 < x) (fun x _ h => by omega)).keep (pu.keep (ok := fun x => g2 < x) fun x h e => by omega) |>.weak (fun x _ h => by omega), (HS2.out.weak (ok' := fun x => g2 < x) (fun x _ h => by omega)).keep (pu.keep (ok := fun x => g2 < x) fun x h e => by omega) |>.weak (fun x _ h => by omega), hb.trans (pu.below hb.size (fun x _ e => by omega))⟩
theorem rshape_no (n : Int) (w : World) (h : n < 0 ∨ 8 ≤ n) :
    Calls Tryd.prog 11 #[.int .i64 n] w fun e w' => e = .returned (.tuple #[.int .i64 0, .int .i64 0, .int .i64 5]) ∧ w = w' := by
  have HT := Lib.hid (ris_any n w)
  rw [show thereB n = false by simp [thereB]; omega] at HT
  clear h
  go_enter Tryd.func11, Tryd.ntmps11
  go_wp2_with (go_at_call 41; refine HT.out.mono ?_; rintro e w2 ⟨rfl, rfl⟩)
  go_ret3
  exact ⟨rfl, rfl⟩
set_option maxHeartbeats 1000000 in
theorem rshape_ok (b : Nat) (w : World) (h : b < 8) :
    Calls Tryd.prog 11 #[.int .i64 (b : Int)] w fun e w' => e = .returned (.tuple #[.int .i64 (dimB b), .int .i64 (mostB b), .int .i64 0]) ∧ Below w.heap.size w w' := by
  have HT := Lib.hid (ris_any b w)
  rw [show thereB (b : Int) = true by simp [thereB]; omega] at HT
  have hb8 : (b : Int) < 8 := by omega
  have H8 := Lib.hid h
  clear h
  go_enter Tryd.func11, Tryd.ntmps11
  go_wp2_with (first
    | (go_at_call 41; refine HT.out.mono ?_; rintro e w2 ⟨rfl, rfl⟩)
    | (go_at_call 42; refine (bare_ex _).mono ?_; rintro e w3 ⟨g, rfl, b3, _, hA, _⟩; obtain ⟨k0, k1, k2, k3, k4, k5⟩ := hA b H8.out; clear hA))
  go_quiet (fail)
  go_wp2
  go_ret3
  exact ⟨rfl, below_drewN (below_alloc b3 _) _⟩
theorem rlen17_no (n : Int) (w : World) (h : n < 0 ∨ 8 ≤ n) :
    Calls Tryd.prog 13 #[.int .i64 n] w fun e w' => e = .returned (.tuple #[.slice none 0 0, .int .i64 5]) ∧ w = w' := by
  have HT := Lib.hid (ris_any n w)
  rw [show thereB n = false by simp [thereB]; omega] at HT
  clear h
  go_enter Tryd.func13, Tryd.ntmps13
  go_wp2_with (go_at_call 41; refine HT.out.mono ?_; rintro e w2 ⟨rfl, rfl⟩)
  go_ret2
  exact ⟨rfl, rfl⟩
theorem book_f4 (a b c d : Value) (A1 A2 : Option Addr) (n1 c1 n2 c2 : Nat) (w : World) : (Instr.field 74 (.agg #[a, b, c, d, .slice A1 n1 c1, .slice A2 n2 c2]) 4).run Tryd.prog w = .ok (.slice A1 n1 c1) w := by kernel_rfl
set_option maxHeartbeats 1000000 in
set_option maxRecDepth 100000 in
theorem rlen17_ok (b : Nat) (w : World) (h : b < 8) :
    Calls Tryd.prog 13 #[.int .i64 (b : Int)] w fun e w' => ∃ A c, e = .returned (.tuple #[.slice A (tabKI b).length c, .int .i64 0]) ∧ Sl (kInt .i64) (fun x => w.heap.size ≤ x) w' A c (tabKI b) ∧ Below w.heap.size w w' := by
  have HT := Lib.hid (ris_any b w)
  rw [show thereB (b : Int) = true by simp [thereB]; omega] at HT
  have HO := Lib.hid (rone_any b w h)
  obtain ⟨n, hn⟩ : ∃ n, (tabKI b).length = n := ⟨_, rfl⟩
  unfold bookM bookC at HO
  rw [hn] at HO ⊢
  clear h hn
  go_enter Tryd.func13, Tryd.ntmps13
  go_wp2_with (first
    | (go_at_call 41; refine HT.out.mono ?_; rintro e w2 ⟨rfl, rfl⟩)
    | (go_at_call 44; refine HO.out.mono ?_; rintro e w4 ⟨A1, c1, A2, c2, rfl, hs1, hs2, b4⟩; have hf4 := book_f4 (.int .i64 (dimB b)) (.int .i64 (mostB b)) (.int .i64 (fallB b)) (.bool (escB b)) A1 A2 n c1 n c2 w4))
  go_ret2
  exact ⟨A1, c1, rfl, hs1, b4⟩
set_option maxHeartbeats 1000000 in
theorem rfits_any (A : Option Addr) (c : Nat) (n : Int) (l : List Int) (w : World) (hS : RI w A c l) :
    Calls Tryd.prog 18 #[.int .i64 n, .slice A l.length c] w fun e w' => e = .returned (.tuple #[.bool (fitsV n l), .int .i64 (checkedK n l)]) ∧ Below w.heap.size w w' := by
  have HT := Lib.hid (ris_any n w)
  by_cases h : n < 0 ∨ 8 ≤ n
  · rw [show thereB n = false by simp [thereB]; omega] at HT
    have hc : checkedK n l = 5 := by unfold checkedK; rw [if_pos h]
    have HC := Lib.hid hc
    have HV := Lib.hid (show fitsV n l = false by unfold fitsV; rw [if_pos (by rw [hc]; decide)])
    clear h hc
    go_enter Tryd.func18, Tryd.ntmps18
    go_wp2_with (go_at_call 41; refine HT.out.mono ?_; rintro e w2 ⟨rfl, rfl⟩)
    go_ret2
    exact ⟨by rw [HV.out, HC.out]; rfl, Below.refl _ _⟩
  · rw [show thereB n = true by simp [thereB]; omega] at HT
    obtain ⟨b, rfl⟩ : ∃ b : Nat, n = (b : Int) := ⟨n.toNat, by omega⟩
    have h8 : b < 8 := by omega
    have HA := Lib.hid (rvalues_any A c l w hS)
    cases hq : quantB l
    · rw [hq] at HA
      have hc : checkedK (b : Int) l = 6 := by unfold checkedK; rw [if_neg h, if_pos hq]
      have HC := Lib.hid hc
      have HV := Lib.hid (show fitsV (b : Int) l = false by unfold fitsV; rw [if_pos (by rw [hc]; decide)])
      clear h hc hq
      go_enter Tryd.func18, Tryd.ntmps18
      go_wp2_with (first | (go_at_call 41; refine HT.out.mono ?_; rintro e w2 ⟨rfl, rfl⟩) | (go_at_call 48; refine HA.out.mono ?_; rintro e w2 ⟨rfl, rfl⟩))
      go_ret2
      exact ⟨by rw [HV.out, HC.out]; rfl, Below.refl _ _⟩
    · rw [hq] at HA
      have hc : checkedK (b : Int) l = 0 := by unfold checkedK; rw [if_neg h, if_neg (by rw [hq]; decide)]
      have HC := Lib.hid hc
      have HV := Lib.hid (show fitsV (b : Int) l = fitB b l by unfold fitsV; rw [if_neg (by rw [hc]; decide)]; rfl)
      have HH := Lib.hid (fun W (hb : Below w.heap.size w W) => rhas_any A none none c 0 0 0 0 b l W (hS.below hb) hq)
      have hb8 : (b : Int) < 8 := by omega
      have H8 := Lib.hid h8
      clear h hc hq h8
      go_enter Tryd.func18, Tryd.ntmps18
      go_wp2_with (first
        | (go_at_call 41; refine HT.out.mono ?_; rintro e w2 ⟨rfl, rfl⟩)
        | (go_at_call 48; refine HA.out.mono ?_; rintro e w2 ⟨rfl, rfl⟩)
        | (go_at_call 49; refine (HH.out _ b3).mono ?_; rintro e w5 ⟨rfl, b5⟩)
        | (go_at_call 42; refine (bare_ex _).mono ?_; rintro e w3 ⟨g, rfl, b3, _, hA, _⟩; obtain ⟨k0, k1, k2, k3, k4, k5⟩ := hA b H8.out; clear hA))
      go_ret2
      exact ⟨by rw [HV.out, HC.out]; rfl, below2 b3 b5⟩
end Go.Proofs.YtciknejchglmoaaDoor

namespace Go.Proofs.YtciknejchglmoaaDoor
open Go.RowKit

/-- The books, those ahead of number k with lengths and words. -/
def mixL (k : Nat) : List (Nat × Bool) := (List.range 8).map fun b => (b, decide (b < k))
theorem mixL_length (k : Nat) : (mixL k).length = 8 := by simp [mixL]
theorem mixL_nth (k j : Nat) (h : j < 8) : nth (0, false) (mixL k) j = (j, decide (j < k)) := by
  rw [nth_eq _ _ j (by rw [mixL_length]; exact h)]; simp [mixL]
theorem mixL_set (k : Nat) : (mixL k).set k (k, true) = mixL (k + 1) := by
  apply List.ext_getElem
  · simp [mixL]
  · intro i h1 h2
    rw [List.getElem_set]
    by_cases e : k = i
    · subst e; simp [mixL]
    · rw [if_neg e]
      simp [mixL]
      omega
theorem set_six {α : Type} (A B : List α) (a0 a1 a2 a3 a4 a5 x0 x1 x2 x3 x4 x5 : α) (n : Nat) (hA : A.length = n) :
    ((((((A ++ (a0 :: a1 :: a2 :: a3 :: a4 :: a5 :: B)).set n x0).set (n + 1) x1).set (n + 2) x2).set (n + 3) x3).set (n + 4) x4).set (n + 5) x5 = A ++ (x0 :: x1 :: x2 :: x3 :: x4 :: x5 :: B) := by
  subst hA
  simp
theorem six_of {α : Type} (L : List α) (n : Nat) (h : n + 6 ≤ L.length) : ∃ a0 a1 a2 a3 a4 a5, L = L.take n ++ (a0 :: a1 :: a2 :: a3 :: a4 :: a5 :: L.drop (n + 6)) := by
  refine ⟨L[n], L[n + 1], L[n + 2], L[n + 3], L[n + 4], L[n + 5], ?_⟩
  conv => lhs; rw [← List.take_append_drop n L]
  congr 1
  rw [List.drop_eq_getElem_cons (by omega), List.drop_eq_getElem_cons (by omega : n + 1 < L.length), List.drop_eq_getElem_cons (by omega : n + 1 + 1 < L.length), List.drop_eq_getElem_cons (by omega : n + 1 + 1 + 1 < L.length), List.drop_eq_getElem_cons (by omega : n + 1 + 1 + 1 + 1 < L.length), List.drop_eq_getElem_cons (by omega : n + 1 + 1 + 1 + 1 + 1 < L.length)]
/-- One more book of a row is written. -/
theorem all_put {W : World} {g e base cap k : Nat} {ok : Nat → Prop} {xs : List (Nat × Bool)} {y : Nat × Bool} {x0 x1 x2 x3 x4 x5 : Value} (h : OwnK kBk e base ok W (.slice (some ⟨g, 0, none⟩) xs.length cap) xs) (hk : k < xs.length) (hx : BkK (fun b => ok b ∧ b ≠ g) W y [x0, x1, x2, x3, x4, x5]) :
    OwnK kBk e base ok ((((((W.setCell ⟨g, k * 6, none⟩ x0).setCell ⟨g, k * 6 + 1, none⟩ x1).setCell ⟨g, k * 6 + 2, none⟩ x2).setCell ⟨g, k * 6 + 3, none⟩ x3).setCell ⟨g, k * 6 + 4, none⟩ x4).setCell ⟨g, k * 6 + 5, none⟩ x5) (.slice (some ⟨g, 0, none⟩) xs.length cap) (xs.set k y) ∧
    Upd (fun z => z = g) W ((((((W.setCell ⟨g, k * 6, none⟩ x0).setCell ⟨g, k * 6 + 1, none⟩ x1).setCell ⟨g, k * 6 + 2, none⟩ x2).setCell ⟨g, k * 6 + 3, none⟩ x3).setCell ⟨g, k * 6 + 4, none⟩ x4).setCell ⟨g, k * 6 + 5, none⟩ x5) := by
  have hu : Upd (fun z => z = g) W ((((((W.setCell ⟨g, k * 6, none⟩ x0).setCell ⟨g, k * 6 + 1, none⟩ x1).setCell ⟨g, k * 6 + 2, none⟩ x2).setCell ⟨g, k * 6 + 3, none⟩ x3).setCell ⟨g, k * 6 + 4, none⟩ x4).setCell ⟨g, k * 6 + 5, none⟩ x5) :=
    (((((Upd.setCell (fun z => z = g) W g (k * 6) x0 rfl).trans (Upd.setCell (fun z => z = g) _ g (k * 6 + 1) x1 rfl) fun _ _ h => h).trans (Upd.setCell (fun z => z = g) _ g (k * 6 + 2) x2 rfl) fun _ _ h => h).trans (Upd.setCell (fun z => z = g) _ g (k * 6 + 3) x3 rfl) fun _ _ h => h).trans (Upd.setCell (fun z => z = g) _ g (k * 6 + 4) x4 rfl) fun _ _ h => h).trans (Upd.setCell (fun z => z = g) _ g (k * 6 + 5) x5 rfl) fun _ _ h => h
  obtain ⟨cells, ho, hr⟩ := h
  have h6 := (((((ho.stored (k * 6) x0).1.stored (k * 6 + 1) x1).1.stored (k * 6 + 2) x2).1.stored (k * 6 + 3) x3).1.stored (k * 6 + 4) x4).1.stored (k * 6 + 5) x5
  have hlen : cells.length = xs.length * 6 := hr.1
  obtain ⟨a0, a1, a2, a3, a4, a5, e6⟩ := six_of cells (k * 6) (by omega)
  have hset := set_six (cells.take (k * 6)) (cells.drop (k * 6 + 6)) a0 a1 a2 a3 a4 a5 x0 x1 x2 x3 x4 x5 (k * 6) (by rw [List.length_take]; omega)
  rw [← e6] at hset
  have h7 := h6.1
  rw [hset] at h7
  refine ⟨⟨_, by rw [List.length_set]; exact h7, ?_⟩, hu⟩
  have hx' : kBk.K (fun b => ok b ∧ (Value.slice (some ⟨g, 0, none⟩) xs.length cap).ownBlock ≠ some b) W y [x0, x1, x2, x3, x4, x5] := kBk.weak (fun b _ hb => ⟨hb.1, fun e => hb.2 (Option.some.inj e).symm⟩) hx
  rcases hr.set k hx' with h8 | h8
  · have h9 := h8.keep (hu.keep (ok := fun b => ok b ∧ (Value.slice (some ⟨g, 0, none⟩) xs.length cap).ownBlock ≠ some b) fun b hb e => hb.2 (by rw [e]; rfl))
    simpa [kBk] using h9
  · omega
/-- A book of a row. -/
theorem rd_bk {ok : Nat → Prop} {w : World} {A : Option Addr} {c : Nat} {xs : List (Nat × Bool)} (h : Sl kBk ok w A c xs) (j : Nat) (hj : j < xs.length) :
    ∃ ad cs, A = some ad ∧ ok ad.block ∧ BkK ok w (nth (0, false) xs j) cs ∧ (∀ v, cs[0]? = some v → w.cell? (ad.add (j * 6)) = some v) ∧ ∀ i v, cs[i]? = some v → w.cell? ((ad.add (j * 6)).add i) = some v := by
  obtain ⟨ad, cs, e, ho, hl, hK, hc⟩ := h.rd j hj
  refine ⟨ad, cs, e, ho, hK, fun v hv => ?_, fun i v hv => ?_⟩
  · have := hc 0 v hv
    exact this
  · have := hc i v hv
    rw [add_add]
    exact this
theorem own_bk {ok : Nat → Prop} {w : World} {g e base cap n : Nat} {xs : List (Nat × Bool)} (h : OwnK kBk e base ok w (.slice (some ⟨g, 0, none⟩) n cap) xs) (j : Nat) (hj : j < xs.length) :
    ∃ cs, BkK (fun b => ok b ∧ b ≠ g) w (nth (0, false) xs j) cs ∧ (∀ i v, cs[i]? = some v → w.cell? ⟨g, j * 6 + i, none⟩ = some v) ∧ ∀ i, w.frozen? ⟨g, i, none⟩ = false := by
  obtain ⟨cells, ho, hr⟩ := h
  refine ⟨_, kBk.weak (fun b _ hb => ⟨hb.1, fun e => hb.2 (by rw [e]; rfl)⟩) (hr.2 j hj), fun i v hv => ?_, fun i => ?_⟩
  · rw [List.getElem?_take] at hv
    split at hv
    · rw [List.getElem?_drop] at hv
      have hc := World.ownsRow.cells ho (g := g) rfl (j * 6 + i) v hv
      rwa [add_plain] at hc
    · cases hv
  · rcases ho.2 with ⟨h', _⟩ | ⟨g', cap', cur, h', _, hh, _⟩
    · cases h'
    · have : g = g' := by injection h' with h'; injection h' with h'; injection h' with h'
      subst this
      simp [World.frozen?, hh]
theorem own_fr {ok : Nat → Prop} {w : World} {g e base cap n : Nat} {xs : List (Nat × Bool)} (h : OwnK kBk e base ok w (.slice (some ⟨g, 0, none⟩) n cap) xs) (i : Nat) : w.frozen? ⟨g, i, none⟩ = false := by
  obtain ⟨cells, ho, hr⟩ := h
  rcases ho.2 with ⟨h', _⟩ | ⟨g', cap', cur, h', _, hh, _⟩
  · cases h'
  · have : g = g' := by injection h' with h'; injection h' with h'; injection h' with h'
    subst this
    simp [World.frozen?, hh]
theorem bare_mix {ok : Nat → Prop} {w : World} {cells : List Value} (h : Reps kBk ok w bareL cells) : Reps kBk ok w (mixL 1) cells := by
  refine ⟨h.1, fun j hj => ?_⟩
  have h8 : j < 8 := hj
  have h2 := h.2 j hj
  have e1 : nth kBk.dflt bareL j = (j, false) := by
    show nth (0, false) bareL j = (j, false)
    rw [nth_eq (0, false) bareL j hj]; simp [bareL]
  have e2 : nth kBk.dflt (mixL 1) j = (j, decide (j < 1)) := mixL_nth 1 j h8
  rw [e1] at h2
  rw [e2]
  by_cases h0 : j = 0
  · subst h0
    rcases h2 with ⟨h, _⟩ | ⟨_, e⟩
    · cases h
    · exact .inl ⟨rfl, none, 0, none, 0, e, sl_nil _, sl_nil _⟩
  · rw [decide_eq_false (by omega)]
    exact h2

set_option maxHeartbeats 2000000 in
set_option maxRecDepth 100000 in
theorem rall_any (w : World) :
    Calls Tryd.prog 56 #[] w fun e w' => ∃ g, e = .returned (.slice (some ⟨g, 0, none⟩) 8 8) ∧ Sl kBk (fun x => w.heap.size ≤ x) w' (some ⟨g, 0, none⟩) 8 allK ∧ Below w.heap.size w w' := by
  go_enter Tryd.func56, Tryd.ntmps56
  go_wp2_with (go_at_call 42; refine (bare_ex _).mono ?_; rintro e W1 ⟨g, rfl, b3, hge, _, hO⟩)
  have hO1 : OwnK kBk 74 w.heap.size (fun x => w.heap.size ≤ x ∨ x < w.heap.size) W1 (.slice (some ⟨g, 0, none⟩) 8 8) (mixL 1) := by
    obtain ⟨cells, ho, hr⟩ := hO
    exact ⟨cells, ho, (bare_mix hr).weak fun b _ h => ⟨.inr h.1, h.2⟩⟩
  have hO2 : OwnK kBk 74 w.heap.size (fun x => w.heap.size ≤ x) W1 (.slice (some ⟨g, 0, none⟩) 8 8) (mixL 1) := by
    obtain ⟨cells, ho, hr⟩ := hO
    refine ⟨cells, ho, ?_⟩
    have h2 := (bare_reps (fun b => w.heap.size ≤ b ∧ (Value.slice (some ⟨g, 0, none⟩) 8 8).ownBlock ≠ some b) W1)
    refine bare_mix ⟨hr.1, fun j hj => ?_⟩
    rcases hr.2 j hj with ⟨h, _⟩ | h
    · have h8 : j < 8 := hj
      have e1 : nth kBk.dflt bareL j = (j, false) := by
        show nth (0, false) bareL j = (j, false)
        rw [nth_eq _ _ j hj]; simp [bareL]
      rw [e1] at h
      cases h
    · exact .inr h
  have HB0 := Lib.hid b3
  have HG := Lib.hid (show w.heap.size ≤ g ∧ g < W1.heap.size from ⟨hge, (hO.lt g rfl).2⟩)
  have HOO := Lib.hid hO2
  clear hO hO1 hO2 b3 hge
  go_loopw [2] (fun iv wr => ∃ k : Nat, iv = .int .i64 (k : Int) ∧ 1 ≤ k ∧ k ≤ 8 ∧ Hid (OwnK kBk 74 w.heap.size (fun x => w.heap.size ≤ x) wr (.slice (some ⟨g, 0, none⟩) 8 8) (mixL k)) ∧ Hid (Below w.heap.size w wr)) (fun iv _ => 8 - (intOf iv).toNat)
  case atStart => exact ⟨1, rfl, Nat.le_refl _, by omega, HOO, HB0⟩
  case round =>
    clear HOO
    obtain ⟨k, rfl, hk1, hk8, hO, hB⟩ := hrel
    by_cases hlt : k < 8
    · obtain ⟨cs, hK, hc, hf⟩ := own_bk hO.out k (by rw [mixL_length]; exact hlt)
      rw [mixL_nth k k hlt, decide_eq_false (by omega)] at hK
      rcases hK with ⟨h, _⟩ | ⟨_, rfl⟩
      · cases h
      · have k0 := hc 0 _ rfl
        have k1 := hc 1 _ rfl
        have k2 := hc 2 _ rfl
        have k3 := hc 3 _ rfl
        have k4 := hc 4 _ rfl
        have k5 := hc 5 _ rfl
        rw [Nat.add_zero] at k0
        have hki : (k : Int) ≤ 7 := by omega
        have hki8 : (k : Int) < 8 := by omega
        have hwk : IntKind.i64.wrap ((k : Int) + 1) = (k : Int) + 1 := IntWalk.i64_in _ (by omega)
        have HM := Lib.hid (made_any k wr hk1 hlt)
        obtain ⟨n, hn⟩ : ∃ n, (tabKI k).length = n := ⟨_, rfl⟩
        have HNN := Lib.hid hn
        unfold bookM at HM
        rw [hn] at HM
        have hw0 := hB.out.size
        clear hc hf hn
        go_wp2_with (go_at_call 71; refine HM.out.mono ?_; rintro e w3 ⟨A1, c1, A2, c2, rfl, hs1, hs2, b3⟩; have HO3 := Lib.hid (show OwnK kBk 74 w.heap.size (fun x => w.heap.size ≤ x) w3 (.slice (some ⟨g, 0, none⟩) (mixL k).length 8) (mixL k) from hO.out.below b3); have HS1 := Lib.hid (hs1.weak (ok' := fun b => w.heap.size ≤ b ∧ b ≠ g) (fun x _ h => by have := hO.out.lt g rfl; omega)); have HS2 := Lib.hid (hs2.weak (ok' := fun b => w.heap.size ≤ b ∧ b ≠ g) (fun x _ h => by have := hO.out.lt g rfl; omega)); have q0 := cell_below b3 k0; have q1 := cell_below b3 k1; have q2 := cell_below b3 k2; have q3 := cell_below b3 k3; have q4 := cell_below b3 k4; have q5 := cell_below b3 k5; have f0 := own_fr HO3.out (k * 6); have f1 := own_fr HO3.out (k * 6 + 1); have f2 := own_fr HO3.out (k * 6 + 2); have f3 := own_fr HO3.out (k * 6 + 3); have f4 := own_fr HO3.out (k * 6 + 4); have f5 := own_fr HO3.out (k * 6 + 5))
        obtain ⟨p1, pu⟩ := all_put (y := (k, true)) (x0 := .int .i64 (dimB k)) (x1 := .int .i64 (mostB k)) (x2 := .int .i64 (fallB k)) (x3 := .bool (escB k)) (x4 := .slice A1 n c1) (x5 := .slice A2 n c2) HO3.out (by rw [mixL_length]; exact hlt)
          (.inl ⟨rfl, A1, c1, A2, c2, by rw [HNN.out.symm], HS1.out, HS2.out⟩)
        rw [mixL_set] at p1
        go_roundw
        case rel => exact ⟨k + 1, by go_num, by omega, by omega, Lib.hid p1, Lib.hid ((below2 hB.out b3).trans (pu.below (below2 hB.out b3).size (fun x _ e => by have := HG.out; omega)))⟩
        case measure => simp [intOf]; omega
    · obtain rfl : k = 8 := by omega
      have HR := Lib.hid hO.out.rd
      go_wp2
      go_ret
      obtain ⟨A, c, e, hs⟩ := HR.out
      cases e
      have e8 : mixL 8 = allK := by decide
      rw [e8] at hs
      exact ⟨g, rfl, hs.weak (fun x _ h => by rcases h with h | h; exact h; have h9 : g = x := Option.some.inj h; have := HG.out; omega), hB.out⟩
end Go.Proofs.YtciknejchglmoaaDoor
