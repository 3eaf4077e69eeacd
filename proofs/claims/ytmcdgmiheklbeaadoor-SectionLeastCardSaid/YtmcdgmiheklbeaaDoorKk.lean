/- section: Write where it writes. · section: Write: what it returns and writes. · The document's rows of bits: Bits; rows of bools compared; the statements' Holds, Right, Few: what each call returns. · The statements' Holds, Right, Few, few: what each call returns. · The statements' Bytes: Right, Begun; Room: Begun: what each call returns. · The statements' Bytes: Begun: what it returns. · The statements' Room: Begun: what it returns. · The statements about sections: awake: what it returns. · slices.Compare of numbers: what it returns. · section: less, better, joined: what each call returns. · rows of a call's own within a range over an iterator: kept, grown. · section: rows: what it returns. -/
import Derived.Test.YtmcdgmiheklbeaaDoorKj
import Derived.Test.YtmcdgmiheklbeaaDoorKd
import Derived.Test.YtmcdgmiheklbeaaDoorKb
import Derived.Test.YtmcdgmiheklbeaaDoorKh
import Derived.OwnWalkIn
namespace Go.Proofs.YtmcdgmiheklbeaaDoor
open Go.RowKit
attribute [local go_sem] Oper.semAt_some

/-- The writer's blocks as they are: what is not one of them is kept. -/
theorem Wr.exactly {o : Nat → Prop} {W W' : World} {g : Nat} {bits : List Bool} (h : Wr o W g bits) (hb : Below W.heap.size W W') :
    ∃ of_ : Nat → Prop, (∀ b, of_ b → o b ∧ b < W.heap.size) ∧ BwI of_ W' g bits W' ∧ ∀ W2, Upd of_ W' W2 → KeepsOthers W' W2 := by
  obtain ⟨vv, hw⟩ := h
  have hx := show WrF (foot g vv) W g vv bits from hw.exact
  refine ⟨foot g vv, fun b hf => hw.foot_in b hf, ⟨?_, Upd.refl _ _⟩, fun W2 hu => (hx.below hb).others hu⟩
  exact ((show Wr (foot g vv) W g bits from ⟨vv, hx⟩).below hb).weak fun b _ h => .inl h
theorem secB_mono (ws l : List Int) (b : Int) (a n : Nat) : ∀ j, (secB ws l b a n).length ≤ (secB ws l b a (n + j)).length
  | 0 => Nat.le_refl _
  | j + 1 => by
    have h1 := secB_mono ws l b a n j
    rw [← Nat.add_assoc, secB_succ, List.length_append]; omega
theorem leaves_marks2 {F : Fence} {n : Nat} {P : Program} {fn : Func} {tmps : Array Value} {R : Ending → World → Prop} {J : World → Prop} {M : Nat → Prop} (hJ : ∀ W D, M D → J W → W.heap[D]? = some (.deferred (some [])) → J (W.putObj D (.deferred none))) (hR : ∀ W, J W → LeavesInM F n P fn tmps R [] .returning W) :
    ∀ (Ds : List Nat) (W : World), Ds.Nodup → (∀ D ∈ Ds, M D ∧ W.heap[D]? = some (.deferred (some []))) → J W → LeavesInM F n P fn tmps R (Ds.map fun D => { target := .collected D, args := #[] }) .returning W
  | [], W, _, _, h => hR W h
  | D :: Ds, W, hn, hd, h => by
    obtain ⟨h0, h1⟩ := hd D (List.mem_cons_self ..)
    refine ⟨by simp, .inl ⟨D, _, rfl, run_takeDeferred h1, leaves_marks2 hJ hR Ds _ (List.nodup_cons.1 hn).2 (fun D' h' => ?_) (hJ W D h0 h h1)⟩⟩
    obtain ⟨h4, h2⟩ := hd D' (List.mem_cons_of_mem _ h')
    have h3 : D' ≠ D := fun e => (List.nodup_cons.1 hn).1 (e ▸ h')
    exact ⟨h4, ((Keep.of_grown (grownBy_putObj' W D _)).blk D' (Array.getElem?_eq_some_iff.1 h2).1 (fun e => h3 (Option.some.inj e))).trans h2⟩
theorem secP_mono (ws l : List Int) (s : List (Int × Int)) (k : Nat) : ∀ j, (secP ws l s k).length ≤ (secP ws l s (k + j)).length
  | 0 => Nat.le_refl _
  | j + 1 => by
    have h1 := secP_mono ws l s k j
    show _ ≤ (secP ws l s (k + j) ++ _).length
    rw [List.length_append]; omega
/-- What lies in memory between two sections. -/
structure WqI (o : Nat → Prop) (W0 : World) (g g4 g11 : Nat) (bits : List Bool) (n : Nat) (Ds : List Nat) (W : World) : Prop where
  wr : Wr (fun b => o b ∨ W0.heap.size ≤ b) W g bits
  upd : Upd (fun b => o b ∨ b = g11) W0 W
  pc : Blk W g4 #[.pointer (some ⟨g, 0, none⟩)] 53
  cnt : Blk W g11 #[.int .i64 (n : Int)] 3
  nd : Ds.Nodup
  ds : ∀ D ∈ Ds, W0.heap.size ≤ D ∧ W.heap[D]? = some (.deferred (some []))

set_option maxHeartbeats 8000000 in
set_option maxRecDepth 100000 in
theorem sWrite_go (o : Nat → Prop) (g : Nat) (A B D : Option Addr) (c d e0 : Nat) (ws l : List Int) (s : List (Int × Int)) (bs : List Bool) (w : World) (N : Nat) (ho : ∀ b, o b → b < w.heap.size) (h : Wr o w g bs) (hS : Sl (kInt .i64) (fun b => ¬ o b) w A c ws) (hT : Sl (kInt .i64) (fun b => ¬ o b) w B d l) (hR : Sl kSe (fun b => ¬ o b) w D e0 s) (hG : GF w) (hGT : GT w) (ng : ¬ o 0) (nt : ¬ o 1) (hw : ws.length ≤ 100000) (hE : costQ ws l s = ((N : Int), 0)) (hl : bs.length + N ≤ 1048576) :
    Calls Tryd.prog 25 #[.pointer (some ⟨g, 0, none⟩), .slice A ws.length c, .slice B l.length d, .slice D s.length e0] w fun e w' => e = .returned (.int .i64 0) ∧ Wr (fun b => o b ∨ w.heap.size ≤ b) w' g (bs ++ secP ws l s s.length) ∧ Upd o w w' := by
  obtain ⟨hsu, hco, hcq⟩ := costQ_ok (show (costQ ws l s).2 = 0 by rw [hE])
  obtain ⟨ck1, ck2, ck3, ck4, ck5, ck6⟩ := costV_ok hco
  have hNl : N = (secP ws l s s.length).length := by rw [hcq] at hE; have := congrArg Prod.fst hE; simp at this; omega
  have hba := below_alloc (Below.refl w.heap.size w) (.cells #[.pointer (some ⟨g, 0, none⟩)] 53)
  have B4 : Blk (w.alloc (.cells #[.pointer (some ⟨g, 0, none⟩)] 53)) w.heap.size #[.pointer (some ⟨g, 0, none⟩)] 53 := heap_alloc_new w _
  obtain ⟨g4, hg4⟩ : ∃ g4, w.heap.size = g4 := ⟨_, rfl⟩
  obtain ⟨W1, hW1⟩ : ∃ W1, w.alloc (.cells #[.pointer (some ⟨g, 0, none⟩)] 53) = W1 := ⟨_, rfl⟩
  rw [hW1] at hba B4
  rw [hg4] at B4
  have HC := Lib.hid (sCost_any A B D c d e0 ws l s _ (hS.any.below hba) (hT.any.below hba) (hR.any.below hba) (hG.below hba) (hGT.below hba) hw)
  rw [hE] at HC
  have hd : decide ((1048576 : Int) < (bs.length : Int) + (N : Int)) = false := decide_eq_false (by omega)
  have hwp : IntKind.i64.wrap ((bs.length : Int) + (N : Int)) = (bs.length : Int) + (N : Int) := IntWalk.i64_in _ (by omega)
  have k40 := B4.cell 0 rfl
  have HBA := Lib.hid hba
  have H := Lib.hid h
  have HB4 := Lib.hid B4
  have HS := Lib.hid hS
  have HT := Lib.hid hT
  have HR := Lib.hid hR
  have HGG := Lib.hid (And.intro hG hGT)
  have HO := Lib.hid ho
  have HL := Lib.hid hl
  have HN := Lib.hid hNl
  have HCK := Lib.hid (And.intro ck1 ck5)
  have HSU := Lib.hid hsu
  have HG4 := Lib.hid hg4
  clear h hS hT hR hG hGT hw hE hba hl B4 ho hsu hco hcq ck1 ck2 ck3 ck4 ck5 ck6 hNl
  refine (callsIn_wide (n := 9)).1 ?_
  refine callsIn_of_wp_marks Tryd.func25 rfl trivial ?_ rfl
  simp only [Tryd.ntmps25, List.size_toArray, List.length_cons, List.length_nil, Nat.reduceAdd, Nat.reduceSub, Array.replicate_succ, Array.replicate_zero, List.push_toArray, List.append_toArray, List.nil_append, List.cons_append]
  gi_wp2_with (first
    | (refine ⟨trivial, ?_⟩; (try simp only [hW1, hg4]); gi_at_call 24; refine (callsIn_wide.2 HC.out).mono ?_; rintro e w2 ⟨rfl, b2⟩; have hw2 := H.out.below (below2 HBA.out b2); have k4 := (HB4.out.below b2).cell 0 rfl; have HB2 := Lib.hid b2)
    | (refine ⟨trivial, ?_⟩; gi_at_call 23; refine (callsIn_wide.2 (wlen_any o g bs _ hw2)).mono ?_; rintro e w3 ⟨rfl, rfl⟩))
  obtain ⟨g11, hg11⟩ : ∃ g11, w2.heap.size = g11 := ⟨_, rfl⟩
  have hb11 := below_alloc (Below.refl w2.heap.size w2) (.cells #[.int .i64 0] 3)
  have B11 : Blk (w2.alloc (.cells #[.int .i64 0] 3)) g11 #[.int .i64 0] 3 := by rw [← hg11]; exact heap_alloc_new w2 _
  obtain ⟨W0, hW0⟩ : ∃ W0, w2.alloc (.cells #[.int .i64 0] 3) = W0 := ⟨_, rfl⟩
  have hz11 : W0.heap.size = g11 + 1 := by rw [← hW0, World.size_alloc, hg11]
  rw [hW0] at hb11 B11
  simp only [hg11, hW0]
  have hb1 : Below W1.heap.size W1 W0 := below2 HB2.out hb11
  have hlow : Below w.heap.size w W0 := HBA.out.trans (hb1.mono HBA.out.size)
  have HORD := Lib.hid (show w.heap.size = g4 ∧ g4 < g11 ∧ g11 < W0.heap.size from ⟨HG4.out, by have := HB4.out.lt; have := HB2.out.size; omega, by omega⟩)
  have HLOW := Lib.hid hlow
  have HI0 : Hid (WqI o W0 g g4 g11 (bs ++ secP ws l s 0) (secA s 0) [] W0) := Lib.hid ⟨(by show Wr _ W0 g (bs ++ []); rw [List.append_nil]; exact (H.out.below hlow).weak fun b _ h => .inl h), Upd.refl _ _, HB4.out.below hb1, B11, List.nodup_nil, fun D h => by simp at h⟩
  have HNG := Lib.hid (And.intro ng nt)
  obtain ⟨hok, h128, hsum, hqu⟩ := sureE_facts HSU.out
  have HOKA := Lib.hid hok
  have HSUM := Lib.hid hsum
  have HLL := Lib.hid (show l.length ≤ 16384 by rw [← hsum]; have := sumV_le (ws := ws) ws.length (Nat.le_refl _) (by rw [List.take_length]; exact hok); omega)
  have HLS := Lib.hid (bks_shape HCK.out.1)
  clear hb11 B11 hb1 hlow hw2 k4 k40 hd hwp hW0 hz11 hg11 hok hsum hqu HB2 HB4 HBA HC H
  have hls : s.length ≤ 128 := HLS.out.1
  refine wpIn_loop (fun a' w' => ∃ (u13 u14 u35 u36 u37 u38 u39 u40 u41 u42 u43 u44 u45 u46 u47 u48 u49 u50 u51 u52 u53 u54 u55 u56 u57 u58 u59 u60 u61 u62 u63 u64 u65 u66 u67 u68 u69 u70 u71 u72 u73 : Value) (k : Nat) (Ds : List Nat), k ≤ s.length ∧ Hid (WqI o W0 g g4 g11 (bs ++ secP ws l s k) (secA s k) Ds w') ∧ a' = { tmps := (.pointer (some ⟨g, 0, none⟩) :: .slice A ws.length c :: .slice B l.length d :: .slice D s.length e0 :: .pointer (some ⟨g4, 0, none⟩) :: undef :: undef :: undef :: .int .i64 0 :: .int .i64 (N : Int) :: .int .i64 0 :: .pointer (some ⟨g11, 0, none⟩) :: undef :: u13 :: u14 :: .pointer (some ⟨g, 0, none⟩) :: .bool false :: .tuple #[.int .i64 (N : Int), .int .i64 0] :: .slice A ws.length c :: .slice B l.length d :: .slice D s.length e0 :: .tuple #[.int .i64 (N : Int), .int .i64 0] :: .int .i64 (N : Int) :: .int .i64 0 :: .int .i64 0 :: .bool false :: undef :: .pointer (some ⟨g, 0, none⟩) :: .int .i64 (bs.length : Int) :: .int .i64 (N : Int) :: .int .i64 ((bs.length : Int) + (N : Int)) :: .bool false :: .slice D s.length e0 :: .int .i64 (s.length : Int) :: .int .i64 (k : Int) :: u35 :: u36 :: u37 :: u38 :: u39 :: u40 :: u41 :: u42 :: u43 :: u44 :: u45 :: u46 :: u47 :: u48 :: u49 :: u50 :: u51 :: u52 :: u53 :: u54 :: u55 :: u56 :: u57 :: u58 :: u59 :: u60 :: u61 :: u62 :: u63 :: u64 :: u65 :: u66 :: u67 :: u68 :: u69 :: u70 :: u71 :: u72 :: u73 :: []).toArray, defers := Ds.map fun D => { target := .collected D, args := #[] } }) (fun a' _ => s.length - (intOf (a'.tmps.getD 34 undef)).toNat) ?start ?round
  case start => exact ⟨_, _, _, _, _, _, _, _, _, _, _, _, _, _, _, _, _, _, _, _, _, _, _, _, _, _, _, _, _, _, _, _, _, _, _, _, _, _, _, _, _, 0, [], Nat.zero_le _, HI0, rfl⟩
  case round =>
    rintro a' wr ⟨u13, u14, u35, u36, u37, u38, u39, u40, u41, u42, u43, u44, u45, u46, u47, u48, u49, u50, u51, u52, u53, u54, u55, u56, u57, u58, u59, u60, u61, u62, u63, u64, u65, u66, u67, u68, u69, u70, u71, u72, u73, k, Ds, hk, HI, rfl⟩
    clear HI0
    by_cases hlt : k < s.length
    · have hli : (k : Int) < (s.length : Int) := by omega
      have hk1 : IntKind.i64.wrap ((k : Int) + 1) = ((k + 1 : Nat) : Int) := by rw [IntWalk.i64_in _ (by omega)]; omega
      have hsh := HLS.out.2 k hlt
      have HUW := Lib.hid (show Upd o w wr from (Upd.of_below HLOW.out o).trans HI.out.upd fun b hb h => h.elim id fun e => by have := HORD.out; omega)
      have hkp := HUW.out.keep (ok := fun b => ¬ o b) fun b h => h
      obtain ⟨ad, hAD, _, k0, k1⟩ := rd_se (HR.out.keep hkp) k hlt
      subst hAD
      obtain ⟨x1, hx1⟩ : ∃ x1 : Nat, (nth (0, 0) s k).1 = (x1 : Int) := ⟨(nth (0, 0) s k).1.toNat, by omega⟩
      obtain ⟨m, hm⟩ : ∃ m : Nat, (nth (0, 0) s k).2 = (m : Int) := ⟨(nth (0, 0) s k).2.toNat, by omega⟩
      have HP := Lib.hid (show secP ws l s (k + 1) = secP ws l s k ++ (numB x1 3 ++ gamB m ++ secB ws l (x1 : Int) (secA s k) m) by
        show secP ws l s k ++ _ = _
        rw [hx1, hm, Int.toNat_natCast, Int.toNat_natCast])
      have HA := Lib.hid (show secA s (k + 1) = secA s k + m by rw [secA_succ, hm, Int.toNat_natCast])
      have HPL := Lib.hid (show bs.length + (secP ws l s (k + 1)).length ≤ 1048576 by
        have := secP_mono ws l s (k + 1) (s.length - (k + 1))
        rw [show k + 1 + (s.length - (k + 1)) = s.length by omega, ← HN.out] at this
        have := HL.out
        omega)
      have HAM := Lib.hid (show secA s k + m ≤ ws.length by
        have := secA_mono s (k + 1) (s.length - (k + 1))
        rw [show k + 1 + (s.length - (k + 1)) = s.length by omega, HCK.out.2, HA.out] at this
        exact this)
      rw [hx1] at k0
      rw [hm] at k1
      have HMB := Lib.hid (show x1 < 8 ∧ 1 ≤ m ∧ m ≤ 128 by omega)
      clear hx1 hm hsh hkp
      obtain ⟨n0, hn0⟩ : ∃ n0, secA s k = n0 := ⟨_, rfl⟩
      obtain ⟨bits0, hb0⟩ : ∃ bits0, bs ++ secP ws l s k = bits0 := ⟨_, rfl⟩
      rw [hn0] at HI HP HA HAM
      rw [hb0] at HI
      have HBT := Lib.hid (show bs ++ secP ws l s (k + 1) = bits0 ++ numB x1 3 ++ gamB m ++ secB ws l (x1 : Int) n0 m by rw [HP.out, ← hb0]; simp)
      have HBL := Lib.hid (show (bits0 ++ numB x1 3 ++ gamB m ++ secB ws l (x1 : Int) n0 m).length ≤ 1048576 by rw [← HBT.out, List.length_append]; exact HPL.out)
      clear hb0 HP HPL hn0
      obtain ⟨g13, hg13⟩ : ∃ g13, wr.heap.size = g13 := ⟨_, rfl⟩
      have hb13 := below_alloc (Below.refl wr.heap.size wr) (.cells #[.int .i64 (x1 : Int), .int .i64 (m : Int)] 67)
      have B13 : Blk (wr.alloc (.cells #[.int .i64 (x1 : Int), .int .i64 (m : Int)] 67)) g13 #[.int .i64 (x1 : Int), .int .i64 (m : Int)] 67 := by rw [← hg13]; exact heap_alloc_new wr _
      obtain ⟨w3, hw3⟩ : ∃ w3, wr.alloc (.cells #[.int .i64 (x1 : Int), .int .i64 (m : Int)] 67) = w3 := ⟨_, rfl⟩
      have hz13 : w3.heap.size = g13 + 1 := by rw [← hw3, World.size_alloc, hg13]
      rw [hw3] at hb13 B13
      obtain ⟨of1, hf1, hq1, ho1⟩ := HI.out.wr.exactly hb13
      have hwz := HI.out.upd.size
      have HOR := Lib.hid (show g11 < g13 ∧ W0.heap.size ≤ g13 ∧ w3.heap.size = g13 + 1 from ⟨by have := HORD.out; omega, by omega, hz13⟩)
      have HF1 := Lib.hid (show ¬ of1 g4 ∧ ¬ of1 g11 ∧ ¬ of1 g13 from
        ⟨fun h => by rcases (hf1 _ h).1 with h | h
                     · have := HO.out _ h; have := HORD.out; omega
                     · have := HORD.out; omega,
         fun h => by rcases (hf1 _ h).1 with h | h
                     · have := HO.out _ h; have := HORD.out; omega
                     · have := HORD.out; omega,
         fun h => by have := (hf1 _ h).2; omega⟩)
      have HFI := Lib.hid (fun b (h : of1 b) => (hf1 b h).1)
      have HO1 := Lib.hid ho1
      have HC3 := Lib.hid (show Blk w3 g4 #[.pointer (some ⟨g, 0, none⟩)] 53 ∧ Blk w3 g11 #[.int .i64 (n0 : Int)] 3 ∧ Blk w3 g13 #[.int .i64 (x1 : Int), .int .i64 (m : Int)] 67 from ⟨HI.out.pc.below hb13, HI.out.cnt.below hb13, B13⟩)
      have HB13 := Lib.hid hb13
      have HG13 := Lib.hid hg13
      have HPUT := Lib.hid (hq1.put (Below.refl _ _) x1 3 (by decide) (by have := HMB.out; omega) (by have := HBL.out; simp only [List.length_append, numB_length] at this; omega))
      have j4 := HC3.out.1.cell 0 rfl
      have j13 := HC3.out.2.2.cell 0 rfl
      have HQ1 := Lib.hid hq1
      clear hb13 B13 hf1 hq1 ho1 hwz hz13
      gi_wp2_with (first
        | (refine ⟨trivial, ?_⟩; (try simp only [hw3, hg13]); gi_at_call 46; refine (callsIn_wide.2 HPUT.out).mono ?_; rintro e w4 ⟨⟨E4, rfl⟩, _, hk4, hq4⟩; have HC4 := Lib.hid (show Blk w4 g4 #[.pointer (some ⟨g, 0, none⟩)] 53 ∧ Blk w4 g13 #[.int .i64 (x1 : Int), .int .i64 (m : Int)] 67 from ⟨HC3.out.1.keep hk4 ⟨HF1.out.1, HC3.out.1.lt⟩, HC3.out.2.2.keep hk4 ⟨HF1.out.2.2, HC3.out.2.2.lt⟩⟩); have i4 := HC4.out.1.cell 0 rfl; have i13 := HC4.out.2.cell 1 rfl; have HQ4 := Lib.hid hq4; have HGA := Lib.hid (hq4.gamma (Below.refl _ _) m HMB.out.2.1 (by have := HMB.out; omega) (by have := HBL.out; simp only [List.length_append, numB_length] at this ⊢; omega)); clear hk4 hq4)
        | (refine ⟨trivial, ?_⟩; gi_at_call 47; refine (callsIn_wide.2 HGA.out).mono ?_; rintro e w5 ⟨⟨E5, rfl⟩, _, _, hq5⟩; have HQ5 := Lib.hid hq5; clear hq5)
        | (refine ⟨trivial, ?_⟩; gi_at_call 48; refine (callsIn_wide.2 (bands_any A B ws.length c l.length d _)).mono ?_; rintro e W6 ⟨h1, h2, rfl, e1, e2, e3, bF, bS, b6⟩))
      have he1 := e1.out
      have he2 := e2.out
      have he3 := e3.out
      have U35 : Upd of1 w3 W6 := HQ5.out.upd.trans (Upd.of_below b6 (fun _ => False)) fun _ _ h => h.elim
      have K36 := U35.keep (ok := fun b => ¬ of1 b) fun b h => h
      obtain ⟨of6, hf6, hq6, ho6⟩ := HQ5.out.wr.exactly b6
      have hz35 := HQ5.out.upd.size
      have hz3 := HOR.out
      have hz0 := HORD.out
      have HC6 := Lib.hid (show Blk W6 g4 #[.pointer (some ⟨g, 0, none⟩)] 53 ∧ Blk W6 g11 #[.int .i64 (n0 : Int)] 3 ∧ Blk W6 g13 #[.int .i64 (x1 : Int), .int .i64 (m : Int)] 67 from ⟨HC3.out.1.keep K36 HF1.out.1, HC3.out.2.1.keep K36 HF1.out.2.1, HC3.out.2.2.keep K36 HF1.out.2.2⟩)
      have HF6 := Lib.hid (show ¬ of6 g4 ∧ ¬ of6 g11 ∧ ¬ of6 g13 ∧ ¬ of6 h1 ∧ ¬ of6 h2 from
        ⟨fun h => by rcases (hf6 _ h).1 with h | h
                     · exact HF1.out.1 h
                     · omega,
         fun h => by rcases (hf6 _ h).1 with h | h
                     · exact HF1.out.2.1 h
                     · omega,
         fun h => by rcases (hf6 _ h).1 with h | h
                     · exact HF1.out.2.2 h
                     · omega,
         fun h => by have := (hf6 _ h).2; omega, fun h => by have := (hf6 _ h).2; omega⟩)
      have HFJ := Lib.hid (show ∀ b, of6 b → o b ∨ W0.heap.size ≤ b from fun b h => by
        rcases (hf6 b h).1 with h | h
        · exact HFI.out b h
        · exact .inr (by omega))
      have HU06 := Lib.hid (show Upd (fun b => o b ∨ b = g11) W0 W6 from (HI.out.upd.trans (Upd.of_below HB13.out (fun _ => False)) fun _ _ h => h.elim).trans U35 fun b hb h => by
        rcases HFI.out b h with h | h
        · exact .inl h
        · omega)
      have HUW6 := Lib.hid (show Upd o w W6 from (Upd.of_below HLOW.out o).trans HU06.out fun b hb h => h.elim id fun e => by omega)
      have HO6 := Lib.hid ho6
      have HKD := Lib.hid (show ∀ D o, wr.heap[D]? = some o → o.isCells = false → W6.heap[D]? = some o from fun D o h h2 =>
        (b6.block D (Array.getElem?_eq_some_iff.1 ((HO1.out _ HQ5.out.upd).same D o ((HB13.out.block D (Array.getElem?_eq_some_iff.1 h).1).trans h) h2)).1).trans ((HO1.out _ HQ5.out.upd).same D o ((HB13.out.block D (Array.getElem?_eq_some_iff.1 h).1).trans h) h2))
      have HZ6 := Lib.hid (show g4 < g11 ∧ g11 < g13 ∧ g13 < h1 ∧ h1 + 1 = h2 ∧ W6.heap.size = h2 + 1 ∧ w.heap.size = g4 ∧ wr.heap.size = g13 from ⟨by omega, by omega, by omega, by omega, by omega, by omega, HG13.out⟩)
      have hkw6 := HUW6.out.keep (ok := fun b => ¬ o b) fun b h => h
      have hS6 := HS.out.keep hkw6
      have hT6 := HT.out.keep hkw6
      have hokA : Sl (kInt .i64) (fun x => x = h1 ∨ x = h2 ∨ (x < w.heap.size ∧ ¬ o x)) W6 A c ws :=
        ((HS.out.weak (ok' := fun b => ¬ o b ∧ b < w.heap.size) fun b hb h => ⟨h, hb⟩).keep (hkw6.weak fun b h => h.1)).weak fun b _ h => .inr (.inr ⟨h.2, h.1⟩)
      obtain ⟨bits3, hb3⟩ : ∃ bits3, bits0 ++ numB x1 3 ++ gamB m = bits3 := ⟨_, rfl⟩
      rw [hb3] at hq6
      have HB3 := Lib.hid hb3
      have HBM := Lib.hid (show ∀ q, q ≤ m → (bits3 ++ secB ws l (x1 : Int) n0 q).length ≤ 1048576 from fun q hq => by
        have h := HBL.out
        have h2 := secB_mono ws l (x1 : Int) n0 q (m - q)
        rw [show q + (m - q) = m by omega] at h2
        rw [hb3] at h
        rw [List.length_append] at h ⊢
        omega)
      have hHO := HO.out
      have hq0 : w.heap.size ≤ W6.heap.size := HUW6.out.size
      clear he1 he2 he3 e1 e2 e3 U35 K36 hf6 ho6 hz35 hz3 hkw6 hb3 b6
      refine range_next rfl (by decide) (gf := 73) (lb := #[.pointer (some ⟨h1, 0, none⟩), .pointer (some ⟨h2, 0, none⟩)]) rfl trivial (enters_of Tryd.func73 (by kernel_rfl) rfl)
        (bands1_yields h1 h2 A B c d ws l W6 (fun x => x = h1 ∨ x = h2 ∨ (x < w.heap.size ∧ ¬ o x)) hS6.any hT6.any bF bS (.inl rfl) (.inr (.inl rfl)) hokA 8 (by decide) HOKA.out HSUM.out h128) (fun r h => h.elim) (fun r h => by have := HZ6.out; omega) (Below.refl _ _) (fun _ => rfl)
        (fun pre W => BwI of6 W6 g (bits3 ++ secB ws l (x1 : Int) n0 (min (pre.length - n0) m)) W) (fun _ _ _ => False) ?hI (fun _ _ _ _ _ h _ _ => h) (by rw [show min (([] : List Nat).length - n0) m = 0 by simp, show secB ws l (x1 : Int) n0 0 = [] from rfl, List.append_nil]; exact hq6)
        (fun x a' W => ∃ g14, Blk W g14 #[.int .i64 (x : Int), bandV B ws x] 92 ∧ a' = { tmps := (.pointer (some ⟨g, 0, none⟩) :: .slice A ws.length c :: .slice B l.length d :: .slice (some ad) s.length e0 :: .pointer (some ⟨g4, 0, none⟩) :: undef :: undef :: undef :: .int .i64 0 :: .int .i64 (N : Int) :: .int .i64 0 :: .pointer (some ⟨g11, 0, none⟩) :: undef :: .pointer (some ⟨g13, 0, none⟩) :: .pointer (some ⟨g14, 0, none⟩) :: .pointer (some ⟨g, 0, none⟩) :: .bool false :: .tuple #[.int .i64 (N : Int), .int .i64 0] :: .slice A ws.length c :: .slice B l.length d :: .slice (some ad) s.length e0 :: .tuple #[.int .i64 (N : Int), .int .i64 0] :: .int .i64 (N : Int) :: .int .i64 0 :: .int .i64 0 :: .bool false :: undef :: .pointer (some ⟨g, 0, none⟩) :: .int .i64 (bs.length : Int) :: .int .i64 (N : Int) :: .int .i64 ((bs.length : Int) + (N : Int)) :: .bool false :: .slice (some ad) s.length e0 :: .int .i64 (s.length : Int) :: .int .i64 (k : Int) :: .bool true :: .pointer (some (ad.add (k * 2))) :: .agg #[.int .i64 (x1 : Int), .int .i64 (m : Int)] :: .pointer (some ⟨g, 0, none⟩) :: .pointer (some ⟨g13, 0, none⟩) :: .int .i64 (x1 : Int) :: .int .i64 E4 :: .pointer (some ⟨g, 0, none⟩) :: .pointer (some ⟨g13, 1, none⟩) :: .int .i64 (m : Int) :: .int .i64 E5 :: .slice A ws.length c :: .slice B l.length d :: .func (.func 73) #[] #[.pointer (some ⟨h1, 0, none⟩), .pointer (some ⟨h2, 0, none⟩)] :: .agg #[.int .i64 (x : Int), bandV B ws x] :: u50 :: u51 :: u52 :: u53 :: u54 :: u55 :: u56 :: u57 :: u58 :: u59 :: u60 :: u61 :: u62 :: u63 :: u64 :: u65 :: u66 :: u67 :: u68 :: u69 :: u70 :: u71 :: u72 :: u73 :: []).toArray, defers := [] })
        ?hAx ?assign ?body ?done ?stop
      case hI =>
        rintro pre X Y row hs hg hr
        have hO : Other X row := fun r e => by
          rcases hr r e with h | ⟨_, x, hx, hc⟩
          · exact h.elim
          · exact ⟨x, hx, hc⟩
        exact ⟨hs.wr.firm hg hO, hs.upd.trans (Upd.of_grown (o := fun b => W6.heap.size ≤ b) hg fun r e => by
          rcases hr r e with h | ⟨h, _⟩
          · exact h.elim
          · exact h) fun b hb h => by omega⟩
      case hAx =>
        rintro x a' _ X Y row ⟨g14, h2, h3⟩ hg hr
        have hO : Other X row := fun r e => by
          rcases hr r e with h | ⟨_, x, hx, hc⟩
          · exact h.elim
          · exact ⟨x, hx, hc⟩
        exact ⟨g14, h2.firm hg hO, h3⟩
      case assign =>
        intro r pre x W K hi _ hK
        simp only [bandV]
        gi_wp2
        have hb := below_alloc (Below.refl W.heap.size W) (.cells #[.int .i64 (x : Int), bandV B ws x] 92)
        exact hK _ _ (keepsL hb) ⟨hb.size, fun i hi _ => hb.block i hi⟩ (hi.below hb) ⟨_, heap_alloc_new W _, rfl⟩
      case stop =>
        rintro D2 cd xs W hD _ h hK
        exact h.elim
      case done =>
        rintro D2 xs W hD rfl hs hK
        rw [List.length_range, show min (ws.length - n0) m = m by have := HAM.out; omega] at hs
        have KC := hs.upd.keep (ok := fun b => ¬ of6 b) fun b h => h
        have Z11 := HC6.out.2.1.keep KC HF6.out.2.1
        have HZZ := Lib.hid (And.intro (HC6.out.1.keep KC HF6.out.1) Z11)
        have k11 := Z11.cell 0 rfl
        have f11 := Z11.free 0
        have k13 := (HC6.out.2.2.keep KC HF6.out.2.2.1).cell 1 rfl
        obtain ⟨n1, hn1⟩ : ∃ n1, n0 + m = n1 := ⟨_, rfl⟩
        have hwa : IntKind.i64.wrap ((n0 : Int) + (m : Int)) = (n1 : Int) := by rw [IntWalk.i64_in _ (by have := HAM.out; omega)]; omega
        have HN1 := Lib.hid (show secA s (k + 1) = n1 from HA.out.trans hn1)
        have HS2 := Lib.hid hs
        have HK := Lib.hid hK
        have HD := Lib.hid hD
        have HNEW : Hid (WqI o W0 g g4 g11 (bs ++ secP ws l s (k + 1)) (secA s (k + 1)) (D2 :: Ds) (W.setCell ⟨g11, 0, none⟩ (.int .i64 (n1 : Int)))) := by
          have hz6 := HZ6.out
          have hu11 : Upd (fun b => b = g11) W (W.setCell ⟨g11, 0, none⟩ (.int .i64 (n1 : Int))) := Upd.setCell _ W g11 0 _ rfl
          have hk11 := hu11.keep (ok := fun b => b ≠ g11) fun b h => h
          have hz06 := HU06.out.size
          rw [HN1.out, HBT.out, HB3.out]
          refine Lib.hid ⟨?_, ?_, HZZ.out.1.keep hk11 (by omega), HZZ.out.2.set 0 _, List.nodup_cons.2 ⟨fun hm => ?_, HI.out.nd⟩, fun D hDm => ?_⟩
          · refine (hs.wr.weak (o' := fun b => o b ∨ W0.heap.size ≤ b) fun b hb h => ?_).upd hu11 fun b hb h e => ?_
            · rcases h with h | h
              · exact HFJ.out b h
              · exact .inr (by omega)
            · rcases h with h | h
              · have := hHO b h; omega
              · omega
          · refine (HU06.out.trans hs.upd fun b hb h => ?_).trans hu11 fun b hb h => .inr h
            rcases HFJ.out b h with h | h
            · exact .inl h
            · omega
          · have := (Array.getElem?_eq_some_iff.1 (HI.out.ds D2 hm).2).1
            omega
          · have key : ∀ D : Nat, W.heap[D]? = some (Obj.deferred (some [])) → (W.setCell ⟨g11, 0, none⟩ (.int .i64 (n1 : Int))).heap[D]? = some (Obj.deferred (some [])) := fun D h => (hu11.blk D (Array.getElem?_eq_some_iff.1 h).1 (fun e => by
              subst e
              rw [show W.heap[D]? = _ from HZZ.out.2] at h; cases h)).trans h
            rcases List.mem_cons.1 hDm with e | h
            · subst e
              exact ⟨by omega, key D hK⟩
            · obtain ⟨q1, q2⟩ := HI.out.ds D h
              exact ⟨q1, key D ((HO6.out W hs.upd).same D _ (HKD.out D _ q2 rfl) rfl)⟩
        clear hs hK Z11 KC hn1 hD bF bS hq6 hS6 hT6 hokA
        gi_wp2
        exact ⟨⟨_, _, _, _, _, _, _, _, _, _, _, _, _, _, _, _, _, _, _, _, _, _, _, _, _, _, _, _, _, _, _, _, _, _, _, _, _, _, _, _, _, k + 1, D2 :: Ds, by omega, HNEW, rfl⟩, by simp [intOf]; omega⟩
      case body =>
        rintro r pre j a' W hs ⟨g14, B14, rfl⟩ ⟨hj, hpre⟩
        have hpl : pre.length = j := by rw [hpre, List.length_range]
        have hpl2 : (pre ++ [j]).length = j + 1 := by rw [List.length_append, hpl]; rfl
        rw [hpl] at hs
        obtain ⟨hwn, hw1, hw128⟩ := okV_at HOKA.out j hj
        have hle2 := sumV_all HSUM.out j hj
        obtain ⟨bd, hBD, _⟩ := rd_int hT6.any 0 (by omega)
        subst hBD
        have hbl : (bndL ws l j).length = widV ws j := by unfold bndL; rw [List.length_take, List.length_drop]; omega
        have hUW : Upd o w W := HUW6.out.trans hs.upd fun b hb h => by
          rcases HFJ.out b h with h | h
          · exact h
          · have := HLOW.out.size; omega
        have hKW := hUW.keep (ok := fun b => ¬ o b) fun b h => h
        have hTW : Sl (kInt .i64) (fun b => ¬ of6 b ∧ b < W6.heap.size) W (some (bd.add (sumV ws j))) (widV ws j) (bndL ws l j) := by
          have h1 := ((HT.out.weak (ok' := fun b => ¬ o b ∧ b < w.heap.size) fun b hb h => ⟨h, hb⟩).keep (hKW.weak fun b h => h.1)).weak (ok' := fun b => ¬ of6 b ∧ b < W6.heap.size) fun b _ h => ⟨fun h6 => by
            rcases HFJ.out b h6 with h7 | h7
            · exact h.1 h7
            · have := HLOW.out.size; omega, by omega⟩
          have h2 := grp_sl h1 (sumV ws j) (widV ws j) hle2
          rw [show sumV ws j * (kInt .i64).size = sumV ws j from Nat.mul_one _] at h2
          have e : (l.take (sumV ws j + widV ws j)).drop (sumV ws j) = bndL ws l j := by unfold bndL; rw [List.drop_take]; congr 1; omega
          rwa [e] at h2
        have hGW := HGG.out.1.keep hKW HNG.out.1
        have hTW2 := HGG.out.2.keep hKW HNG.out.2
        have HBK := Lib.hid (fun q (h1 : min (j - n0) m = q) (h2 : n0 + q = j) (h3 : q + 1 ≤ m) => by
          have hs2 := hs
          rw [h1] at hs2
          have := hs2.book (Below.refl _ _) (some (bd.add (sumV ws j))) (widV ws j) (x1 : Int) (bndL ws l j) hTW hGW hTW2 (by rw [hbl]; omega) (by
            have h4 := HBM.out (q + 1) h3
            rw [secB_succ, h2] at h4
            rw [List.length_append] at h4 ⊢
            rw [List.length_append] at h4
            omega)
          rw [hbl] at this
          rw [List.append_assoc, ← h2, ← secB_succ] at this
          rw [h2] at this
          exact this)
        have KC := hs.upd.keep (ok := fun b => ¬ of6 b) fun b h => h
        have k4 := (HC6.out.1.keep KC HF6.out.1).cell 0 rfl
        have k11 := (HC6.out.2.1.keep KC HF6.out.2.1).cell 0 rfl
        have k13 := (HC6.out.2.2.keep KC HF6.out.2.2.1).cell 0 rfl
        have k13b := (HC6.out.2.2.keep KC HF6.out.2.2.1).cell 1 rfl
        have k14 := B14.cell 0 rfl
        have k14b := B14.cell 1 rfl
        have hbv : bandV (some bd) ws j = .slice (some (bd.add (sumV ws j))) (widV ws j) (widV ws j) := rfl
        rw [hbv] at k14b
        simp only [hbv]
        obtain ⟨n1, hn1⟩ : ∃ n1, n0 + m = n1 := ⟨_, rfl⟩
        have hwa : IntKind.i64.wrap ((n0 : Int) + (m : Int)) = (n1 : Int) := by rw [IntWalk.i64_in _ (by have := HAM.out; omega)]; omega
        have HN1 := Lib.hid hn1
        have HW := Lib.hid hs
        have HPL := Lib.hid hpl2
        clear hs hTW hGW hTW2 hKW hUW KC hbl hwn hw1 hw128 hle2 hpl hpl2 hpre bF bS hq6 hS6 hT6 hokA hbv B14 hn1
        by_cases c1 : n0 ≤ j
        · by_cases c2 : j < n1
          · have d1 : decide ((n0 : Int) ≤ (j : Int)) = true := decide_eq_true (by omega)
            have d2 : decide ((j : Int) < (n1 : Int)) = true := decide_eq_true (by omega)
            have HB := Lib.hid (HBK.out (j - n0) (by have := HN1.out; omega) (by omega) (by have := HN1.out; omega))
            have HE := Lib.hid (show min ((pre ++ [j]).length - n0) m = j - n0 + 1 by rw [HPL.out]; have := HN1.out; omega)
            gi_wp2_with (refine ⟨trivial, ?_⟩; gi_at_call 49; refine (CallsIn.inRound r (callsIn_wide.2 HB.out)).mono ?_; rintro e w7 ⟨⟨E7, rfl⟩, hk7, hp7, hq7⟩)
            refine ⟨hk7, ?_, ?_⟩
            · exact hp7.weak fun i hi => by
                have hz6 := HZ6.out
                have hz0 := HORD.out
                have hl6 := HLOW.out.size
                rcases hi with rfl | rfl | hi
                · exact ⟨HF6.out.2.2.2.1, by omega⟩
                · exact ⟨HF6.out.2.2.2.2, by omega⟩
                · exact ⟨fun h6 => by
                    rcases HFJ.out i h6 with h7 | h7
                    · exact hi.2 h7
                    · omega, by omega⟩
            · show BwI of6 W6 g _ w7
              rw [HE.out]
              exact hq7
          · have d1 : decide ((n0 : Int) ≤ (j : Int)) = true := decide_eq_true (by omega)
            have d2 : decide ((j : Int) < (n1 : Int)) = false := decide_eq_false (by omega)
            have HE := Lib.hid (show min ((pre ++ [j]).length - n0) m = min (j - n0) m by rw [HPL.out]; have := HN1.out; omega)
            gi_wp2_with fail
            refine ⟨keepsL (Below.refl _ _), Keep.refl _ _, ?_⟩
            show BwI of6 W6 g _ W
            rw [HE.out]
            exact HW.out
        · have d1 : decide ((n0 : Int) ≤ (j : Int)) = false := decide_eq_false (by omega)
          have HE := Lib.hid (show min ((pre ++ [j]).length - n0) m = min (j - n0) m by rw [HPL.out]; omega)
          gi_wp2_with fail
          refine ⟨keepsL (Below.refl _ _), Keep.refl _ _, ?_⟩
          show BwI of6 W6 g _ W
          rw [HE.out]
          exact HW.out
    · obtain rfl : k = s.length := by omega
      have hnl : ¬ (s.length : Int) < (s.length : Int) := by omega
      gi_wp2
      have hz0 := HORD.out
      have hl := HLOW.out.size
      have hg4' := HG4.out
      refine leaves_marks2 (J := fun W => Wr (fun b => o b ∨ g4 ≤ b) W g (bs ++ secP ws l s s.length) ∧ Upd o w W) (M := fun D => w.heap.size ≤ D) (fun W D hD h h2 => ?_) (fun W h => ⟨.int .i64 0, by simp [results, Tryd.f25, go_sem], rfl, h⟩) Ds wr HI.out.nd (fun D hD => ⟨by have := (HI.out.ds D hD).1; omega, (HI.out.ds D hD).2⟩) ⟨HI.out.wr.weak (fun b _ h => ?_), ?_⟩
      · have hg := grownBy_putObj' W D (Obj.deferred none)
        exact ⟨h.1.firm hg fun r e => by cases e; exact ⟨_, h2, rfl⟩, h.2.trans (Upd.of_grown (o := fun b => w.heap.size ≤ b) hg fun r e => by cases e; exact hD) fun b hb h => by omega⟩
      · rcases h with h | h
        · exact .inl h
        · exact .inr (by omega)
      · exact (Upd.of_below HLOW.out o).trans HI.out.upd fun b hb h => h.elim id fun e => by omega
end Go.Proofs.YtmcdgmiheklbeaaDoor

namespace Go.Proofs.YtmcdgmiheklbeaaDoor
open Go.RowKit

/-- The error of Write, behind so many bits. -/
def wrS (ws l : List Int) (s : List (Int × Int)) (n : Nat) : Int := if (costQ ws l s).2 ≠ 0 then (costQ ws l s).2 else if 1048576 < (n : Int) + (costQ ws l s).1 then 2 else 0
/-- The bits behind Write. -/
def wrB (ws l : List Int) (s : List (Int × Int)) (bs : List Bool) : List Bool := if wrS ws l s bs.length = 0 then bs ++ secP ws l s s.length else bs
theorem costQ_le (ws l : List Int) (s : List (Int × Int)) (N : Nat) (h : costQ ws l s = ((N : Int), 0)) : N ≤ 100000000 := by
  obtain ⟨hsu, hco, hcq⟩ := costQ_ok (show (costQ ws l s).2 = 0 by rw [h])
  obtain ⟨hok, h128, hsum, _⟩ := sureE_facts hsu
  have h1 := (ways_of_cost hco).bound hok h128
  obtain ⟨_, _, _, _, _, h6⟩ := costV_ok hco
  have h2 : costQ ws l s = ((costV ws l s).1, 0) := by rw [hcq, h6]
  rw [h2] at h
  have h3 := congrArg Prod.fst h
  simp only at h3
  rw [h3] at h1
  have := h1.2
  omega
theorem sWrite_any (o : Nat → Prop) (g : Nat) (A B D : Option Addr) (c d e0 : Nat) (ws l : List Int) (s : List (Int × Int)) (bs : List Bool) (w : World) (ho : ∀ b, o b → b < w.heap.size) (h : Wr o w g bs) (hS : Sl (kInt .i64) (fun b => ¬ o b) w A c ws) (hT : Sl (kInt .i64) (fun b => ¬ o b) w B d l) (hR : Sl kSe (fun b => ¬ o b) w D e0 s) (hG : GF w) (hGT : GT w) (ng : ¬ o 0) (nt : ¬ o 1) (hw : ws.length ≤ 100000) (hl : bs.length ≤ 1048576) :
    Calls Tryd.prog 25 #[.pointer (some ⟨g, 0, none⟩), .slice A ws.length c, .slice B l.length d, .slice D s.length e0] w fun e w' => e = .returned (.int .i64 (wrS ws l s bs.length)) ∧ Wr (fun b => o b ∨ w.heap.size ≤ b) w' g (wrB ws l s bs) ∧ Upd o w w' := by
  by_cases he : (costQ ws l s).2 = 0
  · obtain ⟨hsu, hco, hcq⟩ := costQ_ok he
    obtain ⟨N, hN⟩ : ∃ N : Nat, (secP ws l s s.length).length = N := ⟨_, rfl⟩
    rw [hN] at hcq
    have hNb := costQ_le ws l s N hcq
    by_cases hf : bs.length + N ≤ 1048576
    · have e1 : wrS ws l s bs.length = 0 := by unfold wrS; rw [if_neg (by simp [he]), hcq, if_neg (by show ¬ (1048576 : Int) < (bs.length : Int) + (N : Int); omega)]
      unfold wrB
      rw [e1, if_pos rfl]
      exact sWrite_go o g A B D c d e0 ws l s bs w N ho h hS hT hR hG hGT ng nt hw hcq hf
    · have e1 : wrS ws l s bs.length = 2 := by unfold wrS; rw [if_neg (by simp [he]), hcq, if_pos (by show (1048576 : Int) < (bs.length : Int) + (N : Int); omega)]
      unfold wrB
      rw [e1, if_neg (by decide)]
      exact (sWrite_full o g A B D c d e0 ws l s bs w N h hS.any hT.any hR.any hG hGT hw hcq hNb hl (by omega)).mono fun _ _ ⟨q1, q2⟩ => ⟨q1, (h.below q2).weak (fun _ _ x => .inl x), Upd.of_below q2 o⟩
  · have e1 : wrS ws l s bs.length = (costQ ws l s).2 := by unfold wrS; rw [if_pos he]
    unfold wrB
    rw [e1, if_neg he]
    exact (sWrite_err o g A B D c d e0 ws l s bs w h hS.any hT.any hR.any hG hGT hw he).mono fun _ _ ⟨q1, q2⟩ => ⟨q1, (h.below q2).weak (fun _ _ x => .inl x), Upd.of_below q2 o⟩
end Go.Proofs.YtmcdgmiheklbeaaDoor

namespace Go.Proofs.YtmcdgmiheklbeaaDoor
open Go.RowKit

end Go.Proofs.YtmcdgmiheklbeaaDoor

namespace Go.Proofs.YtmcdgmiheklbeaaDoor
open Go.RowKit

end Go.Proofs.YtmcdgmiheklbeaaDoor

namespace Go.Proofs.YtmcdgmiheklbeaaDoor
open Go.RowKit

end Go.Proofs.YtmcdgmiheklbeaaDoor

namespace Go.Proofs.YtmcdgmiheklbeaaDoor
open Go.RowKit

end Go.Proofs.YtmcdgmiheklbeaaDoor

namespace Go.Proofs.YtmcdgmiheklbeaaDoor
open Go.RowKit

end Go.Proofs.YtmcdgmiheklbeaaDoor

namespace Go.Proofs.YtmcdgmiheklbeaaDoor
open Go.RowKit

section
variable {P : Program} {ops : Array Oper} {Q : Exit → Act → World → Prop}
/-- Memory is made, as one step of a drawn region: the world is a letter at once. -/
theorem step_mem {E : Prop} {K : Act → World → Prop} {o : Oper} {a : Act} {W : World} (cs : Array Value) (t : TypeId) (V : Nat → Value) (hgd : o.guard = none)
    (hrun : (execOp a.eval o).run P W = .ok (.value (V W.heap.size)) (W.alloc (.cells cs t (0, 0))))
    (h : ∀ (g : Nat) (w1 : World), Hid (g = W.heap.size) → Hid (w1.heap.size = g + 1) → Below W.heap.size W w1 → Blk w1 g cs t → K (a.put o.dst (V g)) w1) :
    if Region.wanted o (yielded ops a.tmps) = true then Oper.wp P o a W K Q else E := by
  rw [if_pos (by simp [Region.wanted, hgd])]
  unfold Oper.wp
  rw [hrun]
  exact h _ _ (Lib.hid rfl) (Lib.hid (World.size_alloc _ _)) (((Below.refl _ _).alloc (Nat.le_refl _) _)) (heap_alloc_new W _)
end
theorem blk_ri {w : World} {g : Nat} {t : TypeId} {k : IntKind} {xs : List Int} (h : Blk w g (nums k xs).toArray t) (hm : xs.length ≤ 9223372036854775807) : Sl (kInt k) (fun x => x = g) w (some ⟨g, 0, none⟩) xs.length xs := by
  refine ⟨Nat.le_refl _, hm, fun j hj => ⟨_, [.int k (nth 0 xs j)], rfl, rfl, h.lt, rfl, fun i v hv => ?_⟩⟩
  match i, hv with
  | 0, hv =>
    simp at hv
    subst hv
    have h1 := h.cell j (v := .int k (nth 0 xs j)) (by rw [List.getElem?_toArray]; exact nums_get k xs j hj)
    rw [show j * (kInt k).size + 0 = j from by show j * 1 + 0 = j; omega, add_plain]
    exact h1
theorem made_numsX (k : IntKind) (m : Nat) : madeCells #[Value.int k 0] m = (nums k (List.replicate m 0)).toArray := by
  apply Array.ext
  · simp [nums, madeCells]
  · intro i h1 h2
    simp [nums, madeCells, Nat.mod_one]
/-- A literal of sections. -/
theorem lit_se (W : World) (xs : List (Int × Int)) (hm : xs.length ≤ 9223372036854775807) : Sl kSe (fun x => x = W.heap.size) (W.alloc (.cells (flat2 xs).toArray 67)) (some ⟨W.heap.size, 0, none⟩) xs.length xs := by
  have h := World.ownsRow_lit (base := W.heap.size) (e := 67) (size := 2) W (flat2 xs).toArray xs.length (Nat.le_refl _) (by simpa [maxLen] using hm) (by simp [flat2_length])
  have h2 : OwnS W.heap.size (W.alloc (.cells (flat2 xs).toArray 67)) (.slice (some ⟨W.heap.size, 0, none⟩) xs.length xs.length) xs := ⟨flat2 xs, by simpa [kSe] using h, reps_flat xs⟩
  obtain ⟨A, c, e, hs⟩ := h2.rd
  injection e with e1 e2 e3
  subst e1 e3
  exact hs.weak fun b _ hb => hb.elim False.elim fun hb => by have := Option.some.inj hb; exact this.symm
theorem packB_in18 (bs : List Bool) : ∀ x ∈ packB bs, 0 ≤ x ∧ x < 256 := fun x hx => by
  simp only [packB, List.mem_map, List.mem_range] at hx
  obtain ⟨j, _, rfl⟩ := hx
  have := byteB_lt bs j
  exact ⟨Int.natCast_nonneg _, by show ((byteB bs j : Nat) : Int) < 256; omega⟩
def exW : List Int := [4, 4, 4]
def exZ : List Int := List.replicate 12 0
def exS : List (Int × Int) := [(0, 3)]
def exR : List (Int × Int) := [(1, 2), (0, 1), (2, 1)]
def exB18 : List Bool := wrB exW exZ exS []
set_option maxRecDepth 100000 in
theorem e18_runs : runsL [1, 1, 0, 2] = exR ∧ runsE [1, 1, 0, 2] = 0 := by decide +kernel
set_option maxRecDepth 100000 in
theorem e18_books : booksL exR = [1, 1, 0, 2] ∧ booksE exR = 0 := by decide +kernel
set_option maxRecDepth 100000 in
theorem e18_cost : costQ exW exZ exS = (6, 0) := by decide +kernel
set_option maxRecDepth 100000 in
theorem e18_wr : wrS exW exZ exS 0 = 0 ∧ exB18.length = 6 := by decide +kernel
set_option maxRecDepth 100000 in
theorem e18_pk : (packB exB18).length = 1 ∧ ofB (packB exB18) 6 = exB18 := by decide +kernel
set_option maxRecDepth 100000 in
theorem e18_rd : (readS exW exB18).1 = exZ ∧ (readS exW exB18).2.1 = exS ∧ (readS exW exB18).2.2.1 = 0 := by decide +kernel

theorem runs_ex (w : World) : Calls Tryd.prog 18 #[.slice (some ⟨w.heap.size, 0, none⟩) 4 4] (w.alloc (.cells #[.int .i64 1, .int .i64 1, .int .i64 0, .int .i64 2] 3)) fun e w' => ∃ A c, e = .returned (.tuple #[.slice A 3 c, .int .i64 0]) ∧ RS w' A c exR ∧ Below w.heap.size w w' := by
  have b1 := lit_be w 3 .i64 [1, 1, 0, 2]
  refine (runs_any _ 4 [1, 1, 0, 2] _ (lit_ri w 3 .i64 [1, 1, 0, 2] (by decide))).mono ?_
  rintro e w' ⟨v, rfl, hO, hb⟩
  rw [e18_runs.1] at hO
  rw [e18_runs.2]
  obtain ⟨A, c, rfl, hs⟩ := own_rs hO
  exact ⟨A, c, rfl, hs.any, below2 b1 hb⟩
theorem sames_ex (A : Option Addr) (c : Nat) (w : World) (h : RS w A c exR) : Calls Tryd.prog 14 #[.slice A 3 c, .slice (some ⟨w.heap.size, 0, none⟩) 3 3] (w.alloc (.cells #[.int .i64 1, .int .i64 2, .int .i64 0, .int .i64 1, .int .i64 2, .int .i64 1] 67)) fun e w' => e = .returned (.bool true) ∧ Below w.heap.size w w' := by
  have b1 := below_alloc (Below.refl w.heap.size w) (.cells (flat2 exR).toArray 67)
  refine (rsame_any A _ c 3 exR exR _ (h.below b1) (lit_se w exR (by decide)).any).mono ?_
  rintro e w' ⟨rfl, hb⟩
  exact ⟨by rw [sameS_refl], below2 b1 hb⟩
theorem ints18_ex (A : Option Addr) (c : Nat) (w : World) (h : RI w A c [1, 1, 0, 2]) : Calls Tryd.prog 13 #[.slice A 4 c, .slice (some ⟨w.heap.size, 0, none⟩) 4 4] (w.alloc (.cells #[.int .i64 1, .int .i64 1, .int .i64 0, .int .i64 2] 3)) fun e w' => e = .returned (.bool true) ∧ Below w.heap.size w w' := by
  have b1 := lit_be w 3 .i64 [1, 1, 0, 2]
  refine (ints_ref A _ c 4 [1, 1, 0, 2] [1, 1, 0, 2] _ (h.below b1) (lit_ri w 3 .i64 [1, 1, 0, 2] (by decide))).mono ?_
  rintro e w' ⟨rfl, hb⟩
  exact ⟨by rw [sameL_refl], below2 b1 hb⟩

set_option maxHeartbeats 4000000 in
set_option maxRecDepth 100000 in
theorem awake18_any (w : World) (hG : GF w) (hT : GT w) : Calls Tryd.prog 9 #[] w fun e w' => e = .returned (.bool true) ∧ Below w.heap.size w w' := by
  have hS := GS.of hG hT
  have b := Below.refl w.heap.size w
  clear hG hT
  have hmk : ∀ W : World, (Instr.makeSlice 25 (.int .i64 12) (.int .i64 12)).run Tryd.prog W = .ok (.slice (some ⟨W.heap.size, 0, none⟩) 12 12) (W.alloc (.cells (madeCells #[.int .i64 0] 12) 3)) := make_row (P := Tryd.prog) 25 3 .i64 8 Tryd.underlying25 infoI (by decide) 12 (by decide)
  go_enter Tryd.func9, Tryd.ntmps9
  go_upto_region 1 with fail
  go_cut [1, 2] (fun s1 s2 wx => ∃ g1 g2 : Nat, s1 = .slice (some ⟨g1, 0, none⟩) 3 3 ∧ s2 = .slice (some ⟨g2, 0, none⟩) 12 12 ∧ Hid (Blk wx g1 (nums .i64 exW).toArray 3) ∧ Hid (Blk wx g2 (nums .i64 exZ).toArray 3) ∧ Hid (Below w.heap.size w wx))
  case first =>
    have hd := (Below.refl w.heap.size w).drew
    refine wp_region_G 3 (fun _ => True) (by kernel_rfl) trivial (fun hHeld => ?_)
    refine wpAnyG_br (rs := [0,1]) (by kernel_rfl) (by simp) ?_
    refine AllG.cons (i := 0) rfl (fun K hK => ?_) ?_
    · skip
      (refine step_mem (nums .i64 exW).toArray 3 (fun g => .slice (some ⟨g, 0, none⟩) 3 3) rfl ?hr ?_; (case hr => first | (go_simp; done) | (go_simp; rfl)); intro g1 V1 e1 z1 b1 y1)
      refine hK.out _ _ (fun _ => trivial) ?_
      clear hK K
      try simp only [Act.put, List.setIfInBounds_toArray, List.set_cons_zero, List.set_cons_succ]
      refine wpAnyG_takeL (i := 2) (.slice (some ⟨g1, 0, none⟩) 3 3) [3] rfl (by kernel_rfl) (fun _ _ _ h => h) hHeld (by rfl) ?_ ?_
      · (intro W' hSw; (try dsimp only at hSw); go_simp)
      try simp only [Act.put, List.setIfInBounds_toArray, List.set_cons_zero, List.set_cons_succ]
      refine wpAnyG_oneL (i := 1) (by kernel_rfl) rfl (fun K hK => ?_)
      (refine step_mem (madeCells #[.int .i64 0] 12) 3 (fun g => .slice (some ⟨g, 0, none⟩) 12 12) rfl ?hr ?_; (case hr => first | (go_simp; done) | (go_simp; rfl)); intro g2 V2 e2 z2 b2 y2)
      refine hK.out _ _ (fun _ => trivial) ?_
      clear hK K
      try simp only [Act.put, List.setIfInBounds_toArray, List.set_cons_zero, List.set_cons_succ]
      refine wpAnyG_oneL (i := 3) (by kernel_rfl) rfl (fun K hK => ?_)
      (go_simp)
      refine hK.out _ _ (fun h => Bool.noConfusion (show true = false from h)) ?_
      clear hK K
      clear hHeld
      refine wpAnyG_done (by kernel_rfl) ?_ _
      go_wp2_with fail
      go_meet
      exact ⟨g1, g2, rfl, rfl, Lib.hid (y1.below b2), Lib.hid (by rw [made_numsX] at y2; exact y2), Lib.hid (below2 (below2 hd b1) b2)⟩
    refine AllG.cons (i := 1) rfl (fun K hK => ?_) ?_
    · skip
      (refine step_mem (madeCells #[.int .i64 0] 12) 3 (fun g => .slice (some ⟨g, 0, none⟩) 12 12) rfl ?hr ?_; (case hr => first | (go_simp; done) | (go_simp; rfl)); intro g2 V1 e1 z1 b1 y2)
      refine hK.out _ _ (fun _ => trivial) ?_
      clear hK K
      try simp only [Act.put, List.setIfInBounds_toArray, List.set_cons_zero, List.set_cons_succ]
      refine wpAnyG_oneL (i := 0) (by kernel_rfl) rfl (fun K hK => ?_)
      (refine step_mem (nums .i64 exW).toArray 3 (fun g => .slice (some ⟨g, 0, none⟩) 3 3) rfl ?hr ?_; (case hr => first | (go_simp; done) | (go_simp; rfl)); intro g1 V2 e2 z2 b2 y1)
      refine hK.out _ _ (fun _ => trivial) ?_
      clear hK K
      try simp only [Act.put, List.setIfInBounds_toArray, List.set_cons_zero, List.set_cons_succ]
      refine wpAnyG_takeL (i := 2) (.slice (some ⟨g1, 0, none⟩) 3 3) [3] rfl (by kernel_rfl) (fun _ _ _ h => h) hHeld (by rfl) ?_ ?_
      · (intro W' hSw; (try dsimp only at hSw); go_simp)
      try simp only [Act.put, List.setIfInBounds_toArray, List.set_cons_zero, List.set_cons_succ]
      refine wpAnyG_oneL (i := 3) (by kernel_rfl) rfl (fun K hK => ?_)
      (go_simp)
      refine hK.out _ _ (fun h => Bool.noConfusion (show true = false from h)) ?_
      clear hK K
      clear hHeld
      refine wpAnyG_done (by kernel_rfl) ?_ _
      go_wp2_with fail
      go_meet
      exact ⟨g1, g2, rfl, rfl, Lib.hid y1, Lib.hid ((by rw [made_numsX] at y2; exact y2 : Blk V1 g2 (nums .i64 exZ).toArray 3).below b2), Lib.hid (below2 (below2 hd b1) b2)⟩
    exact AllG.nil
  case rest =>
    obtain ⟨g1, g2, rfl, rfl, hy1, hy2, hb0⟩ := hcut
    have h1 : Sl (kInt .i64) (fun x => x < wc.heap.size) wc (some ⟨g1, 0, none⟩) 3 exW := (blk_ri hy1.out (by decide)).weak fun x hx _ => hx
    have h2 : Sl (kInt .i64) (fun x => x < wc.heap.size) wc (some ⟨g2, 0, none⟩) 12 exZ := (blk_ri hy2.out (by decide)).weak fun x hx _ => hx
    replace hS := hS.below hb0.out
    replace b := hb0.out
    clear hy1 hy2 hb0 hmk
    have hb3 := below_alloc (Below.refl wc.heap.size wc) (.cells (flat2 exS).toArray 67)
    have h3 : Sl kSe (fun x => x = wc.heap.size) (wc.alloc (.cells (flat2 exS).toArray 67)) (some ⟨wc.heap.size, 0, none⟩) 1 exS := lit_se wc exS (by decide)
    obtain ⟨g3, hg3⟩ : ∃ g3, wc.heap.size = g3 := ⟨_, rfl⟩
    obtain ⟨W3, hW3⟩ : ∃ W3, wc.alloc (.cells #[.int .i64 0, .int .i64 3] 67) = W3 := ⟨_, rfl⟩
    replace h3 : Sl kSe (fun x => x < W3.heap.size) W3 (some ⟨g3, 0, none⟩) 1 exS := by
      rw [← hW3, ← hg3]
      exact h3.weak fun x hx _ => hx
    replace hb3 : Below wc.heap.size wc W3 := by rw [← hW3]; exact hb3
    have hz3 := hb3.size
    replace h1 := (h1.below hb3).weak (ok' := fun x => x < W3.heap.size) fun x hx _ => hx
    replace h2 := (h2.below hb3).weak (ok' := fun x => x < W3.heap.size) fun x hx _ => hx
    replace hS := hS.below hb3
    replace b := below2 b hb3
    obtain ⟨n3, hn3⟩ : ∃ n3, W3.heap.size = n3 := ⟨_, rfl⟩
    rw [hn3] at h1 h2 h3
    have HN3 := Lib.hid hn3
    clear hb3 hz3 hn3
    go_wp2_with fail
    try simp only [hW3, hg3]
    refine (runs_ex _).mono ?_
    rintro e w4 ⟨A4, c4, rfl, h4, b1⟩
    replace h1 := h1.below b1; replace h2 := h2.below b1; replace h3 := h3.below b1; replace hS := hS.below b1; replace b := below2 b b1
    have HN4 := Lib.hid (show n3 ≤ w4.heap.size by have := HN3.out; have := b1.size; omega)
    clear b1 hW3 hg3
    go_wp2_with fail
    refine (books_any A4 c4 exR _ h4).mono ?_
    rintro e w5 ⟨v6, rfl, hO, b1⟩
    rw [e18_books.1] at hO
    rw [e18_books.2]
    obtain ⟨A6, c6, rfl, h6⟩ := own_ri hO
    replace h1 := h1.below b1; replace h2 := h2.below b1; replace h3 := h3.below b1; replace h4 := h4.below b1; replace hS := hS.below b1; replace b := below2 b b1
    replace HN4 := Lib.hid (Nat.le_trans HN4.out b1.size)
    clear b1 hO
    go_wp2_with fail
    refine (sCost_any _ _ _ 3 12 1 exW exZ exS _ h1.any h2.any h3.any hS.f hS.t (by decide)).mono ?_
    rw [e18_cost]
    rintro e w6 ⟨rfl, b1⟩
    replace h1 := h1.below b1; replace h2 := h2.below b1; replace h3 := h3.below b1; replace h4 := h4.below b1; replace h6 := h6.below b1; replace hS := hS.below b1; replace b := below2 b b1
    replace HN4 := Lib.hid (Nat.le_trans HN4.out b1.size)
    clear b1
    go_wp2_with fail
    refine (wnew_any _).mono ?_
    rintro e w7 ⟨g, rfl, hw, b1, hg⟩
    have hgl : g < w7.heap.size := hw.lt
    have hgn : n3 ≤ g := Nat.le_trans HN4.out hg
    have hgw : w.heap.size ≤ g := by have := b.size; omega
    replace h1 := h1.below b1; replace h2 := h2.below b1; replace h3 := h3.below b1; replace h4 := h4.apart b1 hg; replace h6 := h6.apart b1 hg; replace hS := hS.below b1; replace b := below2 b b1
    clear b1 hg HN4
    go_wp2_with fail
    refine (sWrite_any _ g _ _ _ 3 12 1 exW exZ exS [] _ (fun x e => by rw [e]; exact hgl) hw (h1.weak fun x _ h e => by omega) (h2.weak fun x _ h e => by omega) (h3.weak fun x _ h e => by omega) hS.f hS.t (fun e => by have := hS.lf; omega) (fun e => by have := hS.lt; omega) (by decide) (by decide)).mono ?_
    rw [show ([] : List Bool).length = 0 from rfl, e18_wr.1, show wrB exW exZ exS [] = exB18 from rfl]
    rintro e w8 ⟨rfl, hw8, hu⟩
    have hk := hu.keep (ok := fun x => x ≠ g) fun _ h => h
    replace h1 := (h1.weak (ok' := fun x => x ≠ g) fun x _ h e => by omega).keep hk
    replace h2 := (h2.weak (ok' := fun x => x ≠ g) fun x _ h e => by omega).keep hk
    replace h3 := (h3.weak (ok' := fun x => x ≠ g) fun x _ h e => by omega).keep hk
    replace h4 := h4.keep hk; replace h6 := h6.keep hk
    replace hS := hS.upd hu (fun x h e => by omega)
    replace b := b.trans (hu.below b.size (fun x _ e => by omega)); clear hu hw hk
    go_wp2_with fail
    refine (wbytes_any _ g exB18 _ hw8 (by rw [e18_wr.2]; decide)).mono ?_
    rintro e w9 ⟨v7, rfl, hO, b1⟩
    obtain ⟨A7, c7, rfl, h7⟩ := own_ri hO
    have hpb : ∀ x ∈ packB exB18, 0 ≤ x ∧ x < 256 := packB_in18 exB18
    rw [e18_pk.1]
    clear hO
    replace hS := hS.below b1; replace h1 := h1.below b1; replace h2 := h2.below b1; replace h3 := h3.below b1; replace h4 := h4.below b1; replace h6 := h6.below b1; replace hw8 := hw8.below b1; replace b := below2 b b1; clear b1
    go_wp2_with fail
    refine (wlen_any _ g exB18 _ hw8).mono ?_
    rw [e18_wr.2]
    rintro e w10 ⟨rfl, rfl⟩
    go_wp2_with fail
    have ho := ropen_ok A7 c7 (packB exB18) 6 w9 h7 hpb (by rw [e18_pk.1]; decide) (by rw [e18_pk.1]; decide) (by decide)
    rw [e18_pk.1, e18_pk.2] at ho
    refine ho.mono ?_
    rintro e w11 ⟨gr, rfl, hr, b1, hg⟩
    replace h1 := h1.any.apart b1 hg; replace h2 := h2.any.apart b1 hg; replace h3 := h3.any.apart b1 hg; replace h4 := h4.any.apart b1 hg; replace h6 := h6.any.apart b1 hg
    have hgr : w.heap.size ≤ gr := by have := b.size; omega
    replace hS := hS.below b1; replace b := below2 b b1; clear b1 hg ho h7 hw8 hpb
    go_wp2_with fail
    refine (sRead_any _ gr 0 _ 3 exW exB18 _ hr.cut (fun x h => h.2) h1 hS.f hS.t (fun e => by have := hS.lf; omega) (fun e => by have := hS.lt; omega) (by decide)).mono ?_
    rw [show exB18.drop 0 = exB18 from rfl, e18_rd.1, e18_rd.2.1, e18_rd.2.2]
    rintro e w12 ⟨va, vb, rfl, hOa, hOb, _, hu⟩
    obtain ⟨A14, c14, rfl, h14⟩ := own_ri hOa
    obtain ⟨A15, c15, rfl, h15⟩ := own_rs hOb
    rw [show exZ.length = 12 from rfl, show exS.length = 1 from rfl]
    have hk := hu.keep (ok := fun x => x ≠ gr) fun _ h => h
    replace h2 := (h2.keep hk).any
    replace h3 := (h3.keep hk).any
    replace h4 := (h4.keep hk).any
    replace h6 := (h6.keep hk).any
    replace b := b.trans (hu.below b.size (fun x _ e => by omega)); clear hu hr hOa hOb hS hk h1
    have HH3 := h3
    clear h3
    go_wp2_with fail
    refine (sames_ex A4 c4 _ h4).mono ?_
    rintro e w13 ⟨rfl, b1⟩
    replace h2 := h2.below b1; replace HH3 := HH3.below b1; replace h6 := h6.below b1; replace h14 := h14.below b1; replace h15 := h15.below b1; replace b := below2 b b1
    clear b1 h4
    go_wp2_with fail
    refine (ints18_ex A6 c6 _ h6).mono ?_
    rintro e w14 ⟨rfl, b1⟩
    replace h2 := h2.below b1; replace HH3 := HH3.below b1; replace h14 := h14.below b1; replace h15 := h15.below b1; replace b := below2 b b1
    clear b1 h6
    go_wp2_with fail
    refine (ints_ref A14 _ c14 12 exZ exZ _ h14 h2).mono ?_
    rintro e w15 ⟨rfl, b1⟩
    rw [sameL_refl]
    replace HH3 := HH3.below b1; replace h15 := h15.below b1; replace b := below2 b b1
    clear b1 h14 h2
    go_wp2_with fail
    refine (rsame_any A15 _ c15 1 exS exS _ h15.any HH3).mono ?_
    rintro e w16 ⟨rfl, b1⟩
    rw [sameS_refl]
    replace b := below2 b b1
    clear b1 h15 HH3
    go_wp2
    go_ret
    exact ⟨rfl, b⟩
end Go.Proofs.YtmcdgmiheklbeaaDoor

namespace Go.Proofs.YtmcdgmiheklbeaaDoor
open Go.RowKit
attribute [local go_sem] Oper.semAt_some

/-- How two numbers compare. -/
def cmpI (x y : Int) : Int := if x < y then -1 else if y < x then 1 else 0
/-- How two lists compare. -/
def cmpL : List Int → List Int → Int
  | [], [] => 0
  | [], _ :: _ => -1
  | _ :: _, [] => 1
  | x :: xs, y :: ys => if x = y then cmpL xs ys else cmpI x y
theorem cmpL_lex : ∀ a b : List Int, decide (cmpL a b < 0) = lexB a b
  | [], [] => rfl
  | [], _ :: _ => rfl
  | _ :: _, [] => rfl
  | x :: xs, y :: ys => by
    unfold cmpL lexB
    split
    · exact cmpL_lex xs ys
    · unfold cmpI
      split
      · rename_i h; simp [h]
      · rename_i h; split <;> simp [h]
theorem cmpL_drop (a b : List Int) : ∀ k, k ≤ a.length → k ≤ b.length → (∀ i, i < k → nth 0 a i = nth 0 b i) → cmpL a b = cmpL (a.drop k) (b.drop k)
  | 0, _, _, _ => rfl
  | k + 1, ha, hb, h => by
    rw [cmpL_drop a b k (by omega) (by omega) (fun i hi => h i (by omega)), List.drop_eq_getElem_cons (show k < a.length by omega), List.drop_eq_getElem_cons (show k < b.length by omega)]
    have := h k (by omega)
    rw [nth_eq 0 a k (by omega), nth_eq 0 b k (by omega)] at this
    show (if a[k] = b[k] then _ else _) = _
    rw [if_pos this]
set_option maxHeartbeats 1000000 in
theorem nan_any (x : Int) (w : World) : Calls Tryd.prog 121 #[.int .i64 x] w fun e w' => e = .returned (.bool false) ∧ w' = w := by
  have h : (x != x) = false := by simp
  go_enter Tryd.func121, Tryd.ntmps121
  go_wp2
  go_ret
  exact ⟨rfl, rfl⟩
set_option maxHeartbeats 1000000 in
theorem cmpi_any (x y : Int) (w : World) : Calls Tryd.prog 104 #[.int .i64 x, .int .i64 y] w fun e w' => e = .returned (.int .i64 (cmpI x y)) ∧ w' = w := by
  by_cases h1 : x < y
  · have HV := Lib.hid (show cmpI x y = -1 from if_pos h1)
    have d1 : decide (x < y) = true := decide_eq_true h1
    clear h1
    go_enter Tryd.func104, Tryd.ntmps104
    go_wp2_with (go_at_call 121; refine (nan_any _ _).mono ?_; rintro e w2 ⟨rfl, rfl⟩)
    go_ret
    exact ⟨ret_int (by rw [HV.out]), rfl⟩
  · have d1 : decide (x < y) = false := decide_eq_false h1
    by_cases h2 : y < x
    · have HV := Lib.hid (show cmpI x y = 1 by unfold cmpI; rw [if_neg h1, if_pos h2])
      have d2 : decide (y < x) = true := decide_eq_true h2
      clear h1 h2
      go_enter Tryd.func104, Tryd.ntmps104
      go_wp2_with (go_at_call 121; refine (nan_any _ _).mono ?_; rintro e w2 ⟨rfl, rfl⟩)
      go_ret
      exact ⟨ret_int (by rw [HV.out]), rfl⟩
    · have HV := Lib.hid (show cmpI x y = 0 by unfold cmpI; rw [if_neg h1, if_neg h2])
      have d2 : decide (y < x) = false := decide_eq_false h2
      clear h1 h2
      go_enter Tryd.func104, Tryd.ntmps104
      go_wp2_with (go_at_call 121; refine (nan_any _ _).mono ?_; rintro e w2 ⟨rfl, rfl⟩)
      go_ret
      exact ⟨ret_int (by rw [HV.out]), rfl⟩
set_option maxHeartbeats 2000000 in
set_option maxRecDepth 100000 in
theorem compare_any (A B : Option Addr) (c d : Nat) (a b : List Int) (w : World) (hS : RI w A c a) (hT : RI w B d b) :
    Calls Tryd.prog 80 #[.slice A a.length c, .slice B b.length d] w fun e w' => e = .returned (.int .i64 (cmpL a b)) ∧ w' = w := by
  have HS := Lib.hid hS
  have HT := Lib.hid hT
  have la : a.length ≤ 9223372036854775807 := Nat.le_trans hS.1 hS.cap
  have HLA := Lib.hid la
  have HLB := Lib.hid (show b.length ≤ 9223372036854775807 from Nat.le_trans hT.1 hT.cap)
  clear hS hT la
  go_enter Tryd.func80, Tryd.ntmps80
  go_wp2
  go_loopw [5, 6, 7, 8, 11] (fun iv xv yv cv kv wr => ∃ k : Nat, kv = .int .i64 (k : Int) ∧ k ≤ a.length ∧ k ≤ b.length ∧ Hid (∀ i, i < k → nth 0 a i = nth 0 b i) ∧ Hid (wr = w)) (fun _ _ _ _ kv _ => a.length - (intOf kv).toNat)
  case atStart => exact ⟨0, rfl, Nat.zero_le _, Nat.zero_le _, Lib.hid (fun i h => by omega), Lib.hid rfl⟩
  case round =>
    obtain ⟨k, rfl, ha, hb, HE, HW⟩ := hrel
    by_cases hlt : k < a.length
    · have hli : (k : Int) < (a.length : Int) := by omega
      have hk1 : IntKind.i64.wrap ((k : Int) + 1) = ((k + 1 : Nat) : Int) := by rw [IntWalk.i64_in _ (by have := HLA.out; omega)]; omega
      obtain ⟨ad, hAD, k0⟩ := rd_int (show RI wr A c a by rw [HW.out]; exact HS.out) k hlt
      subst hAD
      by_cases hlb : k < b.length
      · have hlib : (k : Int) < (b.length : Int) := by omega
        have hd1 : decide ((b.length : Int) ≤ (k : Int)) = false := decide_eq_false (by omega)
        obtain ⟨bd, hBD, k1⟩ := rd_int (show RI wr B d b by rw [HW.out]; exact HT.out) k hlb
        subst hBD
        have HX := Lib.hid (fun i (hi : i < k + 1) (he : nth 0 a k = nth 0 b k) => show nth 0 a i = nth 0 b i by
          rcases Nat.lt_or_ge i k with h | h
          · exact HE.out i h
          · obtain rfl : i = k := by omega
            exact he)
        have HC := Lib.hid (cmpL_drop a b k ha hb HE.out)
        have HD := Lib.hid (show cmpL (a.drop k) (b.drop k) = if nth 0 a k = nth 0 b k then cmpL (a.drop (k + 1)) (b.drop (k + 1)) else cmpI (nth 0 a k) (nth 0 b k) by
          rw [List.drop_eq_getElem_cons hlt, List.drop_eq_getElem_cons hlb, ← nth_eq 0 a k hlt, ← nth_eq 0 b k hlb]; rfl)
        generalize nth 0 a k = x at *
        generalize nth 0 b k = y at *
        by_cases he : x = y
        · have HX2 := Lib.hid (fun i hi => HX.out i hi he)
          have hcm : cmpI x y = 0 := by unfold cmpI; rw [if_neg (by omega), if_neg (by omega)]
          have HCM := Lib.hid (cmpi_any x y wr)
          rw [hcm] at HCM
          clear he hcm
          go_wp2_with (go_at_call 104; refine HCM.out.mono ?_; rintro e w2 ⟨rfl, rfl⟩)
          go_roundw
          case rel => exact ⟨k + 1, by first | rfl | go_num, by omega, by omega, HX2, HW⟩
          case measure => simp [intOf] <;> omega
        · have hcm : cmpI x y ≠ 0 := by
            unfold cmpI
            split
            · decide
            · split
              · decide
              · omega
          have HV := Lib.hid (show cmpL a b = cmpI x y by rw [HC.out, HD.out, if_neg he])
          have HCM := Lib.hid (cmpi_any x y wr)
          generalize cmpI x y = V at HCM hcm HV
          have hv : (V != 0) = true := by simp [hcm]
          clear he hcm
          go_wp2_with (go_at_call 104; refine HCM.out.mono ?_; rintro e w2 ⟨rfl, rfl⟩)
          go_ret
          exact ⟨ret_int (by rw [HV.out]), HW.out⟩
      · have hd1 : decide ((b.length : Int) ≤ (k : Int)) = true := decide_eq_true (by omega)
        have HV := Lib.hid (show cmpL a b = 1 by
          rw [cmpL_drop a b k ha hb HE.out, List.drop_eq_getElem_cons hlt, List.drop_of_length_le (show b.length ≤ k by omega)]; rfl)
        go_wp2
        go_ret
        exact ⟨ret_int (by rw [HV.out]), HW.out⟩
    · obtain rfl : k = a.length := by omega
      by_cases hlb : a.length < b.length
      · have hd1 : decide ((a.length : Int) < (b.length : Int)) = true := decide_eq_true (by omega)
        have HV := Lib.hid (show cmpL a b = -1 by
          rw [cmpL_drop a b a.length ha hb HE.out, List.drop_of_length_le (Nat.le_refl _), List.drop_eq_getElem_cons hlb]; rfl)
        clear hb
        go_wp2
        go_ret
        exact ⟨ret_int (by rw [HV.out]), HW.out⟩
      · have hd1 : decide ((a.length : Int) < (b.length : Int)) = false := decide_eq_false (by omega)
        have HV := Lib.hid (show cmpL a b = 0 by
          rw [cmpL_drop a b a.length ha hb HE.out, List.drop_of_length_le (Nat.le_refl _), List.drop_of_length_le (show b.length ≤ a.length by omega)]; rfl)
        clear hb
        go_wp2
        go_ret
        exact ⟨ret_int (by rw [HV.out]), HW.out⟩
end Go.Proofs.YtmcdgmiheklbeaaDoor

namespace Go.Proofs.YtmcdgmiheklbeaaDoor
open Go.RowKit
attribute [local go_sem] Oper.semAt_some

/-- A way's cells. -/
def wayC (A : Option Addr) (a : Nat) (B : Option Addr) (b : Nat) (x : Way) : Array Value := #[.int .i64 x.cost, .slice A x.secs.length a, .slice B x.books.length b]
set_option maxHeartbeats 2000000 in
set_option maxRecDepth 100000 in
theorem less_any (x y : Way) (A1 B1 A2 B2 : Option Addr) (a1 b1 a2 b2 : Nat) (w : World) (hx : RI w B1 b1 x.books) (hy : RI w B2 b2 y.books) :
    Calls Tryd.prog 54 #[.agg #[.int .i64 x.cost, .slice A1 x.secs.length a1, .slice B1 x.books.length b1], .agg #[.int .i64 y.cost, .slice A2 y.secs.length a2, .slice B2 y.books.length b2]] w fun e w' => e = .returned (.bool (x.less y)) ∧ Below w.heap.size w w' := by
  have h1 := below_alloc (Below.refl w.heap.size w) (.cells #[.int .i64 x.cost, .slice A1 x.secs.length a1, .slice B1 x.books.length b1] 101)
  have h2 := below_alloc h1 (.cells #[.int .i64 y.cost, .slice A2 y.secs.length a2, .slice B2 y.books.length b2] 101)
  have HC := Lib.hid (compare_any B1 B2 b1 b2 x.books y.books _ (hx.below h2) (hy.below h2))
  have HB := Lib.hid h2
  have HL := Lib.hid (show x.less y = if x.cost = y.cost then decide (cmpL x.books y.books < 0) else decide (x.cost < y.cost) by unfold Way.less; rw [cmpL_lex])
  generalize cmpL x.books y.books = V at *
  generalize x.cost = cx at *
  generalize y.cost = cy at *
  generalize x.books.length = lx at *
  generalize y.books.length = ly at *
  generalize x.secs.length = sx at *
  generalize y.secs.length = sy at *
  generalize x.less y = L at *
  clear h1 h2 hx hy
  by_cases he : cx = cy
  · have hne : (cx != cy) = false := by simp [he]
    have HV := Lib.hid (show decide (V < 0) = L by rw [HL.out, if_pos he])
    clear he
    go_enter Tryd.func54, Tryd.ntmps54
    go_wp2_with (go_at_call 80; refine HC.out.mono ?_; rintro e w2 ⟨rfl, rfl⟩)
    go_ret
    exact ⟨congrArg (fun b => Ending.returned (.bool b)) HV.out, HB.out⟩
  · have hne : (cx != cy) = true := by simp [he]
    have HV := Lib.hid (show decide (cx < cy) = L by rw [HL.out, if_neg he])
    clear he
    go_enter Tryd.func54, Tryd.ntmps54
    go_wp2
    go_ret
    exact ⟨congrArg (fun b => Ending.returned (.bool b)) HV.out, HB.out⟩
set_option maxHeartbeats 2000000 in
set_option maxRecDepth 100000 in
theorem better_none (x : Way) (A1 B1 : Option Addr) (a1 b1 : Nat) (w : World) :
    Calls Tryd.prog 53 #[.pointer none, .agg #[.int .i64 x.cost, .slice A1 x.secs.length a1, .slice B1 x.books.length b1], .func (.func 54) #[] #[]] w
      fun e w' => ∃ g, e = .returned (.pointer (some ⟨g, 0, none⟩)) ∧ w.heap.size ≤ g ∧ Blk w' g (wayC A1 a1 B1 b1 x) 101 ∧ Below w.heap.size w w' := by
  unfold wayC
  generalize x.cost = cx at *
  generalize x.books.length = lx at *
  generalize x.secs.length = sx at *
  have h1 := below_alloc (Below.refl w.heap.size w) (.cells #[.int .i64 cx, .slice A1 sx a1, .slice B1 lx b1] 101)
  have B4 : Blk (w.alloc (.cells #[.int .i64 cx, .slice A1 sx a1, .slice B1 lx b1] 101)) w.heap.size #[.int .i64 cx, .slice A1 sx a1, .slice B1 lx b1] 101 := heap_alloc_new w _
  go_enter Tryd.func53, Tryd.ntmps53
  go_upto_region 1 with fail
  refine wp_region_G 9 (fun _ => True) (by kernel_rfl) trivial (fun hHeld => ?_)
  refine wpAnyG_takeL (i := 0) (.pointer none) [1, 2, 9] rfl (by kernel_rfl) (fun _ _ _ h => h) hHeld (by rfl) ?_ ?_
  · (intro W' hSw; (try dsimp only at hSw); go_simp)
  try simp only [Act.put, List.setIfInBounds_toArray, List.set_cons_zero, List.set_cons_succ]
  refine wpAnyG_takeL (i := 1) (.bool true) [2, 9] rfl (by kernel_rfl) (fun _ _ _ h => h) hHeld (by rfl) ?_ ?_
  · (intro W' hSw; (try dsimp only at hSw); go_simp)
  try simp only [Act.put, List.setIfInBounds_toArray, List.set_cons_zero, List.set_cons_succ]
  refine wpAnyG_takeL (i := 2) (.bool true) [9] rfl (by kernel_rfl) (fun _ _ _ h => h) hHeld (by rfl) ?_ ?_
  · (intro W' hSw; (try dsimp only at hSw); go_simp)
  try simp only [Act.put, List.setIfInBounds_toArray, List.set_cons_zero, List.set_cons_succ]
  refine wpAnyG_dropL (i := 3) [8, 9] rfl (by kernel_rfl) (fun _ _ _ h => h) hHeld (by rfl) ?_
  try simp only [Act.put, List.setIfInBounds_toArray, List.set_cons_zero, List.set_cons_succ]
  refine wpAnyG_dropL (i := 4) [8, 9] rfl (by kernel_rfl) (fun _ _ _ h => h) hHeld (by rfl) ?_
  try simp only [Act.put, List.setIfInBounds_toArray, List.set_cons_zero, List.set_cons_succ]
  refine wpAnyG_dropL (i := 5) [6, 7, 8, 9] rfl (by kernel_rfl) (fun _ _ _ h => h) hHeld (by rfl) ?_
  try simp only [Act.put, List.setIfInBounds_toArray, List.set_cons_zero, List.set_cons_succ]
  refine wpAnyG_dropL (i := 6) [7, 8, 9] rfl (by kernel_rfl) (fun _ _ _ h => h) hHeld (by rfl) ?_
  try simp only [Act.put, List.setIfInBounds_toArray, List.set_cons_zero, List.set_cons_succ]
  refine wpAnyG_dropL (i := 7) [8, 9] rfl (by kernel_rfl) (fun _ _ _ h => h) hHeld (by rfl) ?_
  try simp only [Act.put, List.setIfInBounds_toArray, List.set_cons_zero, List.set_cons_succ]
  refine wpAnyG_dropL (i := 8) [9] rfl (by kernel_rfl) (fun _ _ _ h => h) hHeld (by rfl) ?_
  try simp only [Act.put, List.setIfInBounds_toArray, List.set_cons_zero, List.set_cons_succ]
  refine wpAnyG_oneL (i := 9) (by kernel_rfl) rfl (fun K hK => ?_)
  (go_simp)
  refine hK.out _ _ (fun h => Bool.noConfusion (show true = false from h)) ?_
  clear hK K
  clear hHeld
  refine wpAnyG_done (by kernel_rfl) ?_ _
  go_wp2
  go_ret
  exact ⟨_, rfl, Nat.le_refl _, B4.below (Below.refl _ _).drew, h1.drew⟩
set_option maxHeartbeats 2000000 in
set_option maxRecDepth 100000 in
theorem better_some (x y : Way) (A1 B1 A2 B2 : Option Addr) (a1 b1 a2 b2 g0 : Nat) (w : World) (hx : RI w B1 b1 x.books) (hy : RI w B2 b2 y.books) (h0 : Blk w g0 (wayC A2 a2 B2 b2 y) 101) :
    Calls Tryd.prog 53 #[.pointer (some ⟨g0, 0, none⟩), .agg #[.int .i64 x.cost, .slice A1 x.secs.length a1, .slice B1 x.books.length b1], .func (.func 54) #[] #[]] w
      fun e w' => ∃ g, e = .returned (.pointer (some ⟨g, 0, none⟩)) ∧ (if x.less y = true then w.heap.size ≤ g ∧ Blk w' g (wayC A1 a1 B1 b1 x) 101 else g = g0) ∧ Below w.heap.size w w' := by
  have h1 := below_alloc (Below.refl w.heap.size w) (.cells #[.int .i64 x.cost, .slice A1 x.secs.length a1, .slice B1 x.books.length b1] 101)
  have B4 : Blk (w.alloc (.cells #[.int .i64 x.cost, .slice A1 x.secs.length a1, .slice B1 x.books.length b1] 101)) w.heap.size (wayC A1 a1 B1 b1 x) 101 := heap_alloc_new w _
  obtain ⟨g4, hg4⟩ : ∃ g4, w.heap.size = g4 := ⟨_, rfl⟩
  obtain ⟨W, hW⟩ : ∃ W, w.alloc (.cells #[.int .i64 x.cost, .slice A1 x.secs.length a1, .slice B1 x.books.length b1] 101) = W := ⟨_, rfl⟩
  rw [hg4] at B4
  rw [hW] at h1 B4
  have HF := Lib.hid (show ∀ W' : World, Below W.heap.size W W' → (W'.cell? ⟨g4, 0, none⟩ = some (.int .i64 x.cost) ∧ W'.cell? ⟨g4, 1, none⟩ = some (.slice A1 x.secs.length a1) ∧ W'.cell? ⟨g4, 2, none⟩ = some (.slice B1 x.books.length b1) ∧ W'.cell? ⟨g0, 0, none⟩ = some (.int .i64 y.cost) ∧ W'.cell? ⟨g0, 1, none⟩ = some (.slice A2 y.secs.length a2) ∧ W'.cell? ⟨g0, 2, none⟩ = some (.slice B2 y.books.length b2)) from
    fun W' hb => ⟨(B4.below hb).cell 0 rfl, (B4.below hb).cell 1 rfl, (B4.below hb).cell 2 rfl, ((h0.below h1).below hb).cell 0 rfl, ((h0.below h1).below hb).cell 1 rfl, ((h0.below h1).below hb).cell 2 rfl⟩)
  have HL := Lib.hid (fun W' (hb : Below W.heap.size W W') => less_any x y A1 B1 A2 B2 a1 b1 a2 b2 W' ((hx.below h1).below hb) ((hy.below h1).below hb))
  have HB1 := Lib.hid h1
  have HB4 := Lib.hid B4
  have HG := Lib.hid hg4
  have hd := (Below.refl W.heap.size W).drew
  unfold wayC at HB4 ⊢
  generalize x.less y = L at *
  generalize x.cost = cx at *
  generalize y.cost = cy at *
  generalize x.books.length = lx at *
  generalize y.books.length = ly at *
  generalize x.secs.length = sx at *
  generalize y.secs.length = sy at *
  clear h1 B4 hx hy h0
  go_enter Tryd.func53, Tryd.ntmps53
  go_upto_region 1 with fail
  try simp only [hW, hg4]
  refine wp_region_G 9 (fun W' => W'.cell? ⟨g4, 0, none⟩ = some (.int .i64 cx) ∧ W'.cell? ⟨g4, 1, none⟩ = some (.slice A1 sx a1) ∧ W'.cell? ⟨g4, 2, none⟩ = some (.slice B1 lx b1) ∧ W'.cell? ⟨g0, 0, none⟩ = some (.int .i64 cy) ∧ W'.cell? ⟨g0, 1, none⟩ = some (.slice A2 sy a2) ∧ W'.cell? ⟨g0, 2, none⟩ = some (.slice B2 ly b2)) (by kernel_rfl) (HF.out _ hd) (fun hHeld => ?_)
  refine wpAnyG_takeL (i := 0) (.pointer (some ⟨g0, 0, none⟩)) [1, 2, 9] rfl (by kernel_rfl) (fun _ _ _ h => h) hHeld (by rfl) ?_ ?_
  · (intro W' hSw; (try dsimp only at hSw); go_simp)
  try simp only [Act.put, List.setIfInBounds_toArray, List.set_cons_zero, List.set_cons_succ]
  refine wpAnyG_takeL (i := 1) (.bool false) [2, 9] rfl (by kernel_rfl) (fun _ _ _ h => h) hHeld (by rfl) ?_ ?_
  · (intro W' hSw; (try dsimp only at hSw); go_simp)
  try simp only [Act.put, List.setIfInBounds_toArray, List.set_cons_zero, List.set_cons_succ]
  refine wpAnyG_takeL (i := 2) (.bool false) [9] rfl (by kernel_rfl) (fun _ _ _ h => h) hHeld (by rfl) ?_ ?_
  · (intro W' hSw; (try dsimp only at hSw); go_simp)
  try simp only [Act.put, List.setIfInBounds_toArray, List.set_cons_zero, List.set_cons_succ]
  refine wpAnyG_takeL (i := 3) (.func (.func 54) #[] #[]) [8, 9] rfl (by kernel_rfl) (fun _ _ _ h => h) hHeld (by rfl) ?_ ?_
  · (intro W' hSw; (try dsimp only at hSw); go_simp)
  try simp only [Act.put, List.setIfInBounds_toArray, List.set_cons_zero, List.set_cons_succ]
  refine wpAnyG_takeL (i := 4) (.agg #[.int .i64 cx, .slice A1 sx a1, .slice B1 lx b1]) [8, 9] rfl (by kernel_rfl) (fun _ _ _ h => h) hHeld (by rfl) ?_ ?_
  · (intro W' hSw; (try dsimp only at hSw); go_simp)
  try simp only [Act.put, List.setIfInBounds_toArray, List.set_cons_zero, List.set_cons_succ]
  refine wpAnyG_takeL (i := 5) (.pointer (some ⟨g0, 0, none⟩)) [6, 7, 8, 9] rfl (by kernel_rfl) (fun _ _ _ h => h) hHeld (by rfl) ?_ ?_
  · (intro W' hSw; (try dsimp only at hSw); go_simp)
  try simp only [Act.put, List.setIfInBounds_toArray, List.set_cons_zero, List.set_cons_succ]
  refine wpAnyG_takeL (i := 6) (.pointer (some ⟨g0, 0, none⟩)) [7, 8, 9] rfl (by kernel_rfl) (fun _ _ _ h => h) hHeld (by rfl) ?_ ?_
  · (intro W' hSw; (try dsimp only at hSw); go_simp)
  try simp only [Act.put, List.setIfInBounds_toArray, List.set_cons_zero, List.set_cons_succ]
  refine wpAnyG_takeL (i := 7) (.agg #[.int .i64 cy, .slice A2 sy a2, .slice B2 ly b2]) [8, 9] rfl (by kernel_rfl) (fun _ _ _ h => h) hHeld (by rfl) ?_ ?_
  · (intro W' hSw; (try dsimp only at hSw); go_simp)
  try simp only [Act.put, List.setIfInBounds_toArray, List.set_cons_zero, List.set_cons_succ]
  refine wpAnyG_oneL (i := 8) (by kernel_rfl) rfl (fun K hK => ?_)
  (go_simp; go_at_call 54; refine (HL.out _ hd).mono ?_; rintro e W9 ⟨rfl, b9⟩)
  refine hK.out _ _ (fun _ => (HF.out _ (below2 hd b9))) ?_
  clear hK K
  try simp only [Act.put, List.setIfInBounds_toArray, List.set_cons_zero, List.set_cons_succ]
  refine wpAnyG_oneL (i := 9) (by kernel_rfl) rfl (fun K hK => ?_)
  (go_simp)
  refine hK.out _ _ (fun h => Bool.noConfusion (show true = false from h)) ?_
  clear hK K
  clear hHeld
  refine wpAnyG_done (by kernel_rfl) ?_ _
  have HB9 := Lib.hid (below2 hd b9)
  clear hd b9
  cases L
  · go_wp2
    go_ret
    exact ⟨_, rfl, rfl, by rw [← HG.out]; exact HB1.out.trans (HB9.out.mono HB1.out.size)⟩
  · go_wp2
    go_ret
    exact ⟨_, rfl, ⟨Nat.le_refl _, HB4.out.below HB9.out⟩, by rw [← HG.out]; exact HB1.out.trans (HB9.out.mono HB1.out.size)⟩
set_option maxHeartbeats 1000000 in
theorem joined_any (A : Option Addr) (c : Nat) (vs : List (List Int)) (w : World) (hS : R2 w A c vs) (hl : sumLen vs * 8 ≤ 140737488355328) :
    Calls Tryd.prog 52 #[.slice A vs.length c] w fun e w' => ∃ v, e = .returned v ∧ OwnI 3 .i64 w.heap.size w' v vs.flatten ∧ Below w.heap.size w w' := by
  have HC := Lib.hid (concat_any A c vs w hS hl)
  clear hS hl
  go_enter Tryd.func52, Tryd.ntmps52
  go_wp2_with (go_at_call 79; refine HC.out.mono ?_; rintro e w2 ⟨v, rfl, hv, b2⟩)
  go_ret
  exact ⟨_, rfl, hv, b2⟩
end Go.Proofs.YtmcdgmiheklbeaaDoor

namespace Go.Proofs.YtmcdgmiheklbeaaDoor
open Go.RowKit
attribute [local go_sem] Oper.semAt_some
theorem OwnK.firmO {α : Type} {k : Kd α} {ok : Nat → Prop} (hk : ∀ b, ¬ ok b) {W W' : World} {row : Option Nat} {n : Nat} {e : TypeId} {v : Value} {xs : List α} (h : OwnK k e n ok W v xs) (hg : W.grownBy W' row) (hr : Other W row) : OwnK k e n ok W' v xs := by
  refine h.keep (o2 := fun b => some b ≠ row) (Keep.of_grown hg) (fun b e e2 => ?_) (fun b h => absurd h (hk b)) ⟨hg.1, hg.2, hg.3⟩
  obtain ⟨cells, ho, _⟩ := h
  rcases ho.2 with ⟨rfl, _⟩ | ⟨g, cap, cur, rfl, hb, hgb, _⟩
  · cases e
  · obtain ⟨x, hx, hc⟩ := hr b e2.symm
    have : g = b := Option.some.inj e
    subst this
    rw [hgb] at hx; cases hx; cases hc
theorem OwnK.isCellsO {α : Type} {k : Kd α} {ok : Nat → Prop} {W : World} {n : Nat} {e : TypeId} {v : Value} {xs : List α} (h : OwnK k e n ok W v xs) : ∀ r, v.ownBlock = some r → ∃ cs t fr, W.heap[r]? = some (.cells cs t fr) := fun r e => by
  obtain ⟨cells, ho, _⟩ := h
  rcases ho.2 with ⟨rfl, _⟩ | ⟨g, cap, cur, rfl, hb, hgb, _⟩
  · cases e
  · have : g = r := Option.some.inj e
    subst this
    exact ⟨_, _, _, hgb⟩
theorem keepsGO {B : Nat} {W W' : World} {row : Option Nat} (hg : W.grownBy W' row) (hr : ∀ r, row = some r → ∃ cs t fr, W.heap[r]? = some (.cells cs t fr)) : KeepsFrom B W W' :=
  ⟨hg.size, fun i o _ hi ho => (hg.block i (Array.getElem?_eq_some_iff.1 hi).1 (fun e => by
    obtain ⟨cs, t, fr, hx⟩ := hr i e.symm
    rw [hi] at hx; cases hx; cases ho)).trans hi⟩
theorem appendIn_kO {F : Fence} {nF : Nat} {P : Program} {ops : Array Oper} {rest : List Oper} {o : Oper} {a : Act} {Q : Exit → Act → World → Prop} {α : Type} {k : Kd α} {W : World} (base : Nat) (hgd : o.guard = none) (s x0 : Operand) (t e : TypeId) (z : Value) (bytes : Nat) (ok : Nat → Prop)
    (ho : o.op = .call { callee := .builtin .append, args := #[s, x0], argTypes := #[t, t] })
    (ht : P.underlying t = some (.slice e)) (hinfo : (P.info? e).map (fun i => (i.zero, i.size, i.bytes)) = some (some z, k.size, bytes)) (hz : z.cells.size = k.size) (hk0 : 0 < k.size) (hb0 : 0 < bytes)
    (v : Value) (xs : List α) (x : α) (cs : List Value) (h1 : cs.all (·.oneCell') = true) (hs : a.eval s = v) (hx0 : a.eval x0 = .slice (some ⟨W.heap.size, 0, none⟩) 1 1)
    (HO : OwnK k e base ok W v xs) (hx : k.K (fun b => ok b ∧ v.ownBlock ≠ some b) W x cs) (hbase : base ≤ W.heap.size) (hl : (xs.length + 1) * bytes ≤ 140737488355328)
    (h : ∀ g cap w1, OwnK k e base ok w1 (.slice (some ⟨g, 0, none⟩) (xs.length + 1) cap) (xs ++ [x]) → W.grownBy w1 v.ownBlock → base ≤ g → (v.ownBlock = some g ∨ W.heap.size < g) → wpListIn F nF P ops Q rest (a.put o.dst (.slice (some ⟨g, 0, none⟩) (xs.length + 1) cap)) w1) :
    wpListIn F nF P ops Q (o :: rest) a (W.alloc (.cells cs.toArray e)) := by
  obtain ⟨g, cap, w1, hr, h2, h3, h4, h5⟩ := run_append_k (P := P) base t o.type e z bytes ok ht hinfo hz hk0 hb0 v xs x cs h1 HO hx hbase hl
  refine wpListIn_plain hgd fun K hK => ?_
  unfold Oper.wpIn
  refine ⟨by simp [Oper.about, ho, resolve, Target.leads, Sem.run_pure], ?_⟩
  rw [Oper.semAt_plain F _ _ (by rw [ho]; intro c hc'; cases hc')]
  simp [execOp, ho, resolve, invoke, builtin, hs, hx0, hr, Result.andThen]
  exact hK _ _ (h g cap w1 h2 h3 h4 h5)
end Go.Proofs.YtmcdgmiheklbeaaDoor

namespace Go.Proofs.YtmcdgmiheklbeaaDoor
open Go.RowKit
attribute [local go_sem] Oper.semAt_some

/-- A band's costs as they lie. -/
def kRow : Kd (List Int) where
  size := 8
  dflt := []
  K := fun _ _ x cs => cs = nums .i64 x ∧ x.length = 8
  len := fun h => by rw [h.1, nums_length, h.2]
  keep := fun _ h => h
  weak := fun _ h => h
theorem infoRow : (Tryd.prog.info? 99).map (fun i => (i.zero, i.size, i.bytes)) = some (some (.agg #[.int .i64 0, .int .i64 0, .int .i64 0, .int .i64 0, .int .i64 0, .int .i64 0, .int .i64 0, .int .i64 0]), 8, 64) := by kernel_rfl
/-- What a band costs in each book. -/
def rowV (ws l : List Int) (j : Nat) : List Int := (List.range 8).map fun k : Nat => cstV ws l j (k : Int)

/-- A row of costs so far. -/
def rowP (f : Nat → Int) (k : Nat) : List Value := (List.range 8).map fun i => .int .i64 (if i < k then f i else 0)
theorem rowP_at (f : Nat → Int) (k i : Nat) (h : i < 8) : (rowP f k).toArray[i]? = some (.int .i64 (if i < k then f i else 0)) := by
  rw [List.getElem?_toArray]
  unfold rowP
  rw [List.getElem?_map, List.getElem?_range h]; rfl
theorem rowP_set (f : Nat → Int) (k : Nat) : (rowP f k).toArray.setIfInBounds k (.int .i64 (f k)) = (rowP f (k + 1)).toArray := by
  rw [List.setIfInBounds_toArray]
  congr 1
  apply List.ext_getElem?
  intro i
  unfold rowP
  rw [List.getElem?_set]
  simp only [List.length_map, List.length_range, List.getElem?_map]
  rcases Nat.lt_or_ge i 8 with h | h
  · rw [List.getElem?_range h]
    split
    · rename_i e
      subst e
      rw [if_pos h]
      simp
    · rename_i e
      simp only [Option.map_some]
      by_cases h1 : i < k
      · rw [if_pos h1, if_pos (by omega)]
      · rw [if_neg h1, if_neg (by omega)]
  · rw [List.getElem?_eq_none (by rw [List.length_range]; exact h)]
    split
    · rename_i e; rw [if_neg (by omega)]; rfl
    · rfl
/-- The rows so far. -/
structure RwI (ws l : List Int) (W0 : World) (g5 k : Nat) (W : World) : Prop where
  box : ∃ v, Blk W g5 #[v] 94 ∧ OwnK kRow 99 W0.heap.size (fun _ => False) W v ((List.range k).map (rowV ws l))
  upd : Upd (fun x => x = g5) W0 W
theorem RwI.next {ws l : List Int} {W0 W V3 w4 : World} {g5 g n cap k : Nat} {v : Value} (hs : RwI ws l W0 g5 k W) (hl : g5 < W0.heap.size) (hb3 : Below W.heap.size W V3) (hov : OwnK kRow 99 W0.heap.size (fun _ => False) V3 v ((List.range k).map (rowV ws l))) (h10 : Blk w4 g5 #[v] 94)
    (hO4 : OwnK kRow 99 W0.heap.size (fun _ => False) w4 (.slice (some ⟨g, 0, none⟩) n cap) ((List.range k).map (rowV ws l) ++ [rowV ws l k])) (hg4 : V3.grownBy w4 v.ownBlock) :
    KeepsFrom W0.heap.size W (w4.setCell ⟨g5, 0, none⟩ (.slice (some ⟨g, 0, none⟩) n cap)) ∧ Keep (fun x => x < W0.heap.size ∧ x ≠ g5) W (w4.setCell ⟨g5, 0, none⟩ (.slice (some ⟨g, 0, none⟩) n cap)) ∧ RwI ws l W0 g5 (k + 1) (w4.setCell ⟨g5, 0, none⟩ (.slice (some ⟨g, 0, none⟩) n cap)) := by
  have hlt := hov.base_le
  have hu3 : Upd (fun y => W0.heap.size ≤ y) V3 w4 := Upd.of_grown hg4 hlt
  have hu9 : Upd (fun y => y = g5) w4 (w4.setCell ⟨g5, 0, none⟩ (.slice (some ⟨g, 0, none⟩) n cap)) := Upd.setCell (fun y => y = g5) _ g5 0 _ rfl
  have hu : Upd (fun y => y = g5 ∨ W0.heap.size ≤ y) W (w4.setCell ⟨g5, 0, none⟩ (.slice (some ⟨g, 0, none⟩) n cap)) := ((Upd.of_below hb3 _).trans hu3 (fun _ _ h => .inr h)).trans hu9 (fun _ _ h => .inl h)
  refine ⟨((keepsL hb3).trans (keepsGO hg4 hov.isCellsO)).trans (keepsGO (grown_setCell w4 g5 0 _) (fun r e => by cases e; exact ⟨_, _, _, h10⟩)), hu.keep (fun y h h2 => by rcases h2 with h2 | h2 <;> omega), ⟨_, h10.set 0 _, ?_⟩, hs.upd.trans hu (fun b hb h => by omega)⟩
  rw [List.range_succ, List.map_append, List.map_singleton]
  exact hO4.keep (o2 := fun y => y ≠ g5) (hu9.keep fun _ h => h) (fun b e => by have := hO4.base_le b e; omega) (fun _ h => h.elim) ⟨rfl, rfl, rfl⟩

set_option maxHeartbeats 4000000 in
set_option maxRecDepth 100000 in
theorem rows_any (A B : Option Addr) (c d : Nat) (ws l : List Int) (w : World) (hS : RI w A c ws) (hT : RI w B d l) (hG : GF w) (hGT : GT w) (hok : ws.all okV = true) (hsum : sumV ws ws.length = l.length) (h128 : ws.length ≤ 128) :
    Calls Tryd.prog 50 #[.slice A ws.length c, .slice B l.length d] w fun e w' => ∃ v, e = .returned v ∧ OwnK kRow 99 w.heap.size (fun _ => False) w' v ((List.range ws.length).map (rowV ws l)) ∧ Below w.heap.size w w' := by
  refine (callsIn_wide (n := 9)).1 ?_
  refine callsIn_of_wp_marks Tryd.func50 rfl trivial ?_ rfl
  simp only [Tryd.ntmps50, List.size_toArray, List.length_cons, List.length_nil, Nat.reduceAdd, Nat.reduceSub, Array.replicate_succ, Array.replicate_zero, List.push_toArray, List.append_toArray, List.nil_append, List.cons_append]
  obtain ⟨g5, hg5⟩ : ∃ g5, w.heap.size = g5 := ⟨_, rfl⟩
  have hb5 := below_alloc (Below.refl w.heap.size w) (.cells #[.slice none 0 0] 94)
  have B5 : Blk (w.alloc (.cells #[.slice none 0 0] 94)) g5 #[.slice none 0 0] 94 := by rw [← hg5]; exact heap_alloc_new w _
  obtain ⟨W0, hW0⟩ : ∃ W0, w.alloc (.cells #[.slice none 0 0] 94) = W0 := ⟨_, rfl⟩
  have hz5 : W0.heap.size = g5 + 1 := by rw [← hW0, World.size_alloc, hg5]
  rw [hW0] at hb5 B5
  have HGG := Lib.hid (And.intro hG hGT)
  have HSA := Lib.hid hS
  have HTB := Lib.hid hT
  have HSUM := Lib.hid hsum
  have HOKA := Lib.hid hok
  have HB5 := Lib.hid (And.intro hb5 B5)
  have HZ5 := Lib.hid (And.intro hg5 hz5)
  have HLL := Lib.hid (show l.length ≤ 16384 by rw [← hsum]; have := sumV_le (ws := ws) ws.length (Nat.le_refl _) (by rw [List.take_length]; exact hok); omega)
  clear hb5 B5 hG hGT hS hT hok hsum
  gi_wp2_with (refine ⟨trivial, ?_⟩; (try simp only [hW0, hg5]); gi_at_call 48; refine (callsIn_wide.2 (bands_any A B ws.length c l.length d _)).mono ?_; rintro e W6 ⟨h1, h2, rfl, e1, e2, e3, bF, bS, b3⟩)
  have he1 := e1.out
  have he2 := e2.out
  have he3 := e3.out
  have hwz := HB5.out.1.size
  have hz5 := HZ5.out
  have hlow : Below w.heap.size w W6 := HB5.out.1.trans (b3.mono hwz)
  have HLOW := Lib.hid hlow
  have hS6 := HSA.out.below hlow
  have hT6 := HTB.out.below hlow
  have B56 := HB5.out.2.below b3
  have HN := Lib.hid (show g5 < h1 ∧ h1 + 1 = h2 ∧ W6.heap.size = h2 + 1 ∧ w.heap.size = g5 from ⟨by omega, by omega, by omega, by omega⟩)
  have hok6 : Sl (kInt .i64) (fun x => x < W6.heap.size ∧ x ≠ g5) W6 A c ws := ((HSA.out.weak (ok' := fun x => x < w.heap.size) (fun x hx _ => hx)).below hlow).weak fun x _ h => ⟨by omega, by omega⟩
  have hq6 : W6.heap.size = h2 + 1 := he3
  have hq5 : g5 < h1 := by omega
  have hq12 : h1 + 1 = h2 := by omega
  clear e1 e2 e3 he1 he2 he3 b3 hwz hz5 hlow
  refine range_next rfl (by decide) (gf := 73) (lb := #[.pointer (some ⟨h1, 0, none⟩), .pointer (some ⟨h2, 0, none⟩)]) rfl trivial (enters_of Tryd.func73 (by kernel_rfl) rfl)
    (bands1_yields h1 h2 A B c d ws l W6 (fun x => x < W6.heap.size ∧ x ≠ g5) hS6 hT6 bF bS ⟨by omega, by omega⟩ ⟨by omega, by omega⟩ hok6 8 (by decide) HOKA.out HSUM.out h128) (fun r h => h.elim) (fun r h => h.1) (Below.refl _ _) (fun _ => rfl)
    (fun pre W => RwI ws l W6 g5 pre.length W) (fun _ _ _ => False) ?hI (fun _ _ _ _ _ h _ _ => h) ⟨⟨_, B56, OwnK.nil _ _ _ _ _⟩, Upd.refl _ _⟩
    (fun x a' W => ∃ g6, W6.heap.size ≤ g6 ∧ Blk W g6 #[.int .i64 (x : Int), bandV B ws x] 92 ∧ a' = { tmps := (.slice A ws.length c :: .slice B l.length d :: undef :: undef :: .slice none 0 0 :: .pointer (some ⟨g5, 0, none⟩) :: .pointer (some ⟨g6, 0, none⟩) :: undef :: undef :: undef :: undef :: .slice A ws.length c :: .slice B l.length d :: .func (.func 73) #[] #[.pointer (some ⟨h1, 0, none⟩), .pointer (some ⟨h2, 0, none⟩)] :: .agg #[.int .i64 (x : Int), bandV B ws x] :: undef :: undef :: undef :: undef :: undef :: undef :: undef :: undef :: undef :: undef :: undef :: undef :: undef :: undef :: undef :: undef :: undef :: undef :: undef :: undef :: undef :: []).toArray, defers := [] })
    ?hAx ?assign ?body ?done ?stop
  case hI =>
    rintro pre X Y row ⟨⟨v, h1, h2⟩, hu⟩ hg hr
    have hO : Other X row := fun r e => by
      rcases hr r e with h | ⟨_, x, hx, hc⟩
      · exact h.elim
      · exact ⟨x, hx, hc⟩
    exact ⟨⟨v, h1.firm hg hO, h2.firmO (fun _ h => h) hg hO⟩, hu.trans (Upd.of_grown (o := fun b => W6.heap.size ≤ b) hg fun r e => by
      rcases hr r e with h | ⟨h, _⟩
      · exact h.elim
      · exact h) fun b hb h => by omega⟩
  case hAx =>
    rintro x a' _ X Y row ⟨g6, h1, h2, h3⟩ hg hr
    have hO : Other X row := fun r e => by
      rcases hr r e with h | ⟨_, x, hx, hc⟩
      · exact h.elim
      · exact ⟨x, hx, hc⟩
    exact ⟨g6, h1, h2.firm hg hO, h3⟩
  case assign =>
    intro r pre x W K hi _ hK
    simp only [bandV]
    gi_wp2
    have hb := below_alloc (Below.refl W.heap.size W) (.cells #[.int .i64 (x : Int), bandV B ws x] 92)
    obtain ⟨v, q1, q2⟩ := hi.box
    exact hK _ _ (keepsL hb) ⟨hb.size, fun i hi _ => hb.block i hi⟩ ⟨⟨v, q1.below hb, q2.below hb⟩, hi.upd.trans (Upd.of_below hb (fun _ => False)) fun _ _ h => h.elim⟩ ⟨_, hi.upd.size, heap_alloc_new W _, rfl⟩
  case stop =>
    rintro D2 cd xs W hD _ h hK
    exact h.elim
  case done =>
    rintro D2 xs W hD rfl hs hK
    rw [List.length_range] at hs
    obtain ⟨v, q1, q2⟩ := hs.box
    have k5 := q1.cell 0 rfl
    have HK := Lib.hid hK
    have HQ2 := Lib.hid q2
    have HB := Lib.hid (show Below w.heap.size w W from HLOW.out.trans (hs.upd.below (by have := HLOW.out.size; exact this) fun b _ e => by have := HN.out; omega))
    have HDD := Lib.hid hD
    clear hK q1 q2 hs hD bF bS hS6 hT6 hok6
    gi_wp2
    refine ⟨by simp, .inl ⟨_, _, rfl, run_takeDeferred HK.out, ?_⟩⟩
    have hg := grownBy_putObj' W D2 (Obj.deferred none)
    have hO : Other W (some D2) := fun r e => by cases e; exact ⟨_, HK.out, rfl⟩
    refine ⟨v, by simp [results, Tryd.f50, go_sem], ⟨v, rfl, (HQ2.out.mono HLOW.out.size).firmO (fun _ h => h) hg hO, HB.out.grown hg HB.out.size (fun r e => by cases e; have := HDD.out; have := HLOW.out.size; omega)⟩⟩
  case body =>
    rintro r pre j a' W hs ⟨g6, hg6, B6, rfl⟩ ⟨hj, hpre⟩
    have hpl : pre.length = j := by rw [hpre, List.length_range]
    have HPL := Lib.hid (show (pre ++ [j]).length = j + 1 by rw [List.length_append, hpl]; rfl)
    rw [hpl] at hs
    obtain ⟨hwn, hw1, hw128⟩ := okV_at HOKA.out j hj
    have hle2 := sumV_all HSUM.out j hj
    obtain ⟨bd, hBD, _⟩ := rd_int HTB.out 0 (by omega)
    subst hBD
    have hbl : (bndL ws l j).length = widV ws j := by unfold bndL; rw [List.length_take, List.length_drop]; omega
    have hRB : RI w (some (bd.add (sumV ws j))) (widV ws j) (bndL ws l j) := by
      have h := grp_sl HTB.out (sumV ws j) (widV ws j) hle2
      rw [show sumV ws j * (kInt .i64).size = sumV ws j from Nat.mul_one _] at h
      have e : (l.take (sumV ws j + widV ws j)).drop (sumV ws j) = bndL ws l j := by unfold bndL; rw [List.drop_take]; congr 1; omega
      rwa [e] at h
    have HBW := Lib.hid (show Below w.heap.size w W from HLOW.out.trans (hs.upd.below (by have := HLOW.out.size; exact this) fun b _ e => by have := HN.out; omega))
    have HBC := Lib.hid (fun (k : Nat) W' (hb : Below w.heap.size w W') => bCost_any (some (bd.add (sumV ws j))) (widV ws j) (k : Int) (bndL ws l j) W' (hRB.below hb) (HGG.out.1.below hb) (HGG.out.2.below hb) (by rw [hbl]; omega))
    rw [hbl] at HBC
    have hbv : bandV (some bd) ws j = .slice (some (bd.add (sumV ws j))) (widV ws j) (widV ws j) := rfl
    simp only [hbv] at B6
    simp only [hbv]
    have HB6 := Lib.hid B6
    have HW := Lib.hid hs
    have HROW := Lib.hid (show rowV ws l j = (List.range 8).map fun k : Nat => cstV ws l j (k : Int) from rfl)
    have HCV := Lib.hid (show ∀ k : Nat, cstV ws l j (k : Int) = if (bkC (k : Int) (bndL ws l j)).2 = 0 then (bkC (k : Int) (bndL ws l j)).1 else -1 from fun k => rfl)
    clear hs hwn hw1 hw128 hle2 hbl hRB hbv hpl hpre B6 bF bS hS6 hT6 hok6
    obtain ⟨f, hf⟩ : ∃ f : Nat → Int, (fun k : Nat => cstV ws l j (k : Int)) = f := ⟨_, rfl⟩
    have HFV := Lib.hid (show ∀ k : Nat, f k = if (bkC (k : Int) (bndL ws l j)).2 = 0 then (bkC (k : Int) (bndL ws l j)).1 else -1 from fun k => by rw [← hf]; exact HCV.out k)
    rw [hf] at HROW
    have HCE := Lib.hid (show ∀ k : Nat, ((bkC (k : Int) (bndL ws l j)).2 = 0 ∧ f k = (bkC (k : Int) (bndL ws l j)).1) ∨ ((bkC (k : Int) (bndL ws l j)).2 ≠ 0 ∧ f k = -1) from fun k => by
      by_cases h : (bkC (k : Int) (bndL ws l j)).2 = 0
      · exact .inl ⟨h, by rw [HFV.out, if_pos h]⟩
      · exact .inr ⟨h, by rw [HFV.out, if_neg h]⟩)
    generalize hbk : (fun k : Nat => bkC (k : Int) (bndL ws l j)) = C at *
    replace HCE : Hid (∀ k : Nat, ((C k).2 = 0 ∧ f k = (C k).1) ∨ ((C k).2 ≠ 0 ∧ f k = -1)) := by rw [← hbk]; exact HCE
    replace HBC : Hid (∀ (k : Nat) W', Below w.heap.size w W' → Calls Tryd.prog 71 #[.int .i64 (k : Int), .slice (some (bd.add (sumV ws j))) (widV ws j) (widV ws j)] W' fun e w' => e = .returned (.tuple #[.int .i64 (C k).1, .int .i64 (C k).2]) ∧ Below W'.heap.size W' w') := by rw [← hbk]; exact HBC
    clear HCV HFV hf hbk
    obtain ⟨g7, hg7⟩ : ∃ g7, W.heap.size = g7 := ⟨_, rfl⟩
    have hb7 := below_alloc (Below.refl W.heap.size W) (.cells #[.int .i64 0, .int .i64 0, .int .i64 0, .int .i64 0, .int .i64 0, .int .i64 0, .int .i64 0, .int .i64 0] 99)
    have B7 : Blk (W.alloc (.cells #[.int .i64 0, .int .i64 0, .int .i64 0, .int .i64 0, .int .i64 0, .int .i64 0, .int .i64 0, .int .i64 0] 99)) g7 (rowP f 0).toArray 99 := by rw [← hg7]; exact heap_alloc_new W _
    obtain ⟨W7, hW7⟩ : ∃ W7, W.alloc (.cells #[.int .i64 0, .int .i64 0, .int .i64 0, .int .i64 0, .int .i64 0, .int .i64 0, .int .i64 0, .int .i64 0] 99) = W7 := ⟨_, rfl⟩
    rw [hW7] at hb7 B7
    have HB7 := Lib.hid (And.intro hb7 B7)
    have HG7 := Lib.hid hg7
    clear hb7 B7
    gi_wp2
    try simp only [hW7, hg7]
    clear hW7 hg7
    gi_loopw [8, 9, 10, 15] (fun kv nv ev iv wr => ∃ k : Nat, k ≤ 8 ∧ iv = .int .i64 (k : Int) ∧ Hid (Below W.heap.size W wr ∧ Blk wr g7 (rowP f k).toArray 99)) (fun _ _ _ iv _ => 8 - (intOf iv).toNat)
    case atStart => exact ⟨0, by omega, rfl, HB7⟩
    case round =>
      clear HB7
      obtain ⟨k, hk, rfl, HR⟩ := hrel
      have k6 := (HB6.out.below HR.out.1).cell 1 rfl
      by_cases hlt : k < 8
      · have hk1 : IntKind.i64.wrap ((k : Int) + 1) = ((k + 1 : Nat) : Int) := by rw [IntWalk.i64_in _ (by omega)]; omega
        have hd : decide ((k : Int) < 8) = true := decide_eq_true (by omega)
        have hk8 : (k : Int) < 8 := by omega
        have hk0 : (0 : Int) ≤ (k : Int) := by omega
        have f7 := HR.out.2.free k
        have HC := Lib.hid (HBC.out k wr (HBW.out.trans (HR.out.1.mono HBW.out.size)))
        have HS7 := Lib.hid (show ∀ W' : World, Below wr.heap.size wr W' → Below W.heap.size W (W'.setCell ⟨g7, k, none⟩ (.int .i64 (f k))) ∧ Blk (W'.setCell ⟨g7, k, none⟩ (.int .i64 (f k))) g7 (rowP f (k + 1)).toArray 99 from fun W' hb => ⟨by
          have h1 := HR.out.1.trans (hb.mono HR.out.1.size)
          exact h1.grown (grown_setCell W' g7 k _) h1.size fun r e => by cases e; have := HG7.out; omega, by
          have h2 := (HR.out.2.below hb).set k (.int .i64 (f k))
          rwa [rowP_set] at h2⟩)
        rcases HCE.out k with ⟨he, hfk⟩ | ⟨he, hfk⟩
        · rw [he] at HC
          rw [hfk] at HS7
          generalize (C k).1 = V1 at HC HS7
          clear hfk he
          gi_wp2_with (refine ⟨trivial, ?_⟩; gi_at_call 71; refine (CallsIn.inRound r (callsIn_wide.2 HC.out)).mono ?_; rintro e w8 ⟨rfl, b8⟩; have f8 := (HR.out.2.below b8).free k; have c8 := (HR.out.2.below b8).cell k (rowP_at f k k hlt); have HS8 := Lib.hid (HS7.out _ b8); have k8 := (HR.out.2.below b8).lt)
          go_roundw
          case rel => exact ⟨k + 1, by omega, by first | rfl | go_num, HS8⟩
          case measure => simp [intOf] <;> omega
        · rw [hfk] at HS7
          obtain ⟨E, hE⟩ : ∃ E, (C k).2 = E := ⟨_, rfl⟩
          rw [hE] at HC he
          generalize (C k).1 = V1 at HC
          have hne : (E != 0) = true := by simp [he]
          clear hfk he hE
          gi_wp2_with (refine ⟨trivial, ?_⟩; gi_at_call 71; refine (CallsIn.inRound r (callsIn_wide.2 HC.out)).mono ?_; rintro e w8 ⟨rfl, b8⟩; have f8 := (HR.out.2.below b8).free k; have c8 := (HR.out.2.below b8).cell k (rowP_at f k k hlt); have HS8 := Lib.hid (HS7.out _ b8); have k8 := (HR.out.2.below b8).lt)
          go_roundw
          case rel => exact ⟨k + 1, by omega, by first | rfl | go_num, HS8⟩
          case measure => simp [intOf] <;> omega
      · obtain rfl : k = 8 := by omega
        have c0 := HR.out.2.cell 0 (rowP_at f 8 0 (by decide))
        have c1 := HR.out.2.cell 1 (rowP_at f 8 1 (by decide))
        have c2 := HR.out.2.cell 2 (rowP_at f 8 2 (by decide))
        have c3 := HR.out.2.cell 3 (rowP_at f 8 3 (by decide))
        have c4 := HR.out.2.cell 4 (rowP_at f 8 4 (by decide))
        have c5 := HR.out.2.cell 5 (rowP_at f 8 5 (by decide))
        have c6 := HR.out.2.cell 6 (rowP_at f 8 6 (by decide))
        have c7 := HR.out.2.cell 7 (rowP_at f 8 7 (by decide))
        rw [if_pos (by decide)] at c0 c1 c2 c3 c4 c5 c6 c7
        obtain ⟨v, hv, hov⟩ := HW.out.box
        have hov3 := hov.below HR.out.1
        have hv3 := hv.below HR.out.1
        have hlj : ((List.range j).map (rowV ws l)).length = j := by simp
        obtain ⟨Av, cv, rfl, _⟩ := hov3.rd
        rw [hlj] at hov3 hv3
        have k5 := hv3.cell 0 rfl
        have HOV := Lib.hid hov3
        have HV3 := Lib.hid hv3
        have HUP := Lib.hid (show W6.heap.size ≤ wr.heap.size from by have := HW.out.upd.size; have := HR.out.1.size; omega)
        have HR8 := Lib.hid (show rowV ws l j = [f 0, f 1, f 2, f 3, f 4, f 5, f 6, f 7] from HROW.out)
        obtain ⟨R, hRR⟩ : ∃ R, (List.range j).map (rowV ws l) = R := ⟨_, rfl⟩
        have HRR := Lib.hid hRR
        rw [hRR] at HOV hlj
        have HLJ := Lib.hid hlj
        have H128 := Lib.hid h128
        have hg5l : g5 < W6.heap.size := by omega
        clear hv hov hov3 hv3 k6 hRR hlj
        generalize f 0 = f0 at *
        generalize f 1 = f1 at *
        generalize f 2 = f2 at *
        generalize f 3 = f3 at *
        generalize f 4 = f4 at *
        generalize f 5 = f5 at *
        generalize f 6 = f6 at *
        generalize f 7 = f7 at *
        gi_wp2_with (gi_at_builtin; (refine appendIn_kO (k := kRow) (W := wr) W6.heap.size rfl (.tmp 31) (.tmp 33) 94 99 _ 64 (fun _ => False) rfl Tryd.underlying94 infoRow rfl (by decide) (by decide) _ R (rowV ws l j) [.int .i64 f0, .int .i64 f1, .int .i64 f2, .int .i64 f3, .int .i64 f4, .int .i64 f5, .int .i64 f6, .int .i64 f7] rfl rfl rfl HOV.out ⟨by rw [HR8.out]; rfl, by rw [HR8.out]; rfl⟩ HUP.out (by rw [HLJ.out]; have := H128.out; omega) ?_); intro gx capx wx hOx hgx hbx hax; have h15 := HV3.out.keep (Keep.of_grown hgx) (fun e => by have := HOV.out.base_le g5 e.symm; omega); have c15 := h15.cell 0 rfl; have f15 := h15.free 0; rw [HLJ.out] at hOx ⊢; have HOX := Lib.hid hOx; have HGX := Lib.hid hgx; have H15 := Lib.hid h15; clear hOx hgx hbx hax h15)
        obtain ⟨t1, t2, t3⟩ := RwI.next HW.out hg5l HR.out.1 (by rw [HRR.out]; exact HOV.out) H15.out (by rw [HRR.out]; exact HOX.out) HGX.out
        exact ⟨t1, t2, (by show RwI ws l W6 g5 (pre ++ [j]).length _; rw [HPL.out]; exact t3)⟩
end Go.Proofs.YtmcdgmiheklbeaaDoor
