/- The statements' Holds, Right, Few, few: what each call returns. · The statements' Bytes: Right, Begun; Room: Begun: what each call returns. · The statements' Bytes: Begun: what it returns. · The statements' Room: Begun: what it returns. · The statements about sections: awake: what it returns. · The document's sections: sure, cut: what they return. · The document's sections: Right: what it returns. -/
import Derived.Test.YtmcdgmiheklbeaaGreatDoorKl
import Derived.Test.YtmcdgmiheklbeaaGreatDoorKb
import Derived.Test.YtmcdgmiheklbeaaGreatDoorKj
import Derived.Test.YtmcdgmiheklbeaaGreatDoorKe
import Derived.Test.YtmcdgmiheklbeaaGreatDoorKk
namespace Go.Proofs.YtmcdgmiheklbeaaGreatDoor
open Go.RowKit

def holdsB (bs row : List Bool) : Bool := decide (bs.length = row.length) && sameL (packB bs) (packB row)
theorem holdsB_refl (bs : List Bool) : holdsB bs bs = true := by simp [holdsB, sameL]

set_option maxHeartbeats 1000000 in
set_option maxRecDepth 100000 in
theorem holds_any (o : Nat → Prop) (g : Nat) (bs row : List Bool) (R : Option Addr) (c : Nat) (w : World) (h : Wr o w g bs) (hR : RY w R c (bitsI row)) (hl : bs.length ≤ 2000000) (_ : row.length ≤ 2000000) :
    Calls Tryz.prog 14 #[.pointer (some ⟨g, 0, none⟩), .slice R row.length c] w fun e w' => e = .returned (.bool (holdsB bs row)) ∧ Below w.heap.size w w' := by
  have HW := Lib.hid (wlen_any o g bs w h)
  by_cases hlen : bs.length = row.length
  · have hb : ((bs.length : Int) == (row.length : Int)) = true := by simp [hlen]
    have HB := Lib.hid (wbytes_any o g bs w h hl)
    have HP := Lib.hid (fun W (hb : Below w.heap.size w W) => tbytes_any R c row W (hR.below hb) (by omega))
    have HE := Lib.hid (show holdsB bs row = sameL (packB bs) (packB row) by unfold holdsB; rw [decide_eq_true hlen]; rfl)
    have HSM := Lib.hid (fun (A B : Option Addr) (c d : Nat) (a b : List Int) (w : World) (hS : RY w A c a) (hT : RY w B d b) => samebytes_any A B c d a b w hS hT)
    clear hlen h hR
    go_enter Tryz.func14, Tryz.ntmps14
    go_wp2_with (first
      | (go_at_call 23; refine HW.out.mono ?_; rintro e w2 ⟨rfl, rfl⟩)
      | (go_at_call 22; refine HB.out.mono ?_; rintro e w3 ⟨v3, rfl, hO3, b3⟩; obtain ⟨A3, c3, rfl, hL3⟩ := own_ri hO3; have HL3 := Lib.hid hL3; clear hO3 hL3)
      | (go_at_call 36; refine (HP.out _ b3).mono ?_; rintro e w4 ⟨v4, rfl, hO4, b4⟩; obtain ⟨A4, c4, rfl, hL4⟩ := own_ri hO4; have HL4 := Lib.hid hL4; clear hO4 hL4)
      | (go_at_call 35; refine (HSM.out _ _ _ _ _ _ _ (HL3.out.below b4) HL4.out).mono ?_; rintro e w5 ⟨rfl, b5⟩))
    go_ret
    exact ⟨ret_bool HE.out.symm, below2 (below2 b3 b4) b5⟩
  · have hb : ((bs.length : Int) == (row.length : Int)) = false := by simp; omega
    have HE := Lib.hid (show holdsB bs row = false by unfold holdsB; rw [decide_eq_false hlen]; rfl)
    clear hlen h hR
    go_enter Tryz.func14, Tryz.ntmps14
    go_wp2_with (go_at_call 23; refine HW.out.mono ?_; rintro e w2 ⟨rfl, rfl⟩)
    go_ret
    exact ⟨ret_bool HE.out.symm, Below.refl _ _⟩

set_option maxHeartbeats 400000 in
theorem rfew_any (A : Option Addr) (n c : Nat) (L : Int) (w : World) :
    Calls Tryz.prog 10 #[.agg #[.slice A n c, .int .i64 L]] w fun e w' => e = .returned (.bool (decide (n ≤ 50))) ∧ Below w.heap.size w w' := by
  by_cases h : n ≤ 50
  · have hd : decide ((n : Int) ≤ 50) = true := decide_eq_true (by omega)
    have HD := Lib.hid (show decide (n ≤ 50) = true from decide_eq_true h)
    clear h
    go_enter Tryz.func10, Tryz.ntmps10
    go_wp2
    go_ret
    exact ⟨by rw [HD.out]; rfl, below_alloc (Below.refl _ _) _⟩
  · have hd : decide ((n : Int) ≤ 50) = false := decide_eq_false (by omega)
    have HD := Lib.hid (show decide (n ≤ 50) = false from decide_eq_false h)
    clear h
    go_enter Tryz.func10, Tryz.ntmps10
    go_wp2
    go_ret
    exact ⟨by rw [HD.out]; rfl, below_alloc (Below.refl _ _) _⟩
end Go.Proofs.YtmcdgmiheklbeaaGreatDoor

namespace Go.Proofs.YtmcdgmiheklbeaaGreatDoor
open Go.RowKit

end Go.Proofs.YtmcdgmiheklbeaaGreatDoor

namespace Go.Proofs.YtmcdgmiheklbeaaGreatDoor
open Go.RowKit

end Go.Proofs.YtmcdgmiheklbeaaGreatDoor

namespace Go.Proofs.YtmcdgmiheklbeaaGreatDoor
open Go.RowKit

/-- A row of zeros is made, as one step of a drawn region: from here on the world is a letter. -/
theorem step_made {P : Program} {ops : Array Oper} {Q : Exit → Act → World → Prop} {E : Prop} {K : Act → World → Prop} {o : Oper} {a : Act} {W : World} (t e : TypeId) (x y : Operand) (ik : IntKind) (n : Nat) (hgd : o.guard = none) (ho : o.op = .makeSlice t x y)
    (hx : a.eval x = .int .i64 (n : Int)) (hy : a.eval y = .int .i64 (n : Int)) (hn : n ≤ 9223372036854775807)
    (hmk : (Instr.makeSlice t (.int .i64 (n : Int)) (.int .i64 (n : Int))).run P W = .ok (.slice (some ⟨W.heap.size, 0, none⟩) n n) (W.alloc (.cells (madeCells #[.int ik 0] n) e)))
    (h : ∀ (g : Nat) (w1 : World), Hid (g = W.heap.size ∧ w1.heap.size = g + 1) → OwnI e ik W.heap.size w1 (.slice (some ⟨g, 0, none⟩) n n) (List.replicate n 0) → Below W.heap.size W w1 → K (a.put o.dst (.slice (some ⟨g, 0, none⟩) n n)) w1) :
    if Region.wanted o (yielded ops a.tmps) = true then Oper.wp P o a W K Q else E := by
  rw [if_pos (by simp [Region.wanted, hgd])]
  unfold Oper.wp execOp
  simp only [ho, hx, hy, Sem.run_bind, hmk, Result.andThen_ok, Sem.run_pure]
  exact h _ _ (Lib.hid ⟨rfl, World.size_alloc _ _⟩) (own_made W e ik n hn) ((Below.refl _ _).alloc (Nat.le_refl _) _)

/-- The bytes, and how many bits, that a writer begins with. -/
def roomL (b : List Int) (L : Int) : List Int := if 0 ≤ L ∧ L ≤ 4000 then List.replicate 131072 0 else b
def roomN (b : List Int) (L : Int) : Nat := if 0 ≤ L ∧ L ≤ 4000 then 1048576 - L.toNat else 8 * b.length
def roomBits (b : List Int) (L : Int) : List Bool := ofB (roomL b L) (roomN b L)
theorem roomBits_length (b : List Int) (L : Int) : (roomBits b L).length = roomN b L := ofB_length _ _
theorem roomN_le {b : List Int} {L : Int} (h : b.length ≤ 50) : roomN b L ≤ 1048576 := by unfold roomN; split <;> omega

/-- What is left to do, behind the bytes. -/
theorem room_end {w W4 W5 W6 : World} {g n : Nat} {b : List Int} {v : Value} (hw0 : w.heap.size ≤ g) (hb04 : Below w.heap.size w W4) (hw : Wr (fun x => x = g ∨ W4.heap.size ≤ x) W5 g (ofB b n)) (hu : Upd (fun x => x = g) W4 W5) (hgl : g < W4.heap.size)
    (hO : OwnI 5 .u8 W5.heap.size W6 v (bitsI (ofB b n))) (hb : Below W5.heap.size W5 W6) :
    ∃ R e k, v = .slice R (ofB b n).length e ∧ Wr (fun x => w.heap.size ≤ x ∧ x < k) W6 g (ofB b n) ∧ Sl (kInt .u8) (fun x => k ≤ x) W6 R e (bitsI (ofB b n)) ∧ w.heap.size ≤ k ∧ Below w.heap.size w W6 := by
  obtain ⟨R, e, rfl, hs⟩ := hO.rd
  have h1 := hb04.size
  have h2 := hu.size
  have hbw : Below w.heap.size w W5 := hb04.trans (hu.below h1 (fun x _ e => by omega))
  refine ⟨R, e, W5.heap.size, by rw [bitsI_length], (hw.weak (fun x hx h => ⟨by rcases h with h | h <;> omega, hx⟩)).below hb, hs.weak (fun x _ h => h.1), by omega, below2 hbw hb⟩

set_option maxHeartbeats 2000000 in
set_option maxRecDepth 100000 in
theorem rbegun_any (A : Option Addr) (c : Nat) (b : List Int) (L : Int) (w : World) (hS : RY w A c b) (hb : ∀ x ∈ b, 0 ≤ x ∧ x < 256) (hm : b.length ≤ 50) :
    Calls Tryz.prog 11 #[.agg #[.slice A b.length c, .int .i64 L]] w
      fun e w' => ∃ g R d k, e = .returned (.tuple #[.pointer (some ⟨g, 0, none⟩), .slice R (roomBits b L).length d]) ∧ Wr (fun x => w.heap.size ≤ x ∧ x < k) w' g (roomBits b L) ∧ Sl (kInt .u8) (fun x => k ≤ x) w' R d (bitsI (roomBits b L)) ∧ w.heap.size ≤ k ∧ Below w.heap.size w w' := by
  have hba := below_alloc (Below.refl w.heap.size w) (.cells #[.slice A b.length c, .int .i64 L] 33)
  have HBA := Lib.hid hba
  have hbx : Blk (w.alloc (.cells #[.slice A b.length c, .int .i64 L] 33)) w.heap.size #[.slice A b.length c, .int .i64 L] 33 := heap_alloc_new w _
  have HBX := Lib.hid hbx
  have HZ := Lib.hid (show (w.alloc (.cells #[.slice A b.length c, .int .i64 L] 33)).heap.size = w.heap.size + 1 from World.size_alloc _ _)
  have HS := Lib.hid hS
  have HX := Lib.hid hb
  have hw8 : IntKind.i64.wrap (8 * (b.length : Int)) = ((8 * b.length : Nat) : Int) := by rw [IntWalk.i64_in _ (by omega)]; omega
  clear hba hbx hS hb
  by_cases hin : 0 ≤ L ∧ L ≤ 4000
  · obtain ⟨M, hM⟩ : ∃ M, 1048576 - L.toNat = M := ⟨_, rfl⟩
    obtain ⟨zs, hzs⟩ : ∃ zs : List Int, List.replicate 131072 (0 : Int) = zs := ⟨_, rfl⟩
    have hzl : zs.length = 131072 := by rw [← hzs]; exact List.length_replicate
    have hzb : ∀ x ∈ zs, 0 ≤ x ∧ x < 256 := fun x hx => by rw [← hzs] at hx; have := List.eq_of_mem_replicate hx; omega
    have HRB := Lib.hid (show roomBits b L = ofB zs M by unfold roomBits roomL roomN; rw [if_pos hin, if_pos hin, hM, hzs])
    have HFE := Lib.hid (show fullE 0 M = 0 ∧ fullB [] (ofB zs M) = ofB zs M by
      unfold fullE fullB; rw [if_neg (by omega), if_neg (by rw [ofB_length]; show ¬ 1048576 < 0 + M; omega)]; exact ⟨rfl, List.nil_append _⟩)
    have HZS := Lib.hid hzs
    have HZL := Lib.hid hzl
    have HZB := Lib.hid hzb
    clear hzl hzb hzs
    rw [HRB.out]
    have hd0 : decide (0 ≤ L) = true := decide_eq_true hin.1
    have hd1 : decide (L ≤ 4000) = true := decide_eq_true hin.2
    have hwM : IntKind.i64.wrap (1048576 - L) = (M : Int) := by rw [IntWalk.i64_in _ (by omega)]; omega
    have HM := Lib.hid (show M ≤ 8 * 131072 by omega)
    have HMK := Lib.hid (make_row (P := Tryz.prog) 31 5 .u8 1 Tryz.underlying31 infoY (by decide) 131072 (by decide))
    clear hin hM
    go_enter Tryz.func11, Tryz.ntmps11
    go_wp2_with (go_at_call 20; refine (wnew_any _).mono ?_; rintro e w2 ⟨g, rfl, hW2, b2, hg2⟩; have hB2 := HBX.out.below b2; have x0 := hB2.cell 0 rfl; have x1 := hB2.cell 1 rfl; have HW2 := Lib.hid hW2; have HB2 := Lib.hid b2; have HG2 := Lib.hid hg2; have HBB := Lib.hid hB2; clear hW2 b2 hg2 hB2)
    go_quiet (fail)
    go_wp2
    obtain ⟨gx, hgx⟩ : ∃ gx, w.heap.size = gx := ⟨_, rfl⟩
    have HBN := Lib.hid (HBB.out.below (below_drewN (Below.refl w2.heap.size w2) nq))
    rw [hgx] at HBN HBB
    simp only [hgx]
    have HGX := Lib.hid hgx
    clear hgx x0 x1
    have hHeld0 : (fun W : World => W.cell? ⟨gx, 1, none⟩ = some (.int .i64 L)) (w2.drewN nq) := HBN.out.cell 1 rfl
    refine wp_region_G 5 (fun W : World => W.cell? ⟨gx, 1, none⟩ = some (.int .i64 L)) (by kernel_rfl) hHeld0 (fun hHeld => ?_)
    refine wpAnyG_takeL (i := 1) (.pointer (some ⟨gx, 1, none⟩)) [2, 3, 5] rfl (by kernel_rfl) (fun _ _ _ h => h) hHeld (by rfl) ?_ ?_
    · (intro W' hSw; (try dsimp only at hSw); go_simp)
    try simp only [Act.put, List.setIfInBounds_toArray, List.set_cons_zero, List.set_cons_succ]
    refine wpAnyG_takeL (i := 2) (.int .i64 L) [3, 5] rfl (by kernel_rfl) (fun _ _ _ h => h) hHeld (by rfl) ?_ ?_
    · (intro W' hSw; (try dsimp only at hSw); go_simp)
    try simp only [Act.put, List.setIfInBounds_toArray, List.set_cons_zero, List.set_cons_succ]
    refine wpAnyG_takeL (i := 3) (.int .i64 M) [5] rfl (by kernel_rfl) (fun _ _ _ h => h) hHeld (by rfl) ?_ ?_
    · (intro W' hSw; (try dsimp only at hSw); go_simp)
    try simp only [Act.put, List.setIfInBounds_toArray, List.set_cons_zero, List.set_cons_succ]
    clear hHeld
    refine wpAnyG_oneL (i := 0) (by kernel_rfl) rfl (fun K hK => ?_)
    refine step_made 31 5 _ _ .u8 131072 rfl rfl rfl rfl (by decide) (HMK.out _) (fun gz W4 HGZ hOz hB4 => ?_)
    have hBk := Lib.hid ((HBB.out.below (below_drewN (Below.refl w2.heap.size w2) (nq + 1))).below hB4)
    refine hK.out _ _ (fun _ => hBk.out.cell 1 rfl) ?_
    clear hK K
    try simp only [Act.put, List.setIfInBounds_toArray, List.set_cons_zero, List.set_cons_succ]
    refine wpAnyG_oneL (i := 4) (by kernel_rfl) rfl (fun K hK => ?_)
    go_simp
    refine hK.out _ _ (fun _ => hBk.out.cell 1 rfl) ?_
    clear hK K
    try simp only [Act.put, List.setIfInBounds_toArray, List.set_cons_zero, List.set_cons_succ]
    refine wpAnyG_oneL (i := 5) (by kernel_rfl) rfl (fun K hK => ?_)
    go_simp
    refine hK.out _ _ (fun h => Bool.noConfusion (show true = false from h)) ?_
    clear hK K
    refine wpAnyG_done (by kernel_rfl) ?_ _
    have hgw : w.heap.size ≤ g := by have := HG2.out; have := HZ.out; omega
    have hb24 : Below w2.heap.size w2 W4 := below2 (below_drewN (Below.refl w2.heap.size w2) (nq + 1)) hB4
    rw [HZS.out] at hOz
    have hb04 := below2 (below2 HBA.out HB2.out) hb24
    have hW4 := HW2.out.below hb24
    obtain ⟨A9, c9, hv9, hs9⟩ := hOz.rd
    have hgl := HW2.out.lt
    injection hv9 with hA9 hl9 hc9
    subst hA9 hc9
    have hSg := hs9.weak (ok' := fun x => ¬ x = g) (fun x hx h e => by have := h.1; have h3 : (w2.drewN nq).drew.heap.size = w2.heap.size := rfl; omega)
    have HA := wappend_any (fun x => x = g) g M _ _ zs [] W4 hW4 hSg HZB.out (by have := HZL.out; omega) (by have := HZL.out; have := HM.out; omega) (Nat.zero_le _)
    rw [show ([] : List Bool).length = 0 from rfl, HFE.out.1, HFE.out.2, HZL.out] at HA
    have HAA := Lib.hid HA
    have HSG := Lib.hid hSg
    have HW4 := Lib.hid hW4
    have HB04 := Lib.hid hb04
    have HGW := Lib.hid hgw
    have HBT := Lib.hid (fun W A c (h : RY W A c zs) => tbits_any A c zs M W h HZB.out (by have := HZL.out; have := HM.out; omega) (by have := HZL.out; omega))
    rw [HZL.out] at HBT
    clear HA hSg hW4 hb04 hgw hOz hs9 hb24 hBk hHeld0 hl9 hgl hB4
    go_wp2_with (first
      | (go_at_call 29; refine HAA.out.mono ?_; rintro e w5 ⟨rfl, hW5, hu5⟩; have HS5 := Lib.hid ((HSG.out.keep (hu5.keep (ok := fun x => ¬ x = g) fun _ h => h)).any))
      | (go_at_call 30; refine (HBT.out _ _ _ HS5.out).mono ?_; rintro e w6 ⟨v6, rfl, hO6, b6⟩))
    go_ret2
    obtain ⟨R, e9, k, hv, r1, r2, r3, r4⟩ := room_end HGW.out HB04.out hW5 hu5 HW4.out.lt hO6 b6
    exact ⟨g, R, e9, k, ret_two rfl hv, r1, r2, r3, r4⟩
  · have HRB := Lib.hid (show roomBits b L = ofB b (8 * b.length) by unfold roomBits roomL roomN; rw [if_neg hin, if_neg hin])
    have HFE := Lib.hid (show fullE 0 (8 * b.length) = 0 ∧ fullB [] (ofB b (8 * b.length)) = ofB b (8 * b.length) by
      unfold fullE fullB; rw [if_neg (by omega), if_neg (by rw [ofB_length]; simp; omega)]; exact ⟨rfl, by simp⟩)
    rw [HRB.out]
    have script : ∀ (_ : (decide (0 ≤ L) = false) ∨ (decide (0 ≤ L) = true ∧ decide (L ≤ 4000) = false)), True := fun _ => trivial
    clear script
    have hcs : decide (0 ≤ L) = false ∨ (decide (0 ≤ L) = true ∧ decide (L ≤ 4000) = false) := by
      by_cases h0 : 0 ≤ L
      · exact .inr ⟨decide_eq_true h0, decide_eq_false (by omega)⟩
      · exact .inl (decide_eq_false h0)
    clear hin
    rcases hcs with hd0 | ⟨hd0, hd1⟩
    all_goals
      go_enter Tryz.func11, Tryz.ntmps11
      go_wp2_with (go_at_call 20; refine (wnew_any _).mono ?_; rintro e w2 ⟨g, rfl, hW2, b2, hg2⟩; have hB2 := HBX.out.below b2; have x0 := hB2.cell 0 rfl; have x1 := hB2.cell 1 rfl; have HW2 := Lib.hid hW2; have HB2 := Lib.hid b2; have HG2 := Lib.hid hg2; clear hW2 b2 hg2 hB2)
      go_quiet (fail)
      have hgw : w.heap.size ≤ g := by have := HG2.out; have := HZ.out; omega
      have hb02 : Below w.heap.size w (w2.drewN nq) := below_drewN (below2 HBA.out HB2.out) nq
      have hW4 := HW2.out.below (below_drewN (Below.refl w2.heap.size w2) nq)
      have hSg := (HS.out.weak (ok' := fun x => ¬ x = g) (fun x hx _ e => by omega)).below hb02
      have HA := wappend_any (fun x => x = g) g (8 * b.length) A c b [] (w2.drewN nq) hW4 hSg HX.out (by omega) (Nat.le_refl _) (Nat.zero_le _)
      rw [show ((8 * b.length : Nat) : Int) = 8 * (b.length : Int) by omega, show ([] : List Bool).length = 0 from rfl, HFE.out.1, HFE.out.2] at HA
      have HAA := Lib.hid HA
      have HSG := Lib.hid hSg
      have HW4 := Lib.hid hW4
      have HB02 := Lib.hid hb02
      have HGW := Lib.hid hgw
      have HBT := Lib.hid (fun W (h : RY W A c b) => tbits_any A c b (8 * b.length) W h HX.out (Nat.le_refl _) (by omega))
      rw [show ((8 * b.length : Nat) : Int) = 8 * (b.length : Int) by omega] at HBT
      clear HA hSg hW4 hb02 hgw
      go_wp2_with (first
        | (go_at_call 29; refine HAA.out.mono ?_; rintro e w5 ⟨rfl, hW5, hu5⟩; have HS5 := Lib.hid ((HSG.out.keep (hu5.keep (ok := fun x => ¬ x = g) fun _ h => h)).any))
        | (go_at_call 30; refine (HBT.out _ HS5.out).mono ?_; rintro e w6 ⟨v6, rfl, hO6, b6⟩))
      go_ret2
      obtain ⟨R, e9, k, hv, r1, r2, r3, r4⟩ := room_end HGW.out HB02.out hW5 hu5 HW4.out.lt hO6 b6
      exact ⟨g, R, e9, k, ret_two rfl hv, r1, r2, r3, r4⟩
end Go.Proofs.YtmcdgmiheklbeaaGreatDoor

namespace Go.Proofs.YtmcdgmiheklbeaaGreatDoor
open Go.RowKit

section
variable {P : Program} {ops : Array Oper} {Q : Exit → Act → World → Prop}
/-- Memory is made, as one step of a drawn region: the world is a letter at once. -/
theorem step_mem {E : Prop} {K : Act → World → Prop} {o : Oper} {a : Act} {W : World} (cs : Array Value) (t : TypeId) (V : Nat → Value) (hgd : o.guard = none)
    (hrun : (execOp a.eval o).run P W = .ok (.value (V W.heap.size)) (W.alloc (.cells cs t (0, 0))))
    (h : ∀ (g : Nat) (w1 : World), Hid (g = W.heap.size) → Hid (w1.heap.size = g + 1) → Below W.heap.size W w1 → Blk w1 g cs t → K (a.put o.dst (V g)) w1) :
    if Region.wanted o (yielded ops a.tmps) = true then Oper.wp P o a W K Q else E := by
  rw [if_pos (by simp [Region.wanted, hgd])]
  unfold Oper.wp
  rw [hrun]
  exact h _ _ (Lib.hid rfl) (Lib.hid (World.size_alloc _ _)) (((Below.refl _ _).alloc (Nat.le_refl _) _)) (heap_alloc_new W _)
end
theorem blk_ri {w : World} {g : Nat} {t : TypeId} {k : IntKind} {xs : List Int} (h : Blk w g (nums k xs).toArray t) (hm : xs.length ≤ 9223372036854775807) : Sl (kInt k) (fun x => x = g) w (some ⟨g, 0, none⟩) xs.length xs := by
  refine ⟨Nat.le_refl _, hm, fun j hj => ⟨_, [.int k (nth 0 xs j)], rfl, rfl, h.lt, rfl, fun i v hv => ?_⟩⟩
  match i, hv with
  | 0, hv =>
    simp at hv
    subst hv
    have h1 := h.cell j (v := .int k (nth 0 xs j)) (by rw [List.getElem?_toArray]; exact nums_get k xs j hj)
    rw [show j * (kInt k).size + 0 = j from by show j * 1 + 0 = j; omega, add_plain]
    exact h1
theorem made_numsX (k : IntKind) (m : Nat) : madeCells #[Value.int k 0] m = (nums k (List.replicate m 0)).toArray := by
  apply Array.ext
  · simp [nums, madeCells]
  · intro i h1 h2
    simp [nums, madeCells, Nat.mod_one]
/-- A literal of sections. -/
theorem lit_se (W : World) (xs : List (Int × Int)) (hm : xs.length ≤ 9223372036854775807) : Sl kSe (fun x => x = W.heap.size) (W.alloc (.cells (flat2 xs).toArray 47)) (some ⟨W.heap.size, 0, none⟩) xs.length xs := by
  have h := World.ownsRow_lit (base := W.heap.size) (e := 47) (size := 2) W (flat2 xs).toArray xs.length (Nat.le_refl _) (by simpa [maxLen] using hm) (by simp [flat2_length])
  have h2 : OwnS W.heap.size (W.alloc (.cells (flat2 xs).toArray 47)) (.slice (some ⟨W.heap.size, 0, none⟩) xs.length xs.length) xs := ⟨flat2 xs, by simpa [kSe] using h, reps_flat xs⟩
  obtain ⟨A, c, e, hs⟩ := h2.rd
  injection e with e1 e2 e3
  subst e1 e3
  exact hs.weak fun b _ hb => hb.elim False.elim fun hb => by have := Option.some.inj hb; exact this.symm
theorem packB_in18 (bs : List Bool) : ∀ x ∈ packB bs, 0 ≤ x ∧ x < 256 := fun x hx => by
  simp only [packB, List.mem_map, List.mem_range] at hx
  obtain ⟨j, _, rfl⟩ := hx
  have := byteB_lt bs j
  exact ⟨Int.natCast_nonneg _, by show ((byteB bs j : Nat) : Int) < 256; omega⟩
def exW : List Int := [4, 4, 4]
def exZ : List Int := List.replicate 12 0
def exS : List (Int × Int) := [(0, 3)]
def exR : List (Int × Int) := [(1, 2), (0, 1), (2, 1)]
def exB18 : List Bool := wrB exW exZ exS []
set_option maxRecDepth 100000 in
theorem e18_runs : runsL [1, 1, 0, 2] = exR ∧ runsE [1, 1, 0, 2] = 0 := by decide +kernel
set_option maxRecDepth 100000 in
theorem e18_books : booksL exR = [1, 1, 0, 2] ∧ booksE exR = 0 := by decide +kernel
set_option maxRecDepth 100000 in
theorem e18_cost : costQ exW exZ exS = (6, 0) := by decide +kernel
set_option maxRecDepth 100000 in
theorem e18_wr : wrS exW exZ exS 0 = 0 ∧ exB18.length = 6 := by decide +kernel
set_option maxRecDepth 100000 in
theorem e18_pk : (packB exB18).length = 1 ∧ ofB (packB exB18) 6 = exB18 := by decide +kernel
set_option maxRecDepth 100000 in
theorem e18_rd : (readS exW exB18).1 = exZ ∧ (readS exW exB18).2.1 = exS ∧ (readS exW exB18).2.2.1 = 0 := by decide +kernel

theorem runs_ex (w : World) : Calls Tryz.prog 18 #[.slice (some ⟨w.heap.size, 0, none⟩) 4 4] (w.alloc (.cells #[.int .i64 1, .int .i64 1, .int .i64 0, .int .i64 2] 3)) fun e w' => ∃ A c, e = .returned (.tuple #[.slice A 3 c, .int .i64 0]) ∧ RS w' A c exR ∧ Below w.heap.size w w' := by
  have b1 := lit_be w 3 .i64 [1, 1, 0, 2]
  refine (runs_any _ 4 [1, 1, 0, 2] _ (lit_ri w 3 .i64 [1, 1, 0, 2] (by decide))).mono ?_
  rintro e w' ⟨v, rfl, hO, hb⟩
  rw [e18_runs.1] at hO
  rw [e18_runs.2]
  obtain ⟨A, c, rfl, hs⟩ := own_rs hO
  exact ⟨A, c, rfl, hs.any, below2 b1 hb⟩
theorem sames_ex (A : Option Addr) (c : Nat) (w : World) (h : RS w A c exR) : Calls Tryz.prog 17 #[.slice A 3 c, .slice (some ⟨w.heap.size, 0, none⟩) 3 3] (w.alloc (.cells #[.int .i64 1, .int .i64 2, .int .i64 0, .int .i64 1, .int .i64 2, .int .i64 1] 47)) fun e w' => e = .returned (.bool true) ∧ Below w.heap.size w w' := by
  have b1 := below_alloc (Below.refl w.heap.size w) (.cells (flat2 exR).toArray 47)
  refine (rsame_any A _ c 3 exR exR _ (h.below b1) (lit_se w exR (by decide)).any).mono ?_
  rintro e w' ⟨rfl, hb⟩
  exact ⟨by rw [sameS_refl], below2 b1 hb⟩
theorem ints18_ex (A : Option Addr) (c : Nat) (w : World) (h : RI w A c [1, 1, 0, 2]) : Calls Tryz.prog 25 #[.slice A 4 c, .slice (some ⟨w.heap.size, 0, none⟩) 4 4] (w.alloc (.cells #[.int .i64 1, .int .i64 1, .int .i64 0, .int .i64 2] 3)) fun e w' => e = .returned (.bool true) ∧ Below w.heap.size w w' := by
  have b1 := lit_be w 3 .i64 [1, 1, 0, 2]
  refine (ints_ref A _ c 4 [1, 1, 0, 2] [1, 1, 0, 2] _ (h.below b1) (lit_ri w 3 .i64 [1, 1, 0, 2] (by decide))).mono ?_
  rintro e w' ⟨rfl, hb⟩
  exact ⟨by rw [sameL_refl], below2 b1 hb⟩

set_option maxHeartbeats 4000000 in
set_option maxRecDepth 100000 in
theorem awake18_any (w : World) (hG : GF w) (hT : GT w) : Calls Tryz.prog 7 #[] w fun e w' => e = .returned (.bool true) ∧ Below w.heap.size w w' := by
  have hS := GS.of hG hT
  have b := Below.refl w.heap.size w
  clear hG hT
  have hmk : ∀ W : World, (Instr.makeSlice 22 (.int .i64 12) (.int .i64 12)).run Tryz.prog W = .ok (.slice (some ⟨W.heap.size, 0, none⟩) 12 12) (W.alloc (.cells (madeCells #[.int .i64 0] 12) 3)) := make_row (P := Tryz.prog) 22 3 .i64 8 Tryz.underlying22 infoI (by decide) 12 (by decide)
  go_enter Tryz.func7, Tryz.ntmps7
  go_upto_region 1 with fail
  go_cut [1, 2] (fun s1 s2 wx => ∃ g1 g2 : Nat, s1 = .slice (some ⟨g1, 0, none⟩) 3 3 ∧ s2 = .slice (some ⟨g2, 0, none⟩) 12 12 ∧ Hid (Blk wx g1 (nums .i64 exW).toArray 3) ∧ Hid (Blk wx g2 (nums .i64 exZ).toArray 3) ∧ Hid (Below w.heap.size w wx))
  case first =>
    have hd := (Below.refl w.heap.size w).drew
    refine wp_region_G 3 (fun _ => True) (by kernel_rfl) trivial (fun hHeld => ?_)
    refine wpAnyG_br (rs := [0,1]) (by kernel_rfl) (by simp) ?_
    refine AllG.cons (i := 0) rfl (fun K hK => ?_) ?_
    · skip
      (refine step_mem (nums .i64 exW).toArray 3 (fun g => .slice (some ⟨g, 0, none⟩) 3 3) rfl ?hr ?_; (case hr => first | (go_simp; done) | (go_simp; rfl)); intro g1 V1 e1 z1 b1 y1)
      refine hK.out _ _ (fun _ => trivial) ?_
      clear hK K
      try simp only [Act.put, List.setIfInBounds_toArray, List.set_cons_zero, List.set_cons_succ]
      refine wpAnyG_takeL (i := 2) (.slice (some ⟨g1, 0, none⟩) 3 3) [3] rfl (by kernel_rfl) (fun _ _ _ h => h) hHeld (by rfl) ?_ ?_
      · (intro W' hSw; (try dsimp only at hSw); go_simp)
      try simp only [Act.put, List.setIfInBounds_toArray, List.set_cons_zero, List.set_cons_succ]
      refine wpAnyG_oneL (i := 1) (by kernel_rfl) rfl (fun K hK => ?_)
      (refine step_mem (madeCells #[.int .i64 0] 12) 3 (fun g => .slice (some ⟨g, 0, none⟩) 12 12) rfl ?hr ?_; (case hr => first | (go_simp; done) | (go_simp; rfl)); intro g2 V2 e2 z2 b2 y2)
      refine hK.out _ _ (fun _ => trivial) ?_
      clear hK K
      try simp only [Act.put, List.setIfInBounds_toArray, List.set_cons_zero, List.set_cons_succ]
      refine wpAnyG_oneL (i := 3) (by kernel_rfl) rfl (fun K hK => ?_)
      (go_simp)
      refine hK.out _ _ (fun h => Bool.noConfusion (show true = false from h)) ?_
      clear hK K
      clear hHeld
      refine wpAnyG_done (by kernel_rfl) ?_ _
      go_wp2_with fail
      go_meet
      exact ⟨g1, g2, rfl, rfl, Lib.hid (y1.below b2), Lib.hid (by rw [made_numsX] at y2; exact y2), Lib.hid (below2 (below2 hd b1) b2)⟩
    refine AllG.cons (i := 1) rfl (fun K hK => ?_) ?_
    · skip
      (refine step_mem (madeCells #[.int .i64 0] 12) 3 (fun g => .slice (some ⟨g, 0, none⟩) 12 12) rfl ?hr ?_; (case hr => first | (go_simp; done) | (go_simp; rfl)); intro g2 V1 e1 z1 b1 y2)
      refine hK.out _ _ (fun _ => trivial) ?_
      clear hK K
      try simp only [Act.put, List.setIfInBounds_toArray, List.set_cons_zero, List.set_cons_succ]
      refine wpAnyG_oneL (i := 0) (by kernel_rfl) rfl (fun K hK => ?_)
      (refine step_mem (nums .i64 exW).toArray 3 (fun g => .slice (some ⟨g, 0, none⟩) 3 3) rfl ?hr ?_; (case hr => first | (go_simp; done) | (go_simp; rfl)); intro g1 V2 e2 z2 b2 y1)
      refine hK.out _ _ (fun _ => trivial) ?_
      clear hK K
      try simp only [Act.put, List.setIfInBounds_toArray, List.set_cons_zero, List.set_cons_succ]
      refine wpAnyG_takeL (i := 2) (.slice (some ⟨g1, 0, none⟩) 3 3) [3] rfl (by kernel_rfl) (fun _ _ _ h => h) hHeld (by rfl) ?_ ?_
      · (intro W' hSw; (try dsimp only at hSw); go_simp)
      try simp only [Act.put, List.setIfInBounds_toArray, List.set_cons_zero, List.set_cons_succ]
      refine wpAnyG_oneL (i := 3) (by kernel_rfl) rfl (fun K hK => ?_)
      (go_simp)
      refine hK.out _ _ (fun h => Bool.noConfusion (show true = false from h)) ?_
      clear hK K
      clear hHeld
      refine wpAnyG_done (by kernel_rfl) ?_ _
      go_wp2_with fail
      go_meet
      exact ⟨g1, g2, rfl, rfl, Lib.hid y1, Lib.hid ((by rw [made_numsX] at y2; exact y2 : Blk V1 g2 (nums .i64 exZ).toArray 3).below b2), Lib.hid (below2 (below2 hd b1) b2)⟩
    exact AllG.nil
  case rest =>
    obtain ⟨g1, g2, rfl, rfl, hy1, hy2, hb0⟩ := hcut
    have h1 : Sl (kInt .i64) (fun x => x < wc.heap.size) wc (some ⟨g1, 0, none⟩) 3 exW := (blk_ri hy1.out (by decide)).weak fun x hx _ => hx
    have h2 : Sl (kInt .i64) (fun x => x < wc.heap.size) wc (some ⟨g2, 0, none⟩) 12 exZ := (blk_ri hy2.out (by decide)).weak fun x hx _ => hx
    replace hS := hS.below hb0.out
    replace b := hb0.out
    clear hy1 hy2 hb0 hmk
    have hb3 := below_alloc (Below.refl wc.heap.size wc) (.cells (flat2 exS).toArray 47)
    have h3 : Sl kSe (fun x => x = wc.heap.size) (wc.alloc (.cells (flat2 exS).toArray 47)) (some ⟨wc.heap.size, 0, none⟩) 1 exS := lit_se wc exS (by decide)
    obtain ⟨g3, hg3⟩ : ∃ g3, wc.heap.size = g3 := ⟨_, rfl⟩
    obtain ⟨W3, hW3⟩ : ∃ W3, wc.alloc (.cells #[.int .i64 0, .int .i64 3] 47) = W3 := ⟨_, rfl⟩
    replace h3 : Sl kSe (fun x => x < W3.heap.size) W3 (some ⟨g3, 0, none⟩) 1 exS := by
      rw [← hW3, ← hg3]
      exact h3.weak fun x hx _ => hx
    replace hb3 : Below wc.heap.size wc W3 := by rw [← hW3]; exact hb3
    have hz3 := hb3.size
    replace h1 := (h1.below hb3).weak (ok' := fun x => x < W3.heap.size) fun x hx _ => hx
    replace h2 := (h2.below hb3).weak (ok' := fun x => x < W3.heap.size) fun x hx _ => hx
    replace hS := hS.below hb3
    replace b := below2 b hb3
    obtain ⟨n3, hn3⟩ : ∃ n3, W3.heap.size = n3 := ⟨_, rfl⟩
    rw [hn3] at h1 h2 h3
    have HN3 := Lib.hid hn3
    clear hb3 hz3 hn3
    go_wp2_with fail
    try simp only [hW3, hg3]
    refine (runs_ex _).mono ?_
    rintro e w4 ⟨A4, c4, rfl, h4, b1⟩
    replace h1 := h1.below b1; replace h2 := h2.below b1; replace h3 := h3.below b1; replace hS := hS.below b1; replace b := below2 b b1
    have HN4 := Lib.hid (show n3 ≤ w4.heap.size by have := HN3.out; have := b1.size; omega)
    clear b1 hW3 hg3
    go_wp2_with fail
    refine (books_any A4 c4 exR _ h4).mono ?_
    rintro e w5 ⟨v6, rfl, hO, b1⟩
    rw [e18_books.1] at hO
    rw [e18_books.2]
    obtain ⟨A6, c6, rfl, h6⟩ := own_ri hO
    replace h1 := h1.below b1; replace h2 := h2.below b1; replace h3 := h3.below b1; replace h4 := h4.below b1; replace hS := hS.below b1; replace b := below2 b b1
    replace HN4 := Lib.hid (Nat.le_trans HN4.out b1.size)
    clear b1 hO
    go_wp2_with fail
    refine (sCost_any _ _ _ 3 12 1 exW exZ exS _ h1.any h2.any h3.any hS.f hS.t (by decide)).mono ?_
    rw [e18_cost]
    rintro e w6 ⟨rfl, b1⟩
    replace h1 := h1.below b1; replace h2 := h2.below b1; replace h3 := h3.below b1; replace h4 := h4.below b1; replace h6 := h6.below b1; replace hS := hS.below b1; replace b := below2 b b1
    replace HN4 := Lib.hid (Nat.le_trans HN4.out b1.size)
    clear b1
    go_wp2_with fail
    refine (wnew_any _).mono ?_
    rintro e w7 ⟨g, rfl, hw, b1, hg⟩
    have hgl : g < w7.heap.size := hw.lt
    have hgn : n3 ≤ g := Nat.le_trans HN4.out hg
    have hgw : w.heap.size ≤ g := by have := b.size; omega
    replace h1 := h1.below b1; replace h2 := h2.below b1; replace h3 := h3.below b1; replace h4 := h4.apart b1 hg; replace h6 := h6.apart b1 hg; replace hS := hS.below b1; replace b := below2 b b1
    clear b1 hg HN4
    go_wp2_with fail
    refine (sWrite_any _ g _ _ _ 3 12 1 exW exZ exS [] _ (fun x e => by rw [e]; exact hgl) hw (h1.weak fun x _ h e => by omega) (h2.weak fun x _ h e => by omega) (h3.weak fun x _ h e => by omega) hS.f hS.t (fun e => by have := hS.lf; omega) (fun e => by have := hS.lt; omega) (by decide) (by decide)).mono ?_
    rw [show ([] : List Bool).length = 0 from rfl, e18_wr.1, show wrB exW exZ exS [] = exB18 from rfl]
    rintro e w8 ⟨rfl, hw8, hu⟩
    have hk := hu.keep (ok := fun x => x ≠ g) fun _ h => h
    replace h1 := (h1.weak (ok' := fun x => x ≠ g) fun x _ h e => by omega).keep hk
    replace h2 := (h2.weak (ok' := fun x => x ≠ g) fun x _ h e => by omega).keep hk
    replace h3 := (h3.weak (ok' := fun x => x ≠ g) fun x _ h e => by omega).keep hk
    replace h4 := h4.keep hk; replace h6 := h6.keep hk
    replace hS := hS.upd hu (fun x h e => by omega)
    replace b := b.trans (hu.below b.size (fun x _ e => by omega)); clear hu hw hk
    go_wp2_with fail
    refine (wbytes_any _ g exB18 _ hw8 (by rw [e18_wr.2]; decide)).mono ?_
    rintro e w9 ⟨v7, rfl, hO, b1⟩
    obtain ⟨A7, c7, rfl, h7⟩ := own_ri hO
    have hpb : ∀ x ∈ packB exB18, 0 ≤ x ∧ x < 256 := packB_in18 exB18
    rw [e18_pk.1]
    clear hO
    replace hS := hS.below b1; replace h1 := h1.below b1; replace h2 := h2.below b1; replace h3 := h3.below b1; replace h4 := h4.below b1; replace h6 := h6.below b1; replace hw8 := hw8.below b1; replace b := below2 b b1; clear b1
    go_wp2_with fail
    refine (wlen_any _ g exB18 _ hw8).mono ?_
    rw [e18_wr.2]
    rintro e w10 ⟨rfl, rfl⟩
    go_wp2_with fail
    have ho := ropen_ok A7 c7 (packB exB18) 6 w9 h7 hpb (by rw [e18_pk.1]; decide) (by rw [e18_pk.1]; decide) (by decide)
    rw [e18_pk.1, e18_pk.2] at ho
    refine ho.mono ?_
    rintro e w11 ⟨gr, rfl, hr, b1, hg⟩
    replace h1 := h1.any.apart b1 hg; replace h2 := h2.any.apart b1 hg; replace h3 := h3.any.apart b1 hg; replace h4 := h4.any.apart b1 hg; replace h6 := h6.any.apart b1 hg
    have hgr : w.heap.size ≤ gr := by have := b.size; omega
    replace hS := hS.below b1; replace b := below2 b b1; clear b1 hg ho h7 hw8 hpb
    go_wp2_with fail
    refine (sRead_any _ gr 0 _ 3 exW exB18 _ hr.cut (fun x h => h.2) h1 hS.f hS.t (fun e => by have := hS.lf; omega) (fun e => by have := hS.lt; omega) (by decide)).mono ?_
    rw [show exB18.drop 0 = exB18 from rfl, e18_rd.1, e18_rd.2.1, e18_rd.2.2]
    rintro e w12 ⟨va, vb, rfl, hOa, hOb, _, hu⟩
    obtain ⟨A14, c14, rfl, h14⟩ := own_ri hOa
    obtain ⟨A15, c15, rfl, h15⟩ := own_rs hOb
    rw [show exZ.length = 12 from rfl, show exS.length = 1 from rfl]
    have hk := hu.keep (ok := fun x => x ≠ gr) fun _ h => h
    replace h2 := (h2.keep hk).any
    replace h3 := (h3.keep hk).any
    replace h4 := (h4.keep hk).any
    replace h6 := (h6.keep hk).any
    replace b := b.trans (hu.below b.size (fun x _ e => by omega)); clear hu hr hOa hOb hS hk h1
    have HH3 := h3
    clear h3
    go_wp2_with fail
    refine (sames_ex A4 c4 _ h4).mono ?_
    rintro e w13 ⟨rfl, b1⟩
    replace h2 := h2.below b1; replace HH3 := HH3.below b1; replace h6 := h6.below b1; replace h14 := h14.below b1; replace h15 := h15.below b1; replace b := below2 b b1
    clear b1 h4
    go_wp2_with fail
    refine (ints18_ex A6 c6 _ h6).mono ?_
    rintro e w14 ⟨rfl, b1⟩
    replace h2 := h2.below b1; replace HH3 := HH3.below b1; replace h14 := h14.below b1; replace h15 := h15.below b1; replace b := below2 b b1
    clear b1 h6
    go_wp2_with fail
    refine (ints_ref A14 _ c14 12 exZ exZ _ h14 h2).mono ?_
    rintro e w15 ⟨rfl, b1⟩
    rw [sameL_refl]
    replace HH3 := HH3.below b1; replace h15 := h15.below b1; replace b := below2 b b1
    clear b1 h14 h2
    go_wp2_with fail
    refine (rsame_any A15 _ c15 1 exS exS _ h15.any HH3).mono ?_
    rintro e w16 ⟨rfl, b1⟩
    rw [sameS_refl]
    replace b := below2 b b1
    clear b1 h15 HH3
    go_wp2
    go_ret
    exact ⟨rfl, b⟩
end Go.Proofs.YtmcdgmiheklbeaaGreatDoor

namespace Go.Proofs.YtmcdgmiheklbeaaGreatDoor
open Go.RowKit

set_option maxHeartbeats 1000000 in
set_option maxRecDepth 100000 in
theorem rsure_any (A B : Option Addr) (c d : Nat) (ws l : List Int) (w : World) (hS : RI w A c ws) (hT : RI w B d l) (hw : ws.length ≤ 100000) :
    Calls Tryz.prog 43 #[.slice A ws.length c, .slice B l.length d] w fun e w' => e = .returned (.int .i64 (sureE ws l)) ∧ w = w' := by
  have HW := Lib.hid (widths18_any A c ws w hS hw)
  have HV := Lib.hid (rvalues_any B d l w hT)
  clear hS hT
  by_cases h1 : ws.all okV = true ∧ ws.length ≤ 128
  · have hb : (ws.all okV && decide (ws.length ≤ 128)) = true := by rw [h1.1, decide_eq_true h1.2]; rfl
    rw [hb, if_pos h1.1] at HW
    clear hb
    by_cases h2 : sumV ws ws.length = l.length
    · rw [h2] at HW
      have hne : ((l.length : Int) != (l.length : Int)) = false := by simp
      cases hq : quantB l
      · have HE := Lib.hid (show sureE ws l = 6 by unfold sureE; rw [if_pos ⟨h1.1, h1.2, h2⟩, if_neg (by simp [hq])])
        rw [hq] at HV
        rw [HE.out]
        clear h1 h2 hq HE
        go_enter Tryz.func43, Tryz.ntmps43
        go_wp2_with (first
          | (go_at_call 68; refine HW.out.mono ?_; rintro e w2 ⟨rfl, rfl⟩)
          | (go_at_call 69; refine HV.out.mono ?_; rintro e w2 ⟨rfl, rfl⟩))
        go_ret
        exact ⟨rfl, rfl⟩
      · have HE := Lib.hid (show sureE ws l = 0 by unfold sureE; rw [if_pos ⟨h1.1, h1.2, h2⟩, if_pos hq])
        rw [hq] at HV
        rw [HE.out]
        clear h1 h2 hq HE
        go_enter Tryz.func43, Tryz.ntmps43
        go_wp2_with (first
          | (go_at_call 68; refine HW.out.mono ?_; rintro e w2 ⟨rfl, rfl⟩)
          | (go_at_call 69; refine HV.out.mono ?_; rintro e w2 ⟨rfl, rfl⟩))
        go_ret
        exact ⟨rfl, rfl⟩
    · have HE := Lib.hid (show sureE ws l = 1 by unfold sureE; rw [if_neg (fun h => h2 h.2.2)])
      rw [HE.out]
      obtain ⟨R, hR⟩ : ∃ R, sumV ws ws.length = R := ⟨_, rfl⟩
      rw [hR] at HW h2
      have hne : ((R : Int) != (l.length : Int)) = true := by simp; omega
      clear h1 h2 HE hR
      go_enter Tryz.func43, Tryz.ntmps43
      go_wp2_with (go_at_call 68; refine HW.out.mono ?_; rintro e w2 ⟨rfl, rfl⟩)
      go_ret
      exact ⟨rfl, rfl⟩
  · have hb : (ws.all okV && decide (ws.length ≤ 128)) = false := by
      cases hc : ws.all okV
      · rfl
      · have : ¬ ws.length ≤ 128 := fun h => h1 ⟨hc, h⟩
        rw [decide_eq_false this]; rfl
    rw [hb] at HW
    obtain ⟨R, hR⟩ : ∃ R : Int, (if ws.all okV = true then ((sumV ws ws.length : Nat) : Int) else 0) = R := ⟨_, rfl⟩
    rw [hR] at HW
    have HE := Lib.hid (show sureE ws l = 1 by unfold sureE; rw [if_neg (fun h => h1 ⟨h.1, h.2.1⟩)])
    rw [HE.out]
    clear h1 HE hR hb
    go_enter Tryz.func43, Tryz.ntmps43
    go_wp2_with (go_at_call 68; refine HW.out.mono ?_; rintro e w2 ⟨rfl, rfl⟩)
    go_ret
    exact ⟨rfl, rfl⟩
theorem infoSl : (Tryz.prog.info? 22).map (fun i => (i.zero, i.size, i.bytes)) = some (some (.slice none 0 0), 1, 24) := by kernel_rfl
theorem own_r2 {e : TypeId} {base : Nat} {ok : Nat → Prop} {w : World} {v : Value} {xs : List (List Int)} (h : OwnK (kSl (kInt .i64)) e base ok w v xs) : ∃ A c, v = .slice A xs.length c ∧ R2 w A c xs := by
  obtain ⟨A, c, e, hs⟩ := h.rd
  exact ⟨A, c, e, hs.any⟩
set_option maxHeartbeats 4000000 in
set_option maxRecDepth 100000 in
theorem rcut_any (A B : Option Addr) (c d : Nat) (ws l : List Int) (w : World) (hS : RI w A c ws) (hT : RI w B d l) (hok : ws.all okV = true) (hsum : sumV ws ws.length = l.length) (h128 : ws.length ≤ 128) :
    Calls Tryz.prog 45 #[.slice A ws.length c, .slice B l.length d] w fun e w' => ∃ A1 c1, e = .returned (.slice A1 ws.length c1) ∧ R2 w' A1 c1 ((List.range ws.length).map (bndL ws l)) ∧ Below w.heap.size w w' := by
  obtain ⟨i0, hi0, hzz⟩ := Option.map_eq_some_iff.1 infoI
  simp only [Prod.mk.injEq] at hzz
  have HSZ := Lib.hid (show (kInt .i64).size = i0.size from hzz.2.1.symm)
  have HCT := Lib.hid (fun (A' : Option Addr) (m c' a : Nat) (h2 : a ≤ m) (hnc : m ≤ c') => cut_to (P := Tryz.prog) 22 3 Tryz.underlying22 hi0 A' m c' a h2 hnc)
  have HCF := Lib.hid (fun (A' : Option Addr) (m c' a : Nat) (h2 : a ≤ m) => cut_from (P := Tryz.prog) 22 3 Tryz.underlying22 hi0 A' m c' a h2)
  have HOK := Lib.hid (fun j (hj : j < ws.length) => okV_at hok j hj)
  have HSV := Lib.hid (fun j (hj : j < ws.length) => sumV_all hsum j hj)
  have HWC := Lib.hid (fun j (hj : j < ws.length) => show ∃ ad, A = some ad ∧ ∀ W', Below w.heap.size w W' → W'.cell? (ad.add j) = some (.int .i64 (nth 0 ws j)) from by
    obtain ⟨ad, h1, h2⟩ := rd_int hS j hj
    exact ⟨ad, h1, fun W' hb => cell_below hb h2⟩)
  have HT0 := Lib.hid (show Sl (kInt .i64) (fun x => x < w.heap.size) w B d l from sl_old hT)
  obtain ⟨n, hn⟩ : ∃ n, ws.length = n := ⟨_, rfl⟩
  rw [hn] at HOK HSV HWC ⊢
  rw [hn] at h128
  have HN := Lib.hid h128
  clear hS hT hok hsum h128 hn hzz hi0
  go_enter Tryz.func45, Tryz.ntmps45
  go_wp2
  go_loopw [1, 5, 7, 10] (fun lv ov wv kv wr => ∃ (k : Nat) (A' : Option Addr) (c' m : Nat), k ≤ n ∧ kv = .int .i64 (k : Int) ∧ lv = .slice A' m c' ∧ Hid (m + sumV ws k = l.length ∧ Sl (kInt .i64) (fun x => x < w.heap.size) wr A' c' (l.drop (sumV ws k))) ∧ Hid (OwnK (kSl (kInt .i64)) 22 w.heap.size (fun x => x < w.heap.size) wr ov ((List.range k).map (bndL ws l))) ∧ Hid (Below w.heap.size w wr)) (fun _ _ _ kv _ => n - (intOf kv).toNat)
  case atStart => exact ⟨0, B, d, l.length, Nat.zero_le _, rfl, rfl, Lib.hid ⟨rfl, HT0.out⟩, Lib.hid (OwnK.nil _ _ _ _ _), Lib.hid (Below.refl _ _)⟩
  case round =>
    obtain ⟨k, A', c', m, hk, rfl, rfl, HL, HO, HB⟩ := hrel
    by_cases hlt : k < n
    · obtain ⟨ad, rfl, hcw⟩ := HWC.out k hlt
      obtain ⟨o1, o2, o3⟩ := HOK.out k hlt
      have hsv := HSV.out k hlt
      have kc := hcw wr HB.out
      rw [o1] at kc
      have hlm := HL.out.1
      have hdl : (l.drop (sumV ws k)).length = m := by rw [List.length_drop]; omega
      have hmc : m ≤ c' := by have := HL.out.2.le; omega
      have ham : widV ws k ≤ m := by omega
      obtain ⟨A1, hc1, hs1⟩ := HCT.out A' m c' (widV ws k) ham hmc
      obtain ⟨A2, hc2, hs2⟩ := HCF.out A' m c' (widV ws k) ham
      have HS1 := Lib.hid (show Sl (kInt .i64) (fun x => x < w.heap.size) wr A1 c' (bndL ws l k) from hs1 (kInt .i64) _ wr _ HSZ.out hdl HL.out.2)
      have HS2 := Lib.hid (show Sl (kInt .i64) (fun x => x < w.heap.size) wr A2 (c' - widV ws k) (l.drop (sumV ws (k + 1))) from by
        have := hs2 (kInt .i64) _ wr _ HSZ.out hdl HL.out.2
        rw [List.drop_drop] at this
        rw [sumV_succ]; exact this)
      have HBL := Lib.hid (show (bndL ws l k).length = widV ws k by unfold bndL; rw [List.length_take, hdl]; omega)
      have HM2 := Lib.hid (show m - widV ws k + sumV ws (k + 1) = l.length by rw [sumV_succ]; omega)
      have HRL := Lib.hid (show (List.range (k + 1)).map (bndL ws l) = (List.range k).map (bndL ws l) ++ [bndL ws l k] by rw [List.range_succ, List.map_append]; rfl)
      have HLR := Lib.hid (show ((List.range k).map (bndL ws l)).length = k by simp)
      have hae := HBL.out.symm
      rw [hae] at hc1 hc2 HS2 HM2 kc
      have hki : (k : Int) < (n : Int) := by omega
      have hkd : decide ((k : Int) < (n : Int)) = true := decide_eq_true hki
      have hk0 : (0 : Int) ≤ (k : Int) := by omega
      have hN := HN.out
      have hwk : IntKind.i64.wrap ((k : Int) + 1) = ((k + 1 : Nat) : Int) := by rw [IntWalk.i64_in _ (by omega)]; omega
      have HLT := Lib.hid hlt
      obtain ⟨bl, hbl⟩ : ∃ bl, bndL ws l k = bl := ⟨_, rfl⟩
      rw [hbl] at HS1 HRL hc1 hc2 HS2 HM2 kc
      obtain ⟨L, hLL⟩ : ∃ L, (List.range k).map (bndL ws l) = L := ⟨_, rfl⟩
      rw [hLL] at HO HRL HLR
      clear hs1 hs2 o1 o2 o3 hsv hlm hdl hmc ham hae HBL hlt hk hN hcw hbl hLL HL HCT HCF
      go_wp2_with (at_builtin; go_loud (refine append_k (W := wr) (k := kSl (kInt .i64)) w.heap.size rfl (.tmp 14) (.tmp 18) 92 22 (.slice none 0 0) 24 (fun x => x < w.heap.size) rfl Tryz.underlying92 infoSl rfl (by decide) (by decide) _ L bl [.slice A1 bl.length c'] rfl rfl rfl HO.out ⟨A1, c', rfl, HS1.out.weak fun x _ h => ⟨h, fun e => by have h1 : x < w.heap.size := h; have := HO.out.base_le x e; omega⟩⟩ HB.out.size (by rw [HLR.out]; have := HN.out; have := HLT.out; omega) ?_); intro g5 cap5 w5 hO5 hg5 hge5 _; have HO5 := Lib.hid hO5; have HG5 := Lib.hid hg5; clear hO5 hg5 hge5)
      exact ⟨⟨k + 1, A2, c' - bl.length, m - bl.length, by have := HLT.out; omega, by go_num, rfl, Lib.hid ⟨HM2.out, HS2.out.keep ((Keep.of_grown HG5.out).weak fun x h e => by have h1 : x < w.heap.size := h; have := HO.out.base_le x e.symm; omega)⟩, Lib.hid (by rw [HRL.out]; exact HO5.out), Lib.hid (HB.out.grown HG5.out HB.out.size fun r e => HO.out.base_le r e)⟩, by
        show n - (((k : Int) + 1)).toNat < n - ((k : Int)).toNat
        have := HLT.out; omega⟩
    · have hke : k = n := by omega
      have hkd : decide ((k : Int) < (n : Int)) = false := decide_eq_false (by omega)
      have hkdn : decide (k < n) = false := decide_eq_false (by omega)
      obtain ⟨A5, c5, rfl, h5⟩ := own_r2 HO.out
      have HLR := Lib.hid (show ((List.range k).map (bndL ws l)).length = k by simp)
      obtain ⟨L, hLL⟩ : ∃ L, (List.range k).map (bndL ws l) = L := ⟨_, rfl⟩
      rw [hLL] at h5 HLR ⊢
      have HKE := Lib.hid hke
      have HLL := Lib.hid hLL
      have HH5 := Lib.hid h5
      clear hk hlt hke hLL h5 HO
      go_wp2
      go_ret
      exact ⟨A5, c5, by rw [HLR.out, HKE.out]; rfl, by rw [← HKE.out, HLL.out]; exact HH5.out, HB.out⟩
end Go.Proofs.YtmcdgmiheklbeaaGreatDoor

namespace Go.Proofs.YtmcdgmiheklbeaaGreatDoor
open Go.RowKit

/-- No two neighbours are the same. -/
def ADL (L : List Int) : Prop := ∀ i, i + 1 < L.length → nth 0 L (i + 1) ≠ nth 0 L i
theorem nth_fst (s : List (Int × Int)) (i : Nat) (h : i < s.length) : nth 0 (s.map (·.1)) i = (nth (0, 0) s i).1 := by
  rw [nth_eq 0 _ i (by simpa using h), nth_eq (0, 0) s i h]; simp
theorem rnS_AD {s : List (Int × Int)} {x : Int} (h : ADL (s.map (·.1))) : ADL ((rnS s x).map (·.1)) := by
  unfold rnS
  split
  · rename_i hc
    have e : (s.set (s.length - 1) ((nth (0, 0) s (s.length - 1)).1, (nth (0, 0) s (s.length - 1)).2 + 1)).map (·.1) = s.map (·.1) := by
      apply List.ext_getElem
      · simp
      · intro i h1 h2
        have hi : i < s.length := by simpa using h2
        rw [List.getElem_map, List.getElem_map, List.getElem_set]
        split
        · rename_i e
          subst e
          show (nth (0, 0) s (s.length - 1)).1 = _
          rw [nth_eq (0, 0) s _ hi]
        · rfl
    rw [e]; exact h
  · rename_i hc
    rw [List.map_append]
    intro i hi
    have hl : (s.map (·.1)).length = s.length := by simp
    have hi2 : i + 1 < s.length + 1 := by simpa using hi
    rcases Nat.lt_or_ge (i + 1) s.length with h1 | h1
    · rw [nth_append_left _ _ _ _ (by omega), nth_append_left _ _ _ _ (by omega)]
      exact h i (by omega)
    · rw [nth_append_right _ _ _ _ (by omega), nth_append_left _ _ _ _ (by omega), nth_fst s i (by omega), hl, show i + 1 - s.length = 0 by omega]
      show x ≠ _
      intro e
      refine hc ⟨by omega, ?_⟩
      rw [show s.length - 1 = i by omega]; exact e.symm
theorem fold_AD : ∀ (l : List Int) (s : List (Int × Int)), ADL (s.map (·.1)) → ADL ((l.foldl rnS s).map (·.1))
  | [], _, h => h
  | x :: l, s, h => fold_AD l (rnS s x) (rnS_AD h)
theorem rnK_adj (l : List Int) : adjK (rnK l) = true := by
  have h := fold_AD l [] (fun i h => by simp at h)
  refine adjK_yes fun i hi => ?_
  cases i with
  | zero => exact .inl rfl
  | succ q =>
    right
    rw [Nat.add_sub_cancel]
    have hi' : q + 1 < (l.foldl rnS []).length := hi
    have := h q (by simpa using hi')
    rw [nth_fst _ _ hi', nth_fst _ _ (by omega)] at this
    exact this
/-- Right sections are those that cost counts. -/
theorem right_val {ws l : List Int} {s : List (Int × Int)} (h128 : ws.length ≤ 128) : (costV ws l s).2 = (decide (booksE s = 0) && decide ((booksL s).length = ws.length) && sameS (rnK (booksL s)) s && bdOK ws l (booksL s)) := by
  cases hc : (costV ws l s).2
  · cases hr : (decide (booksE s = 0) && decide ((booksL s).length = ws.length) && sameS (rnK (booksL s)) s && bdOK ws l (booksL s))
    · rfl
    · rw [Bool.and_eq_true, Bool.and_eq_true, Bool.and_eq_true, decide_eq_true_eq, decide_eq_true_eq] at hr
      obtain ⟨⟨⟨h1, h2⟩, h3⟩, h4⟩ := hr
      have h5 : rnK (booksL s) = s := of_decide_eq_true h3
      have h6 : adjK s = true := by rw [← h5]; exact rnK_adj _
      unfold costV at hc
      rw [if_pos ⟨h1, h2, h6, h4⟩] at hc
      cases hc
  · obtain ⟨h1, h2, _, h4, _⟩ := costV_ok hc
    have hw := ways_of_cost hc
    have h5 : rnK (booksL s) = s := by rw [(ways_books h128 hw).2.1]; exact ways_rnK hw
    rw [decide_eq_true h1, decide_eq_true h2, h4, h5, sameS_refl]; rfl
theorem quantB_bnd {ws l : List Int} (hq : quantB l = true) (j : Nat) : quantB (bndL ws l j) = true := by
  unfold quantB bndL at *
  rw [List.all_eq_true] at *
  exact fun x hx => hq x (List.mem_of_mem_drop (List.mem_of_mem_take hx))
theorem band_fit {ws l bs : List Int} {j b : Nat} (hq : quantB l = true) (hb : nth 0 bs j = (b : Int)) (h8 : b < 8) : ((bdC ws l bs j).2 = 0 ↔ fitB b (bndL ws l j) = true) := by
  have hqb := quantB_bnd (ws := ws) hq j
  unfold bdC
  rw [hb, (bkC_at hqb b h8).2.2]
  cases fitB b (bndL ws l j) <;> simp
theorem bksP_in : ∀ (s : List (Int × Int)) (o0 : List Int), (∀ x ∈ o0, 0 ≤ x ∧ x < 8) → ∀ o, s.foldl bksS (some o0) = some o → ∀ x ∈ o, 0 ≤ x ∧ x < 8
  | [], o0, h, o, e => by cases e; exact h
  | y :: s, o0, h, o, e => by
    by_cases hb : y.1 < 0 ∨ 8 ≤ y.1 ∨ y.2 < 1 ∨ 128 - (o0.length : Int) < y.2
    · have e1 : bksS (some o0) y = none := if_pos hb
      rw [List.foldl_cons, e1, bks_none] at e
      cases e
    · have e1 : bksS (some o0) y = some (o0 ++ List.replicate y.2.toNat y.1) := if_neg hb
      rw [List.foldl_cons, e1] at e
      refine bksP_in s _ (fun x hx => ?_) o e
      rcases List.mem_append.1 hx with hx | hx
      · exact h x hx
      · have := (List.mem_replicate.1 hx).2
        omega
theorem books_in {s : List (Int × Int)} (h : booksE s = 0) (j : Nat) (hj : j < (booksL s).length) : ∃ b : Nat, nth 0 (booksL s) j = (b : Int) ∧ b < 8 := by
  cases hp : bksP s with
  | none => unfold booksE at h; rw [hp] at h; simp at h
  | some o =>
    have e : booksL s = o := by unfold booksL; rw [hp]; rfl
    rw [e] at hj ⊢
    have := bksP_in s [] (by simp) o hp _ (nth_mem 0 o j hj)
    exact ⟨(nth 0 o j).toNat, by omega, by omega⟩
set_option maxHeartbeats 4000000 in
set_option maxRecDepth 100000 in
theorem rright_any (B0 B1 D : Option Addr) (d0 c1 e0 : Nat) (ws l : List Int) (s : List (Int × Int)) (w : World) (hA : Sl kBk AnyB w B0 d0 allK) (hB : R2 w B1 c1 ((List.range ws.length).map (bndL ws l))) (hS : RS w D e0 s) (hq : quantB l = true) (h128 : ws.length ≤ 128) :
    Calls Tryz.prog 55 #[.slice B0 8 d0, .slice B1 ws.length c1, .slice D s.length e0] w fun e w' => e = .returned (.bool (costV ws l s).2) ∧ Below w.heap.size w w' := by
  have HVV := Lib.hid (right_val (l := l) (s := s) h128)
  have HBK := Lib.hid (rbooks_any D e0 s w hS)
  obtain ⟨V, hV⟩ : ∃ V, (costV ws l s).2 = V := ⟨_, rfl⟩
  rw [hV] at HVV ⊢
  clear hV
  by_cases hE : booksE s = 0
  · have HIN := Lib.hid (fun j hj => books_in hE j hj)
    rw [hE] at HBK
    obtain ⟨bs, hbs⟩ : ∃ bs, booksL s = bs := ⟨_, rfl⟩
    rw [hbs] at HBK HVV HIN
    obtain ⟨n, hn⟩ : ∃ n, ws.length = n := ⟨_, rfl⟩
    by_cases hl : bs.length = n
    · have HRN := Lib.hid (fun A c W (h : RI W A c bs) => rruns_any A c bs W h (by omega))
      have HSM := Lib.hid (fun A c W (h : RS W A c (rnK bs)) (hb : Below w.heap.size w W) => rsame_any A D c e0 (rnK bs) s W h (hS.below hb))
      rw [hn] at HVV hB ⊢
      rw [hl] at HRN
      have hne : ((n : Int) != (n : Int)) = false := by simp
      cases hsm : sameS (rnK bs) s
      · rw [hsm] at HSM
        have HVF := Lib.hid (show V = false by rw [HVV.out, hsm]; simp)
        clear hE hsm hS hA hB hq h128 hn
        go_enter Tryz.func55, Tryz.ntmps55
        go_wp2_with (first
          | (go_at_call 85; refine HBK.out.mono ?_; rintro e w2 ⟨v2, rfl, hO2, b2⟩; obtain ⟨A2, c2, rfl, h2⟩ := own_ri hO2; rw [hl]; have H2 := Lib.hid h2; clear hO2 h2)
          | (go_at_call 76; refine (HRN.out _ _ _ H2.out).mono ?_; rintro e w3 ⟨v3, rfl, hO3, b3⟩; obtain ⟨A3, c3, rfl, h3⟩ := own_rs hO3; have H3 := Lib.hid h3.any; clear hO3 h3)
          | (go_at_call 17; refine (HSM.out _ _ _ H3.out (below2 b2 b3)).mono ?_; rintro e w4 ⟨rfl, b4⟩))
        go_ret
        exact ⟨by rw [HVF.out]; rfl, below2 (below2 b2 b3) b4⟩
      · rw [hsm] at HSM
        have HVB := Lib.hid (show V = bdOK ws l bs by rw [HVV.out, hsm, decide_eq_true hE, decide_eq_true hl]; rfl)
        have HBN := Lib.hid (fun j (hj : j < ws.length) (h : (bdC ws l bs j).2 ≠ 0) => bdOK_no hj h)
        have HBY := Lib.hid (fun (h : ∀ j, j < ws.length → (bdC ws l bs j).2 = 0) => bdOK_yes h)
        have HFI := Lib.hid (fun (j b : Nat) (hb : nth 0 bs j = (b : Int)) (h8 : b < 8) => band_fit (ws := ws) (l := l) (bs := bs) (j := j) (b := b) hq hb h8)
        have HHA := Lib.hid (fun A1 n1 c1 A2 n2 c2 b A c j W (h : RI W A c (bndL ws l j)) => rhas_any A A1 A2 c n1 c1 n2 c2 b (bndL ws l j) W h (quantB_bnd hq j))
        have HAL := Lib.hid (fun W (hb : Below w.heap.size w W) b (h8 : b < 8) => rd_all (hA.below hb) b h8)
        have HSL := Lib.hid (fun W (hb : Below w.heap.size w W) j (hj : j < n) => show ∃ ad A' c', B1 = some ad ∧ W.cell? (ad.add j) = some (.slice A' (bndL ws l j).length c') ∧ RI W A' c' (bndL ws l j) from by
          obtain ⟨ad, A', c', h1, h2, h3⟩ := rd_sl (hB.below hb) j (by simp; exact hj)
          have e : nth [] ((List.range n).map (bndL ws l)) j = bndL ws l j := by rw [nth_eq _ _ j (by simp; exact hj)]; simp
          rw [e] at h2 h3
          exact ⟨ad, A', c', h1, h2, h3⟩)
        rw [hn] at HBN HBY
        have HLB := Lib.hid hl
        have HN := Lib.hid (show n ≤ 128 by omega)
        clear hE hsm hS hA hB hq h128 hn
        go_enter Tryz.func55, Tryz.ntmps55
        go_wp2_with (first
          | (go_at_call 85; refine HBK.out.mono ?_; rintro e w2 ⟨v2, rfl, hO2, b2⟩; obtain ⟨A2, c2, rfl, h2⟩ := own_ri hO2; rw [hl]; have H2 := Lib.hid h2; clear hO2 h2)
          | (go_at_call 76; refine (HRN.out _ _ _ H2.out).mono ?_; rintro e w3 ⟨v3, rfl, hO3, b3⟩; obtain ⟨A3, c3, rfl, h3⟩ := own_rs hO3; have H3 := Lib.hid h3.any; clear hO3 h3)
          | (go_at_call 17; refine (HSM.out _ _ _ H3.out (below2 b2 b3)).mono ?_; rintro e w4 ⟨rfl, b4⟩; have HB4 := Lib.hid (below2 (below2 b2 b3) b4); have H4 := Lib.hid (H2.out.below (below2 b3 b4)); clear b2 b3 b4))
        go_loopw [9, 10, 34] (fun iv lv kv wr => ∃ k : Nat, k ≤ n ∧ kv = .int .i64 (k : Int) ∧ Hid (∀ j, j < k → (bdC ws l bs j).2 = 0) ∧ Hid (Below w4.heap.size w4 wr)) (fun _ _ kv _ => n - (intOf kv).toNat)
        case atStart => exact ⟨0, Nat.zero_le _, rfl, Lib.hid (fun j h => absurd h (Nat.not_lt_zero _)), Lib.hid (Below.refl _ _)⟩
        case round =>
          obtain ⟨k, hk, rfl, HZ, HB⟩ := hrel
          by_cases hlt : k < n
          · have hB5 := below2 HB4.out HB.out
            obtain ⟨ad, Ab, cb, rfl, y0, y1⟩ := HSL.out wr hB5 k hlt
            obtain ⟨b, hnb, hb8⟩ := HIN.out k (by rw [hl]; exact hlt)
            obtain ⟨ad2, rfl, hc2⟩ := rd_int (H4.out.below HB.out) k (by rw [hl]; exact hlt)
            rw [hnb] at hc2
            obtain ⟨ad3, T1, t1, T2, t2, rfl, _, _, k0, k1, k2, k3, k4, k5⟩ := HAL.out wr hB5 b hb8
            have HFK := Lib.hid (HFI.out k b hnb hb8)
            have HH := Lib.hid (HHA.out T1 (tabKI b).length t1 T2 (tabKI b).length t2 b Ab cb k wr y1)
            have HNK := Lib.hid (HBN.out k hlt)
            obtain ⟨F, hF⟩ : ∃ F, fitB b (bndL ws l k) = F := ⟨_, rfl⟩
            rw [hF] at HFK HH
            obtain ⟨nb, hnbl⟩ : ∃ nb, (bndL ws l k).length = nb := ⟨_, rfl⟩
            rw [hnbl] at y0 HH
            obtain ⟨nt, hnt⟩ : ∃ nt, (tabKI b).length = nt := ⟨_, rfl⟩
            rw [hnt] at k4 k5 HH
            have hki : (k : Int) < (n : Int) := by omega
            have hkd : decide ((k : Int) < (n : Int)) = true := decide_eq_true hki
            have hk0 : (0 : Int) ≤ (k : Int) := by omega
            have hbi : (b : Int) < 8 := by omega
            have hb0 : (0 : Int) ≤ (b : Int) := by omega
            have hN := HN.out
            have hwk : IntKind.i64.wrap ((k : Int) + 1) = ((k + 1 : Nat) : Int) := by rw [IntWalk.i64_in _ (by omega)]; omega
            have HLT := Lib.hid hlt
            have HZ2 := Lib.hid (show (bdC ws l bs k).2 = 0 → ∀ j, j < k + 1 → (bdC ws l bs j).2 = 0 from fun h j hj => by
              by_cases e : j = k
              · rw [e]; exact h
              · exact HZ.out j (by omega))
            clear hnb hb8 hF hnbl hnt y1 hk hlt hN hB5 HZ
            cases F
            · have HVF := Lib.hid (show V = false by rw [HVB.out]; exact HNK.out (fun h => by have := HFK.out.1 h; cases this))
              go_wp2_with (go_at_call 86; refine HH.out.mono ?_; rintro e w5 ⟨rfl, b5⟩)
              go_ret
              exact ⟨by rw [HVF.out]; rfl, below2 (below2 HB4.out HB.out) b5⟩
            · go_wp2_with (go_at_call 86; refine HH.out.mono ?_; rintro e w5 ⟨rfl, b5⟩)
              exact ⟨⟨k + 1, by have := HLT.out; omega, rfl, Lib.hid (HZ2.out (HFK.out.2 (by first | rfl | trivial))), Lib.hid (below2 HB.out b5)⟩, by
                show n - ((((k + 1 : Nat) : Int))).toNat < n - ((k : Int)).toNat
                rw [Int.toNat_natCast, Int.toNat_natCast]; have := HLT.out; omega⟩
          · have hke : k = n := by omega
            have hkd : decide ((k : Int) < (n : Int)) = false := decide_eq_false (by omega)
            have hkdn : decide (k < n) = false := decide_eq_false (by omega)
            have HVT := Lib.hid (show V = true by rw [HVB.out]; exact HBY.out (by rw [← hke]; exact HZ.out))
            clear hk hlt hke
            go_wp2
            go_ret
            exact ⟨by rw [HVT.out]; rfl, below2 HB4.out HB.out⟩
    · rw [hn] at HVV ⊢
      have hne : ((bs.length : Int) != (n : Int)) = true := by simp; omega
      have HVF := Lib.hid (show V = false by rw [HVV.out, decide_eq_false hl]; simp)
      clear hE hS hA hB hq h128 hn hl
      go_enter Tryz.func55, Tryz.ntmps55
      go_wp2_with (go_at_call 85; refine HBK.out.mono ?_; rintro e w2 ⟨v2, rfl, hO2, b2⟩; obtain ⟨A2, c2, rfl, h2⟩ := own_ri hO2; clear hO2 h2)
      go_ret
      exact ⟨by rw [HVF.out]; rfl, b2⟩
  · have hEb : (booksE s != 0) = true := by simp [hE]
    have HVF := Lib.hid (show V = false by rw [HVV.out, decide_eq_false hE]; simp)
    obtain ⟨bs, hbs⟩ : ∃ bs, booksL s = bs := ⟨_, rfl⟩
    rw [hbs] at HBK HVV
    clear hE hS hA hB hq h128
    go_enter Tryz.func55, Tryz.ntmps55
    go_wp2_with (go_at_call 85; refine HBK.out.mono ?_; rintro e w2 ⟨v2, rfl, hO2, b2⟩; obtain ⟨A2, c2, rfl, h2⟩ := own_ri hO2; clear hO2 h2)
    go_ret
    exact ⟨by rw [HVF.out]; rfl, b2⟩
end Go.Proofs.YtmcdgmiheklbeaaGreatDoor
