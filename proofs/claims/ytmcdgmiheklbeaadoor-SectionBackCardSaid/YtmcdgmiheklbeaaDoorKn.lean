/- The statements' Bytes: Right, Begun; Room: Begun: what each call returns. · The statements' Bytes: Begun: what it returns. · The statements' Room: Begun: what it returns. · The statements about sections: awake: what it returns. · section: Books of Runs are the books. · What the arguments of a law read as: []bool, the statements' Bytes and Room. · What the arguments of a law read as: []api.Section, the statements' Cut. · The laws of section: the two variables that the rows list. -/
import Derived.Test.YtmcdgmiheklbeaaDoorKm
import Derived.Test.YtmcdgmiheklbeaaDoorKb
import Derived.Test.YtmcdgmiheklbeaaDoorKk
import Derived.Test.YtmcdgmiheklbeaaDoorKe
import Derived.Deep.Grids
import Derived.Test.YtmcdgmiheklbeaaDoorKc
import Derived.Test.YtmcdgmiheklbeaaDoorRows
import Derived.OpenShut
import Derived.MakeChecks
namespace Go.Proofs.YtmcdgmiheklbeaaDoor
open Go.RowKit

def rightB (n : Nat) (N At : Int) : Bool := decide (n ≤ 2000) && decide (0 ≤ N) && decide (N ≤ 8 * (n : Int)) && decide (0 ≤ At) && decide (At ≤ N)

set_option maxHeartbeats 2000000 in
set_option maxRecDepth 100000 in
theorem right17_any (A : Option Addr) (n c : Nat) (N At : Int) (w : World) :
    Calls Tryd.prog 8 #[.agg #[.slice A n c, .int .i64 N, .int .i64 At]] w fun e w' => e = .returned (.bool (rightB n N At)) ∧ Below w.heap.size w w' := by
  have hrb : ∀ r, rightB n N At = r → Hid (rightB n N At = r) := fun _ h => Lib.hid h
  by_cases q1 : n ≤ 2000
  · have d1 : decide ((n : Int) ≤ 2000) = true := decide_eq_true (by omega)
    have hw8 : IntKind.i64.wrap (8 * (n : Int)) = 8 * (n : Int) := IntWalk.i64_in _ (by omega)
    by_cases q2 : (0 : Int) ≤ N
    · have d2 : decide (0 ≤ N) = true := decide_eq_true (by omega)
      by_cases q3 : N ≤ 8 * (n : Int)
      · have d3 : decide (N ≤ 8 * (n : Int)) = true := decide_eq_true (by omega)
        by_cases q4 : (0 : Int) ≤ At
        · have d4 : decide (0 ≤ At) = true := decide_eq_true (by omega)
          by_cases q5 : At ≤ N
          · have d5 : decide (At ≤ N) = true := decide_eq_true (by omega)
            have HR := hrb true (by unfold rightB; simp [q1, q2, q3, q4, q5])
            clear hrb q1 q2 q3 q4 q5
            go_enter Tryd.func8, Tryd.ntmps8
            go_wp2
            go_ret
            exact ⟨ret_bool HR.out.symm, below_alloc (Below.refl _ _) _⟩
          · have d5 : decide (At ≤ N) = false := decide_eq_false (by omega)
            have HR := hrb false (by unfold rightB; simp [q1, q2, q3, q4, q5])
            clear hrb q1 q2 q3 q4 q5
            go_enter Tryd.func8, Tryd.ntmps8
            go_wp2
            go_ret
            exact ⟨ret_bool HR.out.symm, below_alloc (Below.refl _ _) _⟩
        · have d4 : decide (0 ≤ At) = false := decide_eq_false (by omega)
          have HR := hrb false (by unfold rightB; simp [q1, q2, q3, q4])
          clear hrb q1 q2 q3 q4
          go_enter Tryd.func8, Tryd.ntmps8
          go_wp2
          go_ret
          exact ⟨ret_bool HR.out.symm, below_alloc (Below.refl _ _) _⟩
      · have d3 : decide (N ≤ 8 * (n : Int)) = false := decide_eq_false (by omega)
        have HR := hrb false (by unfold rightB; simp [q1, q2, q3])
        clear hrb q1 q2 q3
        go_enter Tryd.func8, Tryd.ntmps8
        go_wp2
        go_ret
        exact ⟨ret_bool HR.out.symm, below_alloc (Below.refl _ _) _⟩
    · have d2 : decide (0 ≤ N) = false := decide_eq_false (by omega)
      have HR := hrb false (by unfold rightB; simp [q1, q2])
      clear hrb q1 q2
      go_enter Tryd.func8, Tryd.ntmps8
      go_wp2
      go_ret
      exact ⟨ret_bool HR.out.symm, below_alloc (Below.refl _ _) _⟩
  · have d1 : decide ((n : Int) ≤ 2000) = false := decide_eq_false (by omega)
    have HR := hrb false (by unfold rightB; simp [q1])
    clear hrb q1
    go_enter Tryd.func8, Tryd.ntmps8
    go_wp2
    go_ret
    exact ⟨ret_bool HR.out.symm, below_alloc (Below.refl _ _) _⟩
end Go.Proofs.YtmcdgmiheklbeaaDoor

namespace Go.Proofs.YtmcdgmiheklbeaaDoor
open Go.RowKit

set_option maxHeartbeats 2000000 in
set_option maxRecDepth 100000 in
theorem bbegun_any (A : Option Addr) (c : Nat) (b : List Int) (m i : Nat) (w : World) (hS : RY w A c b) (hb : ∀ x ∈ b, 0 ≤ x ∧ x < 256) (hm : b.length ≤ 2000) (h8 : m ≤ 8 * b.length) (hi : i ≤ m) :
    Calls Tryd.prog 10 #[.agg #[.slice A b.length c, .int .i64 (m : Int), .int .i64 (i : Int)]] w
      fun e w' => ∃ gr gt k, e = .returned (.tuple #[.pointer (some ⟨gr, 0, none⟩), .pointer (some ⟨gt, 0, none⟩)]) ∧ Rr (fun x => w.heap.size ≤ x ∧ x < k) w' gr (ofB b m) i ∧ Tr (fun x => k ≤ x) w' gt (ofB b m) i 0 ∧ w.heap.size ≤ k ∧ Below w.heap.size w w' := by
  have hba := below_alloc (Below.refl w.heap.size w) (.cells #[.slice A b.length c, .int .i64 (m : Int), .int .i64 (i : Int)] 24)
  have HBA := Lib.hid hba
  have hbx : Blk (w.alloc (.cells #[.slice A b.length c, .int .i64 (m : Int), .int .i64 (i : Int)] 24)) w.heap.size #[.slice A b.length c, .int .i64 (m : Int), .int .i64 (i : Int)] 24 := heap_alloc_new w _
  have HBX := Lib.hid hbx
  have HOP := Lib.hid (ropen_ok A c b m _ (hS.below hba) hb (by omega) h8 (by omega))
  have HLN := Lib.hid (ofB_length b m)
  have HS := Lib.hid hS
  have HBT := Lib.hid (fun W (h : Below w.heap.size w W) => tbits_any A c b m W (hS.below h) hb h8 (by omega))
  have HZ := Lib.hid (show (w.alloc (.cells #[.slice A b.length c, .int .i64 (m : Int), .int .i64 (i : Int)] 24)).heap.size = w.heap.size + 1 from World.size_alloc _ _)
  have HSE := Lib.hid (show seekE (ofB b m) (i : Int) = 0 ∧ seekI (ofB b m) 0 (i : Int) = i by unfold seekE seekI; rw [if_neg (by rw [ofB_length]; omega), if_neg (by rw [ofB_length]; omega)]; simp)
  clear hba hbx hS hb
  go_enter Tryd.func10, Tryd.ntmps10
  go_wp2_with (first
    | (go_at_call 26; refine HOP.out.mono ?_; rintro e w2 ⟨g, rfl, hR2, b2, hg2⟩; have HR2 := Lib.hid hR2; have hx := (HBX.out.below b2).cell 2 rfl; clear hR2)
    | (go_at_call 28; refine (rseek_any _ g 0 (i : Int) (ofB b m) _ HR2.out).mono ?_; rw [HSE.out.1, HSE.out.2]; rintro e w3 ⟨rfl, hR3, hu3⟩))
  have hz := HZ.out
  obtain ⟨gx, hgx⟩ : ∃ gx, w.heap.size = gx := ⟨_, rfl⟩
  have hgg : g ≠ gx := by omega
  have hB3 := (HBX.out.below b2).keep (hu3.keep (ok := fun x => x ≠ g) fun _ h => h) (by omega)
  rw [hgx] at hB3
  have hb03 : Below w.heap.size w w3 := (below2 HBA.out b2).trans (hu3.below (below2 HBA.out b2).size (fun x _ e => by omega))
  have HB03 := Lib.hid hb03
  have HB3 := Lib.hid hB3
  have HR3 := Lib.hid hR3
  have HNN := Lib.hid (show w.heap.size = gx ∧ gx ≤ g from ⟨hgx, by omega⟩)
  simp only [hgx]
  clear hu3 hx b2 HOP HBA hz hB3 hR3 hb03 hgx hg2
  have hHeld0 : (fun W : World => W.cell? ⟨gx, 0, none⟩ = some (.slice A b.length c) ∧ W.cell? ⟨gx, 1, none⟩ = some (.int .i64 (m : Int)) ∧ W.cell? ⟨gx, 2, none⟩ = some (.int .i64 (i : Int))) w3 := ⟨HB3.out.cell 0 rfl, HB3.out.cell 1 rfl, HB3.out.cell 2 rfl⟩
  refine wp_region_G 11 (fun W : World => W.cell? ⟨gx, 0, none⟩ = some (.slice A b.length c) ∧ W.cell? ⟨gx, 1, none⟩ = some (.int .i64 (m : Int)) ∧ W.cell? ⟨gx, 2, none⟩ = some (.int .i64 (i : Int))) (by kernel_rfl) hHeld0 (fun hHeld => ?_)
  refine wpAnyG_takeL (i := 0) (.pointer (some ⟨g, 0, none⟩)) [10, 11] rfl (by kernel_rfl) (fun _ _ _ h => h) hHeld (by rfl) ?_ ?_
  · (intro W' hSw; (try dsimp only at hSw); go_simp)
  try simp only [Act.put, List.setIfInBounds_toArray, List.set_cons_zero, List.set_cons_succ]
  refine wpAnyG_takeL (i := 1) (.pointer (some ⟨gx, 0, none⟩)) [2, 5, 8, 9, 11] rfl (by kernel_rfl) (fun _ _ _ h => h) hHeld (by rfl) ?_ ?_
  · (intro W' hSw; (try dsimp only at hSw); go_simp)
  try simp only [Act.put, List.setIfInBounds_toArray, List.set_cons_zero, List.set_cons_succ]
  refine wpAnyG_takeL (i := 2) (.slice A b.length c) [5, 8, 9, 11] rfl (by kernel_rfl) (fun _ _ _ h => h) hHeld (by rfl) ?_ ?_
  · (intro W' hSw; (try dsimp only at hSw); go_simp)
  try simp only [Act.put, List.setIfInBounds_toArray, List.set_cons_zero, List.set_cons_succ]
  refine wpAnyG_takeL (i := 3) (.pointer (some ⟨gx, 1, none⟩)) [4, 5, 8, 9, 11] rfl (by kernel_rfl) (fun _ _ _ h => h) hHeld (by rfl) ?_ ?_
  · (intro W' hSw; (try dsimp only at hSw); go_simp)
  try simp only [Act.put, List.setIfInBounds_toArray, List.set_cons_zero, List.set_cons_succ]
  refine wpAnyG_takeL (i := 4) (.int .i64 m) [5, 8, 9, 11] rfl (by kernel_rfl) (fun _ _ _ h => h) hHeld (by rfl) ?_ ?_
  · (intro W' hSw; (try dsimp only at hSw); go_simp)
  try simp only [Act.put, List.setIfInBounds_toArray, List.set_cons_zero, List.set_cons_succ]
  refine wpAnyG_takeL (i := 6) (.pointer (some ⟨gx, 2, none⟩)) [7, 8, 9, 11] rfl (by kernel_rfl) (fun _ _ _ h => h) hHeld (by rfl) ?_ ?_
  · (intro W' hSw; (try dsimp only at hSw); go_simp)
  try simp only [Act.put, List.setIfInBounds_toArray, List.set_cons_zero, List.set_cons_succ]
  refine wpAnyG_takeL (i := 7) (.int .i64 i) [8, 9, 11] rfl (by kernel_rfl) (fun _ _ _ h => h) hHeld (by rfl) ?_ ?_
  · (intro W' hSw; (try dsimp only at hSw); go_simp)
  try simp only [Act.put, List.setIfInBounds_toArray, List.set_cons_zero, List.set_cons_succ]
  clear hHeld
  refine wpAnyG_oneL (i := 5) (by kernel_rfl) rfl (fun K hK => ?_)
  (go_simp; go_at_call 33; refine (HBT.out _ (HB03.out.drew)).mono ?_; rintro e w4 ⟨v4, rfl, hO4, b4⟩)
  obtain ⟨A4, c4, rfl, hL4⟩ := hO4.rd
  have b34 : Below w3.heap.size w3 w4 := (Below.refl _ _).drew.trans b4
  have HB4 := Lib.hid (HB3.out.below b34)
  have hHeld4 : (fun W : World => W.cell? ⟨gx, 0, none⟩ = some (.slice A b.length c) ∧ W.cell? ⟨gx, 1, none⟩ = some (.int .i64 (m : Int)) ∧ W.cell? ⟨gx, 2, none⟩ = some (.int .i64 (i : Int))) w4 := ⟨HB4.out.cell 0 rfl, HB4.out.cell 1 rfl, HB4.out.cell 2 rfl⟩
  refine hK.out _ _ (fun _ => hHeld4) ?_
  clear hK K
  try simp only [Act.put, List.setIfInBounds_toArray, List.set_cons_zero, List.set_cons_succ]
  refine wpAnyG_takeL (i := 8) (.agg #[.slice A4 (bitsI (ofB b m)).length c4, .int .i64 i, .int .i64 0]) [9, 11] rfl (by kernel_rfl) (fun _ _ _ h => h) hHeld4 (by rfl) ?_ ?_
  · (intro W' hSw; (try dsimp only at hSw); go_simp)
  try simp only [Act.put, List.setIfInBounds_toArray, List.set_cons_zero, List.set_cons_succ]
  refine wpAnyG_takeL (i := 10) (.pointer (some ⟨g, 0, none⟩)) [11] rfl (by kernel_rfl) (fun _ _ _ h => h) hHeld4 (by rfl) ?_ ?_
  · (intro W' hSw; (try dsimp only at hSw); go_simp)
  try simp only [Act.put, List.setIfInBounds_toArray, List.set_cons_zero, List.set_cons_succ]
  clear hHeld4
  refine wpAnyG_oneL (i := 9) (by kernel_rfl) rfl (fun K hK => ?_)
  go_simp
  refine hK.out _ _ (fun _ => ?_) ?_
  · exact ⟨(HB4.out.below (below_alloc (Below.refl _ _) _)).cell 0 rfl, (HB4.out.below (below_alloc (Below.refl _ _) _)).cell 1 rfl, (HB4.out.below (below_alloc (Below.refl _ _) _)).cell 2 rfl⟩
  clear hK K
  try simp only [Act.put, List.setIfInBounds_toArray, List.set_cons_zero, List.set_cons_succ]
  refine wpAnyG_oneL (i := 11) (by kernel_rfl) rfl (fun K hK => ?_)
  go_simp
  refine hK.out _ _ (fun h => Bool.noConfusion (show true = false from h)) ?_
  clear hK K
  refine wpAnyG_done (by kernel_rfl) ?_ _
  go_wp2
  go_ret2
  have hln := HLN.out
  have hz := HZ.out
  have hbl : (bitsI (ofB b m)).length = (ofB b m).length := bitsI_length _
  have hL5 := hL4.below (below_alloc (Below.refl w4.heap.size w4) (.cells #[.slice A4 (bitsI (ofB b m)).length c4, .int .i64 (i : Int), .int .i64 0] 41))
  refine ⟨g, w4.heap.size, rfl, w3.heap.size, ?_, ⟨A4, c4, ?_, ?_, by omega, by omega, b34.size⟩, HB03.out.size, (below2 HB03.out b34).alloc (below2 HB03.out b34).size _⟩
  · exact ((HR3.out.weak (o' := fun x => w.heap.size ≤ x ∧ x < w3.heap.size) (fun x hx h => ⟨by omega, hx⟩)).below b34).below (below_alloc (Below.refl _ _) _)
  · rw [← hbl]; exact heap_alloc_new w4 _
  · exact (hL4.weak (ok' := fun x => w3.heap.size ≤ x ∧ x ≠ w4.heap.size) (fun x hx h => ⟨h.1, by omega⟩)).below (below_alloc (Below.refl _ _) _)
end Go.Proofs.YtmcdgmiheklbeaaDoor

namespace Go.Proofs.YtmcdgmiheklbeaaDoor
open Go.RowKit

/-- A row of zeros is made, as one step of a drawn region: from here on the world is a letter. -/
theorem step_made {P : Program} {ops : Array Oper} {Q : Exit → Act → World → Prop} {E : Prop} {K : Act → World → Prop} {o : Oper} {a : Act} {W : World} (t e : TypeId) (x y : Operand) (ik : IntKind) (n : Nat) (hgd : o.guard = none) (ho : o.op = .makeSlice t x y)
    (hx : a.eval x = .int .i64 (n : Int)) (hy : a.eval y = .int .i64 (n : Int)) (hn : n ≤ 9223372036854775807)
    (hmk : (Instr.makeSlice t (.int .i64 (n : Int)) (.int .i64 (n : Int))).run P W = .ok (.slice (some ⟨W.heap.size, 0, none⟩) n n) (W.alloc (.cells (madeCells #[.int ik 0] n) e)))
    (h : ∀ (g : Nat) (w1 : World), Hid (g = W.heap.size ∧ w1.heap.size = g + 1) → OwnI e ik W.heap.size w1 (.slice (some ⟨g, 0, none⟩) n n) (List.replicate n 0) → Below W.heap.size W w1 → K (a.put o.dst (.slice (some ⟨g, 0, none⟩) n n)) w1) :
    if Region.wanted o (yielded ops a.tmps) = true then Oper.wp P o a W K Q else E := by
  rw [if_pos (by simp [Region.wanted, hgd])]
  unfold Oper.wp execOp
  simp only [ho, hx, hy, Sem.run_bind, hmk, Result.andThen_ok, Sem.run_pure]
  exact h _ _ (Lib.hid ⟨rfl, World.size_alloc _ _⟩) (own_made W e ik n hn) ((Below.refl _ _).alloc (Nat.le_refl _) _)

/-- The bytes, and how many bits, that a writer begins with. -/
def roomL (b : List Int) (L : Int) : List Int := if 0 ≤ L ∧ L ≤ 4000 then List.replicate 131072 0 else b
def roomN (b : List Int) (L : Int) : Nat := if 0 ≤ L ∧ L ≤ 4000 then 1048576 - L.toNat else 8 * b.length
def roomBits (b : List Int) (L : Int) : List Bool := ofB (roomL b L) (roomN b L)
theorem roomBits_length (b : List Int) (L : Int) : (roomBits b L).length = roomN b L := ofB_length _ _
/-- What is left to do, behind the bytes. -/
theorem room_end {w W4 W5 W6 : World} {g n : Nat} {b : List Int} {v : Value} (hw0 : w.heap.size ≤ g) (hb04 : Below w.heap.size w W4) (hw : Wr (fun x => x = g ∨ W4.heap.size ≤ x) W5 g (ofB b n)) (hu : Upd (fun x => x = g) W4 W5) (hgl : g < W4.heap.size)
    (hO : OwnI 5 .u8 W5.heap.size W6 v (bitsI (ofB b n))) (hb : Below W5.heap.size W5 W6) :
    ∃ R e k, v = .slice R (ofB b n).length e ∧ Wr (fun x => w.heap.size ≤ x ∧ x < k) W6 g (ofB b n) ∧ Sl (kInt .u8) (fun x => k ≤ x) W6 R e (bitsI (ofB b n)) ∧ w.heap.size ≤ k ∧ Below w.heap.size w W6 := by
  obtain ⟨R, e, rfl, hs⟩ := hO.rd
  have h1 := hb04.size
  have h2 := hu.size
  have hbw : Below w.heap.size w W5 := hb04.trans (hu.below h1 (fun x _ e => by omega))
  refine ⟨R, e, W5.heap.size, by rw [bitsI_length], (hw.weak (fun x hx h => ⟨by rcases h with h | h <;> omega, hx⟩)).below hb, hs.weak (fun x _ h => h.1), by omega, below2 hbw hb⟩

set_option maxHeartbeats 2000000 in
set_option maxRecDepth 100000 in
theorem rbegun_any (A : Option Addr) (c : Nat) (b : List Int) (L : Int) (w : World) (hS : RY w A c b) (hb : ∀ x ∈ b, 0 ≤ x ∧ x < 256) (hm : b.length ≤ 50) :
    Calls Tryd.prog 22 #[.agg #[.slice A b.length c, .int .i64 L]] w
      fun e w' => ∃ g R d k, e = .returned (.tuple #[.pointer (some ⟨g, 0, none⟩), .slice R (roomBits b L).length d]) ∧ Wr (fun x => w.heap.size ≤ x ∧ x < k) w' g (roomBits b L) ∧ Sl (kInt .u8) (fun x => k ≤ x) w' R d (bitsI (roomBits b L)) ∧ w.heap.size ≤ k ∧ Below w.heap.size w w' := by
  have hba := below_alloc (Below.refl w.heap.size w) (.cells #[.slice A b.length c, .int .i64 L] 49)
  have HBA := Lib.hid hba
  have hbx : Blk (w.alloc (.cells #[.slice A b.length c, .int .i64 L] 49)) w.heap.size #[.slice A b.length c, .int .i64 L] 49 := heap_alloc_new w _
  have HBX := Lib.hid hbx
  have HZ := Lib.hid (show (w.alloc (.cells #[.slice A b.length c, .int .i64 L] 49)).heap.size = w.heap.size + 1 from World.size_alloc _ _)
  have HS := Lib.hid hS
  have HX := Lib.hid hb
  have hw8 : IntKind.i64.wrap (8 * (b.length : Int)) = ((8 * b.length : Nat) : Int) := by rw [IntWalk.i64_in _ (by omega)]; omega
  clear hba hbx hS hb
  by_cases hin : 0 ≤ L ∧ L ≤ 4000
  · obtain ⟨M, hM⟩ : ∃ M, 1048576 - L.toNat = M := ⟨_, rfl⟩
    obtain ⟨zs, hzs⟩ : ∃ zs : List Int, List.replicate 131072 (0 : Int) = zs := ⟨_, rfl⟩
    have hzl : zs.length = 131072 := by rw [← hzs]; exact List.length_replicate
    have hzb : ∀ x ∈ zs, 0 ≤ x ∧ x < 256 := fun x hx => by rw [← hzs] at hx; have := List.eq_of_mem_replicate hx; omega
    have HRB := Lib.hid (show roomBits b L = ofB zs M by unfold roomBits roomL roomN; rw [if_pos hin, if_pos hin, hM, hzs])
    have HFE := Lib.hid (show fullE 0 M = 0 ∧ fullB [] (ofB zs M) = ofB zs M by
      unfold fullE fullB; rw [if_neg (by omega), if_neg (by rw [ofB_length]; show ¬ 1048576 < 0 + M; omega)]; exact ⟨rfl, List.nil_append _⟩)
    have HZS := Lib.hid hzs
    have HZL := Lib.hid hzl
    have HZB := Lib.hid hzb
    clear hzl hzb hzs
    rw [HRB.out]
    have hd0 : decide (0 ≤ L) = true := decide_eq_true hin.1
    have hd1 : decide (L ≤ 4000) = true := decide_eq_true hin.2
    have hwM : IntKind.i64.wrap (1048576 - L) = (M : Int) := by rw [IntWalk.i64_in _ (by omega)]; omega
    have HM := Lib.hid (show M ≤ 8 * 131072 by omega)
    have HMK := Lib.hid (make_row (P := Tryd.prog) 22 5 .u8 1 Tryd.underlying22 infoY (by decide) 131072 (by decide))
    clear hin hM
    go_enter Tryd.func22, Tryd.ntmps22
    go_wp2_with (go_at_call 32; refine (wnew_any _).mono ?_; rintro e w2 ⟨g, rfl, hW2, b2, hg2⟩; have hB2 := HBX.out.below b2; have x0 := hB2.cell 0 rfl; have x1 := hB2.cell 1 rfl; have HW2 := Lib.hid hW2; have HB2 := Lib.hid b2; have HG2 := Lib.hid hg2; have HBB := Lib.hid hB2; clear hW2 b2 hg2 hB2)
    go_quiet (fail)
    go_wp2
    obtain ⟨gx, hgx⟩ : ∃ gx, w.heap.size = gx := ⟨_, rfl⟩
    have HBN := Lib.hid (HBB.out.below (below_drewN (Below.refl w2.heap.size w2) nq))
    rw [hgx] at HBN HBB
    simp only [hgx]
    have HGX := Lib.hid hgx
    clear hgx x0 x1
    have hHeld0 : (fun W : World => W.cell? ⟨gx, 1, none⟩ = some (.int .i64 L)) (w2.drewN nq) := HBN.out.cell 1 rfl
    refine wp_region_G 5 (fun W : World => W.cell? ⟨gx, 1, none⟩ = some (.int .i64 L)) (by kernel_rfl) hHeld0 (fun hHeld => ?_)
    refine wpAnyG_takeL (i := 1) (.pointer (some ⟨gx, 1, none⟩)) [2, 3, 5] rfl (by kernel_rfl) (fun _ _ _ h => h) hHeld (by rfl) ?_ ?_
    · (intro W' hSw; (try dsimp only at hSw); go_simp)
    try simp only [Act.put, List.setIfInBounds_toArray, List.set_cons_zero, List.set_cons_succ]
    refine wpAnyG_takeL (i := 2) (.int .i64 L) [3, 5] rfl (by kernel_rfl) (fun _ _ _ h => h) hHeld (by rfl) ?_ ?_
    · (intro W' hSw; (try dsimp only at hSw); go_simp)
    try simp only [Act.put, List.setIfInBounds_toArray, List.set_cons_zero, List.set_cons_succ]
    refine wpAnyG_takeL (i := 3) (.int .i64 M) [5] rfl (by kernel_rfl) (fun _ _ _ h => h) hHeld (by rfl) ?_ ?_
    · (intro W' hSw; (try dsimp only at hSw); go_simp)
    try simp only [Act.put, List.setIfInBounds_toArray, List.set_cons_zero, List.set_cons_succ]
    clear hHeld
    refine wpAnyG_oneL (i := 0) (by kernel_rfl) rfl (fun K hK => ?_)
    refine step_made 22 5 _ _ .u8 131072 rfl rfl rfl rfl (by decide) (HMK.out _) (fun gz W4 HGZ hOz hB4 => ?_)
    have hBk := Lib.hid ((HBB.out.below (below_drewN (Below.refl w2.heap.size w2) (nq + 1))).below hB4)
    refine hK.out _ _ (fun _ => hBk.out.cell 1 rfl) ?_
    clear hK K
    try simp only [Act.put, List.setIfInBounds_toArray, List.set_cons_zero, List.set_cons_succ]
    refine wpAnyG_oneL (i := 4) (by kernel_rfl) rfl (fun K hK => ?_)
    go_simp
    refine hK.out _ _ (fun _ => hBk.out.cell 1 rfl) ?_
    clear hK K
    try simp only [Act.put, List.setIfInBounds_toArray, List.set_cons_zero, List.set_cons_succ]
    refine wpAnyG_oneL (i := 5) (by kernel_rfl) rfl (fun K hK => ?_)
    go_simp
    refine hK.out _ _ (fun h => Bool.noConfusion (show true = false from h)) ?_
    clear hK K
    refine wpAnyG_done (by kernel_rfl) ?_ _
    have hgw : w.heap.size ≤ g := by have := HG2.out; have := HZ.out; omega
    have hb24 : Below w2.heap.size w2 W4 := below2 (below_drewN (Below.refl w2.heap.size w2) (nq + 1)) hB4
    rw [HZS.out] at hOz
    have hb04 := below2 (below2 HBA.out HB2.out) hb24
    have hW4 := HW2.out.below hb24
    obtain ⟨A9, c9, hv9, hs9⟩ := hOz.rd
    have hgl := HW2.out.lt
    injection hv9 with hA9 hl9 hc9
    subst hA9 hc9
    have hSg := hs9.weak (ok' := fun x => ¬ x = g) (fun x hx h e => by have := h.1; have h3 : (w2.drewN nq).drew.heap.size = w2.heap.size := rfl; omega)
    have HA := wappend_any (fun x => x = g) g M _ _ zs [] W4 hW4 hSg HZB.out (by have := HZL.out; omega) (by have := HZL.out; have := HM.out; omega) (Nat.zero_le _)
    rw [show ([] : List Bool).length = 0 from rfl, HFE.out.1, HFE.out.2, HZL.out] at HA
    have HAA := Lib.hid HA
    have HSG := Lib.hid hSg
    have HW4 := Lib.hid hW4
    have HB04 := Lib.hid hb04
    have HGW := Lib.hid hgw
    have HBT := Lib.hid (fun W A c (h : RY W A c zs) => tbits_any A c zs M W h HZB.out (by have := HZL.out; have := HM.out; omega) (by have := HZL.out; omega))
    rw [HZL.out] at HBT
    clear HA hSg hW4 hb04 hgw hOz hs9 hb24 hBk hHeld0 hl9 hgl hB4
    go_wp2_with (first
      | (go_at_call 43; refine HAA.out.mono ?_; rintro e w5 ⟨rfl, hW5, hu5⟩; have HS5 := Lib.hid ((HSG.out.keep (hu5.keep (ok := fun x => ¬ x = g) fun _ h => h)).any))
      | (go_at_call 33; refine (HBT.out _ _ _ HS5.out).mono ?_; rintro e w6 ⟨v6, rfl, hO6, b6⟩))
    go_ret2
    obtain ⟨R, e9, k, hv, r1, r2, r3, r4⟩ := room_end HGW.out HB04.out hW5 hu5 HW4.out.lt hO6 b6
    exact ⟨g, R, e9, k, ret_two rfl hv, r1, r2, r3, r4⟩
  · have HRB := Lib.hid (show roomBits b L = ofB b (8 * b.length) by unfold roomBits roomL roomN; rw [if_neg hin, if_neg hin])
    have HFE := Lib.hid (show fullE 0 (8 * b.length) = 0 ∧ fullB [] (ofB b (8 * b.length)) = ofB b (8 * b.length) by
      unfold fullE fullB; rw [if_neg (by omega), if_neg (by rw [ofB_length]; simp; omega)]; exact ⟨rfl, by simp⟩)
    rw [HRB.out]
    have script : ∀ (_ : (decide (0 ≤ L) = false) ∨ (decide (0 ≤ L) = true ∧ decide (L ≤ 4000) = false)), True := fun _ => trivial
    clear script
    have hcs : decide (0 ≤ L) = false ∨ (decide (0 ≤ L) = true ∧ decide (L ≤ 4000) = false) := by
      by_cases h0 : 0 ≤ L
      · exact .inr ⟨decide_eq_true h0, decide_eq_false (by omega)⟩
      · exact .inl (decide_eq_false h0)
    clear hin
    rcases hcs with hd0 | ⟨hd0, hd1⟩
    all_goals
      go_enter Tryd.func22, Tryd.ntmps22
      go_wp2_with (go_at_call 32; refine (wnew_any _).mono ?_; rintro e w2 ⟨g, rfl, hW2, b2, hg2⟩; have hB2 := HBX.out.below b2; have x0 := hB2.cell 0 rfl; have x1 := hB2.cell 1 rfl; have HW2 := Lib.hid hW2; have HB2 := Lib.hid b2; have HG2 := Lib.hid hg2; clear hW2 b2 hg2 hB2)
      go_quiet (fail)
      have hgw : w.heap.size ≤ g := by have := HG2.out; have := HZ.out; omega
      have hb02 : Below w.heap.size w (w2.drewN nq) := below_drewN (below2 HBA.out HB2.out) nq
      have hW4 := HW2.out.below (below_drewN (Below.refl w2.heap.size w2) nq)
      have hSg := (HS.out.weak (ok' := fun x => ¬ x = g) (fun x hx _ e => by omega)).below hb02
      have HA := wappend_any (fun x => x = g) g (8 * b.length) A c b [] (w2.drewN nq) hW4 hSg HX.out (by omega) (Nat.le_refl _) (Nat.zero_le _)
      rw [show ((8 * b.length : Nat) : Int) = 8 * (b.length : Int) by omega, show ([] : List Bool).length = 0 from rfl, HFE.out.1, HFE.out.2] at HA
      have HAA := Lib.hid HA
      have HSG := Lib.hid hSg
      have HW4 := Lib.hid hW4
      have HB02 := Lib.hid hb02
      have HGW := Lib.hid hgw
      have HBT := Lib.hid (fun W (h : RY W A c b) => tbits_any A c b (8 * b.length) W h HX.out (Nat.le_refl _) (by omega))
      rw [show ((8 * b.length : Nat) : Int) = 8 * (b.length : Int) by omega] at HBT
      clear HA hSg hW4 hb02 hgw
      go_wp2_with (first
        | (go_at_call 43; refine HAA.out.mono ?_; rintro e w5 ⟨rfl, hW5, hu5⟩; have HS5 := Lib.hid ((HSG.out.keep (hu5.keep (ok := fun x => ¬ x = g) fun _ h => h)).any))
        | (go_at_call 33; refine (HBT.out _ HS5.out).mono ?_; rintro e w6 ⟨v6, rfl, hO6, b6⟩))
      go_ret2
      obtain ⟨R, e9, k, hv, r1, r2, r3, r4⟩ := room_end HGW.out HB02.out hW5 hu5 HW4.out.lt hO6 b6
      exact ⟨g, R, e9, k, ret_two rfl hv, r1, r2, r3, r4⟩
end Go.Proofs.YtmcdgmiheklbeaaDoor

namespace Go.Proofs.YtmcdgmiheklbeaaDoor
open Go.RowKit

section
variable {P : Program} {ops : Array Oper} {Q : Exit → Act → World → Prop}
/-- Memory is made, as one step of a drawn region: the world is a letter at once. -/
theorem step_mem {E : Prop} {K : Act → World → Prop} {o : Oper} {a : Act} {W : World} (cs : Array Value) (t : TypeId) (V : Nat → Value) (hgd : o.guard = none)
    (hrun : (execOp a.eval o).run P W = .ok (.value (V W.heap.size)) (W.alloc (.cells cs t (0, 0))))
    (h : ∀ (g : Nat) (w1 : World), Hid (g = W.heap.size) → Hid (w1.heap.size = g + 1) → Below W.heap.size W w1 → Blk w1 g cs t → K (a.put o.dst (V g)) w1) :
    if Region.wanted o (yielded ops a.tmps) = true then Oper.wp P o a W K Q else E := by
  rw [if_pos (by simp [Region.wanted, hgd])]
  unfold Oper.wp
  rw [hrun]
  exact h _ _ (Lib.hid rfl) (Lib.hid (World.size_alloc _ _)) (((Below.refl _ _).alloc (Nat.le_refl _) _)) (heap_alloc_new W _)
end
theorem blk_ri {w : World} {g : Nat} {t : TypeId} {k : IntKind} {xs : List Int} (h : Blk w g (nums k xs).toArray t) (hm : xs.length ≤ 9223372036854775807) : Sl (kInt k) (fun x => x = g) w (some ⟨g, 0, none⟩) xs.length xs := by
  refine ⟨Nat.le_refl _, hm, fun j hj => ⟨_, [.int k (nth 0 xs j)], rfl, rfl, h.lt, rfl, fun i v hv => ?_⟩⟩
  match i, hv with
  | 0, hv =>
    simp at hv
    subst hv
    have h1 := h.cell j (v := .int k (nth 0 xs j)) (by rw [List.getElem?_toArray]; exact nums_get k xs j hj)
    rw [show j * (kInt k).size + 0 = j from by show j * 1 + 0 = j; omega, add_plain]
    exact h1
theorem made_numsX (k : IntKind) (m : Nat) : madeCells #[Value.int k 0] m = (nums k (List.replicate m 0)).toArray := by
  apply Array.ext
  · simp [nums, madeCells]
  · intro i h1 h2
    simp [nums, madeCells, Nat.mod_one]
/-- A literal of sections. -/
theorem lit_se (W : World) (xs : List (Int × Int)) (hm : xs.length ≤ 9223372036854775807) : Sl kSe (fun x => x = W.heap.size) (W.alloc (.cells (flat2 xs).toArray 67)) (some ⟨W.heap.size, 0, none⟩) xs.length xs := by
  have h := World.ownsRow_lit (base := W.heap.size) (e := 67) (size := 2) W (flat2 xs).toArray xs.length (Nat.le_refl _) (by simpa [maxLen] using hm) (by simp [flat2_length])
  have h2 : OwnS W.heap.size (W.alloc (.cells (flat2 xs).toArray 67)) (.slice (some ⟨W.heap.size, 0, none⟩) xs.length xs.length) xs := ⟨flat2 xs, by simpa [kSe] using h, reps_flat xs⟩
  obtain ⟨A, c, e, hs⟩ := h2.rd
  injection e with e1 e2 e3
  subst e1 e3
  exact hs.weak fun b _ hb => hb.elim False.elim fun hb => by have := Option.some.inj hb; exact this.symm
theorem packB_in18 (bs : List Bool) : ∀ x ∈ packB bs, 0 ≤ x ∧ x < 256 := fun x hx => by
  simp only [packB, List.mem_map, List.mem_range] at hx
  obtain ⟨j, _, rfl⟩ := hx
  have := byteB_lt bs j
  exact ⟨Int.natCast_nonneg _, by show ((byteB bs j : Nat) : Int) < 256; omega⟩
def exW : List Int := [4, 4, 4]
def exZ : List Int := List.replicate 12 0
def exS : List (Int × Int) := [(0, 3)]
def exR : List (Int × Int) := [(1, 2), (0, 1), (2, 1)]
def exB18 : List Bool := wrB exW exZ exS []
set_option maxRecDepth 100000 in
theorem e18_runs : runsL [1, 1, 0, 2] = exR ∧ runsE [1, 1, 0, 2] = 0 := by decide +kernel
set_option maxRecDepth 100000 in
theorem e18_books : booksL exR = [1, 1, 0, 2] ∧ booksE exR = 0 := by decide +kernel
set_option maxRecDepth 100000 in
theorem e18_cost : costQ exW exZ exS = (6, 0) := by decide +kernel
set_option maxRecDepth 100000 in
theorem e18_wr : wrS exW exZ exS 0 = 0 ∧ exB18.length = 6 := by decide +kernel
set_option maxRecDepth 100000 in
theorem e18_pk : (packB exB18).length = 1 ∧ ofB (packB exB18) 6 = exB18 := by decide +kernel
set_option maxRecDepth 100000 in
theorem e18_rd : (readS exW exB18).1 = exZ ∧ (readS exW exB18).2.1 = exS ∧ (readS exW exB18).2.2.1 = 0 := by decide +kernel

theorem runs_ex (w : World) : Calls Tryd.prog 18 #[.slice (some ⟨w.heap.size, 0, none⟩) 4 4] (w.alloc (.cells #[.int .i64 1, .int .i64 1, .int .i64 0, .int .i64 2] 3)) fun e w' => ∃ A c, e = .returned (.tuple #[.slice A 3 c, .int .i64 0]) ∧ RS w' A c exR ∧ Below w.heap.size w w' := by
  have b1 := lit_be w 3 .i64 [1, 1, 0, 2]
  refine (runs_any _ 4 [1, 1, 0, 2] _ (lit_ri w 3 .i64 [1, 1, 0, 2] (by decide))).mono ?_
  rintro e w' ⟨v, rfl, hO, hb⟩
  rw [e18_runs.1] at hO
  rw [e18_runs.2]
  obtain ⟨A, c, rfl, hs⟩ := own_rs hO
  exact ⟨A, c, rfl, hs.any, below2 b1 hb⟩
theorem sames_ex (A : Option Addr) (c : Nat) (w : World) (h : RS w A c exR) : Calls Tryd.prog 14 #[.slice A 3 c, .slice (some ⟨w.heap.size, 0, none⟩) 3 3] (w.alloc (.cells #[.int .i64 1, .int .i64 2, .int .i64 0, .int .i64 1, .int .i64 2, .int .i64 1] 67)) fun e w' => e = .returned (.bool true) ∧ Below w.heap.size w w' := by
  have b1 := below_alloc (Below.refl w.heap.size w) (.cells (flat2 exR).toArray 67)
  refine (rsame_any A _ c 3 exR exR _ (h.below b1) (lit_se w exR (by decide)).any).mono ?_
  rintro e w' ⟨rfl, hb⟩
  exact ⟨by rw [sameS_refl], below2 b1 hb⟩
theorem ints18_ex (A : Option Addr) (c : Nat) (w : World) (h : RI w A c [1, 1, 0, 2]) : Calls Tryd.prog 13 #[.slice A 4 c, .slice (some ⟨w.heap.size, 0, none⟩) 4 4] (w.alloc (.cells #[.int .i64 1, .int .i64 1, .int .i64 0, .int .i64 2] 3)) fun e w' => e = .returned (.bool true) ∧ Below w.heap.size w w' := by
  have b1 := lit_be w 3 .i64 [1, 1, 0, 2]
  refine (ints_ref A _ c 4 [1, 1, 0, 2] [1, 1, 0, 2] _ (h.below b1) (lit_ri w 3 .i64 [1, 1, 0, 2] (by decide))).mono ?_
  rintro e w' ⟨rfl, hb⟩
  exact ⟨by rw [sameL_refl], below2 b1 hb⟩

set_option maxHeartbeats 4000000 in
set_option maxRecDepth 100000 in
theorem awake18_any (w : World) (hG : GF w) (hT : GT w) : Calls Tryd.prog 9 #[] w fun e w' => e = .returned (.bool true) ∧ Below w.heap.size w w' := by
  have hS := GS.of hG hT
  have b := Below.refl w.heap.size w
  clear hG hT
  have hmk : ∀ W : World, (Instr.makeSlice 25 (.int .i64 12) (.int .i64 12)).run Tryd.prog W = .ok (.slice (some ⟨W.heap.size, 0, none⟩) 12 12) (W.alloc (.cells (madeCells #[.int .i64 0] 12) 3)) := make_row (P := Tryd.prog) 25 3 .i64 8 Tryd.underlying25 infoI (by decide) 12 (by decide)
  go_enter Tryd.func9, Tryd.ntmps9
  go_upto_region 1 with fail
  go_cut [1, 2] (fun s1 s2 wx => ∃ g1 g2 : Nat, s1 = .slice (some ⟨g1, 0, none⟩) 3 3 ∧ s2 = .slice (some ⟨g2, 0, none⟩) 12 12 ∧ Hid (Blk wx g1 (nums .i64 exW).toArray 3) ∧ Hid (Blk wx g2 (nums .i64 exZ).toArray 3) ∧ Hid (Below w.heap.size w wx))
  case first =>
    have hd := (Below.refl w.heap.size w).drew
    refine wp_region_G 3 (fun _ => True) (by kernel_rfl) trivial (fun hHeld => ?_)
    refine wpAnyG_br (rs := [0,1]) (by kernel_rfl) (by simp) ?_
    refine AllG.cons (i := 0) rfl (fun K hK => ?_) ?_
    · skip
      (refine step_mem (nums .i64 exW).toArray 3 (fun g => .slice (some ⟨g, 0, none⟩) 3 3) rfl ?hr ?_; (case hr => first | (go_simp; done) | (go_simp; rfl)); intro g1 V1 e1 z1 b1 y1)
      refine hK.out _ _ (fun _ => trivial) ?_
      clear hK K
      try simp only [Act.put, List.setIfInBounds_toArray, List.set_cons_zero, List.set_cons_succ]
      refine wpAnyG_takeL (i := 2) (.slice (some ⟨g1, 0, none⟩) 3 3) [3] rfl (by kernel_rfl) (fun _ _ _ h => h) hHeld (by rfl) ?_ ?_
      · (intro W' hSw; (try dsimp only at hSw); go_simp)
      try simp only [Act.put, List.setIfInBounds_toArray, List.set_cons_zero, List.set_cons_succ]
      refine wpAnyG_oneL (i := 1) (by kernel_rfl) rfl (fun K hK => ?_)
      (refine step_mem (madeCells #[.int .i64 0] 12) 3 (fun g => .slice (some ⟨g, 0, none⟩) 12 12) rfl ?hr ?_; (case hr => first | (go_simp; done) | (go_simp; rfl)); intro g2 V2 e2 z2 b2 y2)
      refine hK.out _ _ (fun _ => trivial) ?_
      clear hK K
      try simp only [Act.put, List.setIfInBounds_toArray, List.set_cons_zero, List.set_cons_succ]
      refine wpAnyG_oneL (i := 3) (by kernel_rfl) rfl (fun K hK => ?_)
      (go_simp)
      refine hK.out _ _ (fun h => Bool.noConfusion (show true = false from h)) ?_
      clear hK K
      clear hHeld
      refine wpAnyG_done (by kernel_rfl) ?_ _
      go_wp2_with fail
      go_meet
      exact ⟨g1, g2, rfl, rfl, Lib.hid (y1.below b2), Lib.hid (by rw [made_numsX] at y2; exact y2), Lib.hid (below2 (below2 hd b1) b2)⟩
    refine AllG.cons (i := 1) rfl (fun K hK => ?_) ?_
    · skip
      (refine step_mem (madeCells #[.int .i64 0] 12) 3 (fun g => .slice (some ⟨g, 0, none⟩) 12 12) rfl ?hr ?_; (case hr => first | (go_simp; done) | (go_simp; rfl)); intro g2 V1 e1 z1 b1 y2)
      refine hK.out _ _ (fun _ => trivial) ?_
      clear hK K
      try simp only [Act.put, List.setIfInBounds_toArray, List.set_cons_zero, List.set_cons_succ]
      refine wpAnyG_oneL (i := 0) (by kernel_rfl) rfl (fun K hK => ?_)
      (refine step_mem (nums .i64 exW).toArray 3 (fun g => .slice (some ⟨g, 0, none⟩) 3 3) rfl ?hr ?_; (case hr => first | (go_simp; done) | (go_simp; rfl)); intro g1 V2 e2 z2 b2 y1)
      refine hK.out _ _ (fun _ => trivial) ?_
      clear hK K
      try simp only [Act.put, List.setIfInBounds_toArray, List.set_cons_zero, List.set_cons_succ]
      refine wpAnyG_takeL (i := 2) (.slice (some ⟨g1, 0, none⟩) 3 3) [3] rfl (by kernel_rfl) (fun _ _ _ h => h) hHeld (by rfl) ?_ ?_
      · (intro W' hSw; (try dsimp only at hSw); go_simp)
      try simp only [Act.put, List.setIfInBounds_toArray, List.set_cons_zero, List.set_cons_succ]
      refine wpAnyG_oneL (i := 3) (by kernel_rfl) rfl (fun K hK => ?_)
      (go_simp)
      refine hK.out _ _ (fun h => Bool.noConfusion (show true = false from h)) ?_
      clear hK K
      clear hHeld
      refine wpAnyG_done (by kernel_rfl) ?_ _
      go_wp2_with fail
      go_meet
      exact ⟨g1, g2, rfl, rfl, Lib.hid y1, Lib.hid ((by rw [made_numsX] at y2; exact y2 : Blk V1 g2 (nums .i64 exZ).toArray 3).below b2), Lib.hid (below2 (below2 hd b1) b2)⟩
    exact AllG.nil
  case rest =>
    obtain ⟨g1, g2, rfl, rfl, hy1, hy2, hb0⟩ := hcut
    have h1 : Sl (kInt .i64) (fun x => x < wc.heap.size) wc (some ⟨g1, 0, none⟩) 3 exW := (blk_ri hy1.out (by decide)).weak fun x hx _ => hx
    have h2 : Sl (kInt .i64) (fun x => x < wc.heap.size) wc (some ⟨g2, 0, none⟩) 12 exZ := (blk_ri hy2.out (by decide)).weak fun x hx _ => hx
    replace hS := hS.below hb0.out
    replace b := hb0.out
    clear hy1 hy2 hb0 hmk
    have hb3 := below_alloc (Below.refl wc.heap.size wc) (.cells (flat2 exS).toArray 67)
    have h3 : Sl kSe (fun x => x = wc.heap.size) (wc.alloc (.cells (flat2 exS).toArray 67)) (some ⟨wc.heap.size, 0, none⟩) 1 exS := lit_se wc exS (by decide)
    obtain ⟨g3, hg3⟩ : ∃ g3, wc.heap.size = g3 := ⟨_, rfl⟩
    obtain ⟨W3, hW3⟩ : ∃ W3, wc.alloc (.cells #[.int .i64 0, .int .i64 3] 67) = W3 := ⟨_, rfl⟩
    replace h3 : Sl kSe (fun x => x < W3.heap.size) W3 (some ⟨g3, 0, none⟩) 1 exS := by
      rw [← hW3, ← hg3]
      exact h3.weak fun x hx _ => hx
    replace hb3 : Below wc.heap.size wc W3 := by rw [← hW3]; exact hb3
    have hz3 := hb3.size
    replace h1 := (h1.below hb3).weak (ok' := fun x => x < W3.heap.size) fun x hx _ => hx
    replace h2 := (h2.below hb3).weak (ok' := fun x => x < W3.heap.size) fun x hx _ => hx
    replace hS := hS.below hb3
    replace b := below2 b hb3
    obtain ⟨n3, hn3⟩ : ∃ n3, W3.heap.size = n3 := ⟨_, rfl⟩
    rw [hn3] at h1 h2 h3
    have HN3 := Lib.hid hn3
    clear hb3 hz3 hn3
    go_wp2_with fail
    try simp only [hW3, hg3]
    refine (runs_ex _).mono ?_
    rintro e w4 ⟨A4, c4, rfl, h4, b1⟩
    replace h1 := h1.below b1; replace h2 := h2.below b1; replace h3 := h3.below b1; replace hS := hS.below b1; replace b := below2 b b1
    have HN4 := Lib.hid (show n3 ≤ w4.heap.size by have := HN3.out; have := b1.size; omega)
    clear b1 hW3 hg3
    go_wp2_with fail
    refine (books_any A4 c4 exR _ h4).mono ?_
    rintro e w5 ⟨v6, rfl, hO, b1⟩
    rw [e18_books.1] at hO
    rw [e18_books.2]
    obtain ⟨A6, c6, rfl, h6⟩ := own_ri hO
    replace h1 := h1.below b1; replace h2 := h2.below b1; replace h3 := h3.below b1; replace h4 := h4.below b1; replace hS := hS.below b1; replace b := below2 b b1
    replace HN4 := Lib.hid (Nat.le_trans HN4.out b1.size)
    clear b1 hO
    go_wp2_with fail
    refine (sCost_any _ _ _ 3 12 1 exW exZ exS _ h1.any h2.any h3.any hS.f hS.t (by decide)).mono ?_
    rw [e18_cost]
    rintro e w6 ⟨rfl, b1⟩
    replace h1 := h1.below b1; replace h2 := h2.below b1; replace h3 := h3.below b1; replace h4 := h4.below b1; replace h6 := h6.below b1; replace hS := hS.below b1; replace b := below2 b b1
    replace HN4 := Lib.hid (Nat.le_trans HN4.out b1.size)
    clear b1
    go_wp2_with fail
    refine (wnew_any _).mono ?_
    rintro e w7 ⟨g, rfl, hw, b1, hg⟩
    have hgl : g < w7.heap.size := hw.lt
    have hgn : n3 ≤ g := Nat.le_trans HN4.out hg
    have hgw : w.heap.size ≤ g := by have := b.size; omega
    replace h1 := h1.below b1; replace h2 := h2.below b1; replace h3 := h3.below b1; replace h4 := h4.apart b1 hg; replace h6 := h6.apart b1 hg; replace hS := hS.below b1; replace b := below2 b b1
    clear b1 hg HN4
    go_wp2_with fail
    refine (sWrite_any _ g _ _ _ 3 12 1 exW exZ exS [] _ (fun x e => by rw [e]; exact hgl) hw (h1.weak fun x _ h e => by omega) (h2.weak fun x _ h e => by omega) (h3.weak fun x _ h e => by omega) hS.f hS.t (fun e => by have := hS.lf; omega) (fun e => by have := hS.lt; omega) (by decide) (by decide)).mono ?_
    rw [show ([] : List Bool).length = 0 from rfl, e18_wr.1, show wrB exW exZ exS [] = exB18 from rfl]
    rintro e w8 ⟨rfl, hw8, hu⟩
    have hk := hu.keep (ok := fun x => x ≠ g) fun _ h => h
    replace h1 := (h1.weak (ok' := fun x => x ≠ g) fun x _ h e => by omega).keep hk
    replace h2 := (h2.weak (ok' := fun x => x ≠ g) fun x _ h e => by omega).keep hk
    replace h3 := (h3.weak (ok' := fun x => x ≠ g) fun x _ h e => by omega).keep hk
    replace h4 := h4.keep hk; replace h6 := h6.keep hk
    replace hS := hS.upd hu (fun x h e => by omega)
    replace b := b.trans (hu.below b.size (fun x _ e => by omega)); clear hu hw hk
    go_wp2_with fail
    refine (wbytes_any _ g exB18 _ hw8 (by rw [e18_wr.2]; decide)).mono ?_
    rintro e w9 ⟨v7, rfl, hO, b1⟩
    obtain ⟨A7, c7, rfl, h7⟩ := own_ri hO
    have hpb : ∀ x ∈ packB exB18, 0 ≤ x ∧ x < 256 := packB_in18 exB18
    rw [e18_pk.1]
    clear hO
    replace hS := hS.below b1; replace h1 := h1.below b1; replace h2 := h2.below b1; replace h3 := h3.below b1; replace h4 := h4.below b1; replace h6 := h6.below b1; replace hw8 := hw8.below b1; replace b := below2 b b1; clear b1
    go_wp2_with fail
    refine (wlen_any _ g exB18 _ hw8).mono ?_
    rw [e18_wr.2]
    rintro e w10 ⟨rfl, rfl⟩
    go_wp2_with fail
    have ho := ropen_ok A7 c7 (packB exB18) 6 w9 h7 hpb (by rw [e18_pk.1]; decide) (by rw [e18_pk.1]; decide) (by decide)
    rw [e18_pk.1, e18_pk.2] at ho
    refine ho.mono ?_
    rintro e w11 ⟨gr, rfl, hr, b1, hg⟩
    replace h1 := h1.any.apart b1 hg; replace h2 := h2.any.apart b1 hg; replace h3 := h3.any.apart b1 hg; replace h4 := h4.any.apart b1 hg; replace h6 := h6.any.apart b1 hg
    have hgr : w.heap.size ≤ gr := by have := b.size; omega
    replace hS := hS.below b1; replace b := below2 b b1; clear b1 hg ho h7 hw8 hpb
    go_wp2_with fail
    refine (sRead_any _ gr 0 _ 3 exW exB18 _ hr.cut (fun x h => h.2) h1 hS.f hS.t (fun e => by have := hS.lf; omega) (fun e => by have := hS.lt; omega) (by decide)).mono ?_
    rw [show exB18.drop 0 = exB18 from rfl, e18_rd.1, e18_rd.2.1, e18_rd.2.2]
    rintro e w12 ⟨va, vb, rfl, hOa, hOb, _, hu⟩
    obtain ⟨A14, c14, rfl, h14⟩ := own_ri hOa
    obtain ⟨A15, c15, rfl, h15⟩ := own_rs hOb
    rw [show exZ.length = 12 from rfl, show exS.length = 1 from rfl]
    have hk := hu.keep (ok := fun x => x ≠ gr) fun _ h => h
    replace h2 := (h2.keep hk).any
    replace h3 := (h3.keep hk).any
    replace h4 := (h4.keep hk).any
    replace h6 := (h6.keep hk).any
    replace b := b.trans (hu.below b.size (fun x _ e => by omega)); clear hu hr hOa hOb hS hk h1
    have HH3 := h3
    clear h3
    go_wp2_with fail
    refine (sames_ex A4 c4 _ h4).mono ?_
    rintro e w13 ⟨rfl, b1⟩
    replace h2 := h2.below b1; replace HH3 := HH3.below b1; replace h6 := h6.below b1; replace h14 := h14.below b1; replace h15 := h15.below b1; replace b := below2 b b1
    clear b1 h4
    go_wp2_with fail
    refine (ints18_ex A6 c6 _ h6).mono ?_
    rintro e w14 ⟨rfl, b1⟩
    replace h2 := h2.below b1; replace HH3 := HH3.below b1; replace h14 := h14.below b1; replace h15 := h15.below b1; replace b := below2 b b1
    clear b1 h6
    go_wp2_with fail
    refine (ints_ref A14 _ c14 12 exZ exZ _ h14 h2).mono ?_
    rintro e w15 ⟨rfl, b1⟩
    rw [sameL_refl]
    replace HH3 := HH3.below b1; replace h15 := h15.below b1; replace b := below2 b b1
    clear b1 h14 h2
    go_wp2_with fail
    refine (rsame_any A15 _ c15 1 exS exS _ h15.any HH3).mono ?_
    rintro e w16 ⟨rfl, b1⟩
    rw [sameS_refl]
    replace b := below2 b b1
    clear b1 h15 HH3
    go_wp2
    go_ret
    exact ⟨rfl, b⟩
end Go.Proofs.YtmcdgmiheklbeaaDoor

namespace Go.Proofs.YtmcdgmiheklbeaaDoor
open Go.RowKit

theorem bksP_snoc (s : List (Int × Int)) (x : Int × Int) : bksP (s ++ [x]) = bksS (bksP s) x := by unfold bksP; rw [List.foldl_append]; rfl
theorem books_rnK (l : List Int) (hl : l.length ≤ 128) (hb : ∀ k, k < l.length → 0 ≤ nth 0 l k ∧ nth 0 l k < 8) : ∀ k, k ≤ l.length → bksP (rnK (l.take k)) = some (l.take k)
  | 0, _ => rfl
  | k + 1, hk => by
    have ih := books_rnK l hl hb k (by omega)
    have hbk := hb k (by omega)
    have htl : (l.take k).length = k := by rw [List.length_take]; omega
    rw [rnK_take l k (by omega), take_succ_nth 0 l k (by omega)]
    generalize nth 0 l k = x at hbk
    generalize l.take k = p at ih htl
    generalize rnK p = s at ih
    unfold rnS
    split
    · rename_i hc
      obtain ⟨h0, hx⟩ := hc
      obtain ⟨s0, y, rfl⟩ : ∃ s0 y, s = s0 ++ [y] := by
        refine ⟨s.dropLast, s.getLast (by intro e; rw [e] at h0; simp at h0), (List.dropLast_concat_getLast _).symm⟩
      have hl0 : (s0 ++ [y]).length - 1 = s0.length := by simp
      have hn : nth (0, 0) (s0 ++ [y]) s0.length = y := by rw [nth_append_right _ _ _ _ (Nat.le_refl _), Nat.sub_self]; rfl
      rw [hl0, hn] at hx ⊢
      subst hx
      have hset : (s0 ++ [y]).set s0.length (y.1, y.2 + 1) = s0 ++ [(y.1, y.2 + 1)] := by simp
      rw [hset, bksP_snoc]
      rw [bksP_snoc] at ih
      cases hs0 : bksP s0 with
      | none => rw [hs0] at ih; cases ih
      | some o =>
        rw [hs0] at ih
        by_cases hbad : y.1 < 0 ∨ 8 ≤ y.1 ∨ y.2 < 1 ∨ 128 - (o.length : Int) < y.2
        · have e : bksS (some o) y = none := if_pos hbad
          rw [e] at ih; cases ih
        · have e : bksS (some o) y = some (o ++ List.replicate y.2.toNat y.1) := if_neg hbad
          rw [e] at ih
          have hp := Option.some.inj ih
          have hpl : o.length + y.2.toNat = k := by rw [← htl, ← hp, List.length_append, List.length_replicate]
          have e2 : bksS (some o) (y.1, y.2 + 1) = some (o ++ List.replicate (y.2 + 1).toNat y.1) := if_neg (by show ¬ (y.1 < 0 ∨ 8 ≤ y.1 ∨ y.2 + 1 < 1 ∨ 128 - (o.length : Int) < y.2 + 1); omega)
          rw [e2, ← hp, show (y.2 + 1).toNat = y.2.toNat + 1 by omega, List.replicate_succ']
          simp
    · rw [bksP_snoc, ih]
      exact if_neg (by show ¬ (x < 0 ∨ 8 ≤ x ∨ (1 : Int) < 1 ∨ 128 - (p.length : Int) < 1); omega)
theorem books_runs {l : List Int} (h : runsE l = 0) : runsL l = rnK l ∧ booksE (runsL l) = 0 ∧ booksL (runsL l) = l := by
  have hr : runsL l = rnK l := by unfold runsL; rw [if_neg (by simp [h])]
  have hl : l.length ≤ 128 := by
    unfold runsE at h
    split at h
    · omega
    · omega
  have hb : ∀ k, k < l.length → 0 ≤ nth 0 l k ∧ nth 0 l k < 8 := fun k hk => by
    unfold runsE at h
    rw [if_neg (by omega)] at h
    split at h
    · omega
    · rename_i hn
      rcases Classical.em (nth 0 l k < 0 ∨ 8 ≤ nth 0 l k) with hc | hc
      · exact absurd (bad_at l k hk hc) hn
      · omega
  have h1 := books_rnK l hl hb l.length (Nat.le_refl _)
  rw [List.take_length] at h1
  exact ⟨hr, by rw [hr]; unfold booksE; rw [h1]; rfl, by rw [hr]; unfold booksL; rw [h1]; rfl⟩
end Go.Proofs.YtmcdgmiheklbeaaDoor

namespace Go.Proofs.YtmcdgmiheklbeaaDoor
open Go.ChangeShapes Go.WideShapes Go.ChangeAt Go.WideMaps Go.WideElems Go.RowKit Go.Deep

section
variable {H : Type} {enc : TypeId × Value → H} {W : World}
set_option maxRecDepth 100000 in
/-- The bits that a reader begins with. -/
theorem open_Z {r : Reach} {b0 : Nat} {v : Value} {d : DataW H} {p : List MemPlace} (hv : Value.okWide Tryd.prog W r b0 24 v) (h : DataW.Trod enc Tryd.prog W 0 (fun _ => true) true 24 v d p) :
    ∃ (A : Option Addr) (c : Nat) (b : List Int) (N At : Int), v = .agg #[.slice A b.length c, .int .i64 N, .int .i64 At] ∧ RY W A c b ∧ ∀ x ∈ b, 0 ≤ x ∧ x < 256 := by
  obtain ⟨v0, v1, v2, y0, y1, y2, n, rfl, rfl, rfl, h0, h1, h2⟩ := Joins.open_agg3 (P := Tryd.prog) Tryd.underlying24 (by kernel_rfl) (by kernel_rfl) hv h
  obtain ⟨A, c, s, rfl, h3, h4, _⟩ := open_Y h0
  obtain ⟨k1, e1, _⟩ := DataW.trod_int (P := Tryd.prog) Tryd.underlying3 h1
  obtain ⟨k2, e2, _⟩ := DataW.trod_int (P := Tryd.prog) Tryd.underlying3 h2
  injection e1 with e1 _
  injection e2 with e2 _
  subst e1 e2
  exact ⟨A, c, s, k1, k2, rfl, h3, h4⟩
set_option maxRecDepth 100000 in
/-- What a writer begins with. -/
theorem open_M {r : Reach} {b0 : Nat} {v : Value} {d : DataW H} {p : List MemPlace} (hv : Value.okWide Tryd.prog W r b0 49 v) (h : DataW.Trod enc Tryd.prog W 0 (fun _ => true) true 49 v d p) :
    ∃ (A : Option Addr) (c : Nat) (b : List Int) (L : Int), v = .agg #[.slice A b.length c, .int .i64 L] ∧ RY W A c b ∧ ∀ x ∈ b, 0 ≤ x ∧ x < 256 := by
  obtain ⟨v0, v1, y0, y1, n, rfl, rfl, rfl, h0, h1⟩ := Joins.open_agg2 (P := Tryd.prog) Tryd.underlying49 (by kernel_rfl) (by kernel_rfl) hv h
  obtain ⟨A, c, s, rfl, h3, h4, _⟩ := open_Y h0
  obtain ⟨k1, e1, _⟩ := DataW.trod_int (P := Tryd.prog) Tryd.underlying3 h1
  injection e1 with e1 _
  subst e1
  exact ⟨A, c, s, k1, rfl, h3, h4⟩
end
end Go.Proofs.YtmcdgmiheklbeaaDoor

namespace Go.Proofs.YtmcdgmiheklbeaaDoor
open Go.ChangeShapes Go.WideShapes Go.ChangeAt Go.WideMaps Go.WideElems Go.RowKit Go.Deep

section
variable {H : Type} {enc : TypeId × Value → H} {W : World}
set_option maxRecDepth 100000 in
theorem section_read {m : Nat} {cs : List Value} {x : DataW H × List MemPlace} (h : DataW.trod enc Tryd.prog W 0 (fun _ => true) true m 67 cs = some x) :
    ∃ n1 n2 : Int, cs = [.int .i64 n1, .int .i64 n2] := by
  obtain ⟨zs, n, _, rfl, hl, hlen, hf⟩ := DataW.trod_struct Tryd.underlying67 h
  rw [show Tryd.prog.cellsOf 67 = 2 by kernel_rfl] at hl
  match zs, hlen with
  | [y0, y1], _ =>
    have h0 : DataW.trod enc Tryd.prog W 0 (fun _ => true) true n 3 ((cs.drop 0).take (Tryd.prog.cellsOf 3)) = some y0 := hf 0 _ rfl
    have h1 : DataW.trod enc Tryd.prog W 0 (fun _ => true) true n 3 ((cs.drop 1).take (Tryd.prog.cellsOf 3)) = some y1 := hf 1 _ rfl
    rw [show Tryd.prog.cellsOf 3 = 1 by kernel_rfl] at h0 h1
    obtain ⟨n1, e1, _⟩ := DataW.trod_int (P := Tryd.prog) Tryd.underlying3 h0
    obtain ⟨n2, e2, _⟩ := DataW.trod_int (P := Tryd.prog) Tryd.underlying3 h1
    match cs, hl with
    | [c0, c1], _ =>
      replace e1 : [c0] = [.int .i64 n1] := e1
      replace e2 : [c1] = [.int .i64 n2] := e2
      injection e1 with e1 _
      injection e2 with e2 _
      exact ⟨n1, n2, by rw [e1, e2]⟩
set_option maxRecDepth 100000 in
/-- A []api.Section. -/
theorem open_S {fuel : Nat} {v : Value} {x : DataW H × List MemPlace} (h : DataW.trod enc Tryd.prog W 0 (fun _ => true) true fuel 31 [v] = some x) :
    ∃ A c xs, v = .slice A xs.length c ∧ RS W A c xs := by
  rcases DataW.trod_slice Tryd.underlying31 h with ⟨hcs, _⟩ | ⟨a, len, cap, elems, rest, n, _, hcs, _, _, hl, hm, hel, hi, _⟩
  · injection hcs with hv _
    exact ⟨none, 0, [], hv, ⟨Nat.le_refl _, by omega, Kd.Rd.nil _ _ _ _⟩⟩
  · injection hcs with hv _
    rw [show Tryd.prog.cellsOf 67 = 2 by kernel_rfl] at hi
    have key : ∀ i, ∃ p : Int × Int, i < len → W.cell? (a.add (i * 2)) = some (.int .i64 p.1) ∧ W.cell? (a.add (i * 2 + 1)) = some (.int .i64 p.2) := fun i => by
      by_cases hlt : i < len
      · have h1 := hi i hlt
        rw [List.getElem?_eq_getElem (by omega)] at h1
        obtain ⟨cs, hc, ht⟩ := Option.bind_eq_some_iff.1 h1
        obtain ⟨n1, n2, rfl⟩ := section_read ht
        obtain ⟨_, hlc, hg⟩ := World.cells?_some hc
        refine ⟨(n1, n2), fun _ => ⟨?_, ?_⟩⟩
        · have := hg 0 (by omega)
          rw [add_add, Nat.add_zero] at this
          exact this
        · have := hg 1 (by omega)
          rw [add_add] at this
          exact this
      · exact ⟨(0, 0), fun h => absurd h hlt⟩
    have hx : ∃ f : Nat → Int × Int, ∀ i, i < len → W.cell? (a.add (i * 2)) = some (.int .i64 (f i).1) ∧ W.cell? (a.add (i * 2 + 1)) = some (.int .i64 (f i).2) := ⟨fun i => Classical.choose (key i), fun i h => Classical.choose_spec (key i) h⟩
    obtain ⟨f, hf⟩ := hx
    have hlen : ((List.range len).map f).length = len := by simp
    have hn : ∀ i, i < len → nth (0, 0) ((List.range len).map f) i = f i := fun i h => by rw [nth_eq _ _ i (by rw [hlen]; exact h)]; simp
    refine ⟨some a, cap, (List.range len).map f, by rw [hlen]; exact hv, by rw [hlen]; exact hl, by simpa [maxLen] using hm, fun j hj => ?_⟩
    rw [hlen] at hj
    obtain ⟨q0, q1⟩ := hf j hj
    refine ⟨a, [.int .i64 (f j).1, .int .i64 (f j).2], rfl, trivial, by have := World.block_lt_of_cell? W _ q0; rwa [add_block] at this, by show _ = [Value.int .i64 (nth (0, 0) _ j).1, .int .i64 (nth (0, 0) _ j).2]; rw [hn j hj], fun i v hv => ?_⟩
    match i, hv with
    | 0, hv => injection hv with hv; rw [← hv]; exact q0
    | 1, hv => injection hv with hv; rw [← hv]; exact q1
set_option maxRecDepth 100000 in
/-- Widths, values and sections. -/
theorem open_C {r : Reach} {b0 : Nat} {v : Value} {d : DataW H} {p : List MemPlace} (hv : Value.okWide Tryd.prog W r b0 51 v) (h : DataW.Trod enc Tryd.prog W 0 (fun _ => true) true 51 v d p) :
    ∃ (A : Option Addr) (c : Nat) (a : List Int) (B : Option Addr) (c1 : Nat) (b : List Int) (D : Option Addr) (c2 : Nat) (s : List (Int × Int)), v = .agg #[.slice A a.length c, .slice B b.length c1, .slice D s.length c2] ∧ RI W A c a ∧ RI W B c1 b ∧ RS W D c2 s := by
  obtain ⟨v0, v1, v2, y0, y1, y2, n, rfl, rfl, rfl, h0, h1, h2⟩ := Joins.open_agg3 (P := Tryd.prog) Tryd.underlying51 (by kernel_rfl) (by kernel_rfl) hv h
  obtain ⟨A, c, a, rfl, h3, _⟩ := open_I h0
  obtain ⟨B, c1, b, rfl, h4, _⟩ := open_I h1
  obtain ⟨D, c2, s, rfl, h5⟩ := open_S h2
  exact ⟨A, c, a, B, c1, b, D, c2, s, rfl, h3, h4, h5⟩
end
end Go.Proofs.YtmcdgmiheklbeaaDoor

namespace Go.Proofs.YtmcdgmiheklbeaaDoor
open Go.ChangeShapes Go.WideShapes Go.ChangeAt Go.WideMaps Go.WideElems Go.RowKit Go.Deep

/-- What the rows list. -/
abbrev laidBk : List (String × DataW Unit) := [("shawm/book.forms", Rows.laid_shawm_book_forms), ("shawm/book.tables", Rows.laid_shawm_book_tables)]
theorem ownBk : ownKnob Tryd.prog.godebug = none := by kernel_rfl
theorem gForms : Tryd.prog.globalNamed "shawm/book.forms" = some 0 := by kernel_rfl
theorem tForms : (Tryd.prog.globals[0]?).map (·.type) = some 110 := by kernel_rfl
theorem gTabs : Tryd.prog.globalNamed "shawm/book.tables" = some 1 := by kernel_rfl
theorem tTabs : (Tryd.prog.globals[1]?).map (·.type) = some 145 := by kernel_rfl
theorem door_bk (os : Os) (args : Array Value) : laidMetH Tryd.prog laidBk ((World.doorLaid Tryd.prog 400 os).forCall (fun _ _ => 0) ⟨#[], args, []⟩).memory :=
  laidMetH_of_parts3 (fuel := 8) (laidMet_of_run' 8 (by kernel_rfl) (by kernel_rfl)) (by kernel_rfl) (by kernel_rfl)
theorem drop_cell {l : List Value} {a n j : Nat} {v : Value} (h : (((l.drop a).take n).drop j).take 1 = [v]) : l[a + j]? = some v := by
  have h1 := congrArg (fun x : List Value => x[0]?) h
  simp only [List.getElem?_take, List.getElem?_drop, List.getElem?_cons_zero, Nat.add_zero, Nat.zero_lt_one, if_true] at h1
  split at h1
  · exact h1
  · cases h1
theorem drop_cell1 {l : List Value} {a : Nat} {v : Value} (h : (l.drop a).take 1 = [v]) : l[a]? = some v := by
  have h1 := congrArg (fun x : List Value => x[0]?) h
  simpa only [List.getElem?_take, List.getElem?_drop, List.getElem?_cons_zero, Nat.add_zero, Nat.zero_lt_one, if_true] using h1
theorem agg_at {H : Type} {xs : List (DataW H × List MemPlace)} {ys : List (DataW H)} (h : xs.map (·.1) = ys) {i : Nat} {x : DataW H × List MemPlace} (hx : xs[i]? = some x) : ys[i]? = some x.1 := by
  rw [← h, List.getElem?_map, hx]; rfl
theorem form_read {H : Type} {enc : TypeId × Value → H} {w : World} {held : Nat → Bool} {m : Nat} {cs : List Value} {x : DataW H × List MemPlace} (h : DataW.trod enc Tryd.prog w 0 held false m 109 cs = some x) :
    ∃ n1 n2 b, (cs.drop 0).take 1 = [.int .i64 n1] ∧ (cs.drop 1).take 1 = [.int .i64 n2] ∧ (cs.drop 2).take 1 = [.bool b] ∧ x.1 = .agg [.lit (.int .i64 n1), .lit (.int .i64 n2), .lit (.bool b)] := by
  obtain ⟨zs, n, _, rfl, hl, hlen, hf⟩ := DataW.trod_struct Tryd.underlying109 h
  match zs, hlen with
  | [y0, y1, y2], _ =>
    have h0 : DataW.trod enc Tryd.prog w 0 held false n 3 ((cs.drop 0).take (Tryd.prog.cellsOf 3)) = some y0 := hf 0 _ rfl
    have h1 : DataW.trod enc Tryd.prog w 0 held false n 3 ((cs.drop 1).take (Tryd.prog.cellsOf 3)) = some y1 := hf 1 _ rfl
    have h2 : DataW.trod enc Tryd.prog w 0 held false n 4 ((cs.drop 2).take (Tryd.prog.cellsOf 4)) = some y2 := hf 2 _ rfl
    rw [show Tryd.prog.cellsOf 3 = 1 by kernel_rfl] at h0 h1
    rw [show Tryd.prog.cellsOf 4 = 1 by kernel_rfl] at h2
    obtain ⟨n1, e1, f1, _⟩ := DataW.trod_int (P := Tryd.prog) Tryd.underlying3 h0
    obtain ⟨n2, e2, f2, _⟩ := DataW.trod_int (P := Tryd.prog) Tryd.underlying3 h1
    obtain ⟨b, e3, f3⟩ := DataW.trod_bool (P := Tryd.prog) Tryd.underlying4 h2
    subst f1 f2 f3
    exact ⟨n1, n2, b, e1, e2, e3, rfl⟩
/-- The lines of the first table, as data. -/
def formsD : List (DataW Unit) := (List.range 8).map fun b => .agg [.lit (.int .i64 (dimB b)), .lit (.int .i64 (mostB b)), .lit (.bool (escB b))]
def tabsD : List (DataW Unit) := (List.range 8).map fun b => .lit (.string (txtK b).data.toList)
theorem forms_eq : (Rows.laid_shawm_book_forms : DataW Unit) = .agg formsD := by kernel_rfl
theorem tabs_eq : (Rows.laid_shawm_book_tables : DataW Unit) = .agg tabsD := by kernel_rfl
theorem formsD_at {b : Nat} (h : b < 8) : formsD[b]? = some (.agg [.lit (.int .i64 (dimB b)), .lit (.int .i64 (mostB b)), .lit (.bool (escB b))]) := by
  unfold formsD; rw [List.getElem?_map, List.getElem?_range h]; rfl
theorem tabsD_at {b : Nat} (h : b < 8) : tabsD[b]? = some (.lit (.string (txtK b).data.toList)) := by
  unfold tabsD; rw [List.getElem?_map, List.getElem?_range h]; rfl
theorem gf_of_laid {W : World} (h : laidMetH Tryd.prog laidBk W) : GF W ∧ GT W := by
  rw [MakeChecks.laidMetH_plain _ _ _ (by kernel_rfl)] at h
  obtain ⟨ps, ⟨g0, t0, cs0, f0, p0, q0, hg0, ht0, hv0, hd0, ⟨g1, t1, cs1, f1, p1, q1, hg1, ht1, hv1, hd1, _⟩, _⟩, _, _⟩ := h
  obtain rfl := Option.some.inj (gForms.symm.trans hg0)
  obtain rfl := Option.some.inj (tForms.symm.trans ht0)
  obtain rfl := Option.some.inj (gTabs.symm.trans hg1)
  obtain rfl := Option.some.inj (tTabs.symm.trans ht1)
  obtain ⟨xs, m1, rfl, hx1, _, hn3, hel⟩ := DataW.trod_array Tryd.underlying110 hd0
  obtain ⟨ys, m2, rfl, hy1, _, hn4, hem⟩ := DataW.trod_array Tryd.underlying145 hd1
  have ex : xs.map (·.1) = formsD := by
    have := congrArg Prod.fst hx1
    rw [forms_eq] at this
    exact (DataW.agg.inj this).symm
  have ey : ys.map (·.1) = tabsD := by
    have := congrArg Prod.fst hy1
    rw [tabs_eq] at this
    exact (DataW.agg.inj this).symm
  have cf : Tryd.prog.cellsOf 109 = 3 := by kernel_rfl
  have ct : Tryd.prog.cellsOf 9 = 1 := by kernel_rfl
  have kf : ∀ b, b < 8 → cs0[b * 3]? = some (.int .i64 (dimB b)) ∧ cs0[b * 3 + 1]? = some (.int .i64 (mostB b)) ∧ cs0[b * 3 + 2]? = some (.bool (escB b)) := fun b h8 => by
    have h1 := hel b h8
    have hb : b < xs.length := by omega
    rw [cf, List.getElem?_eq_getElem hb] at h1
    obtain ⟨n1, n2, q, e1, e2, e3, e4⟩ := form_read h1
    have h2 := agg_at ex (List.getElem?_eq_getElem hb)
    rw [formsD_at h8, e4] at h2
    injection h2 with h2
    injection h2 with h2
    injection h2 with a1 h2
    injection h2 with a2 h2
    injection h2 with a3 h2
    injection a1 with a1; injection a1 with _ a1
    injection a2 with a2; injection a2 with _ a2
    injection a3 with a3; injection a3 with a3
    rw [a1, a2, a3]
    simp only [← Array.getElem?_toList]
    exact ⟨drop_cell (a := b * 3) (n := 3) (j := 0) e1, drop_cell e2, drop_cell e3⟩
  have kt : ∀ b, b < 8 → cs1[b]? = some (.string (txtK b)) := fun b h8 => by
    have h1 := hem b h8
    have hb : b < ys.length := by omega
    rw [ct, Nat.mul_one, List.getElem?_eq_getElem hb] at h1
    obtain ⟨t, e1, e2, _⟩ := DataW.trod_string (P := Tryd.prog) Tryd.underlying9 h1
    have h2 := agg_at ey (List.getElem?_eq_getElem hb)
    rw [tabsD_at h8, e2] at h2
    replace h2 := Lit.string.inj (DataW.lit.inj (Option.some.inj h2))
    have h3 : txtK b = t := ByteArray.ext (Array.toList_inj.1 h2)
    rw [h3]
    simp only [← Array.getElem?_toList]
    exact drop_cell1 e1
  refine ⟨⟨fun b h8 => ?_, fun b h8 => ?_, fun b h8 => ?_⟩, ⟨fun b h8 => ?_⟩⟩
  · rw [World.var?_cell hg0 hv0]; exact (kf b h8).1
  · rw [World.var?_cell hg0 hv0]; exact (kf b h8).2.1
  · rw [World.var?_cell hg0 hv0]; exact (kf b h8).2.2
  · rw [World.var?_cell hg1 hv1]; exact kt b h8
end Go.Proofs.YtmcdgmiheklbeaaDoor
