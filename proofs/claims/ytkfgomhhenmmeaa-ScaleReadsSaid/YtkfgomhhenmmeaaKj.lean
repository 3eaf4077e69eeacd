/- The statements' Bytes: Begun: what it returns. · The statements' Room: Begun: what it returns. -/
import Derived.Test.YtkfgomhhenmmeaaKi
namespace Go.Proofs.Ytkfgomhhenmmeaa
open Go.RowKit

set_option maxHeartbeats 2000000 in
set_option maxRecDepth 100000 in
theorem bbegun_any (A : Option Addr) (c : Nat) (b : List Int) (m i : Nat) (w : World) (hS : RY w A c b) (hb : ∀ x ∈ b, 0 ≤ x ∧ x < 256) (hm : b.length ≤ 2000) (h8 : m ≤ 8 * b.length) (hi : i ≤ m) :
    Calls Try.prog 19 #[.agg #[.slice A b.length c, .int .i64 (m : Int), .int .i64 (i : Int)]] w
      fun e w' => ∃ gr gt k, e = .returned (.tuple #[.pointer (some ⟨gr, 0, none⟩), .pointer (some ⟨gt, 0, none⟩)]) ∧ Rr (fun x => w.heap.size ≤ x ∧ x < k) w' gr (ofB b m) i ∧ Tr (fun x => k ≤ x) w' gt (ofB b m) i 0 ∧ w.heap.size ≤ k ∧ Below w.heap.size w w' := by
  have hba := below_alloc (Below.refl w.heap.size w) (.cells #[.slice A b.length c, .int .i64 (m : Int), .int .i64 (i : Int)] 34)
  have HBA := Lib.hid hba
  have hbx : Blk (w.alloc (.cells #[.slice A b.length c, .int .i64 (m : Int), .int .i64 (i : Int)] 34)) w.heap.size #[.slice A b.length c, .int .i64 (m : Int), .int .i64 (i : Int)] 34 := heap_alloc_new w _
  have HBX := Lib.hid hbx
  have HOP := Lib.hid (ropen_ok A c b m _ (hS.below hba) hb (by omega) h8 (by omega))
  have HLN := Lib.hid (ofB_length b m)
  have HS := Lib.hid hS
  have HBT := Lib.hid (fun W (h : Below w.heap.size w W) => tbits_any A c b m W (hS.below h) hb h8 (by omega))
  have HZ := Lib.hid (show (w.alloc (.cells #[.slice A b.length c, .int .i64 (m : Int), .int .i64 (i : Int)] 34)).heap.size = w.heap.size + 1 from World.size_alloc _ _)
  have HSE := Lib.hid (show seekE (ofB b m) (i : Int) = 0 ∧ seekI (ofB b m) 0 (i : Int) = i by unfold seekE seekI; rw [if_neg (by rw [ofB_length]; omega), if_neg (by rw [ofB_length]; omega)]; simp)
  clear hba hbx hS hb
  go_enter Try.func19, Try.ntmps19
  go_wp2_with (first
    | (go_at_call 31; refine HOP.out.mono ?_; rintro e w2 ⟨g, rfl, hR2, b2, hg2⟩; have HR2 := Lib.hid hR2; have hx := (HBX.out.below b2).cell 2 rfl; clear hR2)
    | (go_at_call 43; refine (rseek_any _ g 0 (i : Int) (ofB b m) _ HR2.out).mono ?_; rw [HSE.out.1, HSE.out.2]; rintro e w3 ⟨rfl, hR3, hu3⟩))
  have hz := HZ.out
  obtain ⟨gx, hgx⟩ : ∃ gx, w.heap.size = gx := ⟨_, rfl⟩
  have hgg : g ≠ gx := by omega
  have hB3 := (HBX.out.below b2).keep (hu3.keep (ok := fun x => x ≠ g) fun _ h => h) (by omega)
  rw [hgx] at hB3
  have hb03 : Below w.heap.size w w3 := (below2 HBA.out b2).trans (hu3.below (below2 HBA.out b2).size (fun x _ e => by omega))
  have HB03 := Lib.hid hb03
  have HB3 := Lib.hid hB3
  have HR3 := Lib.hid hR3
  have HNN := Lib.hid (show w.heap.size = gx ∧ gx ≤ g from ⟨hgx, by omega⟩)
  simp only [hgx]
  clear hu3 hx b2 HOP HBA hz hB3 hR3 hb03 hgx hg2
  have hHeld0 : (fun W : World => W.cell? ⟨gx, 0, none⟩ = some (.slice A b.length c) ∧ W.cell? ⟨gx, 1, none⟩ = some (.int .i64 (m : Int)) ∧ W.cell? ⟨gx, 2, none⟩ = some (.int .i64 (i : Int))) w3 := ⟨HB3.out.cell 0 rfl, HB3.out.cell 1 rfl, HB3.out.cell 2 rfl⟩
  refine wp_region_G 11 (fun W : World => W.cell? ⟨gx, 0, none⟩ = some (.slice A b.length c) ∧ W.cell? ⟨gx, 1, none⟩ = some (.int .i64 (m : Int)) ∧ W.cell? ⟨gx, 2, none⟩ = some (.int .i64 (i : Int))) (by kernel_rfl) hHeld0 (fun hHeld => ?_)
  refine wpAnyG_takeL (i := 0) (.pointer (some ⟨g, 0, none⟩)) [10, 11] rfl (by kernel_rfl) (fun _ _ _ h => h) hHeld (by rfl) ?_ ?_
  · (intro W' hSw; (try dsimp only at hSw); go_simp)
  try simp only [Act.put, List.setIfInBounds_toArray, List.set_cons_zero, List.set_cons_succ]
  refine wpAnyG_takeL (i := 1) (.pointer (some ⟨gx, 0, none⟩)) [2, 5, 8, 9, 11] rfl (by kernel_rfl) (fun _ _ _ h => h) hHeld (by rfl) ?_ ?_
  · (intro W' hSw; (try dsimp only at hSw); go_simp)
  try simp only [Act.put, List.setIfInBounds_toArray, List.set_cons_zero, List.set_cons_succ]
  refine wpAnyG_takeL (i := 2) (.slice A b.length c) [5, 8, 9, 11] rfl (by kernel_rfl) (fun _ _ _ h => h) hHeld (by rfl) ?_ ?_
  · (intro W' hSw; (try dsimp only at hSw); go_simp)
  try simp only [Act.put, List.setIfInBounds_toArray, List.set_cons_zero, List.set_cons_succ]
  refine wpAnyG_takeL (i := 3) (.pointer (some ⟨gx, 1, none⟩)) [4, 5, 8, 9, 11] rfl (by kernel_rfl) (fun _ _ _ h => h) hHeld (by rfl) ?_ ?_
  · (intro W' hSw; (try dsimp only at hSw); go_simp)
  try simp only [Act.put, List.setIfInBounds_toArray, List.set_cons_zero, List.set_cons_succ]
  refine wpAnyG_takeL (i := 4) (.int .i64 m) [5, 8, 9, 11] rfl (by kernel_rfl) (fun _ _ _ h => h) hHeld (by rfl) ?_ ?_
  · (intro W' hSw; (try dsimp only at hSw); go_simp)
  try simp only [Act.put, List.setIfInBounds_toArray, List.set_cons_zero, List.set_cons_succ]
  refine wpAnyG_takeL (i := 6) (.pointer (some ⟨gx, 2, none⟩)) [7, 8, 9, 11] rfl (by kernel_rfl) (fun _ _ _ h => h) hHeld (by rfl) ?_ ?_
  · (intro W' hSw; (try dsimp only at hSw); go_simp)
  try simp only [Act.put, List.setIfInBounds_toArray, List.set_cons_zero, List.set_cons_succ]
  refine wpAnyG_takeL (i := 7) (.int .i64 i) [8, 9, 11] rfl (by kernel_rfl) (fun _ _ _ h => h) hHeld (by rfl) ?_ ?_
  · (intro W' hSw; (try dsimp only at hSw); go_simp)
  try simp only [Act.put, List.setIfInBounds_toArray, List.set_cons_zero, List.set_cons_succ]
  clear hHeld
  refine wpAnyG_oneL (i := 5) (by kernel_rfl) rfl (fun K hK => ?_)
  (go_simp; go_at_call 44; refine (HBT.out _ (HB03.out.drew)).mono ?_; rintro e w4 ⟨v4, rfl, hO4, b4⟩)
  obtain ⟨A4, c4, rfl, hL4⟩ := hO4.rd
  have b34 : Below w3.heap.size w3 w4 := (Below.refl _ _).drew.trans b4
  have HB4 := Lib.hid (HB3.out.below b34)
  have hHeld4 : (fun W : World => W.cell? ⟨gx, 0, none⟩ = some (.slice A b.length c) ∧ W.cell? ⟨gx, 1, none⟩ = some (.int .i64 (m : Int)) ∧ W.cell? ⟨gx, 2, none⟩ = some (.int .i64 (i : Int))) w4 := ⟨HB4.out.cell 0 rfl, HB4.out.cell 1 rfl, HB4.out.cell 2 rfl⟩
  refine hK.out _ _ (fun _ => hHeld4) ?_
  clear hK K
  try simp only [Act.put, List.setIfInBounds_toArray, List.set_cons_zero, List.set_cons_succ]
  refine wpAnyG_takeL (i := 8) (.agg #[.slice A4 (bitsI (ofB b m)).length c4, .int .i64 i, .int .i64 0]) [9, 11] rfl (by kernel_rfl) (fun _ _ _ h => h) hHeld4 (by rfl) ?_ ?_
  · (intro W' hSw; (try dsimp only at hSw); go_simp)
  try simp only [Act.put, List.setIfInBounds_toArray, List.set_cons_zero, List.set_cons_succ]
  refine wpAnyG_takeL (i := 10) (.pointer (some ⟨g, 0, none⟩)) [11] rfl (by kernel_rfl) (fun _ _ _ h => h) hHeld4 (by rfl) ?_ ?_
  · (intro W' hSw; (try dsimp only at hSw); go_simp)
  try simp only [Act.put, List.setIfInBounds_toArray, List.set_cons_zero, List.set_cons_succ]
  clear hHeld4
  refine wpAnyG_oneL (i := 9) (by kernel_rfl) rfl (fun K hK => ?_)
  go_simp
  refine hK.out _ _ (fun _ => ?_) ?_
  · exact ⟨(HB4.out.below (below_alloc (Below.refl _ _) _)).cell 0 rfl, (HB4.out.below (below_alloc (Below.refl _ _) _)).cell 1 rfl, (HB4.out.below (below_alloc (Below.refl _ _) _)).cell 2 rfl⟩
  clear hK K
  try simp only [Act.put, List.setIfInBounds_toArray, List.set_cons_zero, List.set_cons_succ]
  refine wpAnyG_oneL (i := 11) (by kernel_rfl) rfl (fun K hK => ?_)
  go_simp
  refine hK.out _ _ (fun h => Bool.noConfusion (show true = false from h)) ?_
  clear hK K
  refine wpAnyG_done (by kernel_rfl) ?_ _
  go_wp2
  go_ret2
  have hln := HLN.out
  have hz := HZ.out
  have hbl : (bitsI (ofB b m)).length = (ofB b m).length := bitsI_length _
  have hL5 := hL4.below (below_alloc (Below.refl w4.heap.size w4) (.cells #[.slice A4 (bitsI (ofB b m)).length c4, .int .i64 (i : Int), .int .i64 0] 45))
  refine ⟨g, w4.heap.size, rfl, w3.heap.size, ?_, ⟨A4, c4, ?_, ?_, by omega, by omega, b34.size⟩, HB03.out.size, (below2 HB03.out b34).alloc (below2 HB03.out b34).size _⟩
  · exact ((HR3.out.weak (o' := fun x => w.heap.size ≤ x ∧ x < w3.heap.size) (fun x hx h => ⟨by omega, hx⟩)).below b34).below (below_alloc (Below.refl _ _) _)
  · rw [← hbl]; exact heap_alloc_new w4 _
  · exact (hL4.weak (ok' := fun x => w3.heap.size ≤ x ∧ x ≠ w4.heap.size) (fun x hx h => ⟨h.1, by omega⟩)).below (below_alloc (Below.refl _ _) _)
end Go.Proofs.Ytkfgomhhenmmeaa

namespace Go.Proofs.Ytkfgomhhenmmeaa
open Go.RowKit

/-- A row of zeros is made, as one step of a drawn region: from here on the world is a letter. -/
theorem step_made {P : Program} {ops : Array Oper} {Q : Exit → Act → World → Prop} {E : Prop} {K : Act → World → Prop} {o : Oper} {a : Act} {W : World} (t e : TypeId) (x y : Operand) (ik : IntKind) (n : Nat) (hgd : o.guard = none) (ho : o.op = .makeSlice t x y)
    (hx : a.eval x = .int .i64 (n : Int)) (hy : a.eval y = .int .i64 (n : Int)) (hn : n ≤ 9223372036854775807)
    (hmk : (Instr.makeSlice t (.int .i64 (n : Int)) (.int .i64 (n : Int))).run P W = .ok (.slice (some ⟨W.heap.size, 0, none⟩) n n) (W.alloc (.cells (madeCells #[.int ik 0] n) e)))
    (h : ∀ (g : Nat) (w1 : World), Hid (g = W.heap.size ∧ w1.heap.size = g + 1) → OwnI e ik W.heap.size w1 (.slice (some ⟨g, 0, none⟩) n n) (List.replicate n 0) → Below W.heap.size W w1 → K (a.put o.dst (.slice (some ⟨g, 0, none⟩) n n)) w1) :
    if Region.wanted o (yielded ops a.tmps) = true then Oper.wp P o a W K Q else E := by
  rw [if_pos (by simp [Region.wanted, hgd])]
  unfold Oper.wp execOp
  simp only [ho, hx, hy, Sem.run_bind, hmk, Result.andThen_ok, Sem.run_pure]
  exact h _ _ (Lib.hid ⟨rfl, World.size_alloc _ _⟩) (own_made W e ik n hn) ((Below.refl _ _).alloc (Nat.le_refl _) _)

/-- The bytes, and how many bits, that a writer begins with. -/
def roomL (b : List Int) (L : Int) : List Int := if 0 ≤ L ∧ L ≤ 4000 then List.replicate 131072 0 else b
def roomN (b : List Int) (L : Int) : Nat := if 0 ≤ L ∧ L ≤ 4000 then 1048576 - L.toNat else 8 * b.length
def roomBits (b : List Int) (L : Int) : List Bool := ofB (roomL b L) (roomN b L)
theorem roomBits_length (b : List Int) (L : Int) : (roomBits b L).length = roomN b L := ofB_length _ _
theorem roomN_le {b : List Int} {L : Int} (h : b.length ≤ 50) : roomN b L ≤ 1048576 := by unfold roomN; split <;> omega

/-- What is left to do, behind the bytes. -/
theorem room_end {w W4 W5 W6 : World} {g n : Nat} {b : List Int} {v : Value} (hw0 : w.heap.size ≤ g) (hb04 : Below w.heap.size w W4) (hw : Wr (fun x => x = g ∨ W4.heap.size ≤ x) W5 g (ofB b n)) (hu : Upd (fun x => x = g) W4 W5) (hgl : g < W4.heap.size)
    (hO : OwnI 5 .u8 W5.heap.size W6 v (bitsI (ofB b n))) (hb : Below W5.heap.size W5 W6) :
    ∃ R e k, v = .slice R (ofB b n).length e ∧ Wr (fun x => w.heap.size ≤ x ∧ x < k) W6 g (ofB b n) ∧ Sl (kInt .u8) (fun x => k ≤ x) W6 R e (bitsI (ofB b n)) ∧ w.heap.size ≤ k ∧ Below w.heap.size w W6 := by
  obtain ⟨R, e, rfl, hs⟩ := hO.rd
  have h1 := hb04.size
  have h2 := hu.size
  have hbw : Below w.heap.size w W5 := hb04.trans (hu.below h1 (fun x _ e => by omega))
  refine ⟨R, e, W5.heap.size, by rw [bitsI_length], (hw.weak (fun x hx h => ⟨by rcases h with h | h <;> omega, hx⟩)).below hb, hs.weak (fun x _ h => h.1), by omega, below2 hbw hb⟩

set_option maxHeartbeats 2000000 in
set_option maxRecDepth 100000 in
theorem rbegun_any (A : Option Addr) (c : Nat) (b : List Int) (L : Int) (w : World) (hS : RY w A c b) (hb : ∀ x ∈ b, 0 ≤ x ∧ x < 256) (hm : b.length ≤ 50) :
    Calls Try.prog 35 #[.agg #[.slice A b.length c, .int .i64 L]] w
      fun e w' => ∃ g R d k, e = .returned (.tuple #[.pointer (some ⟨g, 0, none⟩), .slice R (roomBits b L).length d]) ∧ Wr (fun x => w.heap.size ≤ x ∧ x < k) w' g (roomBits b L) ∧ Sl (kInt .u8) (fun x => k ≤ x) w' R d (bitsI (roomBits b L)) ∧ w.heap.size ≤ k ∧ Below w.heap.size w w' := by
  have hba := below_alloc (Below.refl w.heap.size w) (.cells #[.slice A b.length c, .int .i64 L] 62)
  have HBA := Lib.hid hba
  have hbx : Blk (w.alloc (.cells #[.slice A b.length c, .int .i64 L] 62)) w.heap.size #[.slice A b.length c, .int .i64 L] 62 := heap_alloc_new w _
  have HBX := Lib.hid hbx
  have HZ := Lib.hid (show (w.alloc (.cells #[.slice A b.length c, .int .i64 L] 62)).heap.size = w.heap.size + 1 from World.size_alloc _ _)
  have HS := Lib.hid hS
  have HX := Lib.hid hb
  have hw8 : IntKind.i64.wrap (8 * (b.length : Int)) = ((8 * b.length : Nat) : Int) := by rw [IntWalk.i64_in _ (by omega)]; omega
  clear hba hbx hS hb
  by_cases hin : 0 ≤ L ∧ L ≤ 4000
  · obtain ⟨M, hM⟩ : ∃ M, 1048576 - L.toNat = M := ⟨_, rfl⟩
    obtain ⟨zs, hzs⟩ : ∃ zs : List Int, List.replicate 131072 (0 : Int) = zs := ⟨_, rfl⟩
    have hzl : zs.length = 131072 := by rw [← hzs]; exact List.length_replicate
    have hzb : ∀ x ∈ zs, 0 ≤ x ∧ x < 256 := fun x hx => by rw [← hzs] at hx; have := List.eq_of_mem_replicate hx; omega
    have HRB := Lib.hid (show roomBits b L = ofB zs M by unfold roomBits roomL roomN; rw [if_pos hin, if_pos hin, hM, hzs])
    have HFE := Lib.hid (show fullE 0 M = 0 ∧ fullB [] (ofB zs M) = ofB zs M by
      unfold fullE fullB; rw [if_neg (by omega), if_neg (by rw [ofB_length]; show ¬ 1048576 < 0 + M; omega)]; exact ⟨rfl, List.nil_append _⟩)
    have HZS := Lib.hid hzs
    have HZL := Lib.hid hzl
    have HZB := Lib.hid hzb
    clear hzl hzb hzs
    rw [HRB.out]
    have hd0 : decide (0 ≤ L) = true := decide_eq_true hin.1
    have hd1 : decide (L ≤ 4000) = true := decide_eq_true hin.2
    have hwM : IntKind.i64.wrap (1048576 - L) = (M : Int) := by rw [IntWalk.i64_in _ (by omega)]; omega
    have HM := Lib.hid (show M ≤ 8 * 131072 by omega)
    have HMK := Lib.hid (make_row (P := Try.prog) 32 5 .u8 1 Try.underlying32 infoY (by decide) 131072 (by decide))
    clear hin hM
    go_enter Try.func35, Try.ntmps35
    go_wp2_with (go_at_call 28; refine (wnew_any _).mono ?_; rintro e w2 ⟨g, rfl, hW2, b2, hg2⟩; have hB2 := HBX.out.below b2; have x0 := hB2.cell 0 rfl; have x1 := hB2.cell 1 rfl; have HW2 := Lib.hid hW2; have HB2 := Lib.hid b2; have HG2 := Lib.hid hg2; have HBB := Lib.hid hB2; clear hW2 b2 hg2 hB2)
    go_quiet (fail)
    go_wp2
    obtain ⟨gx, hgx⟩ : ∃ gx, w.heap.size = gx := ⟨_, rfl⟩
    have HBN := Lib.hid (HBB.out.below (below_drewN (Below.refl w2.heap.size w2) nq))
    rw [hgx] at HBN HBB
    simp only [hgx]
    have HGX := Lib.hid hgx
    clear hgx x0 x1
    have hHeld0 : (fun W : World => W.cell? ⟨gx, 1, none⟩ = some (.int .i64 L)) (w2.drewN nq) := HBN.out.cell 1 rfl
    refine wp_region_G 5 (fun W : World => W.cell? ⟨gx, 1, none⟩ = some (.int .i64 L)) (by kernel_rfl) hHeld0 (fun hHeld => ?_)
    refine wpAnyG_takeL (i := 1) (.pointer (some ⟨gx, 1, none⟩)) [2, 3, 5] rfl (by kernel_rfl) (fun _ _ _ h => h) hHeld (by rfl) ?_ ?_
    · (intro W' hSw; (try dsimp only at hSw); go_simp)
    try simp only [Act.put, List.setIfInBounds_toArray, List.set_cons_zero, List.set_cons_succ]
    refine wpAnyG_takeL (i := 2) (.int .i64 L) [3, 5] rfl (by kernel_rfl) (fun _ _ _ h => h) hHeld (by rfl) ?_ ?_
    · (intro W' hSw; (try dsimp only at hSw); go_simp)
    try simp only [Act.put, List.setIfInBounds_toArray, List.set_cons_zero, List.set_cons_succ]
    refine wpAnyG_takeL (i := 3) (.int .i64 M) [5] rfl (by kernel_rfl) (fun _ _ _ h => h) hHeld (by rfl) ?_ ?_
    · (intro W' hSw; (try dsimp only at hSw); go_simp)
    try simp only [Act.put, List.setIfInBounds_toArray, List.set_cons_zero, List.set_cons_succ]
    clear hHeld
    refine wpAnyG_oneL (i := 0) (by kernel_rfl) rfl (fun K hK => ?_)
    refine step_made 32 5 _ _ .u8 131072 rfl rfl rfl rfl (by decide) (HMK.out _) (fun gz W4 HGZ hOz hB4 => ?_)
    have hBk := Lib.hid ((HBB.out.below (below_drewN (Below.refl w2.heap.size w2) (nq + 1))).below hB4)
    refine hK.out _ _ (fun _ => hBk.out.cell 1 rfl) ?_
    clear hK K
    try simp only [Act.put, List.setIfInBounds_toArray, List.set_cons_zero, List.set_cons_succ]
    refine wpAnyG_oneL (i := 4) (by kernel_rfl) rfl (fun K hK => ?_)
    go_simp
    refine hK.out _ _ (fun _ => hBk.out.cell 1 rfl) ?_
    clear hK K
    try simp only [Act.put, List.setIfInBounds_toArray, List.set_cons_zero, List.set_cons_succ]
    refine wpAnyG_oneL (i := 5) (by kernel_rfl) rfl (fun K hK => ?_)
    go_simp
    refine hK.out _ _ (fun h => Bool.noConfusion (show true = false from h)) ?_
    clear hK K
    refine wpAnyG_done (by kernel_rfl) ?_ _
    have hgw : w.heap.size ≤ g := by have := HG2.out; have := HZ.out; omega
    have hb24 : Below w2.heap.size w2 W4 := below2 (below_drewN (Below.refl w2.heap.size w2) (nq + 1)) hB4
    rw [HZS.out] at hOz
    have hb04 := below2 (below2 HBA.out HB2.out) hb24
    have hW4 := HW2.out.below hb24
    obtain ⟨A9, c9, hv9, hs9⟩ := hOz.rd
    have hgl := HW2.out.lt
    injection hv9 with hA9 hl9 hc9
    subst hA9 hc9
    have hSg := hs9.weak (ok' := fun x => ¬ x = g) (fun x hx h e => by have := h.1; have h3 : (w2.drewN nq).drew.heap.size = w2.heap.size := rfl; omega)
    have HA := wappend_any (fun x => x = g) g M _ _ zs [] W4 hW4 hSg HZB.out (by have := HZL.out; omega) (by have := HZL.out; have := HM.out; omega) (Nat.zero_le _)
    rw [show ([] : List Bool).length = 0 from rfl, HFE.out.1, HFE.out.2, HZL.out] at HA
    have HAA := Lib.hid HA
    have HSG := Lib.hid hSg
    have HW4 := Lib.hid hW4
    have HB04 := Lib.hid hb04
    have HGW := Lib.hid hgw
    have HBT := Lib.hid (fun W A c (h : RY W A c zs) => tbits_any A c zs M W h HZB.out (by have := HZL.out; have := HM.out; omega) (by have := HZL.out; omega))
    rw [HZL.out] at HBT
    clear HA hSg hW4 hb04 hgw hOz hs9 hb24 hBk hHeld0 hl9 hgl hB4
    go_wp2_with (first
      | (go_at_call 60; refine HAA.out.mono ?_; rintro e w5 ⟨rfl, hW5, hu5⟩; have HS5 := Lib.hid ((HSG.out.keep (hu5.keep (ok := fun x => ¬ x = g) fun _ h => h)).any))
      | (go_at_call 44; refine (HBT.out _ _ _ HS5.out).mono ?_; rintro e w6 ⟨v6, rfl, hO6, b6⟩))
    go_ret2
    obtain ⟨R, e9, k, hv, r1, r2, r3, r4⟩ := room_end HGW.out HB04.out hW5 hu5 HW4.out.lt hO6 b6
    exact ⟨g, R, e9, k, ret_two rfl hv, r1, r2, r3, r4⟩
  · have HRB := Lib.hid (show roomBits b L = ofB b (8 * b.length) by unfold roomBits roomL roomN; rw [if_neg hin, if_neg hin])
    have HFE := Lib.hid (show fullE 0 (8 * b.length) = 0 ∧ fullB [] (ofB b (8 * b.length)) = ofB b (8 * b.length) by
      unfold fullE fullB; rw [if_neg (by omega), if_neg (by rw [ofB_length]; simp; omega)]; exact ⟨rfl, by simp⟩)
    rw [HRB.out]
    have script : ∀ (_ : (decide (0 ≤ L) = false) ∨ (decide (0 ≤ L) = true ∧ decide (L ≤ 4000) = false)), True := fun _ => trivial
    clear script
    have hcs : decide (0 ≤ L) = false ∨ (decide (0 ≤ L) = true ∧ decide (L ≤ 4000) = false) := by
      by_cases h0 : 0 ≤ L
      · exact .inr ⟨decide_eq_true h0, decide_eq_false (by omega)⟩
      · exact .inl (decide_eq_false h0)
    clear hin
    rcases hcs with hd0 | ⟨hd0, hd1⟩
    all_goals
      go_enter Try.func35, Try.ntmps35
      go_wp2_with (go_at_call 28; refine (wnew_any _).mono ?_; rintro e w2 ⟨g, rfl, hW2, b2, hg2⟩; have hB2 := HBX.out.below b2; have x0 := hB2.cell 0 rfl; have x1 := hB2.cell 1 rfl; have HW2 := Lib.hid hW2; have HB2 := Lib.hid b2; have HG2 := Lib.hid hg2; clear hW2 b2 hg2 hB2)
      go_quiet (fail)
      have hgw : w.heap.size ≤ g := by have := HG2.out; have := HZ.out; omega
      have hb02 : Below w.heap.size w (w2.drewN nq) := below_drewN (below2 HBA.out HB2.out) nq
      have hW4 := HW2.out.below (below_drewN (Below.refl w2.heap.size w2) nq)
      have hSg := (HS.out.weak (ok' := fun x => ¬ x = g) (fun x hx _ e => by omega)).below hb02
      have HA := wappend_any (fun x => x = g) g (8 * b.length) A c b [] (w2.drewN nq) hW4 hSg HX.out (by omega) (Nat.le_refl _) (Nat.zero_le _)
      rw [show ((8 * b.length : Nat) : Int) = 8 * (b.length : Int) by omega, show ([] : List Bool).length = 0 from rfl, HFE.out.1, HFE.out.2] at HA
      have HAA := Lib.hid HA
      have HSG := Lib.hid hSg
      have HW4 := Lib.hid hW4
      have HB02 := Lib.hid hb02
      have HGW := Lib.hid hgw
      have HBT := Lib.hid (fun W (h : RY W A c b) => tbits_any A c b (8 * b.length) W h HX.out (Nat.le_refl _) (by omega))
      rw [show ((8 * b.length : Nat) : Int) = 8 * (b.length : Int) by omega] at HBT
      clear HA hSg hW4 hb02 hgw
      go_wp2_with (first
        | (go_at_call 60; refine HAA.out.mono ?_; rintro e w5 ⟨rfl, hW5, hu5⟩; have HS5 := Lib.hid ((HSG.out.keep (hu5.keep (ok := fun x => ¬ x = g) fun _ h => h)).any))
        | (go_at_call 44; refine (HBT.out _ HS5.out).mono ?_; rintro e w6 ⟨v6, rfl, hO6, b6⟩))
      go_ret2
      obtain ⟨R, e9, k, hv, r1, r2, r3, r4⟩ := room_end HGW.out HB02.out hW5 hu5 HW4.out.lt hO6 b6
      exact ⟨g, R, e9, k, ret_two rfl hv, r1, r2, r3, r4⟩
end Go.Proofs.Ytkfgomhhenmmeaa
