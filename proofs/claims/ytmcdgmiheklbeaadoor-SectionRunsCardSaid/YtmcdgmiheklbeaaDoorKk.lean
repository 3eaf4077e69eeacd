/- The statements about sections: awake: what it returns. · section: Books of Runs are the books. · What the arguments of a law read as: []bool, the statements' Bytes and Room. · What the arguments of a law read as: []api.Section, the statements' Cut. · The laws of section: the two variables that the rows list. -/
import Derived.Test.YtmcdgmiheklbeaaDoorKj
import Derived.Test.YtmcdgmiheklbeaaDoorKg
import Derived.Test.YtmcdgmiheklbeaaDoorKd
import Derived.Deep.Grids
import Derived.Test.YtmcdgmiheklbeaaDoorKc
import Derived.Test.YtmcdgmiheklbeaaDoorRows
import Derived.OpenShut
import Derived.MakeChecks
namespace Go.Proofs.YtmcdgmiheklbeaaDoor
open Go.RowKit

section
variable {P : Program} {ops : Array Oper} {Q : Exit → Act → World → Prop}
/-- Memory is made, as one step of a drawn region: the world is a letter at once. -/
theorem step_mem {E : Prop} {K : Act → World → Prop} {o : Oper} {a : Act} {W : World} (cs : Array Value) (t : TypeId) (V : Nat → Value) (hgd : o.guard = none)
    (hrun : (execOp a.eval o).run P W = .ok (.value (V W.heap.size)) (W.alloc (.cells cs t (0, 0))))
    (h : ∀ (g : Nat) (w1 : World), Hid (g = W.heap.size) → Hid (w1.heap.size = g + 1) → Below W.heap.size W w1 → Blk w1 g cs t → K (a.put o.dst (V g)) w1) :
    if Region.wanted o (yielded ops a.tmps) = true then Oper.wp P o a W K Q else E := by
  rw [if_pos (by simp [Region.wanted, hgd])]
  unfold Oper.wp
  rw [hrun]
  exact h _ _ (Lib.hid rfl) (Lib.hid (World.size_alloc _ _)) (((Below.refl _ _).alloc (Nat.le_refl _) _)) (heap_alloc_new W _)
end
theorem blk_ri {w : World} {g : Nat} {t : TypeId} {k : IntKind} {xs : List Int} (h : Blk w g (nums k xs).toArray t) (hm : xs.length ≤ 9223372036854775807) : Sl (kInt k) (fun x => x = g) w (some ⟨g, 0, none⟩) xs.length xs := by
  refine ⟨Nat.le_refl _, hm, fun j hj => ⟨_, [.int k (nth 0 xs j)], rfl, rfl, h.lt, rfl, fun i v hv => ?_⟩⟩
  match i, hv with
  | 0, hv =>
    simp at hv
    subst hv
    have h1 := h.cell j (v := .int k (nth 0 xs j)) (by rw [List.getElem?_toArray]; exact nums_get k xs j hj)
    rw [show j * (kInt k).size + 0 = j from by show j * 1 + 0 = j; omega, add_plain]
    exact h1
theorem made_numsX (k : IntKind) (m : Nat) : madeCells #[Value.int k 0] m = (nums k (List.replicate m 0)).toArray := by
  apply Array.ext
  · simp [nums, madeCells]
  · intro i h1 h2
    simp [nums, madeCells, Nat.mod_one]
/-- A literal of sections. -/
theorem lit_se (W : World) (xs : List (Int × Int)) (hm : xs.length ≤ 9223372036854775807) : Sl kSe (fun x => x = W.heap.size) (W.alloc (.cells (flat2 xs).toArray 67)) (some ⟨W.heap.size, 0, none⟩) xs.length xs := by
  have h := World.ownsRow_lit (base := W.heap.size) (e := 67) (size := 2) W (flat2 xs).toArray xs.length (Nat.le_refl _) (by simpa [maxLen] using hm) (by simp [flat2_length])
  have h2 : OwnS W.heap.size (W.alloc (.cells (flat2 xs).toArray 67)) (.slice (some ⟨W.heap.size, 0, none⟩) xs.length xs.length) xs := ⟨flat2 xs, by simpa [kSe] using h, reps_flat xs⟩
  obtain ⟨A, c, e, hs⟩ := h2.rd
  injection e with e1 e2 e3
  subst e1 e3
  exact hs.weak fun b _ hb => hb.elim False.elim fun hb => by have := Option.some.inj hb; exact this.symm
theorem packB_in18 (bs : List Bool) : ∀ x ∈ packB bs, 0 ≤ x ∧ x < 256 := fun x hx => by
  simp only [packB, List.mem_map, List.mem_range] at hx
  obtain ⟨j, _, rfl⟩ := hx
  have := byteB_lt bs j
  exact ⟨Int.natCast_nonneg _, by show ((byteB bs j : Nat) : Int) < 256; omega⟩
def exW : List Int := [4, 4, 4]
def exZ : List Int := List.replicate 12 0
def exS : List (Int × Int) := [(0, 3)]
def exR : List (Int × Int) := [(1, 2), (0, 1), (2, 1)]
def exB18 : List Bool := wrB exW exZ exS []
set_option maxRecDepth 100000 in
theorem e18_runs : runsL [1, 1, 0, 2] = exR ∧ runsE [1, 1, 0, 2] = 0 := by decide +kernel
set_option maxRecDepth 100000 in
theorem e18_books : booksL exR = [1, 1, 0, 2] ∧ booksE exR = 0 := by decide +kernel
set_option maxRecDepth 100000 in
theorem e18_cost : costQ exW exZ exS = (6, 0) := by decide +kernel
set_option maxRecDepth 100000 in
theorem e18_wr : wrS exW exZ exS 0 = 0 ∧ exB18.length = 6 := by decide +kernel
set_option maxRecDepth 100000 in
theorem e18_pk : (packB exB18).length = 1 ∧ ofB (packB exB18) 6 = exB18 := by decide +kernel
set_option maxRecDepth 100000 in
theorem e18_rd : (readS exW exB18).1 = exZ ∧ (readS exW exB18).2.1 = exS ∧ (readS exW exB18).2.2.1 = 0 := by decide +kernel

theorem runs_ex (w : World) : Calls Tryd.prog 18 #[.slice (some ⟨w.heap.size, 0, none⟩) 4 4] (w.alloc (.cells #[.int .i64 1, .int .i64 1, .int .i64 0, .int .i64 2] 3)) fun e w' => ∃ A c, e = .returned (.tuple #[.slice A 3 c, .int .i64 0]) ∧ RS w' A c exR ∧ Below w.heap.size w w' := by
  have b1 := lit_be w 3 .i64 [1, 1, 0, 2]
  refine (runs_any _ 4 [1, 1, 0, 2] _ (lit_ri w 3 .i64 [1, 1, 0, 2] (by decide))).mono ?_
  rintro e w' ⟨v, rfl, hO, hb⟩
  rw [e18_runs.1] at hO
  rw [e18_runs.2]
  obtain ⟨A, c, rfl, hs⟩ := own_rs hO
  exact ⟨A, c, rfl, hs.any, below2 b1 hb⟩
theorem sames_ex (A : Option Addr) (c : Nat) (w : World) (h : RS w A c exR) : Calls Tryd.prog 14 #[.slice A 3 c, .slice (some ⟨w.heap.size, 0, none⟩) 3 3] (w.alloc (.cells #[.int .i64 1, .int .i64 2, .int .i64 0, .int .i64 1, .int .i64 2, .int .i64 1] 67)) fun e w' => e = .returned (.bool true) ∧ Below w.heap.size w w' := by
  have b1 := below_alloc (Below.refl w.heap.size w) (.cells (flat2 exR).toArray 67)
  refine (rsame_any A _ c 3 exR exR _ (h.below b1) (lit_se w exR (by decide)).any).mono ?_
  rintro e w' ⟨rfl, hb⟩
  exact ⟨by rw [sameS_refl], below2 b1 hb⟩
theorem ints18_ex (A : Option Addr) (c : Nat) (w : World) (h : RI w A c [1, 1, 0, 2]) : Calls Tryd.prog 13 #[.slice A 4 c, .slice (some ⟨w.heap.size, 0, none⟩) 4 4] (w.alloc (.cells #[.int .i64 1, .int .i64 1, .int .i64 0, .int .i64 2] 3)) fun e w' => e = .returned (.bool true) ∧ Below w.heap.size w w' := by
  have b1 := lit_be w 3 .i64 [1, 1, 0, 2]
  refine (ints_ref A _ c 4 [1, 1, 0, 2] [1, 1, 0, 2] _ (h.below b1) (lit_ri w 3 .i64 [1, 1, 0, 2] (by decide))).mono ?_
  rintro e w' ⟨rfl, hb⟩
  exact ⟨by rw [sameL_refl], below2 b1 hb⟩

set_option maxHeartbeats 4000000 in
set_option maxRecDepth 100000 in
theorem awake18_any (w : World) (hG : GF w) (hT : GT w) : Calls Tryd.prog 9 #[] w fun e w' => e = .returned (.bool true) ∧ Below w.heap.size w w' := by
  have hS := GS.of hG hT
  have b := Below.refl w.heap.size w
  clear hG hT
  have hmk : ∀ W : World, (Instr.makeSlice 25 (.int .i64 12) (.int .i64 12)).run Tryd.prog W = .ok (.slice (some ⟨W.heap.size, 0, none⟩) 12 12) (W.alloc (.cells (madeCells #[.int .i64 0] 12) 3)) := make_row (P := Tryd.prog) 25 3 .i64 8 Tryd.underlying25 infoI (by decide) 12 (by decide)
  go_enter Tryd.func9, Tryd.ntmps9
  go_upto_region 1 with fail
  go_cut [1, 2] (fun s1 s2 wx => ∃ g1 g2 : Nat, s1 = .slice (some ⟨g1, 0, none⟩) 3 3 ∧ s2 = .slice (some ⟨g2, 0, none⟩) 12 12 ∧ Hid (Blk wx g1 (nums .i64 exW).toArray 3) ∧ Hid (Blk wx g2 (nums .i64 exZ).toArray 3) ∧ Hid (Below w.heap.size w wx))
  case first =>
    have hd := (Below.refl w.heap.size w).drew
    refine wp_region_G 3 (fun _ => True) (by kernel_rfl) trivial (fun hHeld => ?_)
    refine wpAnyG_br (rs := [0,1]) (by kernel_rfl) (by simp) ?_
    refine AllG.cons (i := 0) rfl (fun K hK => ?_) ?_
    · skip
      (refine step_mem (nums .i64 exW).toArray 3 (fun g => .slice (some ⟨g, 0, none⟩) 3 3) rfl ?hr ?_; (case hr => first | (go_simp; done) | (go_simp; rfl)); intro g1 V1 e1 z1 b1 y1)
      refine hK.out _ _ (fun _ => trivial) ?_
      clear hK K
      try simp only [Act.put, List.setIfInBounds_toArray, List.set_cons_zero, List.set_cons_succ]
      refine wpAnyG_takeL (i := 2) (.slice (some ⟨g1, 0, none⟩) 3 3) [3] rfl (by kernel_rfl) (fun _ _ _ h => h) hHeld (by rfl) ?_ ?_
      · (intro W' hSw; (try dsimp only at hSw); go_simp)
      try simp only [Act.put, List.setIfInBounds_toArray, List.set_cons_zero, List.set_cons_succ]
      refine wpAnyG_oneL (i := 1) (by kernel_rfl) rfl (fun K hK => ?_)
      (refine step_mem (madeCells #[.int .i64 0] 12) 3 (fun g => .slice (some ⟨g, 0, none⟩) 12 12) rfl ?hr ?_; (case hr => first | (go_simp; done) | (go_simp; rfl)); intro g2 V2 e2 z2 b2 y2)
      refine hK.out _ _ (fun _ => trivial) ?_
      clear hK K
      try simp only [Act.put, List.setIfInBounds_toArray, List.set_cons_zero, List.set_cons_succ]
      refine wpAnyG_oneL (i := 3) (by kernel_rfl) rfl (fun K hK => ?_)
      (go_simp)
      refine hK.out _ _ (fun h => Bool.noConfusion (show true = false from h)) ?_
      clear hK K
      clear hHeld
      refine wpAnyG_done (by kernel_rfl) ?_ _
      go_wp2_with fail
      go_meet
      exact ⟨g1, g2, rfl, rfl, Lib.hid (y1.below b2), Lib.hid (by rw [made_numsX] at y2; exact y2), Lib.hid (below2 (below2 hd b1) b2)⟩
    refine AllG.cons (i := 1) rfl (fun K hK => ?_) ?_
    · skip
      (refine step_mem (madeCells #[.int .i64 0] 12) 3 (fun g => .slice (some ⟨g, 0, none⟩) 12 12) rfl ?hr ?_; (case hr => first | (go_simp; done) | (go_simp; rfl)); intro g2 V1 e1 z1 b1 y2)
      refine hK.out _ _ (fun _ => trivial) ?_
      clear hK K
      try simp only [Act.put, List.setIfInBounds_toArray, List.set_cons_zero, List.set_cons_succ]
      refine wpAnyG_oneL (i := 0) (by kernel_rfl) rfl (fun K hK => ?_)
      (refine step_mem (nums .i64 exW).toArray 3 (fun g => .slice (some ⟨g, 0, none⟩) 3 3) rfl ?hr ?_; (case hr => first | (go_simp; done) | (go_simp; rfl)); intro g1 V2 e2 z2 b2 y1)
      refine hK.out _ _ (fun _ => trivial) ?_
      clear hK K
      try simp only [Act.put, List.setIfInBounds_toArray, List.set_cons_zero, List.set_cons_succ]
      refine wpAnyG_takeL (i := 2) (.slice (some ⟨g1, 0, none⟩) 3 3) [3] rfl (by kernel_rfl) (fun _ _ _ h => h) hHeld (by rfl) ?_ ?_
      · (intro W' hSw; (try dsimp only at hSw); go_simp)
      try simp only [Act.put, List.setIfInBounds_toArray, List.set_cons_zero, List.set_cons_succ]
      refine wpAnyG_oneL (i := 3) (by kernel_rfl) rfl (fun K hK => ?_)
      (go_simp)
      refine hK.out _ _ (fun h => Bool.noConfusion (show true = false from h)) ?_
      clear hK K
      clear hHeld
      refine wpAnyG_done (by kernel_rfl) ?_ _
      go_wp2_with fail
      go_meet
      exact ⟨g1, g2, rfl, rfl, Lib.hid y1, Lib.hid ((by rw [made_numsX] at y2; exact y2 : Blk V1 g2 (nums .i64 exZ).toArray 3).below b2), Lib.hid (below2 (below2 hd b1) b2)⟩
    exact AllG.nil
  case rest =>
    obtain ⟨g1, g2, rfl, rfl, hy1, hy2, hb0⟩ := hcut
    have h1 : Sl (kInt .i64) (fun x => x < wc.heap.size) wc (some ⟨g1, 0, none⟩) 3 exW := (blk_ri hy1.out (by decide)).weak fun x hx _ => hx
    have h2 : Sl (kInt .i64) (fun x => x < wc.heap.size) wc (some ⟨g2, 0, none⟩) 12 exZ := (blk_ri hy2.out (by decide)).weak fun x hx _ => hx
    replace hS := hS.below hb0.out
    replace b := hb0.out
    clear hy1 hy2 hb0 hmk
    have hb3 := below_alloc (Below.refl wc.heap.size wc) (.cells (flat2 exS).toArray 67)
    have h3 : Sl kSe (fun x => x = wc.heap.size) (wc.alloc (.cells (flat2 exS).toArray 67)) (some ⟨wc.heap.size, 0, none⟩) 1 exS := lit_se wc exS (by decide)
    obtain ⟨g3, hg3⟩ : ∃ g3, wc.heap.size = g3 := ⟨_, rfl⟩
    obtain ⟨W3, hW3⟩ : ∃ W3, wc.alloc (.cells #[.int .i64 0, .int .i64 3] 67) = W3 := ⟨_, rfl⟩
    replace h3 : Sl kSe (fun x => x < W3.heap.size) W3 (some ⟨g3, 0, none⟩) 1 exS := by
      rw [← hW3, ← hg3]
      exact h3.weak fun x hx _ => hx
    replace hb3 : Below wc.heap.size wc W3 := by rw [← hW3]; exact hb3
    have hz3 := hb3.size
    replace h1 := (h1.below hb3).weak (ok' := fun x => x < W3.heap.size) fun x hx _ => hx
    replace h2 := (h2.below hb3).weak (ok' := fun x => x < W3.heap.size) fun x hx _ => hx
    replace hS := hS.below hb3
    replace b := below2 b hb3
    obtain ⟨n3, hn3⟩ : ∃ n3, W3.heap.size = n3 := ⟨_, rfl⟩
    rw [hn3] at h1 h2 h3
    have HN3 := Lib.hid hn3
    clear hb3 hz3 hn3
    go_wp2_with fail
    try simp only [hW3, hg3]
    refine (runs_ex _).mono ?_
    rintro e w4 ⟨A4, c4, rfl, h4, b1⟩
    replace h1 := h1.below b1; replace h2 := h2.below b1; replace h3 := h3.below b1; replace hS := hS.below b1; replace b := below2 b b1
    have HN4 := Lib.hid (show n3 ≤ w4.heap.size by have := HN3.out; have := b1.size; omega)
    clear b1 hW3 hg3
    go_wp2_with fail
    refine (books_any A4 c4 exR _ h4).mono ?_
    rintro e w5 ⟨v6, rfl, hO, b1⟩
    rw [e18_books.1] at hO
    rw [e18_books.2]
    obtain ⟨A6, c6, rfl, h6⟩ := own_ri hO
    replace h1 := h1.below b1; replace h2 := h2.below b1; replace h3 := h3.below b1; replace h4 := h4.below b1; replace hS := hS.below b1; replace b := below2 b b1
    replace HN4 := Lib.hid (Nat.le_trans HN4.out b1.size)
    clear b1 hO
    go_wp2_with fail
    refine (sCost_any _ _ _ 3 12 1 exW exZ exS _ h1.any h2.any h3.any hS.f hS.t (by decide)).mono ?_
    rw [e18_cost]
    rintro e w6 ⟨rfl, b1⟩
    replace h1 := h1.below b1; replace h2 := h2.below b1; replace h3 := h3.below b1; replace h4 := h4.below b1; replace h6 := h6.below b1; replace hS := hS.below b1; replace b := below2 b b1
    replace HN4 := Lib.hid (Nat.le_trans HN4.out b1.size)
    clear b1
    go_wp2_with fail
    refine (wnew_any _).mono ?_
    rintro e w7 ⟨g, rfl, hw, b1, hg⟩
    have hgl : g < w7.heap.size := hw.lt
    have hgn : n3 ≤ g := Nat.le_trans HN4.out hg
    have hgw : w.heap.size ≤ g := by have := b.size; omega
    replace h1 := h1.below b1; replace h2 := h2.below b1; replace h3 := h3.below b1; replace h4 := h4.apart b1 hg; replace h6 := h6.apart b1 hg; replace hS := hS.below b1; replace b := below2 b b1
    clear b1 hg HN4
    go_wp2_with fail
    refine (sWrite_any _ g _ _ _ 3 12 1 exW exZ exS [] _ (fun x e => by rw [e]; exact hgl) hw (h1.weak fun x _ h e => by omega) (h2.weak fun x _ h e => by omega) (h3.weak fun x _ h e => by omega) hS.f hS.t (fun e => by have := hS.lf; omega) (fun e => by have := hS.lt; omega) (by decide) (by decide)).mono ?_
    rw [show ([] : List Bool).length = 0 from rfl, e18_wr.1, show wrB exW exZ exS [] = exB18 from rfl]
    rintro e w8 ⟨rfl, hw8, hu⟩
    have hk := hu.keep (ok := fun x => x ≠ g) fun _ h => h
    replace h1 := (h1.weak (ok' := fun x => x ≠ g) fun x _ h e => by omega).keep hk
    replace h2 := (h2.weak (ok' := fun x => x ≠ g) fun x _ h e => by omega).keep hk
    replace h3 := (h3.weak (ok' := fun x => x ≠ g) fun x _ h e => by omega).keep hk
    replace h4 := h4.keep hk; replace h6 := h6.keep hk
    replace hS := hS.upd hu (fun x h e => by omega)
    replace b := b.trans (hu.below b.size (fun x _ e => by omega)); clear hu hw hk
    go_wp2_with fail
    refine (wbytes_any _ g exB18 _ hw8 (by rw [e18_wr.2]; decide)).mono ?_
    rintro e w9 ⟨v7, rfl, hO, b1⟩
    obtain ⟨A7, c7, rfl, h7⟩ := own_ri hO
    have hpb : ∀ x ∈ packB exB18, 0 ≤ x ∧ x < 256 := packB_in18 exB18
    rw [e18_pk.1]
    clear hO
    replace hS := hS.below b1; replace h1 := h1.below b1; replace h2 := h2.below b1; replace h3 := h3.below b1; replace h4 := h4.below b1; replace h6 := h6.below b1; replace hw8 := hw8.below b1; replace b := below2 b b1; clear b1
    go_wp2_with fail
    refine (wlen_any _ g exB18 _ hw8).mono ?_
    rw [e18_wr.2]
    rintro e w10 ⟨rfl, rfl⟩
    go_wp2_with fail
    have ho := ropen_ok A7 c7 (packB exB18) 6 w9 h7 hpb (by rw [e18_pk.1]; decide) (by rw [e18_pk.1]; decide) (by decide)
    rw [e18_pk.1, e18_pk.2] at ho
    refine ho.mono ?_
    rintro e w11 ⟨gr, rfl, hr, b1, hg⟩
    replace h1 := h1.any.apart b1 hg; replace h2 := h2.any.apart b1 hg; replace h3 := h3.any.apart b1 hg; replace h4 := h4.any.apart b1 hg; replace h6 := h6.any.apart b1 hg
    have hgr : w.heap.size ≤ gr := by have := b.size; omega
    replace hS := hS.below b1; replace b := below2 b b1; clear b1 hg ho h7 hw8 hpb
    go_wp2_with fail
    refine (sRead_any _ gr 0 _ 3 exW exB18 _ hr.cut (fun x h => h.2) h1 hS.f hS.t (fun e => by have := hS.lf; omega) (fun e => by have := hS.lt; omega) (by decide)).mono ?_
    rw [show exB18.drop 0 = exB18 from rfl, e18_rd.1, e18_rd.2.1, e18_rd.2.2]
    rintro e w12 ⟨va, vb, rfl, hOa, hOb, _, hu⟩
    obtain ⟨A14, c14, rfl, h14⟩ := own_ri hOa
    obtain ⟨A15, c15, rfl, h15⟩ := own_rs hOb
    rw [show exZ.length = 12 from rfl, show exS.length = 1 from rfl]
    have hk := hu.keep (ok := fun x => x ≠ gr) fun _ h => h
    replace h2 := (h2.keep hk).any
    replace h3 := (h3.keep hk).any
    replace h4 := (h4.keep hk).any
    replace h6 := (h6.keep hk).any
    replace b := b.trans (hu.below b.size (fun x _ e => by omega)); clear hu hr hOa hOb hS hk h1
    have HH3 := h3
    clear h3
    go_wp2_with fail
    refine (sames_ex A4 c4 _ h4).mono ?_
    rintro e w13 ⟨rfl, b1⟩
    replace h2 := h2.below b1; replace HH3 := HH3.below b1; replace h6 := h6.below b1; replace h14 := h14.below b1; replace h15 := h15.below b1; replace b := below2 b b1
    clear b1 h4
    go_wp2_with fail
    refine (ints18_ex A6 c6 _ h6).mono ?_
    rintro e w14 ⟨rfl, b1⟩
    replace h2 := h2.below b1; replace HH3 := HH3.below b1; replace h14 := h14.below b1; replace h15 := h15.below b1; replace b := below2 b b1
    clear b1 h6
    go_wp2_with fail
    refine (ints_ref A14 _ c14 12 exZ exZ _ h14 h2).mono ?_
    rintro e w15 ⟨rfl, b1⟩
    rw [sameL_refl]
    replace HH3 := HH3.below b1; replace h15 := h15.below b1; replace b := below2 b b1
    clear b1 h14 h2
    go_wp2_with fail
    refine (rsame_any A15 _ c15 1 exS exS _ h15.any HH3).mono ?_
    rintro e w16 ⟨rfl, b1⟩
    rw [sameS_refl]
    replace b := below2 b b1
    clear b1 h15 HH3
    go_wp2
    go_ret
    exact ⟨rfl, b⟩
end Go.Proofs.YtmcdgmiheklbeaaDoor

namespace Go.Proofs.YtmcdgmiheklbeaaDoor
open Go.RowKit

theorem bksP_snoc (s : List (Int × Int)) (x : Int × Int) : bksP (s ++ [x]) = bksS (bksP s) x := by unfold bksP; rw [List.foldl_append]; rfl
theorem books_rnK (l : List Int) (hl : l.length ≤ 128) (hb : ∀ k, k < l.length → 0 ≤ nth 0 l k ∧ nth 0 l k < 8) : ∀ k, k ≤ l.length → bksP (rnK (l.take k)) = some (l.take k)
  | 0, _ => rfl
  | k + 1, hk => by
    have ih := books_rnK l hl hb k (by omega)
    have hbk := hb k (by omega)
    have htl : (l.take k).length = k := by rw [List.length_take]; omega
    rw [rnK_take l k (by omega), take_succ_nth 0 l k (by omega)]
    generalize nth 0 l k = x at hbk
    generalize l.take k = p at ih htl
    generalize rnK p = s at ih
    unfold rnS
    split
    · rename_i hc
      obtain ⟨h0, hx⟩ := hc
      obtain ⟨s0, y, rfl⟩ : ∃ s0 y, s = s0 ++ [y] := by
        refine ⟨s.dropLast, s.getLast (by intro e; rw [e] at h0; simp at h0), (List.dropLast_concat_getLast _).symm⟩
      have hl0 : (s0 ++ [y]).length - 1 = s0.length := by simp
      have hn : nth (0, 0) (s0 ++ [y]) s0.length = y := by rw [nth_append_right _ _ _ _ (Nat.le_refl _), Nat.sub_self]; rfl
      rw [hl0, hn] at hx ⊢
      subst hx
      have hset : (s0 ++ [y]).set s0.length (y.1, y.2 + 1) = s0 ++ [(y.1, y.2 + 1)] := by simp
      rw [hset, bksP_snoc]
      rw [bksP_snoc] at ih
      cases hs0 : bksP s0 with
      | none => rw [hs0] at ih; cases ih
      | some o =>
        rw [hs0] at ih
        by_cases hbad : y.1 < 0 ∨ 8 ≤ y.1 ∨ y.2 < 1 ∨ 128 - (o.length : Int) < y.2
        · have e : bksS (some o) y = none := if_pos hbad
          rw [e] at ih; cases ih
        · have e : bksS (some o) y = some (o ++ List.replicate y.2.toNat y.1) := if_neg hbad
          rw [e] at ih
          have hp := Option.some.inj ih
          have hpl : o.length + y.2.toNat = k := by rw [← htl, ← hp, List.length_append, List.length_replicate]
          have e2 : bksS (some o) (y.1, y.2 + 1) = some (o ++ List.replicate (y.2 + 1).toNat y.1) := if_neg (by show ¬ (y.1 < 0 ∨ 8 ≤ y.1 ∨ y.2 + 1 < 1 ∨ 128 - (o.length : Int) < y.2 + 1); omega)
          rw [e2, ← hp, show (y.2 + 1).toNat = y.2.toNat + 1 by omega, List.replicate_succ']
          simp
    · rw [bksP_snoc, ih]
      exact if_neg (by show ¬ (x < 0 ∨ 8 ≤ x ∨ (1 : Int) < 1 ∨ 128 - (p.length : Int) < 1); omega)
theorem books_runs {l : List Int} (h : runsE l = 0) : runsL l = rnK l ∧ booksE (runsL l) = 0 ∧ booksL (runsL l) = l := by
  have hr : runsL l = rnK l := by unfold runsL; rw [if_neg (by simp [h])]
  have hl : l.length ≤ 128 := by
    unfold runsE at h
    split at h
    · omega
    · omega
  have hb : ∀ k, k < l.length → 0 ≤ nth 0 l k ∧ nth 0 l k < 8 := fun k hk => by
    unfold runsE at h
    rw [if_neg (by omega)] at h
    split at h
    · omega
    · rename_i hn
      rcases Classical.em (nth 0 l k < 0 ∨ 8 ≤ nth 0 l k) with hc | hc
      · exact absurd (bad_at l k hk hc) hn
      · omega
  have h1 := books_rnK l hl hb l.length (Nat.le_refl _)
  rw [List.take_length] at h1
  exact ⟨hr, by rw [hr]; unfold booksE; rw [h1]; rfl, by rw [hr]; unfold booksL; rw [h1]; rfl⟩
end Go.Proofs.YtmcdgmiheklbeaaDoor

namespace Go.Proofs.YtmcdgmiheklbeaaDoor
open Go.ChangeShapes Go.WideShapes Go.ChangeAt Go.WideMaps Go.WideElems Go.RowKit Go.Deep

section
variable {H : Type} {enc : TypeId × Value → H} {W : World}
end
end Go.Proofs.YtmcdgmiheklbeaaDoor

namespace Go.Proofs.YtmcdgmiheklbeaaDoor
open Go.ChangeShapes Go.WideShapes Go.ChangeAt Go.WideMaps Go.WideElems Go.RowKit Go.Deep

section
variable {H : Type} {enc : TypeId × Value → H} {W : World}
set_option maxRecDepth 100000 in
theorem section_read {m : Nat} {cs : List Value} {x : DataW H × List MemPlace} (h : DataW.trod enc Tryd.prog W 0 (fun _ => true) true m 67 cs = some x) :
    ∃ n1 n2 : Int, cs = [.int .i64 n1, .int .i64 n2] := by
  obtain ⟨zs, n, _, rfl, hl, hlen, hf⟩ := DataW.trod_struct Tryd.underlying67 h
  rw [show Tryd.prog.cellsOf 67 = 2 by kernel_rfl] at hl
  match zs, hlen with
  | [y0, y1], _ =>
    have h0 : DataW.trod enc Tryd.prog W 0 (fun _ => true) true n 3 ((cs.drop 0).take (Tryd.prog.cellsOf 3)) = some y0 := hf 0 _ rfl
    have h1 : DataW.trod enc Tryd.prog W 0 (fun _ => true) true n 3 ((cs.drop 1).take (Tryd.prog.cellsOf 3)) = some y1 := hf 1 _ rfl
    rw [show Tryd.prog.cellsOf 3 = 1 by kernel_rfl] at h0 h1
    obtain ⟨n1, e1, _⟩ := DataW.trod_int (P := Tryd.prog) Tryd.underlying3 h0
    obtain ⟨n2, e2, _⟩ := DataW.trod_int (P := Tryd.prog) Tryd.underlying3 h1
    match cs, hl with
    | [c0, c1], _ =>
      replace e1 : [c0] = [.int .i64 n1] := e1
      replace e2 : [c1] = [.int .i64 n2] := e2
      injection e1 with e1 _
      injection e2 with e2 _
      exact ⟨n1, n2, by rw [e1, e2]⟩
set_option maxRecDepth 100000 in
/-- A []api.Section. -/
theorem open_S {fuel : Nat} {v : Value} {x : DataW H × List MemPlace} (h : DataW.trod enc Tryd.prog W 0 (fun _ => true) true fuel 31 [v] = some x) :
    ∃ A c xs, v = .slice A xs.length c ∧ RS W A c xs := by
  rcases DataW.trod_slice Tryd.underlying31 h with ⟨hcs, _⟩ | ⟨a, len, cap, elems, rest, n, _, hcs, _, _, hl, hm, hel, hi, _⟩
  · injection hcs with hv _
    exact ⟨none, 0, [], hv, ⟨Nat.le_refl _, by omega, Kd.Rd.nil _ _ _ _⟩⟩
  · injection hcs with hv _
    rw [show Tryd.prog.cellsOf 67 = 2 by kernel_rfl] at hi
    have key : ∀ i, ∃ p : Int × Int, i < len → W.cell? (a.add (i * 2)) = some (.int .i64 p.1) ∧ W.cell? (a.add (i * 2 + 1)) = some (.int .i64 p.2) := fun i => by
      by_cases hlt : i < len
      · have h1 := hi i hlt
        rw [List.getElem?_eq_getElem (by omega)] at h1
        obtain ⟨cs, hc, ht⟩ := Option.bind_eq_some_iff.1 h1
        obtain ⟨n1, n2, rfl⟩ := section_read ht
        obtain ⟨_, hlc, hg⟩ := World.cells?_some hc
        refine ⟨(n1, n2), fun _ => ⟨?_, ?_⟩⟩
        · have := hg 0 (by omega)
          rw [add_add, Nat.add_zero] at this
          exact this
        · have := hg 1 (by omega)
          rw [add_add] at this
          exact this
      · exact ⟨(0, 0), fun h => absurd h hlt⟩
    have hx : ∃ f : Nat → Int × Int, ∀ i, i < len → W.cell? (a.add (i * 2)) = some (.int .i64 (f i).1) ∧ W.cell? (a.add (i * 2 + 1)) = some (.int .i64 (f i).2) := ⟨fun i => Classical.choose (key i), fun i h => Classical.choose_spec (key i) h⟩
    obtain ⟨f, hf⟩ := hx
    have hlen : ((List.range len).map f).length = len := by simp
    have hn : ∀ i, i < len → nth (0, 0) ((List.range len).map f) i = f i := fun i h => by rw [nth_eq _ _ i (by rw [hlen]; exact h)]; simp
    refine ⟨some a, cap, (List.range len).map f, by rw [hlen]; exact hv, by rw [hlen]; exact hl, by simpa [maxLen] using hm, fun j hj => ?_⟩
    rw [hlen] at hj
    obtain ⟨q0, q1⟩ := hf j hj
    refine ⟨a, [.int .i64 (f j).1, .int .i64 (f j).2], rfl, trivial, by have := World.block_lt_of_cell? W _ q0; rwa [add_block] at this, by show _ = [Value.int .i64 (nth (0, 0) _ j).1, .int .i64 (nth (0, 0) _ j).2]; rw [hn j hj], fun i v hv => ?_⟩
    match i, hv with
    | 0, hv => injection hv with hv; rw [← hv]; exact q0
    | 1, hv => injection hv with hv; rw [← hv]; exact q1
end
end Go.Proofs.YtmcdgmiheklbeaaDoor

namespace Go.Proofs.YtmcdgmiheklbeaaDoor
open Go.ChangeShapes Go.WideShapes Go.ChangeAt Go.WideMaps Go.WideElems Go.RowKit Go.Deep

/-- What the rows list. -/
abbrev laidBk : List (String × DataW Unit) := [("shawm/book.forms", Rows.laid_shawm_book_forms), ("shawm/book.tables", Rows.laid_shawm_book_tables)]
theorem ownBk : ownKnob Tryd.prog.godebug = none := by kernel_rfl
theorem gForms : Tryd.prog.globalNamed "shawm/book.forms" = some 0 := by kernel_rfl
theorem tForms : (Tryd.prog.globals[0]?).map (·.type) = some 110 := by kernel_rfl
theorem gTabs : Tryd.prog.globalNamed "shawm/book.tables" = some 1 := by kernel_rfl
theorem tTabs : (Tryd.prog.globals[1]?).map (·.type) = some 145 := by kernel_rfl
theorem door_bk (os : Os) (args : Array Value) : laidMetH Tryd.prog laidBk ((World.doorLaid Tryd.prog 400 os).forCall (fun _ _ => 0) ⟨#[], args, []⟩).memory :=
  laidMetH_of_parts3 (fuel := 8) (laidMet_of_run' 8 (by kernel_rfl) (by kernel_rfl)) (by kernel_rfl) (by kernel_rfl)
theorem drop_cell {l : List Value} {a n j : Nat} {v : Value} (h : (((l.drop a).take n).drop j).take 1 = [v]) : l[a + j]? = some v := by
  have h1 := congrArg (fun x : List Value => x[0]?) h
  simp only [List.getElem?_take, List.getElem?_drop, List.getElem?_cons_zero, Nat.add_zero, Nat.zero_lt_one, if_true] at h1
  split at h1
  · exact h1
  · cases h1
theorem drop_cell1 {l : List Value} {a : Nat} {v : Value} (h : (l.drop a).take 1 = [v]) : l[a]? = some v := by
  have h1 := congrArg (fun x : List Value => x[0]?) h
  simpa only [List.getElem?_take, List.getElem?_drop, List.getElem?_cons_zero, Nat.add_zero, Nat.zero_lt_one, if_true] using h1
theorem agg_at {H : Type} {xs : List (DataW H × List MemPlace)} {ys : List (DataW H)} (h : xs.map (·.1) = ys) {i : Nat} {x : DataW H × List MemPlace} (hx : xs[i]? = some x) : ys[i]? = some x.1 := by
  rw [← h, List.getElem?_map, hx]; rfl
theorem form_read {H : Type} {enc : TypeId × Value → H} {w : World} {held : Nat → Bool} {m : Nat} {cs : List Value} {x : DataW H × List MemPlace} (h : DataW.trod enc Tryd.prog w 0 held false m 109 cs = some x) :
    ∃ n1 n2 b, (cs.drop 0).take 1 = [.int .i64 n1] ∧ (cs.drop 1).take 1 = [.int .i64 n2] ∧ (cs.drop 2).take 1 = [.bool b] ∧ x.1 = .agg [.lit (.int .i64 n1), .lit (.int .i64 n2), .lit (.bool b)] := by
  obtain ⟨zs, n, _, rfl, hl, hlen, hf⟩ := DataW.trod_struct Tryd.underlying109 h
  match zs, hlen with
  | [y0, y1, y2], _ =>
    have h0 : DataW.trod enc Tryd.prog w 0 held false n 3 ((cs.drop 0).take (Tryd.prog.cellsOf 3)) = some y0 := hf 0 _ rfl
    have h1 : DataW.trod enc Tryd.prog w 0 held false n 3 ((cs.drop 1).take (Tryd.prog.cellsOf 3)) = some y1 := hf 1 _ rfl
    have h2 : DataW.trod enc Tryd.prog w 0 held false n 4 ((cs.drop 2).take (Tryd.prog.cellsOf 4)) = some y2 := hf 2 _ rfl
    rw [show Tryd.prog.cellsOf 3 = 1 by kernel_rfl] at h0 h1
    rw [show Tryd.prog.cellsOf 4 = 1 by kernel_rfl] at h2
    obtain ⟨n1, e1, f1, _⟩ := DataW.trod_int (P := Tryd.prog) Tryd.underlying3 h0
    obtain ⟨n2, e2, f2, _⟩ := DataW.trod_int (P := Tryd.prog) Tryd.underlying3 h1
    obtain ⟨b, e3, f3⟩ := DataW.trod_bool (P := Tryd.prog) Tryd.underlying4 h2
    subst f1 f2 f3
    exact ⟨n1, n2, b, e1, e2, e3, rfl⟩
/-- The lines of the first table, as data. -/
def formsD : List (DataW Unit) := (List.range 8).map fun b => .agg [.lit (.int .i64 (dimB b)), .lit (.int .i64 (mostB b)), .lit (.bool (escB b))]
def tabsD : List (DataW Unit) := (List.range 8).map fun b => .lit (.string (txtK b).data.toList)
theorem forms_eq : (Rows.laid_shawm_book_forms : DataW Unit) = .agg formsD := by kernel_rfl
theorem tabs_eq : (Rows.laid_shawm_book_tables : DataW Unit) = .agg tabsD := by kernel_rfl
theorem formsD_at {b : Nat} (h : b < 8) : formsD[b]? = some (.agg [.lit (.int .i64 (dimB b)), .lit (.int .i64 (mostB b)), .lit (.bool (escB b))]) := by
  unfold formsD; rw [List.getElem?_map, List.getElem?_range h]; rfl
theorem tabsD_at {b : Nat} (h : b < 8) : tabsD[b]? = some (.lit (.string (txtK b).data.toList)) := by
  unfold tabsD; rw [List.getElem?_map, List.getElem?_range h]; rfl
theorem gf_of_laid {W : World} (h : laidMetH Tryd.prog laidBk W) : GF W ∧ GT W := by
  rw [MakeChecks.laidMetH_plain _ _ _ (by kernel_rfl)] at h
  obtain ⟨ps, ⟨g0, t0, cs0, f0, p0, q0, hg0, ht0, hv0, hd0, ⟨g1, t1, cs1, f1, p1, q1, hg1, ht1, hv1, hd1, _⟩, _⟩, _, _⟩ := h
  obtain rfl := Option.some.inj (gForms.symm.trans hg0)
  obtain rfl := Option.some.inj (tForms.symm.trans ht0)
  obtain rfl := Option.some.inj (gTabs.symm.trans hg1)
  obtain rfl := Option.some.inj (tTabs.symm.trans ht1)
  obtain ⟨xs, m1, rfl, hx1, _, hn3, hel⟩ := DataW.trod_array Tryd.underlying110 hd0
  obtain ⟨ys, m2, rfl, hy1, _, hn4, hem⟩ := DataW.trod_array Tryd.underlying145 hd1
  have ex : xs.map (·.1) = formsD := by
    have := congrArg Prod.fst hx1
    rw [forms_eq] at this
    exact (DataW.agg.inj this).symm
  have ey : ys.map (·.1) = tabsD := by
    have := congrArg Prod.fst hy1
    rw [tabs_eq] at this
    exact (DataW.agg.inj this).symm
  have cf : Tryd.prog.cellsOf 109 = 3 := by kernel_rfl
  have ct : Tryd.prog.cellsOf 9 = 1 := by kernel_rfl
  have kf : ∀ b, b < 8 → cs0[b * 3]? = some (.int .i64 (dimB b)) ∧ cs0[b * 3 + 1]? = some (.int .i64 (mostB b)) ∧ cs0[b * 3 + 2]? = some (.bool (escB b)) := fun b h8 => by
    have h1 := hel b h8
    have hb : b < xs.length := by omega
    rw [cf, List.getElem?_eq_getElem hb] at h1
    obtain ⟨n1, n2, q, e1, e2, e3, e4⟩ := form_read h1
    have h2 := agg_at ex (List.getElem?_eq_getElem hb)
    rw [formsD_at h8, e4] at h2
    injection h2 with h2
    injection h2 with h2
    injection h2 with a1 h2
    injection h2 with a2 h2
    injection h2 with a3 h2
    injection a1 with a1; injection a1 with _ a1
    injection a2 with a2; injection a2 with _ a2
    injection a3 with a3; injection a3 with a3
    rw [a1, a2, a3]
    simp only [← Array.getElem?_toList]
    exact ⟨drop_cell (a := b * 3) (n := 3) (j := 0) e1, drop_cell e2, drop_cell e3⟩
  have kt : ∀ b, b < 8 → cs1[b]? = some (.string (txtK b)) := fun b h8 => by
    have h1 := hem b h8
    have hb : b < ys.length := by omega
    rw [ct, Nat.mul_one, List.getElem?_eq_getElem hb] at h1
    obtain ⟨t, e1, e2, _⟩ := DataW.trod_string (P := Tryd.prog) Tryd.underlying9 h1
    have h2 := agg_at ey (List.getElem?_eq_getElem hb)
    rw [tabsD_at h8, e2] at h2
    replace h2 := Lit.string.inj (DataW.lit.inj (Option.some.inj h2))
    have h3 : txtK b = t := ByteArray.ext (Array.toList_inj.1 h2)
    rw [h3]
    simp only [← Array.getElem?_toList]
    exact drop_cell1 e1
  refine ⟨⟨fun b h8 => ?_, fun b h8 => ?_, fun b h8 => ?_⟩, ⟨fun b h8 => ?_⟩⟩
  · rw [World.var?_cell hg0 hv0]; exact (kf b h8).1
  · rw [World.var?_cell hg0 hv0]; exact (kf b h8).2.1
  · rw [World.var?_cell hg0 hv0]; exact (kf b h8).2.2
  · rw [World.var?_cell hg1 hv1]; exact kt b h8
end Go.Proofs.YtmcdgmiheklbeaaDoor
