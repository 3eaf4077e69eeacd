/- section: Choose: what it returns. -/
import Derived.Test.YtmcdgmiheklbeaaDoorKl
namespace Go.Proofs.YtmcdgmiheklbeaaDoor
open Go.RowKit

theorem OwnK.formX {α : Type} {k : Kd α} {e : TypeId} {base : Nat} {ok : Nat → Prop} {w : World} {v : Value} {xs : List α} (h : OwnK k e base ok w v xs) (h0 : 0 < xs.length) : ∃ g cap, v = .slice (some ⟨g, 0, none⟩) xs.length cap ∧ base ≤ g ∧ g < w.heap.size := by
  obtain ⟨cells, ho, _⟩ := h
  rcases ho.2 with ⟨_, h1⟩ | ⟨g, cap, cur, rfl, hb, hh, _⟩
  · omega
  · exact ⟨g, cap, rfl, hb, (Array.getElem?_eq_some_iff.1 hh).1⟩
/-- A band's cost in a book, as it lies. -/
theorem rd_row {ok : Nat → Prop} {W : World} {g c : Nat} {ws l : List Int} (h : Sl kRow ok W (some ⟨g, 0, none⟩) c ((List.range ws.length).map (rowV ws l))) (j k : Nat) (hj : j < ws.length) (hk : k < 8) : W.cell? ⟨g, j * 8 + k, none⟩ = some (.int .i64 (cstV ws l j k)) := by
  obtain ⟨ad, cs, e, _, _, hK, hc⟩ := h.rd j (by simp [hj])
  cases e
  have hn : nth kRow.dflt ((List.range ws.length).map (rowV ws l)) j = rowV ws l j := by
    rw [nth_eq _ _ j (by simp [hj])]; simp
  rw [hn] at hK
  have h1 := hc k (.int .i64 (cstV ws l j k)) (by
    rw [hK.1, nums_get .i64 _ k (by unfold rowV; simp [hk])]
    unfold rowV
    rw [nth_eq _ _ k (by simp [hk])]; simp)
  rw [add_plain] at h1
  exact h1
/-- Whether the best way so far costs less. -/
def overB (top : Option Way) (T : Int) : Bool := match top with
  | some t => decide (t.cost < T)
  | none => false
theorem stpWay_skip {gam : Nat → Nat} {k : Int} {m : Nat} {sum T : Int} {rest : Way} {top : Option Way} (hT : 3 + (gam m : Int) + sum + rest.cost = T) (h : (overB top T || decide (rest.books.head? = some k)) = true) : stpWay gam k m sum rest top = top := by
  unfold stpWay
  rw [hT]
  rw [if_pos]
  rw [Bool.or_eq_true] at h
  rcases h with h | h
  · left
    cases top with
    | none => simp [overB] at h
    | some t => exact h
  · exact .inr (of_decide_eq_true h)
theorem stpWay_none {gam : Nat → Nat} {k : Int} {m : Nat} {sum T : Int} {rest : Way} (hT : 3 + (gam m : Int) + sum + rest.cost = T) (h : (overB none T || decide (rest.books.head? = some k)) = false) :
    stpWay gam k m sum rest none = some ⟨T, (k, (m : Int)) :: rest.secs, List.replicate m k ++ rest.books⟩ := by
  unfold stpWay
  rw [hT]
  rw [Bool.or_eq_false_iff] at h
  rw [if_neg]
  intro hc
  rcases hc with hc | hc
  · cases hc
  · have h2 := h.2
    rw [decide_eq_true hc] at h2; cases h2
theorem stpWay_some {gam : Nat → Nat} {k : Int} {m : Nat} {sum T : Int} {rest t : Way} (hT : 3 + (gam m : Int) + sum + rest.cost = T) (h : (overB (some t) T || decide (rest.books.head? = some k)) = false) :
    stpWay gam k m sum rest (some t) = if Way.less ⟨T, (k, (m : Int)) :: rest.secs, List.replicate m k ++ rest.books⟩ t = true then some ⟨T, (k, (m : Int)) :: rest.secs, List.replicate m k ++ rest.books⟩ else some t := by
  unfold stpWay
  rw [hT]
  rw [Bool.or_eq_false_iff] at h
  rw [if_neg]
  intro hc
  rcases hc with hc | hc
  · have h1 : decide (t.cost < T) = false := h.1
    have h2 : decide (t.cost < T) = true := hc
    rw [h1] at h2; cases h2
  · have h2 := h.2
    rw [decide_eq_true hc] at h2; cases h2
theorem sizeWay : (Tryd.prog.info? 101).map (·.size) = some 3 := by kernel_rfl
set_option maxHeartbeats 2000000 in
set_option maxRecDepth 100000 in
theorem choose_0 (A B : Option Addr) (c d : Nat) (ws l : List Int) (w : World) (hS : RI w A c ws) (hT : RI w B d l) (hG : GF w) (hGT : GT w) (hs : sureE ws l = 0) (hn0 : ws.length = 0) :
    Calls Tryd.prog 30 #[.slice A ws.length c, .slice B l.length d] w fun e w' => ∃ A1 a1, e = .returned (.tuple #[.slice A1 (bestW ws l 0).secs.length a1, .int .i64 (bestW ws l 0).cost, .int .i64 0]) ∧ Sl kSe (fun x => w.heap.size ≤ x) w' A1 a1 (bestW ws l 0).secs ∧ Below w.heap.size w w' := by
  obtain ⟨hok, h128, hsum, hq⟩ := sureE_facts hs
  have HCK := Lib.hid (checked18_any A B c d ws l w hS hT (by omega) hG)
  rw [hs] at HCK
  have HRW := Lib.hid (fun W (hb : Below w.heap.size w W) => rows_any A B c d ws l W (hS.below hb) (hT.below hb) (hG.below hb) (hGT.below hb) hok hsum h128)
  have hlr : ((List.range ws.length).map (rowV ws l)).length = ws.length := by simp
  generalize (List.range ws.length).map (rowV ws l) = rows at *
  have hmk : ∀ W : World, (Instr.makeSlice 96 (.int .i64 1) (.int .i64 1)).run Tryd.prog W = .ok (.slice (some ⟨W.heap.size, 0, none⟩) 1 1) (W.alloc (.cells (madeCells #[.int .i64 0, .slice none 0 0, .slice none 0 0] 3) 101)) := fun W => make_ways 1 (by decide) W
  have hR : bestW ws l 0 = ⟨0, [], []⟩ := by have := bestW_last ws l; rwa [hn0] at this
  have HST := Lib.hid (fun W => ways_start 0 (fun _ => (⟨0, [], []⟩ : Way)) W rfl)
  rw [hR]
  rw [hn0] at HCK HRW hlr ⊢
  clear hS hT hG hGT hs hok h128 hsum hq hR hn0
  go_enter Tryd.func30, Tryd.ntmps30
  go_wp2_with (first
    | (go_at_call 44; refine HCK.out.mono ?_; rintro e w2 ⟨rfl, b2⟩; have HB2 := Lib.hid b2)
    | (go_at_call 50; refine (HRW.out _ HB2.out).mono ?_; rintro e w3 ⟨v8, rfl, hO8, b3⟩; obtain ⟨A8, c8, hv8, _⟩ := hO8.rd; rw [hlr] at hv8; subst hv8))
  obtain ⟨g9, hg9⟩ : ∃ g9, w3.heap.size = g9 := ⟨_, rfl⟩
  have hb4 := below_alloc (Below.refl w3.heap.size w3) (.cells (madeCells #[.int .i64 0, .slice none 0 0, .slice none 0 0] 3) 101)
  have hI0 := HST.out w3
  obtain ⟨W4, hW4⟩ : ∃ W4, w3.alloc (.cells (madeCells #[.int .i64 0, .slice none 0 0, .slice none 0 0] 3) 101) = W4 := ⟨_, rfl⟩
  have hI1 : WaysI 0 (fun _ => (⟨0, [], []⟩ : Way)) w3.heap.size 0 W4 := by rw [← hW4]; exact hI0
  rw [hW4] at hb4
  rw [hg9] at hI1
  have HLOW := Lib.hid (show Below w.heap.size w W4 from below2 (below2 HB2.out b3) hb4)
  have HZ := Lib.hid (show w.heap.size ≤ g9 by have := HB2.out.size; have := b3.size; omega)
  obtain ⟨A0, a0, B0, b0, y0, y1, y2, s1, s2⟩ := hI1.at_ 0 (Nat.le_refl _) (Nat.zero_le _)
  simp only [Nat.zero_mul, Nat.zero_add, List.length_nil] at y0 y1 y2
  have HF26 := Lib.hid (show ∀ W' : World, Below W4.heap.size W4 W' → W'.cell? ⟨g9, 0, none⟩ = some (.int .i64 0) ∧ W'.cell? ⟨g9, 1, none⟩ = some (.slice A0 0 a0) from fun W' hb => ⟨cell_below hb y0, cell_below hb y1⟩)
  have HS26 := Lib.hid s1
  try simp only [hW4, hg9]
  clear hW4 hg9 HRW HCK hO8 hb4 hI0 hI1 b3 y0 y1 y2 s1 s2 HST
  go_loopw [10] (fun iv wr => iv = .int .i64 (-1) ∧ wr = W4) (fun _ _ => 0)
  case atStart => exact ⟨rfl, rfl⟩
  case round =>
    obtain ⟨rfl, rfl⟩ := hrel
    have d0 := (Below.refl wr.heap.size wr).drew
    go_upto_region 26 with fail
    refine wp_region_G 10 (fun W' => W'.cell? ⟨g9, 0, none⟩ = some (.int .i64 0) ∧ W'.cell? ⟨g9, 1, none⟩ = some (.slice A0 0 a0)) (by kernel_rfl) (HF26.out _ d0) (fun hHeld => ?_)
    refine wpAnyG_takeL (i := 0) (.slice (some ⟨g9, 0, none⟩) 1 1) [10] rfl (by kernel_rfl) (fun _ _ _ h => h) hHeld (by rfl) ?_ ?_
    · (intro W' hSw; (try dsimp only at hSw); go_simp)
    try simp only [Act.put, List.setIfInBounds_toArray, List.set_cons_zero, List.set_cons_succ]
    refine wpAnyG_takeL (i := 1) (.pointer (some ⟨g9, 0, none⟩)) [10] rfl (by kernel_rfl) (fun _ _ _ h => h) hHeld (by rfl) ?_ ?_
    · (intro W' hSw; (try dsimp only at hSw); go_simp)
    try simp only [Act.put, List.setIfInBounds_toArray, List.set_cons_zero, List.set_cons_succ]
    refine wpAnyG_takeL (i := 2) (.pointer (some ⟨g9, 1, none⟩)) [10] rfl (by kernel_rfl) (fun _ _ _ h => h) hHeld (by rfl) ?_ ?_
    · (intro W' hSw; (try dsimp only at hSw); go_simp)
    try simp only [Act.put, List.setIfInBounds_toArray, List.set_cons_zero, List.set_cons_succ]
    refine wpAnyG_takeL (i := 3) (.slice A0 0 a0) [10] rfl (by kernel_rfl) (fun _ _ _ h => h) hHeld (by rfl) ?_ ?_
    · (intro W' hSw; (try dsimp only at hSw); go_simp)
    try simp only [Act.put, List.setIfInBounds_toArray, List.set_cons_zero, List.set_cons_succ]
    refine wpAnyG_takeL (i := 4) (.slice (some ⟨g9, 0, none⟩) 1 1) [10] rfl (by kernel_rfl) (fun _ _ _ h => h) hHeld (by rfl) ?_ ?_
    · (intro W' hSw; (try dsimp only at hSw); go_simp)
    try simp only [Act.put, List.setIfInBounds_toArray, List.set_cons_zero, List.set_cons_succ]
    refine wpAnyG_takeL (i := 5) (.pointer (some ⟨g9, 0, none⟩)) [10] rfl (by kernel_rfl) (fun _ _ _ h => h) hHeld (by rfl) ?_ ?_
    · (intro W' hSw; (try dsimp only at hSw); go_simp)
    try simp only [Act.put, List.setIfInBounds_toArray, List.set_cons_zero, List.set_cons_succ]
    refine wpAnyG_takeL (i := 6) (.pointer (some ⟨g9, 0, none⟩)) [10] rfl (by kernel_rfl) (fun _ _ _ h => h) hHeld (by rfl) ?_ ?_
    · (intro W' hSw; (try dsimp only at hSw); go_simp)
    try simp only [Act.put, List.setIfInBounds_toArray, List.set_cons_zero, List.set_cons_succ]
    refine wpAnyG_takeL (i := 7) (.int .i64 0) [10] rfl (by kernel_rfl) (fun _ _ _ h => h) hHeld (by rfl) ?_ ?_
    · (intro W' hSw; (try dsimp only at hSw); go_simp)
    try simp only [Act.put, List.setIfInBounds_toArray, List.set_cons_zero, List.set_cons_succ]
    refine wpAnyG_takeL (i := 8) (.slice A0 0 a0) [10] rfl (by kernel_rfl) (fun _ _ _ h => h) hHeld (by rfl) ?_ ?_
    · (intro W' hSw; (try dsimp only at hSw); go_simp)
    try simp only [Act.put, List.setIfInBounds_toArray, List.set_cons_zero, List.set_cons_succ]
    refine wpAnyG_takeL (i := 9) (.int .i64 0) [10] rfl (by kernel_rfl) (fun _ _ _ h => h) hHeld (by rfl) ?_ ?_
    · (intro W' hSw; (try dsimp only at hSw); go_simp)
    try simp only [Act.put, List.setIfInBounds_toArray, List.set_cons_zero, List.set_cons_succ]
    refine wpAnyG_oneL (i := 10) (by kernel_rfl) rfl (fun K hK => ?_)
    (go_simp)
    refine hK.out _ _ (fun h => Bool.noConfusion (show true = false from h)) ?_
    clear hK K
    clear hHeld
    refine wpAnyG_done (by kernel_rfl) ?_ _
    go_wp2
    go_ret3
    exact ⟨A0, a0, rfl, (HS26.out.below d0).weak fun x _ h => by have := HZ.out; omega, HLOW.out.trans (d0.mono HLOW.out.size)⟩
set_option maxHeartbeats 8000000 in
set_option maxRecDepth 100000 in
theorem choose_n (A B : Option Addr) (c d : Nat) (ws l : List Int) (w : World) (hS : RI w A c ws) (hT : RI w B d l) (hG : GF w) (hGT : GT w) (hs : sureE ws l = 0) (hn0 : 0 < ws.length) :
    Calls Tryd.prog 30 #[.slice A ws.length c, .slice B l.length d] w fun e w' => ∃ A1 a1, e = .returned (.tuple #[.slice A1 (bestW ws l 0).secs.length a1, .int .i64 (bestW ws l 0).cost, .int .i64 0]) ∧ Sl kSe (fun x => w.heap.size ≤ x) w' A1 a1 (bestW ws l 0).secs ∧ Below w.heap.size w w' := by
  obtain ⟨hok, h128, hsum, hq⟩ := sureE_facts hs
  have HCK := Lib.hid (checked18_any A B c d ws l w hS hT (by omega) hG)
  rw [hs] at HCK
  have HRW := Lib.hid (fun W (hb : Below w.heap.size w W) => rows_any A B c d ws l W (hS.below hb) (hT.below hb) (hG.below hb) (hGT.below hb) hok hsum h128)
  have hlr : ((List.range ws.length).map (rowV ws l)).length = ws.length := by simp
  have HRR := Lib.hid (fun (g c : Nat) (W : World) (ok : Nat → Prop) (h : Sl kRow ok W (some ⟨g, 0, none⟩) c ((List.range ws.length).map (rowV ws l))) j k hj hk => rd_row h j k hj hk)
  generalize (List.range ws.length).map (rowV ws l) = rows at *
  obtain ⟨n, hn⟩ : ∃ n, ws.length = n := ⟨_, rfl⟩
  obtain ⟨n1, hn1⟩ : ∃ n1, n + 1 = n1 := ⟨_, rfl⟩
  have hmk : ∀ W : World, (Instr.makeSlice 96 (.int .i64 ((n : Int) + 1)) (.int .i64 ((n : Int) + 1))).run Tryd.prog W = .ok (.slice (some ⟨W.heap.size, 0, none⟩) n1 n1) (W.alloc (.cells (madeCells #[.int .i64 0, .slice none 0 0, .slice none 0 0] (n1 * 3)) 101)) := by
    have := make_ways (n + 1) (by omega)
    rw [Int.natCast_add] at this
    rw [← hn1]; exact this
  have hwn : IntKind.i64.wrap ((n : Int) + 1) = (n : Int) + 1 := IntWalk.i64_in _ (by omega)
  have hwm : IntKind.i64.wrap ((n : Int) - 1) = (n : Int) - 1 := IntWalk.i64_in _ (by omega)
  have HN := Lib.hid (show n ≤ 128 ∧ 0 < n ∧ n + 1 = n1 by omega)
  have HBW := Lib.hid (bestW_bd hs)
  have HST := Lib.hid (fun W => ways_start n (bestW ws l) W (by rw [← hn]; exact bestW_last ws l))
  have HTP := Lib.hid (fun i (hi : i < ws.length) => bestW_at (l := l) hi)
  have HTL := Lib.hid (fun i m (hi : i + (m + 1) ≤ ws.length) => bestW_tl (l := l) hi)
  have HCB := Lib.hid (show ∀ j k, j < ws.length → cstV ws l j k ≤ 13312 from fun j k hj => by
    by_cases h : 0 ≤ cstV ws l j k
    · rw [(cstV_ok h).2]
      have h5 := bkW_len k (bndL ws l j)
      have h6 := bndL_le ws l j
      have h7 := (okV_at hok j hj).2.2
      omega
    · omega)
  have HTO := Lib.hid (fun i (hi : i < ws.length) => show ∃ t, topW ws.length (cstV ws l) gamN i (waysW ws.length (cstV ws l) gamN (ws.length - (i + 1))) 8 = some t ∧ bestW ws l i = t from by
    obtain ⟨t, ht, _⟩ := topW_opt (n := ws.length) (cst := cstV ws l) (gam := gamN) (i := i) (R := bestW ws l) (tl := waysW ws.length (cstV ws l) gamN (ws.length - (i + 1))) gamN_sub (fun m hm => bestW_tl hm) hi (fun j h1 h2 => bestW_opt hs j h2) ((fairV hs).fit i hi)
    exact ⟨t, ht, by rw [bestW_at hi, ht]; rfl⟩)
  rw [hn] at HCK HRW hlr HBW HRR HTP HTL HCB HTO ⊢
  generalize bestW ws l = R at *
  generalize cstV ws l = cst at *
  have H0N : 0 < n := by omega
  clear hS hT hG hGT hs hok h128 hsum hq hn hn1 hn0
  go_enter Tryd.func30, Tryd.ntmps30
  go_wp2_with (first
    | (go_at_call 44; refine HCK.out.mono ?_; rintro e w2 ⟨rfl, b2⟩; have HB2 := Lib.hid b2)
    | (go_at_call 50; refine (HRW.out _ HB2.out).mono ?_; rintro e w3 ⟨v8, rfl, hO8, b3⟩; obtain ⟨g8, c8, hv8, hg8, hg8l⟩ := hO8.formX (by omega); rw [hlr] at hv8; subst hv8))
  obtain ⟨A8', c8', hv8, h8⟩ := hO8.rd
  rw [hlr] at hv8
  injection hv8 with e1 e2 e3
  subst e1 e3
  obtain ⟨g9, hg9⟩ : ∃ g9, w3.heap.size = g9 := ⟨_, rfl⟩
  have hb4 := below_alloc (Below.refl w3.heap.size w3) (.cells (madeCells #[.int .i64 0, .slice none 0 0, .slice none 0 0] (n1 * 3)) 101)
  have hI0 := HST.out w3
  rw [HN.out.2.2] at hI0
  obtain ⟨W4, hW4⟩ : ∃ W4, w3.alloc (.cells (madeCells #[.int .i64 0, .slice none 0 0, .slice none 0 0] (n1 * 3)) 101) = W4 := ⟨_, rfl⟩
  have hz4 : W4.heap.size = g9 + 1 := by rw [← hW4, World.size_alloc, hg9]
  rw [hW4] at hb4 hI0
  rw [hg9] at hI0
  have HR8 := Lib.hid (show Sl kRow (fun x => x < g9) W4 (some ⟨g8, 0, none⟩) c8 rows from (h8.weak (ok' := fun x => x < g9) fun x hx _ => by omega).below hb4)
  have HI0 := Lib.hid hI0
  have HLOW := Lib.hid (show Below w.heap.size w W4 from below2 (below2 HB2.out b3) hb4)
  have HZ := Lib.hid (show w.heap.size ≤ g9 ∧ W4.heap.size = g9 + 1 from ⟨by have := HB2.out.size; have := b3.size; omega, hz4⟩)
  have HCL := Lib.hid (fun j k (hj : j < n) (hk : k < 8) W (hu : Upd (fun x => x = g9) W4 W) => HRR.out g8 c8 W _ (HR8.out.keep (hu.keep (ok := fun x => x < g9) fun x h e => by omega)) j k hj hk)
  clear hO8 h8 hb4 hI0 hz4 b3 hg8 hg8l e2 HR8 HRR HST
  try simp only [hW4, hg9]
  clear hW4 hg9 HRW HCK
  go_loopw [10] (fun iv wr => ∃ q : Nat, q ≤ n ∧ iv = .int .i64 ((n : Int) - 1 - (q : Int)) ∧ Hid (WaysI n R g9 (n - q) wr) ∧ Hid (Upd (fun x => x = g9) W4 wr)) (fun iv _ => (intOf iv + 1).toNat)
  case atStart => exact ⟨0, Nat.zero_le _, by simp, HI0, Lib.hid (Upd.refl _ _)⟩
  case round =>
    clear HI0
    obtain ⟨q, hq, rfl, HI, HU⟩ := hrel
    by_cases hlt : q < n
    · obtain ⟨i, hi⟩ : ∃ i : Nat, n - 1 - q = i := ⟨_, rfl⟩
      have hii : (n : Int) - 1 - (q : Int) = (i : Int) := by omega
      have hnq : n - q = i + 1 := by omega
      have hin : i < n := by omega
      have hqi : q + 1 + i = n := by omega
      rw [hii]
      rw [hnq] at HI
      have HQI := Lib.hid hqi
      have HIN := Lib.hid hin
      have hwd : IntKind.i64.wrap ((i : Int) - 1) = (i : Int) - 1 := IntWalk.i64_in _ (by have := HN.out; omega)
      have hge : decide ((0 : Int) ≤ (i : Int)) = true := decide_eq_true (by omega)
      clear hi hii hnq hqi
      obtain ⟨tl, htl⟩ : ∃ tl, waysW n cst gamN (n - (i + 1)) = tl := ⟨_, rfl⟩
      have HTLi := Lib.hid (show ∀ m, i + (m + 1) ≤ n → tl.getD m default = R (i + (m + 1)) from fun m h => by rw [← htl]; exact HTL.out i m h)
      have HTOi := Lib.hid (show ∃ t, topW n cst gamN i tl 8 = some t ∧ R i = t from by rw [← htl]; exact HTO.out i hin)
      clear htl hin
      obtain ⟨wo, hwo⟩ : ∃ wo, wr = wo := ⟨_, rfl⟩
      rw [hwo] at HI HU ⊢
      clear hwo
      go_wp2
      go_loopw [11, 39] (fun tv kv wx => ∃ k : Nat, k ≤ 8 ∧ kv = .int .i64 (k : Int) ∧ Hid (TopAt g9 wx tv (topW n cst gamN i tl k)) ∧ Hid (Below wo.heap.size wo wx)) (fun _ kv _ => 8 - (intOf kv).toNat)
      case atStart => exact ⟨0, Nat.zero_le _, rfl, Lib.hid rfl, Lib.hid (Below.refl _ _)⟩
      case round =>
        obtain ⟨k, hk, rfl, HT, HB⟩ := hrel
        by_cases hk8 : k < 8
        · have hk1 : IntKind.i64.wrap ((k : Int) + 1) = ((k + 1 : Nat) : Int) := by rw [IntWalk.i64_in _ (by omega)]; omega
          have hkd : decide ((k : Int) < 8) = true := decide_eq_true (by omega)
          have hki : (k : Int) < 8 := by omega
          have hk0 : (0 : Int) ≤ (k : Int) := by omega
          obtain ⟨rc, hrc⟩ : ∃ rc, runC cst (k : Int) (n - i) i = rc := ⟨_, rfl⟩
          have HTK := Lib.hid (show topW n cst gamN i tl (k + 1) = innW cst gamN (k : Int) i tl (topW n cst gamN i tl k) rc by rw [← hrc]; rfl)
          have HRC := Lib.hid (show i + rc ≤ n by have := runC_le cst (k : Int) (n - i) i; have := HIN.out; omega)
          have HRK := Lib.hid (show ∀ m, m < rc → 0 ≤ cst (i + m) (k : Int) from fun m h => runC_ok cst (k : Int) (n - i) i m (by omega))
          have HRS := Lib.hid (show i + rc = n ∨ cst (i + rc) (k : Int) < 0 from by
            rcases Nat.lt_or_ge rc (n - i) with h | h
            · have h2 := runC_stop cst (k : Int) (n - i) i (by omega)
              rw [hrc] at h2; exact .inr h2
            · have := runC_le cst (k : Int) (n - i) i
              have := HIN.out
              exact .inl (by omega))
          obtain ⟨top0, ht0⟩ : ∃ top0, topW n cst gamN i tl k = top0 := ⟨_, rfl⟩
          rw [ht0] at HT HTK
          have HK8 := Lib.hid hk8
          clear hrc ht0 hk8 hk
          obtain ⟨wp, hwp⟩ : ∃ wp, wr = wp := ⟨_, rfl⟩
          rw [hwp] at HT HB ⊢
          clear hwp
          go_wp2
          go_loopw [11, 13, 14] (fun tv sv jv wx => ∃ m : Nat, m ≤ rc ∧ sv = .int .i64 (sumK cst i (k : Int) m) ∧ jv = .int .i64 ((i + m : Nat) : Int) ∧ Hid (TopAt g9 wx tv (innW cst gamN (k : Int) i tl top0 m)) ∧ Hid (Below wo.heap.size wo wx)) (fun _ _ jv _ => n + 1 - (intOf jv).toNat)
          case atStart => exact ⟨0, Nat.zero_le _, rfl, rfl, HT, HB⟩
          case round =>
            clear HT HB
            obtain ⟨m, hm, rfl, rfl, HT, HB⟩ := hrel
            have HUX := Lib.hid (show Upd (fun x => x = g9) W4 wr from HU.out.trans (Upd.of_below HB.out (fun _ => False)) fun _ _ h => h.elim)
            obtain ⟨j, hj⟩ : ∃ j, i + m = j := ⟨_, rfl⟩
            have HJ := Lib.hid hj
            by_cases hmr : m < rc
            · have hjn : j < n := by have := HRC.out; omega
              have hji : (j : Int) < (n : Int) := by omega
              have hjd : decide ((j : Int) < (n : Int)) = true := decide_eq_true hji
              have hj0 : (0 : Int) ≤ (j : Int) := by omega
              have kc := HCL.out j k hjn HK8.out wr HUX.out
              have hC0 := HRK.out m hmr
              rw [hj] at hC0 ⊢
              have hCb := HCB.out j (k : Int) hjn
              have hSb : ∀ m', m' ≤ rc → 0 ≤ sumK cst i (k : Int) m' ∧ sumK cst i (k : Int) m' ≤ 13312 * (m' : Int) := by
                intro m'
                induction m' with
                | zero => intro _; simp [sumK]
                | succ m' ih =>
                  intro h9
                  have h1 := ih (by omega)
                  have h2 := HRK.out m' (by omega)
                  have h3 := HCB.out (i + m') (k : Int) (by have := HRC.out; omega)
                  simp only [sumK]; omega
              have hS1 := hSb (m + 1) (by omega)
              have HSK := Lib.hid (show sumK cst i (k : Int) (m + 1) = sumK cst i (k : Int) m + cst j (k : Int) by rw [← hj]; rfl)
              have HIW := Lib.hid (show innW cst gamN (k : Int) i tl top0 (m + 1) = stpWay gamN (k : Int) (m + 1) (sumK cst i (k : Int) (m + 1)) (R (j + 1)) (innW cst gamN (k : Int) i tl top0 m) by
                show stpWay gamN (k : Int) (m + 1) _ (tl.getD m default) _ = _
                rw [HTLi.out m (by omega), ← hj, Nat.add_assoc])
              have hRB := HBW.out (j + 1) (by omega)
              obtain ⟨A1, a1, B1, bq, y0, y1, y2, s1, s2⟩ := (HI.out.below HB.out).at_ (j + 1) (by omega) (by omega)
              have HMI := Lib.hid (show innW cst gamN (k : Int) i tl top0 m = innW cst gamN (k : Int) i tl top0 m from rfl)
              obtain ⟨top2, hI2⟩ : ∃ top2, innW cst gamN (k : Int) i tl top0 (m + 1) = top2 := ⟨_, rfl⟩
              rw [hI2] at HIW
              have HI2 := Lib.hid hI2
              clear hI2
              obtain ⟨top1, ht1⟩ : ∃ top1, innW cst gamN (k : Int) i tl top0 m = top1 := ⟨_, rfl⟩
              rw [ht1] at HT HIW
              obtain ⟨S, hS⟩ : ∃ S, sumK cst i (k : Int) m = S := ⟨_, rfl⟩
              obtain ⟨S2, hS2⟩ : ∃ S2, sumK cst i (k : Int) (m + 1) = S2 := ⟨_, rfl⟩
              obtain ⟨C, hC⟩ : ∃ C, cst j (k : Int) = C := ⟨_, rfl⟩
              rw [hS2] at HIW hS1
              rw [hS2, hS, hC] at HSK
              rw [hC] at kc hC0 hCb
              rw [hS]
              have HS2 := Lib.hid hS2
              have hSS := HSK.out
              have hws : IntKind.i64.wrap (S + C) = S2 := by rw [← hSS]; exact IntWalk.i64_in _ (by have := HN.out; have := HRC.out; omega)
              have hcd : decide ((0 : Int) ≤ C) = true := decide_eq_true hC0
              obtain ⟨j1, hj1⟩ : ∃ j1, j + 1 = j1 := ⟨_, rfl⟩
              have hwj : IntKind.i64.wrap ((j : Int) + 1) = (j1 : Int) := by rw [IntWalk.i64_in _ (by have := HN.out; omega)]; omega
              have hj1i : (j1 : Int) < (n1 : Int) := by have := HN.out; omega
              have hj10 : (0 : Int) ≤ (j1 : Int) := by omega
              rw [hj1] at HIW hRB y0 y1 y2 s1 s2
              generalize R j1 = Rj at *
              have HJ1 := Lib.hid hj1
              have HRB := Lib.hid hRB
              have HSB := Lib.hid (And.intro hS1 (show S2 ≤ 13312 * 129 by have := HN.out; have := HRC.out; omega))
              have HSL := Lib.hid (And.intro s1 s2)
              have HMR := Lib.hid hmr
              clear hRB hS1 hSb hSS hS2 hS hC ht1 s1 s2 hC0 hCb hjn hj hj1 hm hmr HMI
              go_wp2
              obtain ⟨g15, hg15⟩ : ∃ g15, wr.heap.size = g15 := ⟨_, rfl⟩
              have hb15 := below_alloc (Below.refl wr.heap.size wr) (.cells (wayC A1 a1 B1 bq Rj) 101)
              have B15 : Blk (wr.alloc (.cells (wayC A1 a1 B1 bq Rj) 101)) g15 (wayC A1 a1 B1 bq Rj) 101 := by rw [← hg15]; exact heap_alloc_new wr _
              obtain ⟨W15, hW15⟩ : ∃ W15, wr.alloc (.cells #[.int .i64 Rj.cost, .slice A1 Rj.secs.length a1, .slice B1 Rj.books.length bq] 101) = W15 := ⟨_, rfl⟩
              unfold wayC at hb15 B15
              rw [hW15] at hb15 B15
              have HB15 := Lib.hid B15
              have HSL15 := Lib.hid (show Sl kSe (fun x => g9 < x) W15 A1 a1 Rj.secs ∧ Sl (kInt .i64) (fun x => g9 < x) W15 B1 bq Rj.books from ⟨HSL.out.1.below hb15, HSL.out.2.below hb15⟩)
              have HT15 := Lib.hid (HT.out.below hb15)
              have HBW15 := Lib.hid (below2 HB.out hb15)
              try simp only [hW15, hg15]
              clear hW15 hg15 hb15 B15 HSL HT kc y0 y1 y2
              have hjm : IntKind.i64.wrap ((j : Int) - (i : Int)) = (m : Int) := by rw [IntWalk.i64_in _ (by have := HN.out; have := HJ.out; have := HRC.out; have := HMR.out; omega)]; have := HJ.out; omega
              have hm1 : IntKind.i64.wrap ((m : Int) + 1) = ((m + 1 : Nat) : Int) := by rw [IntWalk.i64_in _ (by have := HN.out; have := HRC.out; have := HMR.out; omega)]; omega
              have hgm := gamN_le (m + 1) (by have := HN.out; have := HRC.out; have := HMR.out; omega)
              have hRc := HRB.out
              have hSS := HSB.out
              obtain ⟨G, hG⟩ : ∃ G, gamN (m + 1) = G := ⟨_, rfl⟩
              have HGM := Lib.hid (fun W => gamma18_any (m + 1) W (by have := HN.out; have := HRC.out; have := HMR.out; omega))
              rw [hG] at HGM hgm
              have hw3 : IntKind.i64.wrap (3 + (G : Int)) = 3 + (G : Int) := IntWalk.i64_in _ (by omega)
              have hw4 : IntKind.i64.wrap (3 + (G : Int) + S2) = 3 + (G : Int) + S2 := IntWalk.i64_in _ (by omega)
              obtain ⟨T, hT⟩ : ∃ T, 3 + (G : Int) + S2 + Rj.cost = T := ⟨_, rfl⟩
              have hw5 : IntKind.i64.wrap (3 + (G : Int) + S2 + Rj.cost) = T := by rw [← hT]; exact IntWalk.i64_in _ (by omega)
              have HTE := Lib.hid (show 3 + (gamN (m + 1) : Int) + S2 + Rj.cost = T by rw [hG]; exact hT)
              have hd := (Below.refl W15.heap.size W15).drew
              have HF := Lib.hid (show ∀ W' : World, Below W15.heap.size W15 W' → W'.cell? ⟨g15, 0, none⟩ = some (.int .i64 Rj.cost) from fun W' hb => (HB15.out.below hb).cell 0 rfl)
              clear hG hT hgm hRc hSS
              refine wp_region_G 11 (fun W' => W'.cell? ⟨g15, 0, none⟩ = some (.int .i64 Rj.cost)) (by kernel_rfl) (HF.out _ hd) (fun hHeld => ?_)
              refine wpAnyG_takeL (i := 0) (.int .i64 (j : Int)) [11] rfl (by kernel_rfl) (fun _ _ _ h => h) hHeld (by rfl) ?_ ?_
              · (intro W' hSw; (try dsimp only at hSw); go_simp)
              try simp only [Act.put, List.setIfInBounds_toArray, List.set_cons_zero, List.set_cons_succ]
              refine wpAnyG_takeL (i := 1) (.int .i64 (i : Int)) [11] rfl (by kernel_rfl) (fun _ _ _ h => h) hHeld (by rfl) ?_ ?_
              · (intro W' hSw; (try dsimp only at hSw); go_simp)
              try simp only [Act.put, List.setIfInBounds_toArray, List.set_cons_zero, List.set_cons_succ]
              refine wpAnyG_takeL (i := 2) (.int .i64 (m : Int)) [11] rfl (by kernel_rfl) (fun _ _ _ h => h) hHeld (by rfl) ?_ ?_
              · (intro W' hSw; (try dsimp only at hSw); go_simp)
              try simp only [Act.put, List.setIfInBounds_toArray, List.set_cons_zero, List.set_cons_succ]
              refine wpAnyG_takeL (i := 3) (.int .i64 ((m + 1 : Nat) : Int)) [11] rfl (by kernel_rfl) (fun _ _ _ h => h) hHeld (by rfl) ?_ ?_
              · (intro W' hSw; (try dsimp only at hSw); go_simp)
              try simp only [Act.put, List.setIfInBounds_toArray, List.set_cons_zero, List.set_cons_succ]
              refine wpAnyG_takeL (i := 6) (.int .i64 S2) [11] rfl (by kernel_rfl) (fun _ _ _ h => h) hHeld (by rfl) ?_ ?_
              · (intro W' hSw; (try dsimp only at hSw); go_simp)
              try simp only [Act.put, List.setIfInBounds_toArray, List.set_cons_zero, List.set_cons_succ]
              refine wpAnyG_takeL (i := 8) (.pointer (some ⟨g15, 0, none⟩)) [11] rfl (by kernel_rfl) (fun _ _ _ h => h) hHeld (by rfl) ?_ ?_
              · (intro W' hSw; (try dsimp only at hSw); go_simp)
              try simp only [Act.put, List.setIfInBounds_toArray, List.set_cons_zero, List.set_cons_succ]
              refine wpAnyG_takeL (i := 9) (.int .i64 Rj.cost) [11] rfl (by kernel_rfl) (fun _ _ _ h => h) hHeld (by rfl) ?_ ?_
              · (intro W' hSw; (try dsimp only at hSw); go_simp)
              try simp only [Act.put, List.setIfInBounds_toArray, List.set_cons_zero, List.set_cons_succ]
              clear hHeld
              refine wpAnyG_oneL (i := 4) (by kernel_rfl) rfl (fun K hK => ?_)
              (go_simp; go_at_call 51; refine (HGM.out _).mono ?_; rintro e W9 ⟨rfl, rfl⟩)
              refine hK.out _ _ (fun _ => (HF.out _ hd)) ?_
              clear hK K
              try simp only [Act.put, List.setIfInBounds_toArray, List.set_cons_zero, List.set_cons_succ]
              have hHeld := HF.out _ hd
              refine wpAnyG_takeL (i := 5) (.int .i64 (3 + (G : Int))) [11] rfl (by kernel_rfl) (fun _ _ _ h => h) hHeld (by rfl) ?_ ?_
              · (intro W' hSw; (try dsimp only at hSw); go_simp)
              try simp only [Act.put, List.setIfInBounds_toArray, List.set_cons_zero, List.set_cons_succ]
              refine wpAnyG_takeL (i := 7) (.int .i64 (3 + (G : Int) + S2)) [11] rfl (by kernel_rfl) (fun _ _ _ h => h) hHeld (by rfl) ?_ ?_
              · (intro W' hSw; (try dsimp only at hSw); go_simp)
              try simp only [Act.put, List.setIfInBounds_toArray, List.set_cons_zero, List.set_cons_succ]
              refine wpAnyG_takeL (i := 10) (.int .i64 T) [11] rfl (by kernel_rfl) (fun _ _ _ h => h) hHeld (by rfl) ?_ ?_
              · (intro W' hSw; (try dsimp only at hSw); go_simp)
              try simp only [Act.put, List.setIfInBounds_toArray, List.set_cons_zero, List.set_cons_succ]
              clear hHeld
              refine wpAnyG_oneL (i := 11) (by kernel_rfl) rfl (fun K hK => ?_)
              (go_simp)
              refine hK.out _ _ (fun h => Bool.noConfusion (show true = false from h)) ?_
              clear hK K
              refine wpAnyG_done (by kernel_rfl) ?_ _
              have HD19 := Lib.hid hd
              obtain ⟨W19, hW19⟩ : ∃ W19, W15.drew = W19 := ⟨_, rfl⟩
              rw [hW19] at HD19 ⊢
              have HB19 := Lib.hid (HB15.out.below HD19.out)
              have HT19 := Lib.hid (HT15.out.below HD19.out)
              have HSL19 := Lib.hid (show Sl kSe (fun x => g9 < x) W19 A1 a1 Rj.secs ∧ Sl (kInt .i64) (fun x => g9 < x) W19 B1 bq Rj.books from ⟨HSL15.out.1.below HD19.out, HSL15.out.2.below HD19.out⟩)
              have HBW19 := Lib.hid (below2 HBW15.out HD19.out)
              clear HB15 HT15 HSL15 HBW15 HD19 hW19 hd HF HGM hw3 hw4 hw5
              obtain ⟨Cc, hCc⟩ : ∃ Cc : Bool, (overB top1 T || decide (Rj.books.head? = some (k : Int))) = Cc := ⟨_, rfl⟩
              have HCc := Lib.hid hCc
              have z0 := HB19.out.cell 0 rfl
              have z1 := HB19.out.cell 1 rfl
              have z2 := HB19.out.cell 2 rfl
              go_upto_region 20 with fail
              go_cut [105] (fun s105 wx => s105 = .bool Cc ∧ W19 = wx)
              case first =>
                obtain ⟨lb, hlb⟩ : ∃ lb, Rj.books.length = lb := ⟨_, rfl⟩
                rw [hlb] at z2
                obtain ⟨Y, hY⟩ : ∃ Y : Bool, decide (Rj.books.head? = some (k : Int)) = Y := ⟨_, rfl⟩
                rw [hY] at hCc
                have hbk : (lb = 0 ∧ Y = false) ∨ (0 < lb ∧ ∃ (ad : Addr) (b0 : Int), B1 = some ad ∧ W19.cell? ad = some (.int .i64 b0) ∧ (b0 == (k : Int)) = Y) := by
                  cases hb : Rj.books with
                  | nil => rw [hb] at hlb hY; exact .inl ⟨hlb.symm, by rw [← hY]; rfl⟩
                  | cons b0 bs0 =>
                    have hpos : 0 < Rj.books.length := by rw [hb]; simp
                    obtain ⟨ad, h1, h2⟩ := rd_int HSL19.out.2 0 hpos
                    rw [add_zero, hb] at h2
                    refine .inr ⟨by omega, ad, b0, h1, h2, ?_⟩
                    rw [← hY, hb]
                    by_cases h9 : b0 = (k : Int)
                    · rw [h9]; simp
                    · simp [h9]
                have htp : (top1 = none ∧ u11 = .pointer none) ∨ ∃ (t : Way) (gt : Nat), top1 = some t ∧ u11 = .pointer (some ⟨gt, 0, none⟩) ∧ W19.cell? ⟨gt, 0, none⟩ = some (.int .i64 t.cost) := by
                  cases h9 : top1 with
                  | none => have h8 := HT19.out; rw [h9] at h8; exact .inl ⟨rfl, h8⟩
                  | some t =>
                    have h8 := HT19.out
                    rw [h9] at h8
                    obtain ⟨g, A, a, B, b, h1, h2, _⟩ := h8
                    exact .inr ⟨t, g, rfl, h1, h2.cell 0 rfl⟩
                rcases htp with ⟨htp, rfl⟩ | ⟨t, gt, htp, rfl, hct⟩
                · rw [htp] at hCc
                  have hcf : Y = Cc := hCc
                  subst hcf
                  rcases hbk with ⟨hl0, hYf⟩ | ⟨hl0, ad, b0, rfl, kb, hYb⟩
                  · subst hYf
                    have hld : decide ((0 : Int) < (lb : Int)) = false := decide_eq_false (by omega)
                    have hldn : decide (0 < lb) = false := decide_eq_false (by omega)
                    clear hCc hlb hY
                    go_wp2
                    go_meet
                    exact ⟨rfl, rfl⟩
                  · have hld : decide ((0 : Int) < (lb : Int)) = true := decide_eq_true (by omega)
                    have hldn : decide (0 < lb) = true := decide_eq_true (by omega)
                    have hlbi : (0 : Int) < (lb : Int) := by omega
                    clear hCc hlb hY
                    go_wp2
                    go_meet
                    exact ⟨rfl, rfl⟩
                · rw [htp] at hCc
                  obtain ⟨X, hX⟩ : ∃ X : Bool, decide (t.cost < T) = X := ⟨_, rfl⟩
                  have hcf : (X || Y) = Cc := by rw [← hCc, ← hX]; rfl
                  cases X
                  · have hcf : Y = Cc := by rw [← hcf]; rfl
                    subst hcf
                    rcases hbk with ⟨hl0, hYf⟩ | ⟨hl0, ad, b0, rfl, kb, hYb⟩
                    · subst hYf
                      have hld : decide ((0 : Int) < (lb : Int)) = false := decide_eq_false (by omega)
                      have hldn : decide (0 < lb) = false := decide_eq_false (by omega)
                      clear hCc hlb hY htp
                      go_wp2
                      go_meet
                      exact ⟨rfl, rfl⟩
                    · have hld : decide ((0 : Int) < (lb : Int)) = true := decide_eq_true (by omega)
                      have hldn : decide (0 < lb) = true := decide_eq_true (by omega)
                      have hlbi : (0 : Int) < (lb : Int) := by omega
                      clear hCc hlb hY htp
                      go_wp2
                      go_meet
                      exact ⟨rfl, rfl⟩
                  · have hcf : Cc = true := by rw [← hcf]; rfl
                    subst hcf
                    clear hCc hlb hY htp hbk
                    go_wp2
                    go_meet
                    exact ⟨rfl, rfl⟩
              case rest =>
                obtain ⟨rfl, rfl⟩ := hcut
                cases hcv : Cc
                · rw [hcv] at HCc
                  clear hcv hCc z0 z1 z2
                  obtain ⟨m1, hm1e⟩ : ∃ m1, m + 1 = m1 := ⟨_, rfl⟩
                  rw [hm1e] at hm1 HTE HIW HI2 HS2
                  have HM1 := Lib.hid hm1e
                  clear hm1e
                  obtain ⟨L17, hL17⟩ : ∃ L17, List.replicate m1 (k : Int) = L17 := ⟨_, rfl⟩
                  obtain ⟨L15, hL15⟩ : ∃ L15, L17 ++ Rj.books = L15 := ⟨_, rfl⟩
                  obtain ⟨X, hX⟩ : ∃ X : Way, (⟨T, ((k : Int), (m1 : Int)) :: Rj.secs, L15⟩ : Way) = X := ⟨_, rfl⟩
                  have HXE := Lib.hid (show top1 = none → top2 = some X from fun e => by
                    subst e
                    rw [HIW.out, ← hX, ← hL15, ← hL17]; exact stpWay_none HTE.out HCc.out)
                  have HXS := Lib.hid (show ∀ t, top1 = some t → top2 = if X.less t = true then some X else some t from fun t e => by
                    subst e
                    rw [HIW.out, ← hX, ← hL15, ← hL17]; exact stpWay_some HTE.out HCc.out)
                  have HG9 := Lib.hid (show g9 < W19.heap.size by have := HZ.out.2; have := HU.out.size; have := HBW19.out.size; omega)
                  have HRP := Lib.hid (repeat_any (some ⟨W19.heap.size, 0, none⟩) 1 (k : Int) m1 (W19.alloc (.cells #[.int .i64 (k : Int)] 3)) (lit_ri W19 3 .i64 [(k : Int)] (by simp)) (by have := HM1.out; omega) (by have := HM1.out; have := HN.out; have := HRC.out; have := HMR.out; omega))
                  have HBA := Lib.hid (below_alloc (Below.refl W19.heap.size W19) (.cells #[.int .i64 (k : Int)] 3))
                  rw [hL17] at HRP
                  have HL17 := Lib.hid (show L17.length = m1 by rw [← hL17]; simp)
                  have HXX := Lib.hid hX
                  have HL15 := Lib.hid hL15
                  clear hL17 hX hL15
                  go_upto_region 22 with (go_at_call 39; refine HRP.out.mono ?_; rintro e W20 ⟨v17, rfl, hO17, b20⟩)
                  obtain ⟨A17, c17, rfl, h17⟩ := hO17.rd
                  have HB20 := Lib.hid (below2 HBA.out b20)
                  have HSL20 := Lib.hid (show Sl kSe (fun x => g9 < x) W20 A1 a1 Rj.secs ∧ Sl (kInt .i64) (fun x => g9 < x) W20 B1 bq Rj.books ∧ Sl (kInt .i64) (fun x => g9 < x) W20 A17 c17 L17 from ⟨HSL19.out.1.below HB20.out, HSL19.out.2.below HB20.out, h17.weak fun x _ h => by
                    have h1 := h.1
                    rw [World.size_alloc] at h1
                    have := HG9.out
                    omega⟩)
                  have HG20 := Lib.hid (show g9 < W20.heap.size by have := HG9.out; have := HB20.out.size; omega)
                  have HT20 := Lib.hid (HT19.out.below HB20.out)
                  have HF22 := Lib.hid (show ∀ W' : World, Below W20.heap.size W20 W' → W'.cell? ⟨g15, 1, none⟩ = some (.slice A1 Rj.secs.length a1) ∧ W'.cell? ⟨g15, 2, none⟩ = some (.slice B1 Rj.books.length bq) from fun W' hb => ⟨((HB19.out.below HB20.out).below hb).cell 1 rfl, ((HB19.out.below HB20.out).below hb).cell 2 rfl⟩)
                  have HJN := Lib.hid (show ∀ (W : World) (g : Nat), Below W20.heap.size W20 W → Blk W g #[.slice A17 L17.length c17, .slice B1 Rj.books.length bq] 25 → Calls Tryd.prog 52 #[.slice (some ⟨g, 0, none⟩) 2 2] W fun e w' => ∃ v, e = .returned v ∧ OwnI 3 .i64 W.heap.size w' v L15 ∧ Below W.heap.size W w' from fun W g hb hB => by
                    have h := joined_any (some ⟨g, 0, none⟩) 2 [L17, Rj.books] W (blk_r2 hB ((HSL20.out.2.2.below hb).any) ((HSL20.out.2.1.below hb).any)) (by
                      have h1 := HRB.out.2.2.2
                      have h2 := HL17.out
                      have h3 : sumLen [L17, Rj.books] = L17.length + Rj.books.length := by simp [sumLen]
                      have := HM1.out; have := HN.out; have := HRC.out; have := HMR.out
                      rw [h3]; omega)
                    rw [show [L17, Rj.books].flatten = L15 by rw [← HL15.out]; simp] at h
                    exact h)
                  clear hO17 h17 b20 HRP HBA HB19 HSL19 HT19
                  go_cut [18] (fun s18 wx => ∃ (g18 : Nat) (A18 : Option Addr) (a18 : Nat) (B18 : Option Addr) (b18 : Nat), s18 = .pointer (some ⟨g18, 0, none⟩) ∧ Hid (Blk wx g18 (wayC A18 a18 B18 b18 X) 101) ∧ Hid (Sl kSe (fun x => g9 < x) wx A18 a18 X.secs ∧ Sl (kInt .i64) (fun x => g9 < x) wx B18 b18 X.books) ∧ Hid (Below W20.heap.size W20 wx))
                  case first =>
                    have d0 := (Below.refl W20.heap.size W20).drew
                    have hls := HRB.out.2.2.1
                    refine wp_region_G 18 (fun W' => W'.cell? ⟨g15, 1, none⟩ = some (.slice A1 Rj.secs.length a1) ∧ W'.cell? ⟨g15, 2, none⟩ = some (.slice B1 Rj.books.length bq)) (by kernel_rfl) (HF22.out _ d0) (fun hHeld => ?_)
                    refine wpAnyG_takeL (i := 0) (.int .i64 T) [18] rfl (by kernel_rfl) (fun _ _ _ h => h) hHeld (by rfl) ?_ ?_
                    · (intro W' hSw; (try dsimp only at hSw); go_simp)
                    try simp only [Act.put, List.setIfInBounds_toArray, List.set_cons_zero, List.set_cons_succ]
                    refine wpAnyG_takeL (i := 1) (.int .i64 (k : Int)) [18] rfl (by kernel_rfl) (fun _ _ _ h => h) hHeld (by rfl) ?_ ?_
                    · (intro W' hSw; (try dsimp only at hSw); go_simp)
                    try simp only [Act.put, List.setIfInBounds_toArray, List.set_cons_zero, List.set_cons_succ]
                    refine wpAnyG_takeL (i := 2) (.int .i64 (j : Int)) [18] rfl (by kernel_rfl) (fun _ _ _ h => h) hHeld (by rfl) ?_ ?_
                    · (intro W' hSw; (try dsimp only at hSw); go_simp)
                    try simp only [Act.put, List.setIfInBounds_toArray, List.set_cons_zero, List.set_cons_succ]
                    refine wpAnyG_takeL (i := 3) (.int .i64 (i : Int)) [18] rfl (by kernel_rfl) (fun _ _ _ h => h) hHeld (by rfl) ?_ ?_
                    · (intro W' hSw; (try dsimp only at hSw); go_simp)
                    try simp only [Act.put, List.setIfInBounds_toArray, List.set_cons_zero, List.set_cons_succ]
                    refine wpAnyG_takeL (i := 4) (.int .i64 (m : Int)) [18] rfl (by kernel_rfl) (fun _ _ _ h => h) hHeld (by rfl) ?_ ?_
                    · (intro W' hSw; (try dsimp only at hSw); go_simp)
                    try simp only [Act.put, List.setIfInBounds_toArray, List.set_cons_zero, List.set_cons_succ]
                    refine wpAnyG_takeL (i := 5) (.int .i64 (m1 : Int)) [18] rfl (by kernel_rfl) (fun _ _ _ h => h) hHeld (by rfl) ?_ ?_
                    · (intro W' hSw; (try dsimp only at hSw); go_simp)
                    try simp only [Act.put, List.setIfInBounds_toArray, List.set_cons_zero, List.set_cons_succ]
                    refine wpAnyG_takeL (i := 6) (.agg #[.int .i64 (k : Int), .int .i64 (m1 : Int)]) [18] rfl (by kernel_rfl) (fun _ _ _ h => h) hHeld (by rfl) ?_ ?_
                    · (intro W' hSw; (try dsimp only at hSw); go_simp)
                    try simp only [Act.put, List.setIfInBounds_toArray, List.set_cons_zero, List.set_cons_succ]
                    refine wpAnyG_takeL (i := 8) (.pointer (some ⟨g15, 1, none⟩)) [18] rfl (by kernel_rfl) (fun _ _ _ h => h) hHeld (by rfl) ?_ ?_
                    · (intro W' hSw; (try dsimp only at hSw); go_simp)
                    try simp only [Act.put, List.setIfInBounds_toArray, List.set_cons_zero, List.set_cons_succ]
                    refine wpAnyG_takeL (i := 9) (.slice A1 Rj.secs.length a1) [18] rfl (by kernel_rfl) (fun _ _ _ h => h) hHeld (by rfl) ?_ ?_
                    · (intro W' hSw; (try dsimp only at hSw); go_simp)
                    try simp only [Act.put, List.setIfInBounds_toArray, List.set_cons_zero, List.set_cons_succ]
                    refine wpAnyG_takeL (i := 11) (.slice A17 L17.length c17) [18] rfl (by kernel_rfl) (fun _ _ _ h => h) hHeld (by rfl) ?_ ?_
                    · (intro W' hSw; (try dsimp only at hSw); go_simp)
                    try simp only [Act.put, List.setIfInBounds_toArray, List.set_cons_zero, List.set_cons_succ]
                    refine wpAnyG_takeL (i := 12) (.pointer (some ⟨g15, 2, none⟩)) [18] rfl (by kernel_rfl) (fun _ _ _ h => h) hHeld (by rfl) ?_ ?_
                    · (intro W' hSw; (try dsimp only at hSw); go_simp)
                    try simp only [Act.put, List.setIfInBounds_toArray, List.set_cons_zero, List.set_cons_succ]
                    refine wpAnyG_takeL (i := 13) (.slice B1 Rj.books.length bq) [18] rfl (by kernel_rfl) (fun _ _ _ h => h) hHeld (by rfl) ?_ ?_
                    · (intro W' hSw; (try dsimp only at hSw); go_simp)
                    try simp only [Act.put, List.setIfInBounds_toArray, List.set_cons_zero, List.set_cons_succ]
                    refine wpAnyG_br (rs := [7, 14, 17]) (by kernel_rfl) (by simp) ?_
                    refine AllG.cons (i := 7) rfl (fun K hK => ?_) ?_
                    · skip
                      refine step_mem #[.int .i64 (k : Int), .int .i64 (m1 : Int)] 67 (fun g => .slice (some ⟨g, 0, none⟩) 1 1) rfl ?hr ?_
                      case hr => first | (go_simp; done) | (go_simp; rfl)
                      intro g7 V1 e7 z7 b1 y7
                      have hs1 := Lib.hid b1.size
                      have D1 := below2 d0 b1
                      refine hK.out _ _ (fun _ => (HF22.out _ D1)) ?_
                      clear hK K
                      try simp only [Act.put, List.setIfInBounds_toArray, List.set_cons_zero, List.set_cons_succ]
                      refine wpAnyG_br (rs := [10, 14, 17]) (by kernel_rfl) (by simp) ?_
                      refine AllG.cons (i := 10) rfl (fun K hK => ?_) ?_
                      · skip
                        refine step_append_lit rfl (.tmp 120) (.tmp 122) rfl g7 ((k : Int), (m1 : Int)) Rj.secs A1 a1 rfl rfl y7 (HSL20.out.1.below D1) (by omega) ?_
                        intro A10 a10 V2 y10 b2
                        obtain ⟨lo10, hlo10⟩ : ∃ lo, V1.heap.size = lo := ⟨_, rfl⟩
                        obtain ⟨hi10, hhi10⟩ : ∃ hi, V2.heap.size = hi := ⟨_, rfl⟩
                        replace y10 := y10.weak (ok' := fun x => (x = g7 ∨ lo10 ≤ x) ∧ x < hi10) (fun x hx h => ⟨by rw [← hlo10]; exact h, by rw [← hhi10]; exact hx⟩)
                        have E10 := Lib.hid (And.intro hlo10 hhi10)
                        clear hlo10 hhi10
                        have hs2 := Lib.hid b2.size
                        have D2 := below2 D1 b2
                        replace y7 := y7.below b2
                        refine hK.out _ _ (fun _ => (HF22.out _ D2)) ?_
                        clear hK K
                        try simp only [Act.put, List.setIfInBounds_toArray, List.set_cons_zero, List.set_cons_succ]
                        refine wpAnyG_br (rs := [14, 17]) (by kernel_rfl) (by simp) ?_
                        refine AllG.cons (i := 14) rfl (fun K hK => ?_) ?_
                        · skip
                          refine step_mem #[.slice A17 L17.length c17, .slice B1 Rj.books.length bq] 25 (fun g => .slice (some ⟨g, 0, none⟩) 2 2) rfl ?hr ?_
                          case hr => first | (go_simp; done) | (go_simp; rfl)
                          intro g14 V3 e14 z14 b3 y14
                          clear e14 z14
                          have hs3 := Lib.hid b3.size
                          have D3 := below2 D2 b3
                          replace y7 := y7.below b3
                          replace y10 := y10.below b3
                          refine hK.out _ _ (fun _ => (HF22.out _ D3)) ?_
                          clear hK K
                          try simp only [Act.put, List.setIfInBounds_toArray, List.set_cons_zero, List.set_cons_succ]
                          refine wpAnyG_br (rs := [15, 17]) (by kernel_rfl) (by simp) ?_
                          refine AllG.cons (i := 15) rfl (fun K hK => ?_) ?_
                          · skip
                            (go_simp; go_at_call 52; refine (HJN.out _ g14 D3 y14).mono ?_; rintro e V4 ⟨v15, rfl, hO15, b4⟩)
                            obtain ⟨A15, c15, rfl, y15⟩ := hO15.rd
                            obtain ⟨lo15, hlo15⟩ : ∃ lo, V3.heap.size = lo := ⟨_, rfl⟩
                            obtain ⟨hi15, hhi15⟩ : ∃ hi, V4.heap.size = hi := ⟨_, rfl⟩
                            replace y15 := y15.weak (ok' := fun x => lo15 ≤ x ∧ x < hi15) (fun x hx h => ⟨by rw [← hlo15]; exact h.1, by rw [← hhi15]; exact hx⟩)
                            have E15 := Lib.hid (And.intro hlo15 hhi15)
                            clear hO15 hlo15 hhi15
                            have hs4 := Lib.hid b4.size
                            have D4 := below2 D3 b4
                            replace y7 := y7.below b4
                            replace y10 := y10.below b4
                            replace y14 := y14.below b4
                            refine hK.out _ _ (fun _ => (HF22.out _ D4)) ?_
                            clear hK K
                            try simp only [Act.put, List.setIfInBounds_toArray, List.set_cons_zero, List.set_cons_succ]
                            refine wpAnyG_br (rs := [16, 17]) (by kernel_rfl) (by simp) ?_
                            refine AllG.cons (i := 16) rfl (fun K hK => ?_) ?_
                            · skip
                              (go_simp)
                              obtain ⟨V5, hw5⟩ : ∃ W', V4 = W' := ⟨_, rfl⟩
                              rw [hw5]
                              have b5 : Below V4.heap.size V4 V5 := by rw [← hw5]; exact Below.refl _ _
                              clear hw5
                              have hs5 := Lib.hid b5.size
                              have D5 := below2 D4 b5
                              replace y7 := y7.below b5
                              replace y10 := y10.below b5
                              replace y14 := y14.below b5
                              replace y15 := y15.below b5
                              refine hK.out _ _ (fun _ => (HF22.out _ D5)) ?_
                              clear hK K
                              try simp only [Act.put, List.setIfInBounds_toArray, List.set_cons_zero, List.set_cons_succ]
                              refine wpAnyG_oneL (i := 17) (by kernel_rfl) rfl (fun K hK => ?_)
                              refine step_mem #[.int .i64 0, .slice none 0 0, .slice none 0 0] 101 (fun g => .pointer (some ⟨g, 0, none⟩)) rfl ?hr ?_
                              case hr => first | (go_simp; done) | (go_simp; rfl)
                              intro g17 V6 e17 z17 b6 y17
                              have hs6 := Lib.hid b6.size
                              have D6 := below2 D5 b6
                              replace y7 := y7.below b6
                              replace y10 := y10.below b6
                              replace y14 := y14.below b6
                              replace y15 := y15.below b6
                              refine hK.out _ _ (fun _ => (HF22.out _ D6)) ?_
                              clear hK K
                              try simp only [Act.put, List.setIfInBounds_toArray, List.set_cons_zero, List.set_cons_succ]
                              have N := Lib.hid (show W20.heap.size ≤ g17 ∧ g9 < g7 ∧ g9 < lo10 ∧ g9 < lo15 ∧ (∀ x, (x = g7 ∨ lo10 ≤ x) ∧ x < hi10 → x ≠ g17) ∧ (∀ x, lo15 ≤ x ∧ x < hi15 → x ≠ g17) by have := HG20.out; have := e7.out; have := z7.out; have := e17.out; have := z17.out; have := E10.out; have := E15.out; have hzz : W20.drew.heap.size = W20.heap.size := rfl; have := hs1.out; have := hs2.out; have := hs3.out; have := hs4.out; have := hs5.out; have := hs6.out; refine ⟨by omega, by omega, by omega, by omega, fun x hx => by omega, fun x hx => by omega⟩)
                              refine wpAnyG_oneL (i := 18) (by kernel_rfl) rfl (fun K hK => ?_)
                              refine step_putN #[.int .i64 T, .slice A10 (Rj.secs.length + 1) a10, .slice A15 L15.length c15] rfl 101 (.tmp 18) (.tmp 129) rfl g17 101 _ rfl rfl y17 sizeWay rfl (by simp [Value.oneCell']) ?_
                              intro V9 y17' t1 z1
                              have D9 := D6.grown t1 D6.size (fun r e => by cases e; exact N.out.1)
                              refine hK.out _ _ (fun h => Bool.noConfusion (show true = false from h)) ?_
                              clear hK K
                              refine wpAnyG_done (by kernel_rfl) ?_ _
                              go_wp2_with fail
                              go_meet
                              exact ⟨g17, A10, a10, A15, c15, rfl, Lib.hid (by rw [← HXX.out]; exact y17'), Lib.hid (by rw [← HXX.out]; exact ⟨(y10.keep ((Keep.of_grown1 t1).weak N.out.2.2.2.2.1)).weak fun x _ h => by have := N.out; omega, (y15.keep ((Keep.of_grown1 t1).weak N.out.2.2.2.2.2)).weak fun x _ h => by have := N.out; omega⟩), Lib.hid D9⟩
                            refine AllG.cons (i := 17) rfl (fun K hK => ?_) ?_
                            · skip
                              refine step_mem #[.int .i64 0, .slice none 0 0, .slice none 0 0] 101 (fun g => .pointer (some ⟨g, 0, none⟩)) rfl ?hr ?_
                              case hr => first | (go_simp; done) | (go_simp; rfl)
                              intro g17 V5 e17 z17 b5 y17
                              have hs5 := Lib.hid b5.size
                              have D5 := below2 D4 b5
                              replace y7 := y7.below b5
                              replace y10 := y10.below b5
                              replace y14 := y14.below b5
                              replace y15 := y15.below b5
                              refine hK.out _ _ (fun _ => (HF22.out _ D5)) ?_
                              clear hK K
                              try simp only [Act.put, List.setIfInBounds_toArray, List.set_cons_zero, List.set_cons_succ]
                              refine wpAnyG_oneL (i := 16) (by kernel_rfl) rfl (fun K hK => ?_)
                              (go_simp)
                              obtain ⟨V6, hw6⟩ : ∃ W', V5 = W' := ⟨_, rfl⟩
                              rw [hw6]
                              have b6 : Below V5.heap.size V5 V6 := by rw [← hw6]; exact Below.refl _ _
                              clear hw6
                              have hs6 := Lib.hid b6.size
                              have D6 := below2 D5 b6
                              replace y7 := y7.below b6
                              replace y10 := y10.below b6
                              replace y14 := y14.below b6
                              replace y15 := y15.below b6
                              replace y17 := y17.below b6
                              refine hK.out _ _ (fun _ => (HF22.out _ D6)) ?_
                              clear hK K
                              try simp only [Act.put, List.setIfInBounds_toArray, List.set_cons_zero, List.set_cons_succ]
                              have N := Lib.hid (show W20.heap.size ≤ g17 ∧ g9 < g7 ∧ g9 < lo10 ∧ g9 < lo15 ∧ (∀ x, (x = g7 ∨ lo10 ≤ x) ∧ x < hi10 → x ≠ g17) ∧ (∀ x, lo15 ≤ x ∧ x < hi15 → x ≠ g17) by have := HG20.out; have := e7.out; have := z7.out; have := e17.out; have := z17.out; have := E10.out; have := E15.out; have hzz : W20.drew.heap.size = W20.heap.size := rfl; have := hs1.out; have := hs2.out; have := hs3.out; have := hs4.out; have := hs5.out; have := hs6.out; refine ⟨by omega, by omega, by omega, by omega, fun x hx => by omega, fun x hx => by omega⟩)
                              refine wpAnyG_oneL (i := 18) (by kernel_rfl) rfl (fun K hK => ?_)
                              refine step_putN #[.int .i64 T, .slice A10 (Rj.secs.length + 1) a10, .slice A15 L15.length c15] rfl 101 (.tmp 18) (.tmp 129) rfl g17 101 _ rfl rfl y17 sizeWay rfl (by simp [Value.oneCell']) ?_
                              intro V9 y17' t1 z1
                              have D9 := D6.grown t1 D6.size (fun r e => by cases e; exact N.out.1)
                              refine hK.out _ _ (fun h => Bool.noConfusion (show true = false from h)) ?_
                              clear hK K
                              refine wpAnyG_done (by kernel_rfl) ?_ _
                              go_wp2_with fail
                              go_meet
                              exact ⟨g17, A10, a10, A15, c15, rfl, Lib.hid (by rw [← HXX.out]; exact y17'), Lib.hid (by rw [← HXX.out]; exact ⟨(y10.keep ((Keep.of_grown1 t1).weak N.out.2.2.2.2.1)).weak fun x _ h => by have := N.out; omega, (y15.keep ((Keep.of_grown1 t1).weak N.out.2.2.2.2.2)).weak fun x _ h => by have := N.out; omega⟩), Lib.hid D9⟩
                            exact AllG.nil
                          refine AllG.cons (i := 17) rfl (fun K hK => ?_) ?_
                          · skip
                            refine step_mem #[.int .i64 0, .slice none 0 0, .slice none 0 0] 101 (fun g => .pointer (some ⟨g, 0, none⟩)) rfl ?hr ?_
                            case hr => first | (go_simp; done) | (go_simp; rfl)
                            intro g17 V4 e17 z17 b4 y17
                            have hs4 := Lib.hid b4.size
                            have D4 := below2 D3 b4
                            replace y7 := y7.below b4
                            replace y10 := y10.below b4
                            replace y14 := y14.below b4
                            refine hK.out _ _ (fun _ => (HF22.out _ D4)) ?_
                            clear hK K
                            try simp only [Act.put, List.setIfInBounds_toArray, List.set_cons_zero, List.set_cons_succ]
                            refine wpAnyG_oneL (i := 15) (by kernel_rfl) rfl (fun K hK => ?_)
                            (go_simp; go_at_call 52; refine (HJN.out _ g14 D4 y14).mono ?_; rintro e V5 ⟨v15, rfl, hO15, b5⟩)
                            obtain ⟨A15, c15, rfl, y15⟩ := hO15.rd
                            obtain ⟨lo15, hlo15⟩ : ∃ lo, V4.heap.size = lo := ⟨_, rfl⟩
                            obtain ⟨hi15, hhi15⟩ : ∃ hi, V5.heap.size = hi := ⟨_, rfl⟩
                            replace y15 := y15.weak (ok' := fun x => lo15 ≤ x ∧ x < hi15) (fun x hx h => ⟨by rw [← hlo15]; exact h.1, by rw [← hhi15]; exact hx⟩)
                            have E15 := Lib.hid (And.intro hlo15 hhi15)
                            clear hO15 hlo15 hhi15
                            have hs5 := Lib.hid b5.size
                            have D5 := below2 D4 b5
                            replace y7 := y7.below b5
                            replace y10 := y10.below b5
                            replace y14 := y14.below b5
                            replace y17 := y17.below b5
                            refine hK.out _ _ (fun _ => (HF22.out _ D5)) ?_
                            clear hK K
                            try simp only [Act.put, List.setIfInBounds_toArray, List.set_cons_zero, List.set_cons_succ]
                            refine wpAnyG_oneL (i := 16) (by kernel_rfl) rfl (fun K hK => ?_)
                            (go_simp)
                            obtain ⟨V6, hw6⟩ : ∃ W', V5 = W' := ⟨_, rfl⟩
                            rw [hw6]
                            have b6 : Below V5.heap.size V5 V6 := by rw [← hw6]; exact Below.refl _ _
                            clear hw6
                            have hs6 := Lib.hid b6.size
                            have D6 := below2 D5 b6
                            replace y7 := y7.below b6
                            replace y10 := y10.below b6
                            replace y14 := y14.below b6
                            replace y17 := y17.below b6
                            replace y15 := y15.below b6
                            refine hK.out _ _ (fun _ => (HF22.out _ D6)) ?_
                            clear hK K
                            try simp only [Act.put, List.setIfInBounds_toArray, List.set_cons_zero, List.set_cons_succ]
                            have N := Lib.hid (show W20.heap.size ≤ g17 ∧ g9 < g7 ∧ g9 < lo10 ∧ g9 < lo15 ∧ (∀ x, (x = g7 ∨ lo10 ≤ x) ∧ x < hi10 → x ≠ g17) ∧ (∀ x, lo15 ≤ x ∧ x < hi15 → x ≠ g17) by have := HG20.out; have := e7.out; have := z7.out; have := e17.out; have := z17.out; have := E10.out; have := E15.out; have hzz : W20.drew.heap.size = W20.heap.size := rfl; have := hs1.out; have := hs2.out; have := hs3.out; have := hs4.out; have := hs5.out; have := hs6.out; refine ⟨by omega, by omega, by omega, by omega, fun x hx => by omega, fun x hx => by omega⟩)
                            refine wpAnyG_oneL (i := 18) (by kernel_rfl) rfl (fun K hK => ?_)
                            refine step_putN #[.int .i64 T, .slice A10 (Rj.secs.length + 1) a10, .slice A15 L15.length c15] rfl 101 (.tmp 18) (.tmp 129) rfl g17 101 _ rfl rfl y17 sizeWay rfl (by simp [Value.oneCell']) ?_
                            intro V9 y17' t1 z1
                            have D9 := D6.grown t1 D6.size (fun r e => by cases e; exact N.out.1)
                            refine hK.out _ _ (fun h => Bool.noConfusion (show true = false from h)) ?_
                            clear hK K
                            refine wpAnyG_done (by kernel_rfl) ?_ _
                            go_wp2_with fail
                            go_meet
                            exact ⟨g17, A10, a10, A15, c15, rfl, Lib.hid (by rw [← HXX.out]; exact y17'), Lib.hid (by rw [← HXX.out]; exact ⟨(y10.keep ((Keep.of_grown1 t1).weak N.out.2.2.2.2.1)).weak fun x _ h => by have := N.out; omega, (y15.keep ((Keep.of_grown1 t1).weak N.out.2.2.2.2.2)).weak fun x _ h => by have := N.out; omega⟩), Lib.hid D9⟩
                          exact AllG.nil
                        refine AllG.cons (i := 17) rfl (fun K hK => ?_) ?_
                        · skip
                          refine step_mem #[.int .i64 0, .slice none 0 0, .slice none 0 0] 101 (fun g => .pointer (some ⟨g, 0, none⟩)) rfl ?hr ?_
                          case hr => first | (go_simp; done) | (go_simp; rfl)
                          intro g17 V3 e17 z17 b3 y17
                          have hs3 := Lib.hid b3.size
                          have D3 := below2 D2 b3
                          replace y7 := y7.below b3
                          replace y10 := y10.below b3
                          refine hK.out _ _ (fun _ => (HF22.out _ D3)) ?_
                          clear hK K
                          try simp only [Act.put, List.setIfInBounds_toArray, List.set_cons_zero, List.set_cons_succ]
                          refine wpAnyG_oneL (i := 14) (by kernel_rfl) rfl (fun K hK => ?_)
                          refine step_mem #[.slice A17 L17.length c17, .slice B1 Rj.books.length bq] 25 (fun g => .slice (some ⟨g, 0, none⟩) 2 2) rfl ?hr ?_
                          case hr => first | (go_simp; done) | (go_simp; rfl)
                          intro g14 V4 e14 z14 b4 y14
                          clear e14 z14
                          have hs4 := Lib.hid b4.size
                          have D4 := below2 D3 b4
                          replace y7 := y7.below b4
                          replace y10 := y10.below b4
                          replace y17 := y17.below b4
                          refine hK.out _ _ (fun _ => (HF22.out _ D4)) ?_
                          clear hK K
                          try simp only [Act.put, List.setIfInBounds_toArray, List.set_cons_zero, List.set_cons_succ]
                          refine wpAnyG_oneL (i := 15) (by kernel_rfl) rfl (fun K hK => ?_)
                          (go_simp; go_at_call 52; refine (HJN.out _ g14 D4 y14).mono ?_; rintro e V5 ⟨v15, rfl, hO15, b5⟩)
                          obtain ⟨A15, c15, rfl, y15⟩ := hO15.rd
                          obtain ⟨lo15, hlo15⟩ : ∃ lo, V4.heap.size = lo := ⟨_, rfl⟩
                          obtain ⟨hi15, hhi15⟩ : ∃ hi, V5.heap.size = hi := ⟨_, rfl⟩
                          replace y15 := y15.weak (ok' := fun x => lo15 ≤ x ∧ x < hi15) (fun x hx h => ⟨by rw [← hlo15]; exact h.1, by rw [← hhi15]; exact hx⟩)
                          have E15 := Lib.hid (And.intro hlo15 hhi15)
                          clear hO15 hlo15 hhi15
                          have hs5 := Lib.hid b5.size
                          have D5 := below2 D4 b5
                          replace y7 := y7.below b5
                          replace y10 := y10.below b5
                          replace y17 := y17.below b5
                          replace y14 := y14.below b5
                          refine hK.out _ _ (fun _ => (HF22.out _ D5)) ?_
                          clear hK K
                          try simp only [Act.put, List.setIfInBounds_toArray, List.set_cons_zero, List.set_cons_succ]
                          refine wpAnyG_oneL (i := 16) (by kernel_rfl) rfl (fun K hK => ?_)
                          (go_simp)
                          obtain ⟨V6, hw6⟩ : ∃ W', V5 = W' := ⟨_, rfl⟩
                          rw [hw6]
                          have b6 : Below V5.heap.size V5 V6 := by rw [← hw6]; exact Below.refl _ _
                          clear hw6
                          have hs6 := Lib.hid b6.size
                          have D6 := below2 D5 b6
                          replace y7 := y7.below b6
                          replace y10 := y10.below b6
                          replace y17 := y17.below b6
                          replace y14 := y14.below b6
                          replace y15 := y15.below b6
                          refine hK.out _ _ (fun _ => (HF22.out _ D6)) ?_
                          clear hK K
                          try simp only [Act.put, List.setIfInBounds_toArray, List.set_cons_zero, List.set_cons_succ]
                          have N := Lib.hid (show W20.heap.size ≤ g17 ∧ g9 < g7 ∧ g9 < lo10 ∧ g9 < lo15 ∧ (∀ x, (x = g7 ∨ lo10 ≤ x) ∧ x < hi10 → x ≠ g17) ∧ (∀ x, lo15 ≤ x ∧ x < hi15 → x ≠ g17) by have := HG20.out; have := e7.out; have := z7.out; have := e17.out; have := z17.out; have := E10.out; have := E15.out; have hzz : W20.drew.heap.size = W20.heap.size := rfl; have := hs1.out; have := hs2.out; have := hs3.out; have := hs4.out; have := hs5.out; have := hs6.out; refine ⟨by omega, by omega, by omega, by omega, fun x hx => by omega, fun x hx => by omega⟩)
                          refine wpAnyG_oneL (i := 18) (by kernel_rfl) rfl (fun K hK => ?_)
                          refine step_putN #[.int .i64 T, .slice A10 (Rj.secs.length + 1) a10, .slice A15 L15.length c15] rfl 101 (.tmp 18) (.tmp 129) rfl g17 101 _ rfl rfl y17 sizeWay rfl (by simp [Value.oneCell']) ?_
                          intro V9 y17' t1 z1
                          have D9 := D6.grown t1 D6.size (fun r e => by cases e; exact N.out.1)
                          refine hK.out _ _ (fun h => Bool.noConfusion (show true = false from h)) ?_
                          clear hK K
                          refine wpAnyG_done (by kernel_rfl) ?_ _
                          go_wp2_with fail
                          go_meet
                          exact ⟨g17, A10, a10, A15, c15, rfl, Lib.hid (by rw [← HXX.out]; exact y17'), Lib.hid (by rw [← HXX.out]; exact ⟨(y10.keep ((Keep.of_grown1 t1).weak N.out.2.2.2.2.1)).weak fun x _ h => by have := N.out; omega, (y15.keep ((Keep.of_grown1 t1).weak N.out.2.2.2.2.2)).weak fun x _ h => by have := N.out; omega⟩), Lib.hid D9⟩
                        exact AllG.nil
                      refine AllG.cons (i := 14) rfl (fun K hK => ?_) ?_
                      · skip
                        refine step_mem #[.slice A17 L17.length c17, .slice B1 Rj.books.length bq] 25 (fun g => .slice (some ⟨g, 0, none⟩) 2 2) rfl ?hr ?_
                        case hr => first | (go_simp; done) | (go_simp; rfl)
                        intro g14 V2 e14 z14 b2 y14
                        clear e14 z14
                        have hs2 := Lib.hid b2.size
                        have D2 := below2 D1 b2
                        replace y7 := y7.below b2
                        refine hK.out _ _ (fun _ => (HF22.out _ D2)) ?_
                        clear hK K
                        try simp only [Act.put, List.setIfInBounds_toArray, List.set_cons_zero, List.set_cons_succ]
                        refine wpAnyG_br (rs := [10, 17]) (by kernel_rfl) (by simp) ?_
                        refine AllG.cons (i := 10) rfl (fun K hK => ?_) ?_
                        · skip
                          refine step_append_lit rfl (.tmp 120) (.tmp 122) rfl g7 ((k : Int), (m1 : Int)) Rj.secs A1 a1 rfl rfl y7 (HSL20.out.1.below D2) (by omega) ?_
                          intro A10 a10 V3 y10 b3
                          obtain ⟨lo10, hlo10⟩ : ∃ lo, V2.heap.size = lo := ⟨_, rfl⟩
                          obtain ⟨hi10, hhi10⟩ : ∃ hi, V3.heap.size = hi := ⟨_, rfl⟩
                          replace y10 := y10.weak (ok' := fun x => (x = g7 ∨ lo10 ≤ x) ∧ x < hi10) (fun x hx h => ⟨by rw [← hlo10]; exact h, by rw [← hhi10]; exact hx⟩)
                          have E10 := Lib.hid (And.intro hlo10 hhi10)
                          clear hlo10 hhi10
                          have hs3 := Lib.hid b3.size
                          have D3 := below2 D2 b3
                          replace y7 := y7.below b3
                          replace y14 := y14.below b3
                          refine hK.out _ _ (fun _ => (HF22.out _ D3)) ?_
                          clear hK K
                          try simp only [Act.put, List.setIfInBounds_toArray, List.set_cons_zero, List.set_cons_succ]
                          refine wpAnyG_br (rs := [15, 17]) (by kernel_rfl) (by simp) ?_
                          refine AllG.cons (i := 15) rfl (fun K hK => ?_) ?_
                          · skip
                            (go_simp; go_at_call 52; refine (HJN.out _ g14 D3 y14).mono ?_; rintro e V4 ⟨v15, rfl, hO15, b4⟩)
                            obtain ⟨A15, c15, rfl, y15⟩ := hO15.rd
                            obtain ⟨lo15, hlo15⟩ : ∃ lo, V3.heap.size = lo := ⟨_, rfl⟩
                            obtain ⟨hi15, hhi15⟩ : ∃ hi, V4.heap.size = hi := ⟨_, rfl⟩
                            replace y15 := y15.weak (ok' := fun x => lo15 ≤ x ∧ x < hi15) (fun x hx h => ⟨by rw [← hlo15]; exact h.1, by rw [← hhi15]; exact hx⟩)
                            have E15 := Lib.hid (And.intro hlo15 hhi15)
                            clear hO15 hlo15 hhi15
                            have hs4 := Lib.hid b4.size
                            have D4 := below2 D3 b4
                            replace y7 := y7.below b4
                            replace y14 := y14.below b4
                            replace y10 := y10.below b4
                            refine hK.out _ _ (fun _ => (HF22.out _ D4)) ?_
                            clear hK K
                            try simp only [Act.put, List.setIfInBounds_toArray, List.set_cons_zero, List.set_cons_succ]
                            refine wpAnyG_br (rs := [16, 17]) (by kernel_rfl) (by simp) ?_
                            refine AllG.cons (i := 16) rfl (fun K hK => ?_) ?_
                            · skip
                              (go_simp)
                              obtain ⟨V5, hw5⟩ : ∃ W', V4 = W' := ⟨_, rfl⟩
                              rw [hw5]
                              have b5 : Below V4.heap.size V4 V5 := by rw [← hw5]; exact Below.refl _ _
                              clear hw5
                              have hs5 := Lib.hid b5.size
                              have D5 := below2 D4 b5
                              replace y7 := y7.below b5
                              replace y14 := y14.below b5
                              replace y10 := y10.below b5
                              replace y15 := y15.below b5
                              refine hK.out _ _ (fun _ => (HF22.out _ D5)) ?_
                              clear hK K
                              try simp only [Act.put, List.setIfInBounds_toArray, List.set_cons_zero, List.set_cons_succ]
                              refine wpAnyG_oneL (i := 17) (by kernel_rfl) rfl (fun K hK => ?_)
                              refine step_mem #[.int .i64 0, .slice none 0 0, .slice none 0 0] 101 (fun g => .pointer (some ⟨g, 0, none⟩)) rfl ?hr ?_
                              case hr => first | (go_simp; done) | (go_simp; rfl)
                              intro g17 V6 e17 z17 b6 y17
                              have hs6 := Lib.hid b6.size
                              have D6 := below2 D5 b6
                              replace y7 := y7.below b6
                              replace y14 := y14.below b6
                              replace y10 := y10.below b6
                              replace y15 := y15.below b6
                              refine hK.out _ _ (fun _ => (HF22.out _ D6)) ?_
                              clear hK K
                              try simp only [Act.put, List.setIfInBounds_toArray, List.set_cons_zero, List.set_cons_succ]
                              have N := Lib.hid (show W20.heap.size ≤ g17 ∧ g9 < g7 ∧ g9 < lo10 ∧ g9 < lo15 ∧ (∀ x, (x = g7 ∨ lo10 ≤ x) ∧ x < hi10 → x ≠ g17) ∧ (∀ x, lo15 ≤ x ∧ x < hi15 → x ≠ g17) by have := HG20.out; have := e7.out; have := z7.out; have := e17.out; have := z17.out; have := E10.out; have := E15.out; have hzz : W20.drew.heap.size = W20.heap.size := rfl; have := hs1.out; have := hs2.out; have := hs3.out; have := hs4.out; have := hs5.out; have := hs6.out; refine ⟨by omega, by omega, by omega, by omega, fun x hx => by omega, fun x hx => by omega⟩)
                              refine wpAnyG_oneL (i := 18) (by kernel_rfl) rfl (fun K hK => ?_)
                              refine step_putN #[.int .i64 T, .slice A10 (Rj.secs.length + 1) a10, .slice A15 L15.length c15] rfl 101 (.tmp 18) (.tmp 129) rfl g17 101 _ rfl rfl y17 sizeWay rfl (by simp [Value.oneCell']) ?_
                              intro V9 y17' t1 z1
                              have D9 := D6.grown t1 D6.size (fun r e => by cases e; exact N.out.1)
                              refine hK.out _ _ (fun h => Bool.noConfusion (show true = false from h)) ?_
                              clear hK K
                              refine wpAnyG_done (by kernel_rfl) ?_ _
                              go_wp2_with fail
                              go_meet
                              exact ⟨g17, A10, a10, A15, c15, rfl, Lib.hid (by rw [← HXX.out]; exact y17'), Lib.hid (by rw [← HXX.out]; exact ⟨(y10.keep ((Keep.of_grown1 t1).weak N.out.2.2.2.2.1)).weak fun x _ h => by have := N.out; omega, (y15.keep ((Keep.of_grown1 t1).weak N.out.2.2.2.2.2)).weak fun x _ h => by have := N.out; omega⟩), Lib.hid D9⟩
                            refine AllG.cons (i := 17) rfl (fun K hK => ?_) ?_
                            · skip
                              refine step_mem #[.int .i64 0, .slice none 0 0, .slice none 0 0] 101 (fun g => .pointer (some ⟨g, 0, none⟩)) rfl ?hr ?_
                              case hr => first | (go_simp; done) | (go_simp; rfl)
                              intro g17 V5 e17 z17 b5 y17
                              have hs5 := Lib.hid b5.size
                              have D5 := below2 D4 b5
                              replace y7 := y7.below b5
                              replace y14 := y14.below b5
                              replace y10 := y10.below b5
                              replace y15 := y15.below b5
                              refine hK.out _ _ (fun _ => (HF22.out _ D5)) ?_
                              clear hK K
                              try simp only [Act.put, List.setIfInBounds_toArray, List.set_cons_zero, List.set_cons_succ]
                              refine wpAnyG_oneL (i := 16) (by kernel_rfl) rfl (fun K hK => ?_)
                              (go_simp)
                              obtain ⟨V6, hw6⟩ : ∃ W', V5 = W' := ⟨_, rfl⟩
                              rw [hw6]
                              have b6 : Below V5.heap.size V5 V6 := by rw [← hw6]; exact Below.refl _ _
                              clear hw6
                              have hs6 := Lib.hid b6.size
                              have D6 := below2 D5 b6
                              replace y7 := y7.below b6
                              replace y14 := y14.below b6
                              replace y10 := y10.below b6
                              replace y15 := y15.below b6
                              replace y17 := y17.below b6
                              refine hK.out _ _ (fun _ => (HF22.out _ D6)) ?_
                              clear hK K
                              try simp only [Act.put, List.setIfInBounds_toArray, List.set_cons_zero, List.set_cons_succ]
                              have N := Lib.hid (show W20.heap.size ≤ g17 ∧ g9 < g7 ∧ g9 < lo10 ∧ g9 < lo15 ∧ (∀ x, (x = g7 ∨ lo10 ≤ x) ∧ x < hi10 → x ≠ g17) ∧ (∀ x, lo15 ≤ x ∧ x < hi15 → x ≠ g17) by have := HG20.out; have := e7.out; have := z7.out; have := e17.out; have := z17.out; have := E10.out; have := E15.out; have hzz : W20.drew.heap.size = W20.heap.size := rfl; have := hs1.out; have := hs2.out; have := hs3.out; have := hs4.out; have := hs5.out; have := hs6.out; refine ⟨by omega, by omega, by omega, by omega, fun x hx => by omega, fun x hx => by omega⟩)
                              refine wpAnyG_oneL (i := 18) (by kernel_rfl) rfl (fun K hK => ?_)
                              refine step_putN #[.int .i64 T, .slice A10 (Rj.secs.length + 1) a10, .slice A15 L15.length c15] rfl 101 (.tmp 18) (.tmp 129) rfl g17 101 _ rfl rfl y17 sizeWay rfl (by simp [Value.oneCell']) ?_
                              intro V9 y17' t1 z1
                              have D9 := D6.grown t1 D6.size (fun r e => by cases e; exact N.out.1)
                              refine hK.out _ _ (fun h => Bool.noConfusion (show true = false from h)) ?_
                              clear hK K
                              refine wpAnyG_done (by kernel_rfl) ?_ _
                              go_wp2_with fail
                              go_meet
                              exact ⟨g17, A10, a10, A15, c15, rfl, Lib.hid (by rw [← HXX.out]; exact y17'), Lib.hid (by rw [← HXX.out]; exact ⟨(y10.keep ((Keep.of_grown1 t1).weak N.out.2.2.2.2.1)).weak fun x _ h => by have := N.out; omega, (y15.keep ((Keep.of_grown1 t1).weak N.out.2.2.2.2.2)).weak fun x _ h => by have := N.out; omega⟩), Lib.hid D9⟩
                            exact AllG.nil
                          refine AllG.cons (i := 17) rfl (fun K hK => ?_) ?_
                          · skip
                            refine step_mem #[.int .i64 0, .slice none 0 0, .slice none 0 0] 101 (fun g => .pointer (some ⟨g, 0, none⟩)) rfl ?hr ?_
                            case hr => first | (go_simp; done) | (go_simp; rfl)
                            intro g17 V4 e17 z17 b4 y17
                            have hs4 := Lib.hid b4.size
                            have D4 := below2 D3 b4
                            replace y7 := y7.below b4
                            replace y14 := y14.below b4
                            replace y10 := y10.below b4
                            refine hK.out _ _ (fun _ => (HF22.out _ D4)) ?_
                            clear hK K
                            try simp only [Act.put, List.setIfInBounds_toArray, List.set_cons_zero, List.set_cons_succ]
                            refine wpAnyG_oneL (i := 15) (by kernel_rfl) rfl (fun K hK => ?_)
                            (go_simp; go_at_call 52; refine (HJN.out _ g14 D4 y14).mono ?_; rintro e V5 ⟨v15, rfl, hO15, b5⟩)
                            obtain ⟨A15, c15, rfl, y15⟩ := hO15.rd
                            obtain ⟨lo15, hlo15⟩ : ∃ lo, V4.heap.size = lo := ⟨_, rfl⟩
                            obtain ⟨hi15, hhi15⟩ : ∃ hi, V5.heap.size = hi := ⟨_, rfl⟩
                            replace y15 := y15.weak (ok' := fun x => lo15 ≤ x ∧ x < hi15) (fun x hx h => ⟨by rw [← hlo15]; exact h.1, by rw [← hhi15]; exact hx⟩)
                            have E15 := Lib.hid (And.intro hlo15 hhi15)
                            clear hO15 hlo15 hhi15
                            have hs5 := Lib.hid b5.size
                            have D5 := below2 D4 b5
                            replace y7 := y7.below b5
                            replace y14 := y14.below b5
                            replace y10 := y10.below b5
                            replace y17 := y17.below b5
                            refine hK.out _ _ (fun _ => (HF22.out _ D5)) ?_
                            clear hK K
                            try simp only [Act.put, List.setIfInBounds_toArray, List.set_cons_zero, List.set_cons_succ]
                            refine wpAnyG_oneL (i := 16) (by kernel_rfl) rfl (fun K hK => ?_)
                            (go_simp)
                            obtain ⟨V6, hw6⟩ : ∃ W', V5 = W' := ⟨_, rfl⟩
                            rw [hw6]
                            have b6 : Below V5.heap.size V5 V6 := by rw [← hw6]; exact Below.refl _ _
                            clear hw6
                            have hs6 := Lib.hid b6.size
                            have D6 := below2 D5 b6
                            replace y7 := y7.below b6
                            replace y14 := y14.below b6
                            replace y10 := y10.below b6
                            replace y17 := y17.below b6
                            replace y15 := y15.below b6
                            refine hK.out _ _ (fun _ => (HF22.out _ D6)) ?_
                            clear hK K
                            try simp only [Act.put, List.setIfInBounds_toArray, List.set_cons_zero, List.set_cons_succ]
                            have N := Lib.hid (show W20.heap.size ≤ g17 ∧ g9 < g7 ∧ g9 < lo10 ∧ g9 < lo15 ∧ (∀ x, (x = g7 ∨ lo10 ≤ x) ∧ x < hi10 → x ≠ g17) ∧ (∀ x, lo15 ≤ x ∧ x < hi15 → x ≠ g17) by have := HG20.out; have := e7.out; have := z7.out; have := e17.out; have := z17.out; have := E10.out; have := E15.out; have hzz : W20.drew.heap.size = W20.heap.size := rfl; have := hs1.out; have := hs2.out; have := hs3.out; have := hs4.out; have := hs5.out; have := hs6.out; refine ⟨by omega, by omega, by omega, by omega, fun x hx => by omega, fun x hx => by omega⟩)
                            refine wpAnyG_oneL (i := 18) (by kernel_rfl) rfl (fun K hK => ?_)
                            refine step_putN #[.int .i64 T, .slice A10 (Rj.secs.length + 1) a10, .slice A15 L15.length c15] rfl 101 (.tmp 18) (.tmp 129) rfl g17 101 _ rfl rfl y17 sizeWay rfl (by simp [Value.oneCell']) ?_
                            intro V9 y17' t1 z1
                            have D9 := D6.grown t1 D6.size (fun r e => by cases e; exact N.out.1)
                            refine hK.out _ _ (fun h => Bool.noConfusion (show true = false from h)) ?_
                            clear hK K
                            refine wpAnyG_done (by kernel_rfl) ?_ _
                            go_wp2_with fail
                            go_meet
                            exact ⟨g17, A10, a10, A15, c15, rfl, Lib.hid (by rw [← HXX.out]; exact y17'), Lib.hid (by rw [← HXX.out]; exact ⟨(y10.keep ((Keep.of_grown1 t1).weak N.out.2.2.2.2.1)).weak fun x _ h => by have := N.out; omega, (y15.keep ((Keep.of_grown1 t1).weak N.out.2.2.2.2.2)).weak fun x _ h => by have := N.out; omega⟩), Lib.hid D9⟩
                          exact AllG.nil
                        refine AllG.cons (i := 17) rfl (fun K hK => ?_) ?_
                        · skip
                          refine step_mem #[.int .i64 0, .slice none 0 0, .slice none 0 0] 101 (fun g => .pointer (some ⟨g, 0, none⟩)) rfl ?hr ?_
                          case hr => first | (go_simp; done) | (go_simp; rfl)
                          intro g17 V3 e17 z17 b3 y17
                          have hs3 := Lib.hid b3.size
                          have D3 := below2 D2 b3
                          replace y7 := y7.below b3
                          replace y14 := y14.below b3
                          refine hK.out _ _ (fun _ => (HF22.out _ D3)) ?_
                          clear hK K
                          try simp only [Act.put, List.setIfInBounds_toArray, List.set_cons_zero, List.set_cons_succ]
                          refine wpAnyG_oneL (i := 10) (by kernel_rfl) rfl (fun K hK => ?_)
                          refine step_append_lit rfl (.tmp 120) (.tmp 122) rfl g7 ((k : Int), (m1 : Int)) Rj.secs A1 a1 rfl rfl y7 (HSL20.out.1.below D3) (by omega) ?_
                          intro A10 a10 V4 y10 b4
                          obtain ⟨lo10, hlo10⟩ : ∃ lo, V3.heap.size = lo := ⟨_, rfl⟩
                          obtain ⟨hi10, hhi10⟩ : ∃ hi, V4.heap.size = hi := ⟨_, rfl⟩
                          replace y10 := y10.weak (ok' := fun x => (x = g7 ∨ lo10 ≤ x) ∧ x < hi10) (fun x hx h => ⟨by rw [← hlo10]; exact h, by rw [← hhi10]; exact hx⟩)
                          have E10 := Lib.hid (And.intro hlo10 hhi10)
                          clear hlo10 hhi10
                          have hs4 := Lib.hid b4.size
                          have D4 := below2 D3 b4
                          replace y7 := y7.below b4
                          replace y14 := y14.below b4
                          replace y17 := y17.below b4
                          refine hK.out _ _ (fun _ => (HF22.out _ D4)) ?_
                          clear hK K
                          try simp only [Act.put, List.setIfInBounds_toArray, List.set_cons_zero, List.set_cons_succ]
                          refine wpAnyG_oneL (i := 15) (by kernel_rfl) rfl (fun K hK => ?_)
                          (go_simp; go_at_call 52; refine (HJN.out _ g14 D4 y14).mono ?_; rintro e V5 ⟨v15, rfl, hO15, b5⟩)
                          obtain ⟨A15, c15, rfl, y15⟩ := hO15.rd
                          obtain ⟨lo15, hlo15⟩ : ∃ lo, V4.heap.size = lo := ⟨_, rfl⟩
                          obtain ⟨hi15, hhi15⟩ : ∃ hi, V5.heap.size = hi := ⟨_, rfl⟩
                          replace y15 := y15.weak (ok' := fun x => lo15 ≤ x ∧ x < hi15) (fun x hx h => ⟨by rw [← hlo15]; exact h.1, by rw [← hhi15]; exact hx⟩)
                          have E15 := Lib.hid (And.intro hlo15 hhi15)
                          clear hO15 hlo15 hhi15
                          have hs5 := Lib.hid b5.size
                          have D5 := below2 D4 b5
                          replace y7 := y7.below b5
                          replace y14 := y14.below b5
                          replace y17 := y17.below b5
                          replace y10 := y10.below b5
                          refine hK.out _ _ (fun _ => (HF22.out _ D5)) ?_
                          clear hK K
                          try simp only [Act.put, List.setIfInBounds_toArray, List.set_cons_zero, List.set_cons_succ]
                          refine wpAnyG_oneL (i := 16) (by kernel_rfl) rfl (fun K hK => ?_)
                          (go_simp)
                          obtain ⟨V6, hw6⟩ : ∃ W', V5 = W' := ⟨_, rfl⟩
                          rw [hw6]
                          have b6 : Below V5.heap.size V5 V6 := by rw [← hw6]; exact Below.refl _ _
                          clear hw6
                          have hs6 := Lib.hid b6.size
                          have D6 := below2 D5 b6
                          replace y7 := y7.below b6
                          replace y14 := y14.below b6
                          replace y17 := y17.below b6
                          replace y10 := y10.below b6
                          replace y15 := y15.below b6
                          refine hK.out _ _ (fun _ => (HF22.out _ D6)) ?_
                          clear hK K
                          try simp only [Act.put, List.setIfInBounds_toArray, List.set_cons_zero, List.set_cons_succ]
                          have N := Lib.hid (show W20.heap.size ≤ g17 ∧ g9 < g7 ∧ g9 < lo10 ∧ g9 < lo15 ∧ (∀ x, (x = g7 ∨ lo10 ≤ x) ∧ x < hi10 → x ≠ g17) ∧ (∀ x, lo15 ≤ x ∧ x < hi15 → x ≠ g17) by have := HG20.out; have := e7.out; have := z7.out; have := e17.out; have := z17.out; have := E10.out; have := E15.out; have hzz : W20.drew.heap.size = W20.heap.size := rfl; have := hs1.out; have := hs2.out; have := hs3.out; have := hs4.out; have := hs5.out; have := hs6.out; refine ⟨by omega, by omega, by omega, by omega, fun x hx => by omega, fun x hx => by omega⟩)
                          refine wpAnyG_oneL (i := 18) (by kernel_rfl) rfl (fun K hK => ?_)
                          refine step_putN #[.int .i64 T, .slice A10 (Rj.secs.length + 1) a10, .slice A15 L15.length c15] rfl 101 (.tmp 18) (.tmp 129) rfl g17 101 _ rfl rfl y17 sizeWay rfl (by simp [Value.oneCell']) ?_
                          intro V9 y17' t1 z1
                          have D9 := D6.grown t1 D6.size (fun r e => by cases e; exact N.out.1)
                          refine hK.out _ _ (fun h => Bool.noConfusion (show true = false from h)) ?_
                          clear hK K
                          refine wpAnyG_done (by kernel_rfl) ?_ _
                          go_wp2_with fail
                          go_meet
                          exact ⟨g17, A10, a10, A15, c15, rfl, Lib.hid (by rw [← HXX.out]; exact y17'), Lib.hid (by rw [← HXX.out]; exact ⟨(y10.keep ((Keep.of_grown1 t1).weak N.out.2.2.2.2.1)).weak fun x _ h => by have := N.out; omega, (y15.keep ((Keep.of_grown1 t1).weak N.out.2.2.2.2.2)).weak fun x _ h => by have := N.out; omega⟩), Lib.hid D9⟩
                        exact AllG.nil
                      refine AllG.cons (i := 17) rfl (fun K hK => ?_) ?_
                      · skip
                        refine step_mem #[.int .i64 0, .slice none 0 0, .slice none 0 0] 101 (fun g => .pointer (some ⟨g, 0, none⟩)) rfl ?hr ?_
                        case hr => first | (go_simp; done) | (go_simp; rfl)
                        intro g17 V2 e17 z17 b2 y17
                        have hs2 := Lib.hid b2.size
                        have D2 := below2 D1 b2
                        replace y7 := y7.below b2
                        refine hK.out _ _ (fun _ => (HF22.out _ D2)) ?_
                        clear hK K
                        try simp only [Act.put, List.setIfInBounds_toArray, List.set_cons_zero, List.set_cons_succ]
                        refine wpAnyG_br (rs := [10, 14]) (by kernel_rfl) (by simp) ?_
                        refine AllG.cons (i := 10) rfl (fun K hK => ?_) ?_
                        · skip
                          refine step_append_lit rfl (.tmp 120) (.tmp 122) rfl g7 ((k : Int), (m1 : Int)) Rj.secs A1 a1 rfl rfl y7 (HSL20.out.1.below D2) (by omega) ?_
                          intro A10 a10 V3 y10 b3
                          obtain ⟨lo10, hlo10⟩ : ∃ lo, V2.heap.size = lo := ⟨_, rfl⟩
                          obtain ⟨hi10, hhi10⟩ : ∃ hi, V3.heap.size = hi := ⟨_, rfl⟩
                          replace y10 := y10.weak (ok' := fun x => (x = g7 ∨ lo10 ≤ x) ∧ x < hi10) (fun x hx h => ⟨by rw [← hlo10]; exact h, by rw [← hhi10]; exact hx⟩)
                          have E10 := Lib.hid (And.intro hlo10 hhi10)
                          clear hlo10 hhi10
                          have hs3 := Lib.hid b3.size
                          have D3 := below2 D2 b3
                          replace y7 := y7.below b3
                          replace y17 := y17.below b3
                          refine hK.out _ _ (fun _ => (HF22.out _ D3)) ?_
                          clear hK K
                          try simp only [Act.put, List.setIfInBounds_toArray, List.set_cons_zero, List.set_cons_succ]
                          refine wpAnyG_oneL (i := 14) (by kernel_rfl) rfl (fun K hK => ?_)
                          refine step_mem #[.slice A17 L17.length c17, .slice B1 Rj.books.length bq] 25 (fun g => .slice (some ⟨g, 0, none⟩) 2 2) rfl ?hr ?_
                          case hr => first | (go_simp; done) | (go_simp; rfl)
                          intro g14 V4 e14 z14 b4 y14
                          clear e14 z14
                          have hs4 := Lib.hid b4.size
                          have D4 := below2 D3 b4
                          replace y7 := y7.below b4
                          replace y17 := y17.below b4
                          replace y10 := y10.below b4
                          refine hK.out _ _ (fun _ => (HF22.out _ D4)) ?_
                          clear hK K
                          try simp only [Act.put, List.setIfInBounds_toArray, List.set_cons_zero, List.set_cons_succ]
                          refine wpAnyG_oneL (i := 15) (by kernel_rfl) rfl (fun K hK => ?_)
                          (go_simp; go_at_call 52; refine (HJN.out _ g14 D4 y14).mono ?_; rintro e V5 ⟨v15, rfl, hO15, b5⟩)
                          obtain ⟨A15, c15, rfl, y15⟩ := hO15.rd
                          obtain ⟨lo15, hlo15⟩ : ∃ lo, V4.heap.size = lo := ⟨_, rfl⟩
                          obtain ⟨hi15, hhi15⟩ : ∃ hi, V5.heap.size = hi := ⟨_, rfl⟩
                          replace y15 := y15.weak (ok' := fun x => lo15 ≤ x ∧ x < hi15) (fun x hx h => ⟨by rw [← hlo15]; exact h.1, by rw [← hhi15]; exact hx⟩)
                          have E15 := Lib.hid (And.intro hlo15 hhi15)
                          clear hO15 hlo15 hhi15
                          have hs5 := Lib.hid b5.size
                          have D5 := below2 D4 b5
                          replace y7 := y7.below b5
                          replace y17 := y17.below b5
                          replace y10 := y10.below b5
                          replace y14 := y14.below b5
                          refine hK.out _ _ (fun _ => (HF22.out _ D5)) ?_
                          clear hK K
                          try simp only [Act.put, List.setIfInBounds_toArray, List.set_cons_zero, List.set_cons_succ]
                          refine wpAnyG_oneL (i := 16) (by kernel_rfl) rfl (fun K hK => ?_)
                          (go_simp)
                          obtain ⟨V6, hw6⟩ : ∃ W', V5 = W' := ⟨_, rfl⟩
                          rw [hw6]
                          have b6 : Below V5.heap.size V5 V6 := by rw [← hw6]; exact Below.refl _ _
                          clear hw6
                          have hs6 := Lib.hid b6.size
                          have D6 := below2 D5 b6
                          replace y7 := y7.below b6
                          replace y17 := y17.below b6
                          replace y10 := y10.below b6
                          replace y14 := y14.below b6
                          replace y15 := y15.below b6
                          refine hK.out _ _ (fun _ => (HF22.out _ D6)) ?_
                          clear hK K
                          try simp only [Act.put, List.setIfInBounds_toArray, List.set_cons_zero, List.set_cons_succ]
                          have N := Lib.hid (show W20.heap.size ≤ g17 ∧ g9 < g7 ∧ g9 < lo10 ∧ g9 < lo15 ∧ (∀ x, (x = g7 ∨ lo10 ≤ x) ∧ x < hi10 → x ≠ g17) ∧ (∀ x, lo15 ≤ x ∧ x < hi15 → x ≠ g17) by have := HG20.out; have := e7.out; have := z7.out; have := e17.out; have := z17.out; have := E10.out; have := E15.out; have hzz : W20.drew.heap.size = W20.heap.size := rfl; have := hs1.out; have := hs2.out; have := hs3.out; have := hs4.out; have := hs5.out; have := hs6.out; refine ⟨by omega, by omega, by omega, by omega, fun x hx => by omega, fun x hx => by omega⟩)
                          refine wpAnyG_oneL (i := 18) (by kernel_rfl) rfl (fun K hK => ?_)
                          refine step_putN #[.int .i64 T, .slice A10 (Rj.secs.length + 1) a10, .slice A15 L15.length c15] rfl 101 (.tmp 18) (.tmp 129) rfl g17 101 _ rfl rfl y17 sizeWay rfl (by simp [Value.oneCell']) ?_
                          intro V9 y17' t1 z1
                          have D9 := D6.grown t1 D6.size (fun r e => by cases e; exact N.out.1)
                          refine hK.out _ _ (fun h => Bool.noConfusion (show true = false from h)) ?_
                          clear hK K
                          refine wpAnyG_done (by kernel_rfl) ?_ _
                          go_wp2_with fail
                          go_meet
                          exact ⟨g17, A10, a10, A15, c15, rfl, Lib.hid (by rw [← HXX.out]; exact y17'), Lib.hid (by rw [← HXX.out]; exact ⟨(y10.keep ((Keep.of_grown1 t1).weak N.out.2.2.2.2.1)).weak fun x _ h => by have := N.out; omega, (y15.keep ((Keep.of_grown1 t1).weak N.out.2.2.2.2.2)).weak fun x _ h => by have := N.out; omega⟩), Lib.hid D9⟩
                        refine AllG.cons (i := 14) rfl (fun K hK => ?_) ?_
                        · skip
                          refine step_mem #[.slice A17 L17.length c17, .slice B1 Rj.books.length bq] 25 (fun g => .slice (some ⟨g, 0, none⟩) 2 2) rfl ?hr ?_
                          case hr => first | (go_simp; done) | (go_simp; rfl)
                          intro g14 V3 e14 z14 b3 y14
                          clear e14 z14
                          have hs3 := Lib.hid b3.size
                          have D3 := below2 D2 b3
                          replace y7 := y7.below b3
                          replace y17 := y17.below b3
                          refine hK.out _ _ (fun _ => (HF22.out _ D3)) ?_
                          clear hK K
                          try simp only [Act.put, List.setIfInBounds_toArray, List.set_cons_zero, List.set_cons_succ]
                          refine wpAnyG_oneL (i := 10) (by kernel_rfl) rfl (fun K hK => ?_)
                          refine step_append_lit rfl (.tmp 120) (.tmp 122) rfl g7 ((k : Int), (m1 : Int)) Rj.secs A1 a1 rfl rfl y7 (HSL20.out.1.below D3) (by omega) ?_
                          intro A10 a10 V4 y10 b4
                          obtain ⟨lo10, hlo10⟩ : ∃ lo, V3.heap.size = lo := ⟨_, rfl⟩
                          obtain ⟨hi10, hhi10⟩ : ∃ hi, V4.heap.size = hi := ⟨_, rfl⟩
                          replace y10 := y10.weak (ok' := fun x => (x = g7 ∨ lo10 ≤ x) ∧ x < hi10) (fun x hx h => ⟨by rw [← hlo10]; exact h, by rw [← hhi10]; exact hx⟩)
                          have E10 := Lib.hid (And.intro hlo10 hhi10)
                          clear hlo10 hhi10
                          have hs4 := Lib.hid b4.size
                          have D4 := below2 D3 b4
                          replace y7 := y7.below b4
                          replace y17 := y17.below b4
                          replace y14 := y14.below b4
                          refine hK.out _ _ (fun _ => (HF22.out _ D4)) ?_
                          clear hK K
                          try simp only [Act.put, List.setIfInBounds_toArray, List.set_cons_zero, List.set_cons_succ]
                          refine wpAnyG_oneL (i := 15) (by kernel_rfl) rfl (fun K hK => ?_)
                          (go_simp; go_at_call 52; refine (HJN.out _ g14 D4 y14).mono ?_; rintro e V5 ⟨v15, rfl, hO15, b5⟩)
                          obtain ⟨A15, c15, rfl, y15⟩ := hO15.rd
                          obtain ⟨lo15, hlo15⟩ : ∃ lo, V4.heap.size = lo := ⟨_, rfl⟩
                          obtain ⟨hi15, hhi15⟩ : ∃ hi, V5.heap.size = hi := ⟨_, rfl⟩
                          replace y15 := y15.weak (ok' := fun x => lo15 ≤ x ∧ x < hi15) (fun x hx h => ⟨by rw [← hlo15]; exact h.1, by rw [← hhi15]; exact hx⟩)
                          have E15 := Lib.hid (And.intro hlo15 hhi15)
                          clear hO15 hlo15 hhi15
                          have hs5 := Lib.hid b5.size
                          have D5 := below2 D4 b5
                          replace y7 := y7.below b5
                          replace y17 := y17.below b5
                          replace y14 := y14.below b5
                          replace y10 := y10.below b5
                          refine hK.out _ _ (fun _ => (HF22.out _ D5)) ?_
                          clear hK K
                          try simp only [Act.put, List.setIfInBounds_toArray, List.set_cons_zero, List.set_cons_succ]
                          refine wpAnyG_oneL (i := 16) (by kernel_rfl) rfl (fun K hK => ?_)
                          (go_simp)
                          obtain ⟨V6, hw6⟩ : ∃ W', V5 = W' := ⟨_, rfl⟩
                          rw [hw6]
                          have b6 : Below V5.heap.size V5 V6 := by rw [← hw6]; exact Below.refl _ _
                          clear hw6
                          have hs6 := Lib.hid b6.size
                          have D6 := below2 D5 b6
                          replace y7 := y7.below b6
                          replace y17 := y17.below b6
                          replace y14 := y14.below b6
                          replace y10 := y10.below b6
                          replace y15 := y15.below b6
                          refine hK.out _ _ (fun _ => (HF22.out _ D6)) ?_
                          clear hK K
                          try simp only [Act.put, List.setIfInBounds_toArray, List.set_cons_zero, List.set_cons_succ]
                          have N := Lib.hid (show W20.heap.size ≤ g17 ∧ g9 < g7 ∧ g9 < lo10 ∧ g9 < lo15 ∧ (∀ x, (x = g7 ∨ lo10 ≤ x) ∧ x < hi10 → x ≠ g17) ∧ (∀ x, lo15 ≤ x ∧ x < hi15 → x ≠ g17) by have := HG20.out; have := e7.out; have := z7.out; have := e17.out; have := z17.out; have := E10.out; have := E15.out; have hzz : W20.drew.heap.size = W20.heap.size := rfl; have := hs1.out; have := hs2.out; have := hs3.out; have := hs4.out; have := hs5.out; have := hs6.out; refine ⟨by omega, by omega, by omega, by omega, fun x hx => by omega, fun x hx => by omega⟩)
                          refine wpAnyG_oneL (i := 18) (by kernel_rfl) rfl (fun K hK => ?_)
                          refine step_putN #[.int .i64 T, .slice A10 (Rj.secs.length + 1) a10, .slice A15 L15.length c15] rfl 101 (.tmp 18) (.tmp 129) rfl g17 101 _ rfl rfl y17 sizeWay rfl (by simp [Value.oneCell']) ?_
                          intro V9 y17' t1 z1
                          have D9 := D6.grown t1 D6.size (fun r e => by cases e; exact N.out.1)
                          refine hK.out _ _ (fun h => Bool.noConfusion (show true = false from h)) ?_
                          clear hK K
                          refine wpAnyG_done (by kernel_rfl) ?_ _
                          go_wp2_with fail
                          go_meet
                          exact ⟨g17, A10, a10, A15, c15, rfl, Lib.hid (by rw [← HXX.out]; exact y17'), Lib.hid (by rw [← HXX.out]; exact ⟨(y10.keep ((Keep.of_grown1 t1).weak N.out.2.2.2.2.1)).weak fun x _ h => by have := N.out; omega, (y15.keep ((Keep.of_grown1 t1).weak N.out.2.2.2.2.2)).weak fun x _ h => by have := N.out; omega⟩), Lib.hid D9⟩
                        exact AllG.nil
                      exact AllG.nil
                    refine AllG.cons (i := 14) rfl (fun K hK => ?_) ?_
                    · skip
                      refine step_mem #[.slice A17 L17.length c17, .slice B1 Rj.books.length bq] 25 (fun g => .slice (some ⟨g, 0, none⟩) 2 2) rfl ?hr ?_
                      case hr => first | (go_simp; done) | (go_simp; rfl)
                      intro g14 V1 e14 z14 b1 y14
                      clear e14 z14
                      have hs1 := Lib.hid b1.size
                      have D1 := below2 d0 b1
                      refine hK.out _ _ (fun _ => (HF22.out _ D1)) ?_
                      clear hK K
                      try simp only [Act.put, List.setIfInBounds_toArray, List.set_cons_zero, List.set_cons_succ]
                      refine wpAnyG_br (rs := [7, 17]) (by kernel_rfl) (by simp) ?_
                      refine AllG.cons (i := 7) rfl (fun K hK => ?_) ?_
                      · skip
                        refine step_mem #[.int .i64 (k : Int), .int .i64 (m1 : Int)] 67 (fun g => .slice (some ⟨g, 0, none⟩) 1 1) rfl ?hr ?_
                        case hr => first | (go_simp; done) | (go_simp; rfl)
                        intro g7 V2 e7 z7 b2 y7
                        have hs2 := Lib.hid b2.size
                        have D2 := below2 D1 b2
                        replace y14 := y14.below b2
                        refine hK.out _ _ (fun _ => (HF22.out _ D2)) ?_
                        clear hK K
                        try simp only [Act.put, List.setIfInBounds_toArray, List.set_cons_zero, List.set_cons_succ]
                        refine wpAnyG_br (rs := [10, 17]) (by kernel_rfl) (by simp) ?_
                        refine AllG.cons (i := 10) rfl (fun K hK => ?_) ?_
                        · skip
                          refine step_append_lit rfl (.tmp 120) (.tmp 122) rfl g7 ((k : Int), (m1 : Int)) Rj.secs A1 a1 rfl rfl y7 (HSL20.out.1.below D2) (by omega) ?_
                          intro A10 a10 V3 y10 b3
                          obtain ⟨lo10, hlo10⟩ : ∃ lo, V2.heap.size = lo := ⟨_, rfl⟩
                          obtain ⟨hi10, hhi10⟩ : ∃ hi, V3.heap.size = hi := ⟨_, rfl⟩
                          replace y10 := y10.weak (ok' := fun x => (x = g7 ∨ lo10 ≤ x) ∧ x < hi10) (fun x hx h => ⟨by rw [← hlo10]; exact h, by rw [← hhi10]; exact hx⟩)
                          have E10 := Lib.hid (And.intro hlo10 hhi10)
                          clear hlo10 hhi10
                          have hs3 := Lib.hid b3.size
                          have D3 := below2 D2 b3
                          replace y14 := y14.below b3
                          replace y7 := y7.below b3
                          refine hK.out _ _ (fun _ => (HF22.out _ D3)) ?_
                          clear hK K
                          try simp only [Act.put, List.setIfInBounds_toArray, List.set_cons_zero, List.set_cons_succ]
                          refine wpAnyG_br (rs := [15, 17]) (by kernel_rfl) (by simp) ?_
                          refine AllG.cons (i := 15) rfl (fun K hK => ?_) ?_
                          · skip
                            (go_simp; go_at_call 52; refine (HJN.out _ g14 D3 y14).mono ?_; rintro e V4 ⟨v15, rfl, hO15, b4⟩)
                            obtain ⟨A15, c15, rfl, y15⟩ := hO15.rd
                            obtain ⟨lo15, hlo15⟩ : ∃ lo, V3.heap.size = lo := ⟨_, rfl⟩
                            obtain ⟨hi15, hhi15⟩ : ∃ hi, V4.heap.size = hi := ⟨_, rfl⟩
                            replace y15 := y15.weak (ok' := fun x => lo15 ≤ x ∧ x < hi15) (fun x hx h => ⟨by rw [← hlo15]; exact h.1, by rw [← hhi15]; exact hx⟩)
                            have E15 := Lib.hid (And.intro hlo15 hhi15)
                            clear hO15 hlo15 hhi15
                            have hs4 := Lib.hid b4.size
                            have D4 := below2 D3 b4
                            replace y14 := y14.below b4
                            replace y7 := y7.below b4
                            replace y10 := y10.below b4
                            refine hK.out _ _ (fun _ => (HF22.out _ D4)) ?_
                            clear hK K
                            try simp only [Act.put, List.setIfInBounds_toArray, List.set_cons_zero, List.set_cons_succ]
                            refine wpAnyG_br (rs := [16, 17]) (by kernel_rfl) (by simp) ?_
                            refine AllG.cons (i := 16) rfl (fun K hK => ?_) ?_
                            · skip
                              (go_simp)
                              obtain ⟨V5, hw5⟩ : ∃ W', V4 = W' := ⟨_, rfl⟩
                              rw [hw5]
                              have b5 : Below V4.heap.size V4 V5 := by rw [← hw5]; exact Below.refl _ _
                              clear hw5
                              have hs5 := Lib.hid b5.size
                              have D5 := below2 D4 b5
                              replace y14 := y14.below b5
                              replace y7 := y7.below b5
                              replace y10 := y10.below b5
                              replace y15 := y15.below b5
                              refine hK.out _ _ (fun _ => (HF22.out _ D5)) ?_
                              clear hK K
                              try simp only [Act.put, List.setIfInBounds_toArray, List.set_cons_zero, List.set_cons_succ]
                              refine wpAnyG_oneL (i := 17) (by kernel_rfl) rfl (fun K hK => ?_)
                              refine step_mem #[.int .i64 0, .slice none 0 0, .slice none 0 0] 101 (fun g => .pointer (some ⟨g, 0, none⟩)) rfl ?hr ?_
                              case hr => first | (go_simp; done) | (go_simp; rfl)
                              intro g17 V6 e17 z17 b6 y17
                              have hs6 := Lib.hid b6.size
                              have D6 := below2 D5 b6
                              replace y14 := y14.below b6
                              replace y7 := y7.below b6
                              replace y10 := y10.below b6
                              replace y15 := y15.below b6
                              refine hK.out _ _ (fun _ => (HF22.out _ D6)) ?_
                              clear hK K
                              try simp only [Act.put, List.setIfInBounds_toArray, List.set_cons_zero, List.set_cons_succ]
                              have N := Lib.hid (show W20.heap.size ≤ g17 ∧ g9 < g7 ∧ g9 < lo10 ∧ g9 < lo15 ∧ (∀ x, (x = g7 ∨ lo10 ≤ x) ∧ x < hi10 → x ≠ g17) ∧ (∀ x, lo15 ≤ x ∧ x < hi15 → x ≠ g17) by have := HG20.out; have := e7.out; have := z7.out; have := e17.out; have := z17.out; have := E10.out; have := E15.out; have hzz : W20.drew.heap.size = W20.heap.size := rfl; have := hs1.out; have := hs2.out; have := hs3.out; have := hs4.out; have := hs5.out; have := hs6.out; refine ⟨by omega, by omega, by omega, by omega, fun x hx => by omega, fun x hx => by omega⟩)
                              refine wpAnyG_oneL (i := 18) (by kernel_rfl) rfl (fun K hK => ?_)
                              refine step_putN #[.int .i64 T, .slice A10 (Rj.secs.length + 1) a10, .slice A15 L15.length c15] rfl 101 (.tmp 18) (.tmp 129) rfl g17 101 _ rfl rfl y17 sizeWay rfl (by simp [Value.oneCell']) ?_
                              intro V9 y17' t1 z1
                              have D9 := D6.grown t1 D6.size (fun r e => by cases e; exact N.out.1)
                              refine hK.out _ _ (fun h => Bool.noConfusion (show true = false from h)) ?_
                              clear hK K
                              refine wpAnyG_done (by kernel_rfl) ?_ _
                              go_wp2_with fail
                              go_meet
                              exact ⟨g17, A10, a10, A15, c15, rfl, Lib.hid (by rw [← HXX.out]; exact y17'), Lib.hid (by rw [← HXX.out]; exact ⟨(y10.keep ((Keep.of_grown1 t1).weak N.out.2.2.2.2.1)).weak fun x _ h => by have := N.out; omega, (y15.keep ((Keep.of_grown1 t1).weak N.out.2.2.2.2.2)).weak fun x _ h => by have := N.out; omega⟩), Lib.hid D9⟩
                            refine AllG.cons (i := 17) rfl (fun K hK => ?_) ?_
                            · skip
                              refine step_mem #[.int .i64 0, .slice none 0 0, .slice none 0 0] 101 (fun g => .pointer (some ⟨g, 0, none⟩)) rfl ?hr ?_
                              case hr => first | (go_simp; done) | (go_simp; rfl)
                              intro g17 V5 e17 z17 b5 y17
                              have hs5 := Lib.hid b5.size
                              have D5 := below2 D4 b5
                              replace y14 := y14.below b5
                              replace y7 := y7.below b5
                              replace y10 := y10.below b5
                              replace y15 := y15.below b5
                              refine hK.out _ _ (fun _ => (HF22.out _ D5)) ?_
                              clear hK K
                              try simp only [Act.put, List.setIfInBounds_toArray, List.set_cons_zero, List.set_cons_succ]
                              refine wpAnyG_oneL (i := 16) (by kernel_rfl) rfl (fun K hK => ?_)
                              (go_simp)
                              obtain ⟨V6, hw6⟩ : ∃ W', V5 = W' := ⟨_, rfl⟩
                              rw [hw6]
                              have b6 : Below V5.heap.size V5 V6 := by rw [← hw6]; exact Below.refl _ _
                              clear hw6
                              have hs6 := Lib.hid b6.size
                              have D6 := below2 D5 b6
                              replace y14 := y14.below b6
                              replace y7 := y7.below b6
                              replace y10 := y10.below b6
                              replace y15 := y15.below b6
                              replace y17 := y17.below b6
                              refine hK.out _ _ (fun _ => (HF22.out _ D6)) ?_
                              clear hK K
                              try simp only [Act.put, List.setIfInBounds_toArray, List.set_cons_zero, List.set_cons_succ]
                              have N := Lib.hid (show W20.heap.size ≤ g17 ∧ g9 < g7 ∧ g9 < lo10 ∧ g9 < lo15 ∧ (∀ x, (x = g7 ∨ lo10 ≤ x) ∧ x < hi10 → x ≠ g17) ∧ (∀ x, lo15 ≤ x ∧ x < hi15 → x ≠ g17) by have := HG20.out; have := e7.out; have := z7.out; have := e17.out; have := z17.out; have := E10.out; have := E15.out; have hzz : W20.drew.heap.size = W20.heap.size := rfl; have := hs1.out; have := hs2.out; have := hs3.out; have := hs4.out; have := hs5.out; have := hs6.out; refine ⟨by omega, by omega, by omega, by omega, fun x hx => by omega, fun x hx => by omega⟩)
                              refine wpAnyG_oneL (i := 18) (by kernel_rfl) rfl (fun K hK => ?_)
                              refine step_putN #[.int .i64 T, .slice A10 (Rj.secs.length + 1) a10, .slice A15 L15.length c15] rfl 101 (.tmp 18) (.tmp 129) rfl g17 101 _ rfl rfl y17 sizeWay rfl (by simp [Value.oneCell']) ?_
                              intro V9 y17' t1 z1
                              have D9 := D6.grown t1 D6.size (fun r e => by cases e; exact N.out.1)
                              refine hK.out _ _ (fun h => Bool.noConfusion (show true = false from h)) ?_
                              clear hK K
                              refine wpAnyG_done (by kernel_rfl) ?_ _
                              go_wp2_with fail
                              go_meet
                              exact ⟨g17, A10, a10, A15, c15, rfl, Lib.hid (by rw [← HXX.out]; exact y17'), Lib.hid (by rw [← HXX.out]; exact ⟨(y10.keep ((Keep.of_grown1 t1).weak N.out.2.2.2.2.1)).weak fun x _ h => by have := N.out; omega, (y15.keep ((Keep.of_grown1 t1).weak N.out.2.2.2.2.2)).weak fun x _ h => by have := N.out; omega⟩), Lib.hid D9⟩
                            exact AllG.nil
                          refine AllG.cons (i := 17) rfl (fun K hK => ?_) ?_
                          · skip
                            refine step_mem #[.int .i64 0, .slice none 0 0, .slice none 0 0] 101 (fun g => .pointer (some ⟨g, 0, none⟩)) rfl ?hr ?_
                            case hr => first | (go_simp; done) | (go_simp; rfl)
                            intro g17 V4 e17 z17 b4 y17
                            have hs4 := Lib.hid b4.size
                            have D4 := below2 D3 b4
                            replace y14 := y14.below b4
                            replace y7 := y7.below b4
                            replace y10 := y10.below b4
                            refine hK.out _ _ (fun _ => (HF22.out _ D4)) ?_
                            clear hK K
                            try simp only [Act.put, List.setIfInBounds_toArray, List.set_cons_zero, List.set_cons_succ]
                            refine wpAnyG_oneL (i := 15) (by kernel_rfl) rfl (fun K hK => ?_)
                            (go_simp; go_at_call 52; refine (HJN.out _ g14 D4 y14).mono ?_; rintro e V5 ⟨v15, rfl, hO15, b5⟩)
                            obtain ⟨A15, c15, rfl, y15⟩ := hO15.rd
                            obtain ⟨lo15, hlo15⟩ : ∃ lo, V4.heap.size = lo := ⟨_, rfl⟩
                            obtain ⟨hi15, hhi15⟩ : ∃ hi, V5.heap.size = hi := ⟨_, rfl⟩
                            replace y15 := y15.weak (ok' := fun x => lo15 ≤ x ∧ x < hi15) (fun x hx h => ⟨by rw [← hlo15]; exact h.1, by rw [← hhi15]; exact hx⟩)
                            have E15 := Lib.hid (And.intro hlo15 hhi15)
                            clear hO15 hlo15 hhi15
                            have hs5 := Lib.hid b5.size
                            have D5 := below2 D4 b5
                            replace y14 := y14.below b5
                            replace y7 := y7.below b5
                            replace y10 := y10.below b5
                            replace y17 := y17.below b5
                            refine hK.out _ _ (fun _ => (HF22.out _ D5)) ?_
                            clear hK K
                            try simp only [Act.put, List.setIfInBounds_toArray, List.set_cons_zero, List.set_cons_succ]
                            refine wpAnyG_oneL (i := 16) (by kernel_rfl) rfl (fun K hK => ?_)
                            (go_simp)
                            obtain ⟨V6, hw6⟩ : ∃ W', V5 = W' := ⟨_, rfl⟩
                            rw [hw6]
                            have b6 : Below V5.heap.size V5 V6 := by rw [← hw6]; exact Below.refl _ _
                            clear hw6
                            have hs6 := Lib.hid b6.size
                            have D6 := below2 D5 b6
                            replace y14 := y14.below b6
                            replace y7 := y7.below b6
                            replace y10 := y10.below b6
                            replace y17 := y17.below b6
                            replace y15 := y15.below b6
                            refine hK.out _ _ (fun _ => (HF22.out _ D6)) ?_
                            clear hK K
                            try simp only [Act.put, List.setIfInBounds_toArray, List.set_cons_zero, List.set_cons_succ]
                            have N := Lib.hid (show W20.heap.size ≤ g17 ∧ g9 < g7 ∧ g9 < lo10 ∧ g9 < lo15 ∧ (∀ x, (x = g7 ∨ lo10 ≤ x) ∧ x < hi10 → x ≠ g17) ∧ (∀ x, lo15 ≤ x ∧ x < hi15 → x ≠ g17) by have := HG20.out; have := e7.out; have := z7.out; have := e17.out; have := z17.out; have := E10.out; have := E15.out; have hzz : W20.drew.heap.size = W20.heap.size := rfl; have := hs1.out; have := hs2.out; have := hs3.out; have := hs4.out; have := hs5.out; have := hs6.out; refine ⟨by omega, by omega, by omega, by omega, fun x hx => by omega, fun x hx => by omega⟩)
                            refine wpAnyG_oneL (i := 18) (by kernel_rfl) rfl (fun K hK => ?_)
                            refine step_putN #[.int .i64 T, .slice A10 (Rj.secs.length + 1) a10, .slice A15 L15.length c15] rfl 101 (.tmp 18) (.tmp 129) rfl g17 101 _ rfl rfl y17 sizeWay rfl (by simp [Value.oneCell']) ?_
                            intro V9 y17' t1 z1
                            have D9 := D6.grown t1 D6.size (fun r e => by cases e; exact N.out.1)
                            refine hK.out _ _ (fun h => Bool.noConfusion (show true = false from h)) ?_
                            clear hK K
                            refine wpAnyG_done (by kernel_rfl) ?_ _
                            go_wp2_with fail
                            go_meet
                            exact ⟨g17, A10, a10, A15, c15, rfl, Lib.hid (by rw [← HXX.out]; exact y17'), Lib.hid (by rw [← HXX.out]; exact ⟨(y10.keep ((Keep.of_grown1 t1).weak N.out.2.2.2.2.1)).weak fun x _ h => by have := N.out; omega, (y15.keep ((Keep.of_grown1 t1).weak N.out.2.2.2.2.2)).weak fun x _ h => by have := N.out; omega⟩), Lib.hid D9⟩
                          exact AllG.nil
                        refine AllG.cons (i := 17) rfl (fun K hK => ?_) ?_
                        · skip
                          refine step_mem #[.int .i64 0, .slice none 0 0, .slice none 0 0] 101 (fun g => .pointer (some ⟨g, 0, none⟩)) rfl ?hr ?_
                          case hr => first | (go_simp; done) | (go_simp; rfl)
                          intro g17 V3 e17 z17 b3 y17
                          have hs3 := Lib.hid b3.size
                          have D3 := below2 D2 b3
                          replace y14 := y14.below b3
                          replace y7 := y7.below b3
                          refine hK.out _ _ (fun _ => (HF22.out _ D3)) ?_
                          clear hK K
                          try simp only [Act.put, List.setIfInBounds_toArray, List.set_cons_zero, List.set_cons_succ]
                          refine wpAnyG_oneL (i := 10) (by kernel_rfl) rfl (fun K hK => ?_)
                          refine step_append_lit rfl (.tmp 120) (.tmp 122) rfl g7 ((k : Int), (m1 : Int)) Rj.secs A1 a1 rfl rfl y7 (HSL20.out.1.below D3) (by omega) ?_
                          intro A10 a10 V4 y10 b4
                          obtain ⟨lo10, hlo10⟩ : ∃ lo, V3.heap.size = lo := ⟨_, rfl⟩
                          obtain ⟨hi10, hhi10⟩ : ∃ hi, V4.heap.size = hi := ⟨_, rfl⟩
                          replace y10 := y10.weak (ok' := fun x => (x = g7 ∨ lo10 ≤ x) ∧ x < hi10) (fun x hx h => ⟨by rw [← hlo10]; exact h, by rw [← hhi10]; exact hx⟩)
                          have E10 := Lib.hid (And.intro hlo10 hhi10)
                          clear hlo10 hhi10
                          have hs4 := Lib.hid b4.size
                          have D4 := below2 D3 b4
                          replace y14 := y14.below b4
                          replace y7 := y7.below b4
                          replace y17 := y17.below b4
                          refine hK.out _ _ (fun _ => (HF22.out _ D4)) ?_
                          clear hK K
                          try simp only [Act.put, List.setIfInBounds_toArray, List.set_cons_zero, List.set_cons_succ]
                          refine wpAnyG_oneL (i := 15) (by kernel_rfl) rfl (fun K hK => ?_)
                          (go_simp; go_at_call 52; refine (HJN.out _ g14 D4 y14).mono ?_; rintro e V5 ⟨v15, rfl, hO15, b5⟩)
                          obtain ⟨A15, c15, rfl, y15⟩ := hO15.rd
                          obtain ⟨lo15, hlo15⟩ : ∃ lo, V4.heap.size = lo := ⟨_, rfl⟩
                          obtain ⟨hi15, hhi15⟩ : ∃ hi, V5.heap.size = hi := ⟨_, rfl⟩
                          replace y15 := y15.weak (ok' := fun x => lo15 ≤ x ∧ x < hi15) (fun x hx h => ⟨by rw [← hlo15]; exact h.1, by rw [← hhi15]; exact hx⟩)
                          have E15 := Lib.hid (And.intro hlo15 hhi15)
                          clear hO15 hlo15 hhi15
                          have hs5 := Lib.hid b5.size
                          have D5 := below2 D4 b5
                          replace y14 := y14.below b5
                          replace y7 := y7.below b5
                          replace y17 := y17.below b5
                          replace y10 := y10.below b5
                          refine hK.out _ _ (fun _ => (HF22.out _ D5)) ?_
                          clear hK K
                          try simp only [Act.put, List.setIfInBounds_toArray, List.set_cons_zero, List.set_cons_succ]
                          refine wpAnyG_oneL (i := 16) (by kernel_rfl) rfl (fun K hK => ?_)
                          (go_simp)
                          obtain ⟨V6, hw6⟩ : ∃ W', V5 = W' := ⟨_, rfl⟩
                          rw [hw6]
                          have b6 : Below V5.heap.size V5 V6 := by rw [← hw6]; exact Below.refl _ _
                          clear hw6
                          have hs6 := Lib.hid b6.size
                          have D6 := below2 D5 b6
                          replace y14 := y14.below b6
                          replace y7 := y7.below b6
                          replace y17 := y17.below b6
                          replace y10 := y10.below b6
                          replace y15 := y15.below b6
                          refine hK.out _ _ (fun _ => (HF22.out _ D6)) ?_
                          clear hK K
                          try simp only [Act.put, List.setIfInBounds_toArray, List.set_cons_zero, List.set_cons_succ]
                          have N := Lib.hid (show W20.heap.size ≤ g17 ∧ g9 < g7 ∧ g9 < lo10 ∧ g9 < lo15 ∧ (∀ x, (x = g7 ∨ lo10 ≤ x) ∧ x < hi10 → x ≠ g17) ∧ (∀ x, lo15 ≤ x ∧ x < hi15 → x ≠ g17) by have := HG20.out; have := e7.out; have := z7.out; have := e17.out; have := z17.out; have := E10.out; have := E15.out; have hzz : W20.drew.heap.size = W20.heap.size := rfl; have := hs1.out; have := hs2.out; have := hs3.out; have := hs4.out; have := hs5.out; have := hs6.out; refine ⟨by omega, by omega, by omega, by omega, fun x hx => by omega, fun x hx => by omega⟩)
                          refine wpAnyG_oneL (i := 18) (by kernel_rfl) rfl (fun K hK => ?_)
                          refine step_putN #[.int .i64 T, .slice A10 (Rj.secs.length + 1) a10, .slice A15 L15.length c15] rfl 101 (.tmp 18) (.tmp 129) rfl g17 101 _ rfl rfl y17 sizeWay rfl (by simp [Value.oneCell']) ?_
                          intro V9 y17' t1 z1
                          have D9 := D6.grown t1 D6.size (fun r e => by cases e; exact N.out.1)
                          refine hK.out _ _ (fun h => Bool.noConfusion (show true = false from h)) ?_
                          clear hK K
                          refine wpAnyG_done (by kernel_rfl) ?_ _
                          go_wp2_with fail
                          go_meet
                          exact ⟨g17, A10, a10, A15, c15, rfl, Lib.hid (by rw [← HXX.out]; exact y17'), Lib.hid (by rw [← HXX.out]; exact ⟨(y10.keep ((Keep.of_grown1 t1).weak N.out.2.2.2.2.1)).weak fun x _ h => by have := N.out; omega, (y15.keep ((Keep.of_grown1 t1).weak N.out.2.2.2.2.2)).weak fun x _ h => by have := N.out; omega⟩), Lib.hid D9⟩
                        exact AllG.nil
                      refine AllG.cons (i := 17) rfl (fun K hK => ?_) ?_
                      · skip
                        refine step_mem #[.int .i64 0, .slice none 0 0, .slice none 0 0] 101 (fun g => .pointer (some ⟨g, 0, none⟩)) rfl ?hr ?_
                        case hr => first | (go_simp; done) | (go_simp; rfl)
                        intro g17 V2 e17 z17 b2 y17
                        have hs2 := Lib.hid b2.size
                        have D2 := below2 D1 b2
                        replace y14 := y14.below b2
                        refine hK.out _ _ (fun _ => (HF22.out _ D2)) ?_
                        clear hK K
                        try simp only [Act.put, List.setIfInBounds_toArray, List.set_cons_zero, List.set_cons_succ]
                        refine wpAnyG_oneL (i := 7) (by kernel_rfl) rfl (fun K hK => ?_)
                        refine step_mem #[.int .i64 (k : Int), .int .i64 (m1 : Int)] 67 (fun g => .slice (some ⟨g, 0, none⟩) 1 1) rfl ?hr ?_
                        case hr => first | (go_simp; done) | (go_simp; rfl)
                        intro g7 V3 e7 z7 b3 y7
                        have hs3 := Lib.hid b3.size
                        have D3 := below2 D2 b3
                        replace y14 := y14.below b3
                        replace y17 := y17.below b3
                        refine hK.out _ _ (fun _ => (HF22.out _ D3)) ?_
                        clear hK K
                        try simp only [Act.put, List.setIfInBounds_toArray, List.set_cons_zero, List.set_cons_succ]
                        refine wpAnyG_oneL (i := 10) (by kernel_rfl) rfl (fun K hK => ?_)
                        refine step_append_lit rfl (.tmp 120) (.tmp 122) rfl g7 ((k : Int), (m1 : Int)) Rj.secs A1 a1 rfl rfl y7 (HSL20.out.1.below D3) (by omega) ?_
                        intro A10 a10 V4 y10 b4
                        obtain ⟨lo10, hlo10⟩ : ∃ lo, V3.heap.size = lo := ⟨_, rfl⟩
                        obtain ⟨hi10, hhi10⟩ : ∃ hi, V4.heap.size = hi := ⟨_, rfl⟩
                        replace y10 := y10.weak (ok' := fun x => (x = g7 ∨ lo10 ≤ x) ∧ x < hi10) (fun x hx h => ⟨by rw [← hlo10]; exact h, by rw [← hhi10]; exact hx⟩)
                        have E10 := Lib.hid (And.intro hlo10 hhi10)
                        clear hlo10 hhi10
                        have hs4 := Lib.hid b4.size
                        have D4 := below2 D3 b4
                        replace y14 := y14.below b4
                        replace y17 := y17.below b4
                        replace y7 := y7.below b4
                        refine hK.out _ _ (fun _ => (HF22.out _ D4)) ?_
                        clear hK K
                        try simp only [Act.put, List.setIfInBounds_toArray, List.set_cons_zero, List.set_cons_succ]
                        refine wpAnyG_oneL (i := 15) (by kernel_rfl) rfl (fun K hK => ?_)
                        (go_simp; go_at_call 52; refine (HJN.out _ g14 D4 y14).mono ?_; rintro e V5 ⟨v15, rfl, hO15, b5⟩)
                        obtain ⟨A15, c15, rfl, y15⟩ := hO15.rd
                        obtain ⟨lo15, hlo15⟩ : ∃ lo, V4.heap.size = lo := ⟨_, rfl⟩
                        obtain ⟨hi15, hhi15⟩ : ∃ hi, V5.heap.size = hi := ⟨_, rfl⟩
                        replace y15 := y15.weak (ok' := fun x => lo15 ≤ x ∧ x < hi15) (fun x hx h => ⟨by rw [← hlo15]; exact h.1, by rw [← hhi15]; exact hx⟩)
                        have E15 := Lib.hid (And.intro hlo15 hhi15)
                        clear hO15 hlo15 hhi15
                        have hs5 := Lib.hid b5.size
                        have D5 := below2 D4 b5
                        replace y14 := y14.below b5
                        replace y17 := y17.below b5
                        replace y7 := y7.below b5
                        replace y10 := y10.below b5
                        refine hK.out _ _ (fun _ => (HF22.out _ D5)) ?_
                        clear hK K
                        try simp only [Act.put, List.setIfInBounds_toArray, List.set_cons_zero, List.set_cons_succ]
                        refine wpAnyG_oneL (i := 16) (by kernel_rfl) rfl (fun K hK => ?_)
                        (go_simp)
                        obtain ⟨V6, hw6⟩ : ∃ W', V5 = W' := ⟨_, rfl⟩
                        rw [hw6]
                        have b6 : Below V5.heap.size V5 V6 := by rw [← hw6]; exact Below.refl _ _
                        clear hw6
                        have hs6 := Lib.hid b6.size
                        have D6 := below2 D5 b6
                        replace y14 := y14.below b6
                        replace y17 := y17.below b6
                        replace y7 := y7.below b6
                        replace y10 := y10.below b6
                        replace y15 := y15.below b6
                        refine hK.out _ _ (fun _ => (HF22.out _ D6)) ?_
                        clear hK K
                        try simp only [Act.put, List.setIfInBounds_toArray, List.set_cons_zero, List.set_cons_succ]
                        have N := Lib.hid (show W20.heap.size ≤ g17 ∧ g9 < g7 ∧ g9 < lo10 ∧ g9 < lo15 ∧ (∀ x, (x = g7 ∨ lo10 ≤ x) ∧ x < hi10 → x ≠ g17) ∧ (∀ x, lo15 ≤ x ∧ x < hi15 → x ≠ g17) by have := HG20.out; have := e7.out; have := z7.out; have := e17.out; have := z17.out; have := E10.out; have := E15.out; have hzz : W20.drew.heap.size = W20.heap.size := rfl; have := hs1.out; have := hs2.out; have := hs3.out; have := hs4.out; have := hs5.out; have := hs6.out; refine ⟨by omega, by omega, by omega, by omega, fun x hx => by omega, fun x hx => by omega⟩)
                        refine wpAnyG_oneL (i := 18) (by kernel_rfl) rfl (fun K hK => ?_)
                        refine step_putN #[.int .i64 T, .slice A10 (Rj.secs.length + 1) a10, .slice A15 L15.length c15] rfl 101 (.tmp 18) (.tmp 129) rfl g17 101 _ rfl rfl y17 sizeWay rfl (by simp [Value.oneCell']) ?_
                        intro V9 y17' t1 z1
                        have D9 := D6.grown t1 D6.size (fun r e => by cases e; exact N.out.1)
                        refine hK.out _ _ (fun h => Bool.noConfusion (show true = false from h)) ?_
                        clear hK K
                        refine wpAnyG_done (by kernel_rfl) ?_ _
                        go_wp2_with fail
                        go_meet
                        exact ⟨g17, A10, a10, A15, c15, rfl, Lib.hid (by rw [← HXX.out]; exact y17'), Lib.hid (by rw [← HXX.out]; exact ⟨(y10.keep ((Keep.of_grown1 t1).weak N.out.2.2.2.2.1)).weak fun x _ h => by have := N.out; omega, (y15.keep ((Keep.of_grown1 t1).weak N.out.2.2.2.2.2)).weak fun x _ h => by have := N.out; omega⟩), Lib.hid D9⟩
                      exact AllG.nil
                    refine AllG.cons (i := 17) rfl (fun K hK => ?_) ?_
                    · skip
                      refine step_mem #[.int .i64 0, .slice none 0 0, .slice none 0 0] 101 (fun g => .pointer (some ⟨g, 0, none⟩)) rfl ?hr ?_
                      case hr => first | (go_simp; done) | (go_simp; rfl)
                      intro g17 V1 e17 z17 b1 y17
                      have hs1 := Lib.hid b1.size
                      have D1 := below2 d0 b1
                      refine hK.out _ _ (fun _ => (HF22.out _ D1)) ?_
                      clear hK K
                      try simp only [Act.put, List.setIfInBounds_toArray, List.set_cons_zero, List.set_cons_succ]
                      refine wpAnyG_br (rs := [7, 14]) (by kernel_rfl) (by simp) ?_
                      refine AllG.cons (i := 7) rfl (fun K hK => ?_) ?_
                      · skip
                        refine step_mem #[.int .i64 (k : Int), .int .i64 (m1 : Int)] 67 (fun g => .slice (some ⟨g, 0, none⟩) 1 1) rfl ?hr ?_
                        case hr => first | (go_simp; done) | (go_simp; rfl)
                        intro g7 V2 e7 z7 b2 y7
                        have hs2 := Lib.hid b2.size
                        have D2 := below2 D1 b2
                        replace y17 := y17.below b2
                        refine hK.out _ _ (fun _ => (HF22.out _ D2)) ?_
                        clear hK K
                        try simp only [Act.put, List.setIfInBounds_toArray, List.set_cons_zero, List.set_cons_succ]
                        refine wpAnyG_br (rs := [10, 14]) (by kernel_rfl) (by simp) ?_
                        refine AllG.cons (i := 10) rfl (fun K hK => ?_) ?_
                        · skip
                          refine step_append_lit rfl (.tmp 120) (.tmp 122) rfl g7 ((k : Int), (m1 : Int)) Rj.secs A1 a1 rfl rfl y7 (HSL20.out.1.below D2) (by omega) ?_
                          intro A10 a10 V3 y10 b3
                          obtain ⟨lo10, hlo10⟩ : ∃ lo, V2.heap.size = lo := ⟨_, rfl⟩
                          obtain ⟨hi10, hhi10⟩ : ∃ hi, V3.heap.size = hi := ⟨_, rfl⟩
                          replace y10 := y10.weak (ok' := fun x => (x = g7 ∨ lo10 ≤ x) ∧ x < hi10) (fun x hx h => ⟨by rw [← hlo10]; exact h, by rw [← hhi10]; exact hx⟩)
                          have E10 := Lib.hid (And.intro hlo10 hhi10)
                          clear hlo10 hhi10
                          have hs3 := Lib.hid b3.size
                          have D3 := below2 D2 b3
                          replace y17 := y17.below b3
                          replace y7 := y7.below b3
                          refine hK.out _ _ (fun _ => (HF22.out _ D3)) ?_
                          clear hK K
                          try simp only [Act.put, List.setIfInBounds_toArray, List.set_cons_zero, List.set_cons_succ]
                          refine wpAnyG_oneL (i := 14) (by kernel_rfl) rfl (fun K hK => ?_)
                          refine step_mem #[.slice A17 L17.length c17, .slice B1 Rj.books.length bq] 25 (fun g => .slice (some ⟨g, 0, none⟩) 2 2) rfl ?hr ?_
                          case hr => first | (go_simp; done) | (go_simp; rfl)
                          intro g14 V4 e14 z14 b4 y14
                          clear e14 z14
                          have hs4 := Lib.hid b4.size
                          have D4 := below2 D3 b4
                          replace y17 := y17.below b4
                          replace y7 := y7.below b4
                          replace y10 := y10.below b4
                          refine hK.out _ _ (fun _ => (HF22.out _ D4)) ?_
                          clear hK K
                          try simp only [Act.put, List.setIfInBounds_toArray, List.set_cons_zero, List.set_cons_succ]
                          refine wpAnyG_oneL (i := 15) (by kernel_rfl) rfl (fun K hK => ?_)
                          (go_simp; go_at_call 52; refine (HJN.out _ g14 D4 y14).mono ?_; rintro e V5 ⟨v15, rfl, hO15, b5⟩)
                          obtain ⟨A15, c15, rfl, y15⟩ := hO15.rd
                          obtain ⟨lo15, hlo15⟩ : ∃ lo, V4.heap.size = lo := ⟨_, rfl⟩
                          obtain ⟨hi15, hhi15⟩ : ∃ hi, V5.heap.size = hi := ⟨_, rfl⟩
                          replace y15 := y15.weak (ok' := fun x => lo15 ≤ x ∧ x < hi15) (fun x hx h => ⟨by rw [← hlo15]; exact h.1, by rw [← hhi15]; exact hx⟩)
                          have E15 := Lib.hid (And.intro hlo15 hhi15)
                          clear hO15 hlo15 hhi15
                          have hs5 := Lib.hid b5.size
                          have D5 := below2 D4 b5
                          replace y17 := y17.below b5
                          replace y7 := y7.below b5
                          replace y10 := y10.below b5
                          replace y14 := y14.below b5
                          refine hK.out _ _ (fun _ => (HF22.out _ D5)) ?_
                          clear hK K
                          try simp only [Act.put, List.setIfInBounds_toArray, List.set_cons_zero, List.set_cons_succ]
                          refine wpAnyG_oneL (i := 16) (by kernel_rfl) rfl (fun K hK => ?_)
                          (go_simp)
                          obtain ⟨V6, hw6⟩ : ∃ W', V5 = W' := ⟨_, rfl⟩
                          rw [hw6]
                          have b6 : Below V5.heap.size V5 V6 := by rw [← hw6]; exact Below.refl _ _
                          clear hw6
                          have hs6 := Lib.hid b6.size
                          have D6 := below2 D5 b6
                          replace y17 := y17.below b6
                          replace y7 := y7.below b6
                          replace y10 := y10.below b6
                          replace y14 := y14.below b6
                          replace y15 := y15.below b6
                          refine hK.out _ _ (fun _ => (HF22.out _ D6)) ?_
                          clear hK K
                          try simp only [Act.put, List.setIfInBounds_toArray, List.set_cons_zero, List.set_cons_succ]
                          have N := Lib.hid (show W20.heap.size ≤ g17 ∧ g9 < g7 ∧ g9 < lo10 ∧ g9 < lo15 ∧ (∀ x, (x = g7 ∨ lo10 ≤ x) ∧ x < hi10 → x ≠ g17) ∧ (∀ x, lo15 ≤ x ∧ x < hi15 → x ≠ g17) by have := HG20.out; have := e7.out; have := z7.out; have := e17.out; have := z17.out; have := E10.out; have := E15.out; have hzz : W20.drew.heap.size = W20.heap.size := rfl; have := hs1.out; have := hs2.out; have := hs3.out; have := hs4.out; have := hs5.out; have := hs6.out; refine ⟨by omega, by omega, by omega, by omega, fun x hx => by omega, fun x hx => by omega⟩)
                          refine wpAnyG_oneL (i := 18) (by kernel_rfl) rfl (fun K hK => ?_)
                          refine step_putN #[.int .i64 T, .slice A10 (Rj.secs.length + 1) a10, .slice A15 L15.length c15] rfl 101 (.tmp 18) (.tmp 129) rfl g17 101 _ rfl rfl y17 sizeWay rfl (by simp [Value.oneCell']) ?_
                          intro V9 y17' t1 z1
                          have D9 := D6.grown t1 D6.size (fun r e => by cases e; exact N.out.1)
                          refine hK.out _ _ (fun h => Bool.noConfusion (show true = false from h)) ?_
                          clear hK K
                          refine wpAnyG_done (by kernel_rfl) ?_ _
                          go_wp2_with fail
                          go_meet
                          exact ⟨g17, A10, a10, A15, c15, rfl, Lib.hid (by rw [← HXX.out]; exact y17'), Lib.hid (by rw [← HXX.out]; exact ⟨(y10.keep ((Keep.of_grown1 t1).weak N.out.2.2.2.2.1)).weak fun x _ h => by have := N.out; omega, (y15.keep ((Keep.of_grown1 t1).weak N.out.2.2.2.2.2)).weak fun x _ h => by have := N.out; omega⟩), Lib.hid D9⟩
                        refine AllG.cons (i := 14) rfl (fun K hK => ?_) ?_
                        · skip
                          refine step_mem #[.slice A17 L17.length c17, .slice B1 Rj.books.length bq] 25 (fun g => .slice (some ⟨g, 0, none⟩) 2 2) rfl ?hr ?_
                          case hr => first | (go_simp; done) | (go_simp; rfl)
                          intro g14 V3 e14 z14 b3 y14
                          clear e14 z14
                          have hs3 := Lib.hid b3.size
                          have D3 := below2 D2 b3
                          replace y17 := y17.below b3
                          replace y7 := y7.below b3
                          refine hK.out _ _ (fun _ => (HF22.out _ D3)) ?_
                          clear hK K
                          try simp only [Act.put, List.setIfInBounds_toArray, List.set_cons_zero, List.set_cons_succ]
                          refine wpAnyG_oneL (i := 10) (by kernel_rfl) rfl (fun K hK => ?_)
                          refine step_append_lit rfl (.tmp 120) (.tmp 122) rfl g7 ((k : Int), (m1 : Int)) Rj.secs A1 a1 rfl rfl y7 (HSL20.out.1.below D3) (by omega) ?_
                          intro A10 a10 V4 y10 b4
                          obtain ⟨lo10, hlo10⟩ : ∃ lo, V3.heap.size = lo := ⟨_, rfl⟩
                          obtain ⟨hi10, hhi10⟩ : ∃ hi, V4.heap.size = hi := ⟨_, rfl⟩
                          replace y10 := y10.weak (ok' := fun x => (x = g7 ∨ lo10 ≤ x) ∧ x < hi10) (fun x hx h => ⟨by rw [← hlo10]; exact h, by rw [← hhi10]; exact hx⟩)
                          have E10 := Lib.hid (And.intro hlo10 hhi10)
                          clear hlo10 hhi10
                          have hs4 := Lib.hid b4.size
                          have D4 := below2 D3 b4
                          replace y17 := y17.below b4
                          replace y7 := y7.below b4
                          replace y14 := y14.below b4
                          refine hK.out _ _ (fun _ => (HF22.out _ D4)) ?_
                          clear hK K
                          try simp only [Act.put, List.setIfInBounds_toArray, List.set_cons_zero, List.set_cons_succ]
                          refine wpAnyG_oneL (i := 15) (by kernel_rfl) rfl (fun K hK => ?_)
                          (go_simp; go_at_call 52; refine (HJN.out _ g14 D4 y14).mono ?_; rintro e V5 ⟨v15, rfl, hO15, b5⟩)
                          obtain ⟨A15, c15, rfl, y15⟩ := hO15.rd
                          obtain ⟨lo15, hlo15⟩ : ∃ lo, V4.heap.size = lo := ⟨_, rfl⟩
                          obtain ⟨hi15, hhi15⟩ : ∃ hi, V5.heap.size = hi := ⟨_, rfl⟩
                          replace y15 := y15.weak (ok' := fun x => lo15 ≤ x ∧ x < hi15) (fun x hx h => ⟨by rw [← hlo15]; exact h.1, by rw [← hhi15]; exact hx⟩)
                          have E15 := Lib.hid (And.intro hlo15 hhi15)
                          clear hO15 hlo15 hhi15
                          have hs5 := Lib.hid b5.size
                          have D5 := below2 D4 b5
                          replace y17 := y17.below b5
                          replace y7 := y7.below b5
                          replace y14 := y14.below b5
                          replace y10 := y10.below b5
                          refine hK.out _ _ (fun _ => (HF22.out _ D5)) ?_
                          clear hK K
                          try simp only [Act.put, List.setIfInBounds_toArray, List.set_cons_zero, List.set_cons_succ]
                          refine wpAnyG_oneL (i := 16) (by kernel_rfl) rfl (fun K hK => ?_)
                          (go_simp)
                          obtain ⟨V6, hw6⟩ : ∃ W', V5 = W' := ⟨_, rfl⟩
                          rw [hw6]
                          have b6 : Below V5.heap.size V5 V6 := by rw [← hw6]; exact Below.refl _ _
                          clear hw6
                          have hs6 := Lib.hid b6.size
                          have D6 := below2 D5 b6
                          replace y17 := y17.below b6
                          replace y7 := y7.below b6
                          replace y14 := y14.below b6
                          replace y10 := y10.below b6
                          replace y15 := y15.below b6
                          refine hK.out _ _ (fun _ => (HF22.out _ D6)) ?_
                          clear hK K
                          try simp only [Act.put, List.setIfInBounds_toArray, List.set_cons_zero, List.set_cons_succ]
                          have N := Lib.hid (show W20.heap.size ≤ g17 ∧ g9 < g7 ∧ g9 < lo10 ∧ g9 < lo15 ∧ (∀ x, (x = g7 ∨ lo10 ≤ x) ∧ x < hi10 → x ≠ g17) ∧ (∀ x, lo15 ≤ x ∧ x < hi15 → x ≠ g17) by have := HG20.out; have := e7.out; have := z7.out; have := e17.out; have := z17.out; have := E10.out; have := E15.out; have hzz : W20.drew.heap.size = W20.heap.size := rfl; have := hs1.out; have := hs2.out; have := hs3.out; have := hs4.out; have := hs5.out; have := hs6.out; refine ⟨by omega, by omega, by omega, by omega, fun x hx => by omega, fun x hx => by omega⟩)
                          refine wpAnyG_oneL (i := 18) (by kernel_rfl) rfl (fun K hK => ?_)
                          refine step_putN #[.int .i64 T, .slice A10 (Rj.secs.length + 1) a10, .slice A15 L15.length c15] rfl 101 (.tmp 18) (.tmp 129) rfl g17 101 _ rfl rfl y17 sizeWay rfl (by simp [Value.oneCell']) ?_
                          intro V9 y17' t1 z1
                          have D9 := D6.grown t1 D6.size (fun r e => by cases e; exact N.out.1)
                          refine hK.out _ _ (fun h => Bool.noConfusion (show true = false from h)) ?_
                          clear hK K
                          refine wpAnyG_done (by kernel_rfl) ?_ _
                          go_wp2_with fail
                          go_meet
                          exact ⟨g17, A10, a10, A15, c15, rfl, Lib.hid (by rw [← HXX.out]; exact y17'), Lib.hid (by rw [← HXX.out]; exact ⟨(y10.keep ((Keep.of_grown1 t1).weak N.out.2.2.2.2.1)).weak fun x _ h => by have := N.out; omega, (y15.keep ((Keep.of_grown1 t1).weak N.out.2.2.2.2.2)).weak fun x _ h => by have := N.out; omega⟩), Lib.hid D9⟩
                        exact AllG.nil
                      refine AllG.cons (i := 14) rfl (fun K hK => ?_) ?_
                      · skip
                        refine step_mem #[.slice A17 L17.length c17, .slice B1 Rj.books.length bq] 25 (fun g => .slice (some ⟨g, 0, none⟩) 2 2) rfl ?hr ?_
                        case hr => first | (go_simp; done) | (go_simp; rfl)
                        intro g14 V2 e14 z14 b2 y14
                        clear e14 z14
                        have hs2 := Lib.hid b2.size
                        have D2 := below2 D1 b2
                        replace y17 := y17.below b2
                        refine hK.out _ _ (fun _ => (HF22.out _ D2)) ?_
                        clear hK K
                        try simp only [Act.put, List.setIfInBounds_toArray, List.set_cons_zero, List.set_cons_succ]
                        refine wpAnyG_oneL (i := 7) (by kernel_rfl) rfl (fun K hK => ?_)
                        refine step_mem #[.int .i64 (k : Int), .int .i64 (m1 : Int)] 67 (fun g => .slice (some ⟨g, 0, none⟩) 1 1) rfl ?hr ?_
                        case hr => first | (go_simp; done) | (go_simp; rfl)
                        intro g7 V3 e7 z7 b3 y7
                        have hs3 := Lib.hid b3.size
                        have D3 := below2 D2 b3
                        replace y17 := y17.below b3
                        replace y14 := y14.below b3
                        refine hK.out _ _ (fun _ => (HF22.out _ D3)) ?_
                        clear hK K
                        try simp only [Act.put, List.setIfInBounds_toArray, List.set_cons_zero, List.set_cons_succ]
                        refine wpAnyG_oneL (i := 10) (by kernel_rfl) rfl (fun K hK => ?_)
                        refine step_append_lit rfl (.tmp 120) (.tmp 122) rfl g7 ((k : Int), (m1 : Int)) Rj.secs A1 a1 rfl rfl y7 (HSL20.out.1.below D3) (by omega) ?_
                        intro A10 a10 V4 y10 b4
                        obtain ⟨lo10, hlo10⟩ : ∃ lo, V3.heap.size = lo := ⟨_, rfl⟩
                        obtain ⟨hi10, hhi10⟩ : ∃ hi, V4.heap.size = hi := ⟨_, rfl⟩
                        replace y10 := y10.weak (ok' := fun x => (x = g7 ∨ lo10 ≤ x) ∧ x < hi10) (fun x hx h => ⟨by rw [← hlo10]; exact h, by rw [← hhi10]; exact hx⟩)
                        have E10 := Lib.hid (And.intro hlo10 hhi10)
                        clear hlo10 hhi10
                        have hs4 := Lib.hid b4.size
                        have D4 := below2 D3 b4
                        replace y17 := y17.below b4
                        replace y14 := y14.below b4
                        replace y7 := y7.below b4
                        refine hK.out _ _ (fun _ => (HF22.out _ D4)) ?_
                        clear hK K
                        try simp only [Act.put, List.setIfInBounds_toArray, List.set_cons_zero, List.set_cons_succ]
                        refine wpAnyG_oneL (i := 15) (by kernel_rfl) rfl (fun K hK => ?_)
                        (go_simp; go_at_call 52; refine (HJN.out _ g14 D4 y14).mono ?_; rintro e V5 ⟨v15, rfl, hO15, b5⟩)
                        obtain ⟨A15, c15, rfl, y15⟩ := hO15.rd
                        obtain ⟨lo15, hlo15⟩ : ∃ lo, V4.heap.size = lo := ⟨_, rfl⟩
                        obtain ⟨hi15, hhi15⟩ : ∃ hi, V5.heap.size = hi := ⟨_, rfl⟩
                        replace y15 := y15.weak (ok' := fun x => lo15 ≤ x ∧ x < hi15) (fun x hx h => ⟨by rw [← hlo15]; exact h.1, by rw [← hhi15]; exact hx⟩)
                        have E15 := Lib.hid (And.intro hlo15 hhi15)
                        clear hO15 hlo15 hhi15
                        have hs5 := Lib.hid b5.size
                        have D5 := below2 D4 b5
                        replace y17 := y17.below b5
                        replace y14 := y14.below b5
                        replace y7 := y7.below b5
                        replace y10 := y10.below b5
                        refine hK.out _ _ (fun _ => (HF22.out _ D5)) ?_
                        clear hK K
                        try simp only [Act.put, List.setIfInBounds_toArray, List.set_cons_zero, List.set_cons_succ]
                        refine wpAnyG_oneL (i := 16) (by kernel_rfl) rfl (fun K hK => ?_)
                        (go_simp)
                        obtain ⟨V6, hw6⟩ : ∃ W', V5 = W' := ⟨_, rfl⟩
                        rw [hw6]
                        have b6 : Below V5.heap.size V5 V6 := by rw [← hw6]; exact Below.refl _ _
                        clear hw6
                        have hs6 := Lib.hid b6.size
                        have D6 := below2 D5 b6
                        replace y17 := y17.below b6
                        replace y14 := y14.below b6
                        replace y7 := y7.below b6
                        replace y10 := y10.below b6
                        replace y15 := y15.below b6
                        refine hK.out _ _ (fun _ => (HF22.out _ D6)) ?_
                        clear hK K
                        try simp only [Act.put, List.setIfInBounds_toArray, List.set_cons_zero, List.set_cons_succ]
                        have N := Lib.hid (show W20.heap.size ≤ g17 ∧ g9 < g7 ∧ g9 < lo10 ∧ g9 < lo15 ∧ (∀ x, (x = g7 ∨ lo10 ≤ x) ∧ x < hi10 → x ≠ g17) ∧ (∀ x, lo15 ≤ x ∧ x < hi15 → x ≠ g17) by have := HG20.out; have := e7.out; have := z7.out; have := e17.out; have := z17.out; have := E10.out; have := E15.out; have hzz : W20.drew.heap.size = W20.heap.size := rfl; have := hs1.out; have := hs2.out; have := hs3.out; have := hs4.out; have := hs5.out; have := hs6.out; refine ⟨by omega, by omega, by omega, by omega, fun x hx => by omega, fun x hx => by omega⟩)
                        refine wpAnyG_oneL (i := 18) (by kernel_rfl) rfl (fun K hK => ?_)
                        refine step_putN #[.int .i64 T, .slice A10 (Rj.secs.length + 1) a10, .slice A15 L15.length c15] rfl 101 (.tmp 18) (.tmp 129) rfl g17 101 _ rfl rfl y17 sizeWay rfl (by simp [Value.oneCell']) ?_
                        intro V9 y17' t1 z1
                        have D9 := D6.grown t1 D6.size (fun r e => by cases e; exact N.out.1)
                        refine hK.out _ _ (fun h => Bool.noConfusion (show true = false from h)) ?_
                        clear hK K
                        refine wpAnyG_done (by kernel_rfl) ?_ _
                        go_wp2_with fail
                        go_meet
                        exact ⟨g17, A10, a10, A15, c15, rfl, Lib.hid (by rw [← HXX.out]; exact y17'), Lib.hid (by rw [← HXX.out]; exact ⟨(y10.keep ((Keep.of_grown1 t1).weak N.out.2.2.2.2.1)).weak fun x _ h => by have := N.out; omega, (y15.keep ((Keep.of_grown1 t1).weak N.out.2.2.2.2.2)).weak fun x _ h => by have := N.out; omega⟩), Lib.hid D9⟩
                      exact AllG.nil
                    exact AllG.nil
                  case rest =>
                    obtain ⟨g18, A18, a18, B18, b18, rfl, HB18, HS18, HBb⟩ := hcut
                    have k0 : wc.cell? ⟨g18, 0, none⟩ = some (.int .i64 X.cost) := HB18.out.cell 0 rfl
                    have k1 : wc.cell? ⟨g18, 1, none⟩ = some (.slice A18 X.secs.length a18) := HB18.out.cell 1 rfl
                    have k2 : wc.cell? ⟨g18, 2, none⟩ = some (.slice B18 X.books.length b18) := HB18.out.cell 2 rfl
                    have HT22 := Lib.hid (HT20.out.below HBb.out)
                    clear HF22 HJN HT20 hjm hm1
                    cases htv : top1 with
                    | none =>
                      have hu : u11 = .pointer none := by have h9 := HT22.out; rw [htv] at h9; exact h9
                      subst hu
                      go_wp2_with (go_at_call 53; refine (better_none X A18 B18 a18 b18 wc).mono ?_; rintro e W24 ⟨g24, rfl, hg24, hB24, b24⟩)
                      refine ⟨⟨m1, by have := HMR.out; have := HM1.out; omega, by rw [HS2.out], by rw [show i + m1 = j1 by have := HJ.out; have := HJ1.out; have := HM1.out; omega], Lib.hid ?_, Lib.hid (below2 (below2 (below2 HBW19.out HB20.out) HBb.out) b24)⟩, ?_⟩
                      · rw [HI2.out, HXE.out htv]
                        exact ⟨g24, A18, a18, B18, b18, rfl, hB24, HS18.out.1.below b24, HS18.out.2.below b24⟩
                      · show n + 1 - ((j1 : Int)).toNat < n + 1 - ((j : Int)).toNat
                        rw [Int.toNat_natCast, Int.toNat_natCast]
                        have := HJ1.out; have := HJ.out; have := HRC.out; have := HMR.out
                        omega
                    | some t =>
                      have h9 := HT22.out
                      rw [htv] at h9
                      obtain ⟨gt, A2, a2, B2, b2, rfl, hB2, hs2, ht2⟩ := h9
                      have HBT := Lib.hid (better_some X t A18 B18 A2 B2 a18 b18 a2 b2 gt wc HS18.out.2.any ht2.any hB2)
                      have HO2 := Lib.hid (And.intro hB2 (And.intro hs2 ht2))
                      clear hB2 hs2 ht2
                      go_wp2_with (go_at_call 53; refine HBT.out.mono ?_; rintro e W24 ⟨g24, rfl, hif, b24⟩)
                      refine ⟨⟨m1, by have := HMR.out; have := HM1.out; omega, by rw [HS2.out], by rw [show i + m1 = j1 by have := HJ.out; have := HJ1.out; have := HM1.out; omega], Lib.hid ?_, Lib.hid (below2 (below2 (below2 HBW19.out HB20.out) HBb.out) b24)⟩, ?_⟩
                      · rw [HI2.out, HXS.out t htv]
                        by_cases hl : X.less t = true
                        · rw [if_pos hl] at hif ⊢
                          exact ⟨g24, A18, a18, B18, b18, rfl, hif.2, HS18.out.1.below b24, HS18.out.2.below b24⟩
                        · rw [if_neg hl] at hif ⊢
                          subst hif
                          exact ⟨g24, A2, a2, B2, b2, rfl, HO2.out.1.below b24, HO2.out.2.1.below b24, HO2.out.2.2.below b24⟩
                      · show n + 1 - ((j1 : Int)).toNat < n + 1 - ((j : Int)).toNat
                        rw [Int.toNat_natCast, Int.toNat_natCast]
                        have := HJ1.out; have := HJ.out; have := HRC.out; have := HMR.out
                        omega
                · rw [hcv] at HCc
                  have HNW := Lib.hid (show innW cst gamN (k : Int) i tl top0 (m + 1) = top1 by rw [HI2.out, HIW.out, stpWay_skip HTE.out HCc.out])
                  clear hcv hCc
                  go_wp2
                  refine ⟨⟨m + 1, HMR.out, by rw [HS2.out], by rw [show i + (m + 1) = j1 by have := HJ.out; have := HJ1.out; omega], Lib.hid ?_, Lib.hid HBW19.out⟩, ?_⟩
                  · rw [HNW.out]; exact HT19.out
                  · show n + 1 - ((j1 : Int)).toNat < n + 1 - ((j : Int)).toNat
                    rw [Int.toNat_natCast, Int.toNat_natCast]
                    have := HJ1.out; have := HJ.out; have := HRC.out; have := HMR.out
                    omega
            · have hme : m = rc := by omega
              have HTN := Lib.hid (show TopAt g9 wr u11 (topW n cst gamN i tl (k + 1)) from by rw [HTK.out, ← hme]; exact HT.out)
              have hbody : (k + 1) ≤ 8 := HK8.out
              by_cases hjn : j < n
              · have hji : (j : Int) < (n : Int) := by omega
                have hjd : decide ((j : Int) < (n : Int)) = true := decide_eq_true hji
                have hj0 : (0 : Int) ≤ (j : Int) := by omega
                have kc := HCL.out j k hjn HK8.out wr HUX.out
                have hC0 : cst j (k : Int) < 0 := by
                  rcases HRS.out with h | h
                  · exfalso; omega
                  · rw [← hj, hme]; exact h
                obtain ⟨C, hC⟩ : ∃ C, cst j (k : Int) = C := ⟨_, rfl⟩
                rw [hC] at kc hC0
                have hcd : decide ((0 : Int) ≤ C) = false := decide_eq_false (by omega)
                rw [hj]
                clear hm hmr hme hjn HJ hj hC hC0
                go_wp2
                exact ⟨⟨k + 1, hbody, rfl, HTN, HB⟩, by
                  show 8 - (((k + 1 : Nat) : Int)).toNat < 8 - ((k : Int)).toNat
                  rw [Int.toNat_natCast, Int.toNat_natCast]; have := HK8.out; omega⟩
              · have hjd : decide ((j : Int) < (n : Int)) = false := decide_eq_false (by omega)
                have hjdn : decide (j < n) = false := decide_eq_false (by omega)
                rw [hj]
                clear hm hmr hme hjn HJ hj
                go_wp2
                exact ⟨⟨k + 1, hbody, rfl, HTN, HB⟩, by
                  show 8 - (((k + 1 : Nat) : Int)).toNat < 8 - ((k : Int)).toNat
                  rw [Int.toNat_natCast, Int.toNat_natCast]; have := HK8.out; omega⟩
        · have hke : k = 8 := by omega
          rw [hke] at HT
          obtain ⟨tt, htt, hRi⟩ := HTOi.out
          rw [htt, ← hRi] at HT
          have hkd : decide ((k : Int) < 8) = false := decide_eq_false (by omega)
          have hkdn : decide (k < 8) = false := decide_eq_false (by omega)
          clear hk hk8 htt hRi hke
          have HIb := HI.out.below HB.out
          obtain ⟨gt, A2, a2, B2, b2, rfl, hB2, hs2, ht2⟩ := HT.out
          have k0 : wr.cell? ⟨gt, 0, none⟩ = some (.int .i64 (R i).cost) := hB2.cell 0 rfl
          have k1 : wr.cell? ⟨gt, 1, none⟩ = some (.slice A2 (R i).secs.length a2) := hB2.cell 1 rfl
          have k2 : wr.cell? ⟨gt, 2, none⟩ = some (.slice B2 (R i).books.length b2) := hB2.cell 2 rfl
          have HPU := Lib.hid (HIb.put (by have := HIN.out; omega) hs2 ht2)
          obtain ⟨cells, hc1, hc2, _⟩ := HIb.row
          obtain ⟨o0, ho0⟩ : ∃ o, cells[i * 3]? = some o := ⟨_, Array.getElem?_eq_getElem (by have := HIN.out; omega)⟩
          obtain ⟨o1, ho1⟩ : ∃ o, cells[i * 3 + 1]? = some o := ⟨_, Array.getElem?_eq_getElem (by have := HIN.out; omega)⟩
          obtain ⟨o2, ho2⟩ : ∃ o, cells[i * 3 + 2]? = some o := ⟨_, Array.getElem?_eq_getElem (by have := HIN.out; omega)⟩
          have q0 := hc1.cell _ ho0
          have q1 := hc1.cell _ ho1
          have q2 := hc1.cell _ ho2
          have f0 := hc1.free (i * 3)
          have f1 := hc1.free (i * 3 + 1)
          have f2 := hc1.free (i * 3 + 2)
          have hin1 : (i : Int) < (n1 : Int) := by have := HIN.out; have := HN.out; omega
          have hi0 : (0 : Int) ≤ (i : Int) := by omega
          have HUW := Lib.hid (HU.out.trans (Upd.of_below HB.out (fun _ => False)) fun _ _ h => h.elim)
          clear hB2 hs2 ht2 hc1 hc2 ho0 ho1 ho2 HIb
          go_wp2
          refine ⟨⟨q + 1, by have := HQI.out; omega, congrArg (Value.int .i64) (by have := HQI.out; omega), Lib.hid ?_, Lib.hid (HUW.out.trans HPU.out.2 fun _ _ h => h)⟩, ?_⟩
          · rw [show n - (q + 1) = i by have := HQI.out; omega]; exact HPU.out.1
          · show ((i : Int) - 1 + 1).toNat < ((i : Int) + 1).toNat
            omega
    · have hqe : q = n := by omega
      rw [hqe, Nat.sub_self] at HI
      rw [show (n : Int) - 1 - (q : Int) = -1 by omega]
      clear hlt hq hqe
      obtain ⟨A0, a0, B0, b0, y0, y1, y2, s1, s2⟩ := HI.out.at_ 0 (Nat.le_refl _) (Nat.zero_le _)
      simp only [Nat.zero_mul, Nat.zero_add] at y0 y1 y2
      have hn1 : (0 : Int) < (n1 : Int) := by have := HN.out; omega
      have HF26 := Lib.hid (show ∀ W' : World, Below wr.heap.size wr W' → W'.cell? ⟨g9, 0, none⟩ = some (.int .i64 (R 0).cost) ∧ W'.cell? ⟨g9, 1, none⟩ = some (.slice A0 (R 0).secs.length a0) from fun W' hb => ⟨cell_below hb y0, cell_below hb y1⟩)
      have HS26 := Lib.hid s1
      have d0 := (Below.refl wr.heap.size wr).drew
      clear y0 y1 y2 s1 s2 hwm hwn
      go_upto_region 26 with fail
      refine wp_region_G 10 (fun W' => W'.cell? ⟨g9, 0, none⟩ = some (.int .i64 (R 0).cost) ∧ W'.cell? ⟨g9, 1, none⟩ = some (.slice A0 (R 0).secs.length a0)) (by kernel_rfl) (HF26.out _ d0) (fun hHeld => ?_)
      refine wpAnyG_takeL (i := 0) (.slice (some ⟨g9, 0, none⟩) n1 n1) [10] rfl (by kernel_rfl) (fun _ _ _ h => h) hHeld (by rfl) ?_ ?_
      · (intro W' hSw; (try dsimp only at hSw); go_simp)
      try simp only [Act.put, List.setIfInBounds_toArray, List.set_cons_zero, List.set_cons_succ]
      refine wpAnyG_takeL (i := 1) (.pointer (some ⟨g9, 0, none⟩)) [10] rfl (by kernel_rfl) (fun _ _ _ h => h) hHeld (by rfl) ?_ ?_
      · (intro W' hSw; (try dsimp only at hSw); go_simp; intro h; exact absurd h (by have := HN.out; omega))
      try simp only [Act.put, List.setIfInBounds_toArray, List.set_cons_zero, List.set_cons_succ]
      refine wpAnyG_takeL (i := 2) (.pointer (some ⟨g9, 1, none⟩)) [10] rfl (by kernel_rfl) (fun _ _ _ h => h) hHeld (by rfl) ?_ ?_
      · (intro W' hSw; (try dsimp only at hSw); go_simp)
      try simp only [Act.put, List.setIfInBounds_toArray, List.set_cons_zero, List.set_cons_succ]
      refine wpAnyG_takeL (i := 3) (.slice A0 (R 0).secs.length a0) [10] rfl (by kernel_rfl) (fun _ _ _ h => h) hHeld (by rfl) ?_ ?_
      · (intro W' hSw; (try dsimp only at hSw); go_simp)
      try simp only [Act.put, List.setIfInBounds_toArray, List.set_cons_zero, List.set_cons_succ]
      refine wpAnyG_takeL (i := 4) (.slice (some ⟨g9, 0, none⟩) n1 n1) [10] rfl (by kernel_rfl) (fun _ _ _ h => h) hHeld (by rfl) ?_ ?_
      · (intro W' hSw; (try dsimp only at hSw); go_simp)
      try simp only [Act.put, List.setIfInBounds_toArray, List.set_cons_zero, List.set_cons_succ]
      refine wpAnyG_takeL (i := 5) (.pointer (some ⟨g9, 0, none⟩)) [10] rfl (by kernel_rfl) (fun _ _ _ h => h) hHeld (by rfl) ?_ ?_
      · (intro W' hSw; (try dsimp only at hSw); go_simp; intro h; exact absurd h (by have := HN.out; omega))
      try simp only [Act.put, List.setIfInBounds_toArray, List.set_cons_zero, List.set_cons_succ]
      refine wpAnyG_takeL (i := 6) (.pointer (some ⟨g9, 0, none⟩)) [10] rfl (by kernel_rfl) (fun _ _ _ h => h) hHeld (by rfl) ?_ ?_
      · (intro W' hSw; (try dsimp only at hSw); go_simp)
      try simp only [Act.put, List.setIfInBounds_toArray, List.set_cons_zero, List.set_cons_succ]
      refine wpAnyG_takeL (i := 7) (.int .i64 (R 0).cost) [10] rfl (by kernel_rfl) (fun _ _ _ h => h) hHeld (by rfl) ?_ ?_
      · (intro W' hSw; (try dsimp only at hSw); go_simp)
      try simp only [Act.put, List.setIfInBounds_toArray, List.set_cons_zero, List.set_cons_succ]
      refine wpAnyG_takeL (i := 8) (.slice A0 (R 0).secs.length a0) [10] rfl (by kernel_rfl) (fun _ _ _ h => h) hHeld (by rfl) ?_ ?_
      · (intro W' hSw; (try dsimp only at hSw); go_simp)
      try simp only [Act.put, List.setIfInBounds_toArray, List.set_cons_zero, List.set_cons_succ]
      refine wpAnyG_takeL (i := 9) (.int .i64 (R 0).cost) [10] rfl (by kernel_rfl) (fun _ _ _ h => h) hHeld (by rfl) ?_ ?_
      · (intro W' hSw; (try dsimp only at hSw); go_simp)
      try simp only [Act.put, List.setIfInBounds_toArray, List.set_cons_zero, List.set_cons_succ]
      refine wpAnyG_oneL (i := 10) (by kernel_rfl) rfl (fun K hK => ?_)
      (go_simp)
      refine hK.out _ _ (fun h => Bool.noConfusion (show true = false from h)) ?_
      clear hK K
      clear hHeld
      refine wpAnyG_done (by kernel_rfl) ?_ _
      go_wp2
      go_ret3
      exact ⟨A0, a0, rfl, (HS26.out.below d0).weak fun x _ h => by have := HZ.out.1; omega, HLOW.out.trans ((HU.out.below HLOW.out.size fun x _ e => by have := HZ.out.1; omega).trans (d0.mono (by have := HLOW.out.size; have := HU.out.size; omega)))⟩
set_option maxHeartbeats 2000000 in
/-- Choose. -/
theorem sChoose_any (A B : Option Addr) (c d : Nat) (ws l : List Int) (w : World) (hS : RI w A c ws) (hT : RI w B d l) (hG : GF w) (hGT : GT w) (hm : ws.length ≤ 100000) :
    Calls Tryd.prog 30 #[.slice A ws.length c, .slice B l.length d] w fun e w' => ∃ A1 a1, e = .returned (.tuple #[.slice A1 (chooseR ws l).1.length a1, .int .i64 (chooseR ws l).2.1, .int .i64 (chooseR ws l).2.2]) ∧ Sl kSe (fun x => w.heap.size ≤ x) w' A1 a1 (chooseR ws l).1 ∧ Below w.heap.size w w' := by
  by_cases hs : sureE ws l = 0
  · have e : chooseR ws l = ((bestW ws l 0).secs, (bestW ws l 0).cost, 0) := by unfold chooseR; rw [if_neg (by simp [hs])]
    rw [e]
    rcases Nat.eq_zero_or_pos ws.length with h0 | h0
    · exact choose_0 A B c d ws l w hS hT hG hGT hs h0
    · exact choose_n A B c d ws l w hS hT hG hGT hs h0
  · have e : chooseR ws l = ([], 0, sureE ws l) := by unfold chooseR; rw [if_pos hs]
    rw [e]
    have HCK := Lib.hid (checked18_any A B c d ws l w hS hT (by omega) hG)
    generalize sureE ws l = E at *
    have hne : (E != 0) = true := by simp [hs]
    clear hS hT hG hGT e
    go_enter Tryd.func30, Tryd.ntmps30
    go_wp2_with (go_at_call 44; refine HCK.out.mono ?_; rintro e w2 ⟨rfl, b2⟩)
    go_ret3
    exact ⟨none, 0, rfl, ⟨Nat.le_refl _, by simp, Kd.Rd.nil _ _ _ _⟩, b2⟩
end Go.Proofs.YtmcdgmiheklbeaaDoor
