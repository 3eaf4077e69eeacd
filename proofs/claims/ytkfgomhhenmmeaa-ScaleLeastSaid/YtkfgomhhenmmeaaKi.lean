/- scale: Choose of the program; the document's tables, plain. · The document's scale: least: the tables. · scale: the program's tables and the document's: what is chosen out of them is the same (plain). · The document's scale: bounded: what it returns. · The document's scale: Choose: what it returns. · The document's scale: Choose: what it returns. · The document's rows of bits: Bytes; the statements' SameBytes: what each call returns. · The document's rows of bits: Bits; rows of bools compared; the statements' Holds, Right, Few: what each call returns. · The statements about scale: awake: what it returns. · The statements about scale: few, of one list, of two, of none. · What the arguments of a law read as: []bool, the statements' Bytes and Room. · scale: what was written is read again (plain). · scale: a greater step costs no less; scales that are all moved cost the same (plain). · The statements' Holds, Right, Few, few: what each call returns. · The statements' Bytes: Right, Begun; Room: Begun: what each call returns. -/
import Derived.Test.YtkfgomhhenmmeaaKh
import Derived.Test.YtkfgomhhenmmeaaKe
import Derived.Test.YtkfgomhhenmmeaaKf
import Derived.Test.YtkfgomhhenmmeaaKg
import Derived.Sort.AtCall
import Derived.Test.YtkfgomhhenmmeaaKc
import Derived.Test.YtkfgomhhenmmeaaKd
import Derived.Deep.Grids
import Derived.Test.YtkfgomhhenmmeaaKb
namespace Go.Proofs.Ytkfgomhhenmmeaa
open Go.RowKit

theorem schoose_any (A B C : Option Addr) (c d f : Nat) (low high : List Int) (us : List Bool) (w : World) (hS : RI w A c low) (hT : RI w B d high) (hU : RB w C f us) :
    Calls Try.prog 23 #[.slice A low.length c, .slice B high.length d, .slice C us.length f] w (ChooseP low high us w) := by
  by_cases h1 : low.length ≠ us.length ∨ high.length ≠ us.length ∨ 128 < us.length
  · exact schoose1 A B C c d f low high us w h1 hS.len hT.len hU.len
  · cases h6 : isBoth low high us.length
    · exact schoose6 A B C c d f low high us w hS hT hU (by omega) (by omega) (by omega) h6
    · cases h5 : (bndL low high (walkK us us.length)).all (fun b => decide (b.1 ≤ b.2))
      · exact schoose5 A B C c d f low high us w hS hT hU (by omega) (by omega) (by omega) h6 h5
      · exact schoose0 A B C c d f low high us w hS hT hU (by omega) (by omega) (by omega) h6 h5

/-! ### The document's tables -/
def farI : Int := 1099511627776
def lenI (d : Int) : Int := nth 0 tabI (d + 95).toNat
/-- The first one of the least cost, with that cost, of the first ones. -/
def bstS (C : Int → Int) (st : Int × Int) (x : Int) : Int × Int := if C x < st.1 then (C x, x) else st
def bstF (C : Int → Int) (xs : List Int) : Int × Int := xs.foldl (bstS C) (farI, -1)
theorem bstF_snoc (C : Int → Int) (xs : List Int) (x : Int) : bstF C (xs ++ [x]) = bstS C (bstF C xs) x := by simp [bstF]
def goC (nx : List Int) (s t : Int) : Int := nth 0 nx t.toNat + lenI (t - s)
def rowRV (last : Bool) (nx : List Int) (lo hi s : Int) : Int := if s < lo ∨ hi < s then farI else if last = true then 0 else (bstF (goC nx s) allL).1
def rowRF (last : Bool) (nx : List Int) (b : Int × Int) : List Int := (List.range 96).map fun s => rowRV last nx b.1 b.2 ((s : Nat) : Int)
def tabR : List (Int × Int) → List (List Int)
  | [] => []
  | b :: r => rowRF r.isEmpty ((tabR r).headD []) b :: tabR r
theorem tabR_length : ∀ l, (tabR l).length = l.length
  | [] => rfl
  | b :: r => by simp [tabR, tabR_length r]
theorem rowRF_length (last : Bool) (nx : List Int) (b : Int × Int) : (rowRF last nx b).length = 96 := by simp [rowRF]
theorem rowRF_nth (last : Bool) (nx : List Int) (b : Int × Int) (s : Nat) (h : s < 96) : nth 0 (rowRF last nx b) s = rowRV last nx b.1 b.2 (s : Int) := by
  rw [nth_eq 0 _ s (by rw [rowRF_length]; exact h)]; simp [rowRF]
theorem tabR_nth : ∀ (l : List (Int × Int)) (k : Nat), k < l.length → nth [] (tabR l) k = rowRF (decide (k + 1 = l.length)) (nth [] (tabR l) (k + 1)) (nth (0, 0) l k)
  | b :: r, 0, _ => by
    rw [tabR, nth_cons_zero, nth_cons_succ, nth_cons_zero, headD_nth]
    congr 1
    cases r <;> simp
  | b :: r, k + 1, h => by
    rw [tabR, nth_cons_succ, nth_cons_succ, nth_cons_succ, tabR_nth r k (by simpa using h)]
    congr 1
    simp
theorem tabR_row_length (l : List (Int × Int)) (k : Nat) (h : k < l.length) : (nth [] (tabR l) k).length = 96 := by rw [tabR_nth l k h, rowRF_length]
theorem lenI_bd (d : Int) (h : -95 ≤ d ∧ d ≤ 95) : 1 ≤ lenI d ∧ lenI d ≤ 15 := by
  unfold lenI
  rw [tabI_nth _ (by omega)]
  have := tabS_bound (d + 95).toNat (by omega)
  omega
theorem lenI_step (d : Int) (h : -95 ≤ d ∧ d ≤ 95) : lenI d = (stepL d : Int) := by
  unfold lenI stepL
  rw [tabI_nth _ (by omega)]
theorem bstF_bd (C : Int → Int) (xs : List Int) (h : ∀ x ∈ xs, 0 ≤ C x) : 0 ≤ (bstF C xs).1 ∧ (bstF C xs).1 ≤ farI := by
  suffices h2 : ∀ (st : Int × Int), 0 ≤ st.1 → st.1 ≤ farI → 0 ≤ (xs.foldl (bstS C) st).1 ∧ (xs.foldl (bstS C) st).1 ≤ farI from h2 (farI, -1) (by decide) (by decide)
  induction xs with
  | nil => intro st h1 h2; exact ⟨h1, h2⟩
  | cons x xs ih =>
    intro st h1 h2
    rw [List.foldl_cons]
    have hx := h x List.mem_cons_self
    refine ih (fun y hy => h y (List.mem_cons_of_mem _ hy)) _ ?_ ?_
    · unfold bstS; split
      · exact hx
      · exact h1
    · unfold bstS; split
      · show C x ≤ farI; omega
      · exact h2
theorem allL_take_mem {k : Nat} {x : Int} (h : x ∈ allL.take k) : 0 ≤ x ∧ x < 96 := allL_mem (List.mem_of_mem_take h)
theorem tabR_bd : ∀ (l : List (Int × Int)), ∀ row ∈ tabR l, ∀ x ∈ row, 0 ≤ x ∧ x ≤ farI
  | [], _, h, _, _ => by cases h
  | b :: r, row, h, x, hx => by
    rw [tabR] at h
    rcases List.mem_cons.1 h with rfl | h
    · simp only [rowRF, List.mem_map, List.mem_range] at hx
      obtain ⟨s, hs, rfl⟩ := hx
      unfold rowRV
      split
      · exact ⟨by decide, Int.le_refl _⟩
      · split
        · exact ⟨Int.le_refl _, by decide⟩
        · refine bstF_bd _ _ fun t ht => ?_
          have h3 := allL_mem ht
          have h4 := lenI_bd (t - (s : Int)) (by omega)
          have h5 : 0 ≤ nth 0 ((tabR r).headD []) t.toNat := by
            rcases Nat.lt_or_ge t.toNat ((tabR r).headD []).length with h6 | h6
            · cases hq : tabR r with
              | nil => rw [hq] at h6; simp at h6
              | cons y ys => rw [hq] at h6; exact (tabR_bd r y (by rw [hq]; exact List.mem_cons_self) _ (nth_mem 0 _ _ h6)).1
            · rw [nth_past 0 _ _ h6]; exact Int.le_refl _
          unfold goC
          omega
    · exact tabR_bd r row h x hx
theorem tabR_nth_bd (l : List (Int × Int)) (k s : Nat) : 0 ≤ nth 0 (nth [] (tabR l) k) s ∧ nth 0 (nth [] (tabR l) k) s ≤ farI := by
  rcases Nat.lt_or_ge k (tabR l).length with h | h
  · rcases Nat.lt_or_ge s (nth [] (tabR l) k).length with h2 | h2
    · exact tabR_bd l _ (nth_mem [] _ k h) _ (nth_mem 0 _ s h2)
    · rw [nth_past 0 _ s h2]; exact ⟨Int.le_refl _, by decide⟩
  · rw [nth_past [] _ k h, nth_past 0 _ s (by simp)]; exact ⟨Int.le_refl _, by decide⟩

/-! ### Rows of rows -/
/-- Rows number m and on lie in blocks behind block g, which holds the rows. -/
def RowsAt (T : List (List Int)) (n g m : Nat) (W : World) (cells : List Value) : Prop :=
  Blk W g cells.toArray 22 ∧ cells.length = n ∧ ∀ j, m ≤ j → j < n → ∃ gj, cells[j]? = some (.slice (some ⟨gj, 0, none⟩) 96 96) ∧ g < gj ∧ Blk W gj (nums .i64 (nth [] T j)).toArray 3
theorem RowsAt.keep {T : List (List Int)} {n g m : Nat} {W W' : World} {cells : List Value} {ok : Nat → Prop} (h : RowsAt T n g m W cells) (hk : Keep ok W W') (ho : ∀ b, b < W.heap.size → ok b) : RowsAt T n g m W' cells :=
  ⟨h.1.keep hk (ho _ h.1.lt), h.2.1, fun j h1 h2 => by
    obtain ⟨gj, a, b, c⟩ := h.2.2 j h1 h2
    exact ⟨gj, a, b, c.keep hk (ho _ c.lt)⟩⟩
theorem RowsAt.upd {T : List (List Int)} {n g m : Nat} {W W' : World} {cells : List Value} {o : Nat → Prop} (h : RowsAt T n g m W cells) (hu : Upd o W W') (ho : ∀ b, b < W.heap.size → ¬ o b) : RowsAt T n g m W' cells :=
  ⟨(hu.blk g h.1.lt (ho g h.1.lt)).trans h.1, h.2.1, fun j h1 h2 => by
    obtain ⟨gj, a, b, c⟩ := h.2.2 j h1 h2
    exact ⟨gj, a, b, (hu.blk gj c.lt (ho gj c.lt)).trans c⟩⟩
/-- One more row. -/
theorem RowsAt.put {T : List (List Int)} {n g k gk : Nat} {W W1 : World} {cells : List Value} (h : RowsAt T n g (k + 1) W cells) (hk : k < n) (hg : g < gk) (hb : Blk W1 g (cells.set k (.slice (some ⟨gk, 0, none⟩) 96 96)).toArray 22)
    (hr : Blk W1 gk (nums .i64 (nth [] T k)).toArray 3) (ho : ∀ b, b < W.heap.size → b ≠ g → W1.heap[b]? = W.heap[b]?) : RowsAt T n g k W1 (cells.set k (.slice (some ⟨gk, 0, none⟩) 96 96)) := by
  refine ⟨hb, by rw [List.length_set]; exact h.2.1, fun j h1 h2 => ?_⟩
  rcases Nat.lt_or_ge k j with h3 | h3
  · obtain ⟨gj, a, b, c⟩ := h.2.2 j (by omega) h2
    exact ⟨gj, by rw [List.getElem?_set_ne (by omega)]; exact a, b, (ho gj c.lt (by omega)).trans c⟩
  · obtain rfl : j = k := by omega
    exact ⟨gk, by rw [List.getElem?_set_self (by rw [h.2.1]; exact hk)], hg, hr⟩
theorem RowsAt.read {T : List (List Int)} {n g : Nat} {W : World} {cells : List Value} (h : RowsAt T n g 0 W cells) (hT : T.length = n) (hl : ∀ j, j < n → (nth [] T j).length = 96) (hn : n ≤ 1000) : R2 W (some ⟨g, 0, none⟩) n T := by
  refine ⟨by omega, by omega, fun j hj => ?_⟩
  obtain ⟨gj, a, b, c⟩ := h.2.2 j (Nat.zero_le _) (by omega)
  refine ⟨_, _, rfl, trivial, h.1.lt, ⟨some ⟨gj, 0, none⟩, 96, rfl, ⟨by rw [show (kSl (kInt .i64)).dflt = [] from rfl, hl j (by omega)]; exact Nat.le_refl _, by decide, fun i hi => ?_⟩⟩, fun i v hv => ?_⟩
  · rw [show (kSl (kInt .i64)).dflt = [] from rfl] at hi ⊢
    refine ⟨_, _, rfl, trivial, c.lt, rfl, fun i2 v hv => ?_⟩
    match i2, hv with
    | 0, hv =>
      have hv : (Value.int .i64 (nth 0 (nth [] T j) i)) = v := Option.some.inj hv
      subst hv
      rw [add_plain, show i * (kInt .i64).size + 0 = i from Nat.mul_one i]
      exact blk_nums c i hi
  · match i, hv with
    | 0, hv =>
      rw [show (kSl (kInt .i64)).dflt = [] from rfl, hl j (by omega)] at hv
      have hv : (Value.slice (some ⟨gj, 0, none⟩) 96 96) = v := Option.some.inj hv
      subst hv
      rw [add_plain, show j * (kSl (kInt .i64)).size + 0 = j from Nat.mul_one j]
      exact h.1.cell _ (by rw [List.getElem?_toArray]; exact a)
end Go.Proofs.Ytkfgomhhenmmeaa

namespace Go.Proofs.Ytkfgomhhenmmeaa
open Go.RowKit

theorem infoSl : (Try.prog.info? 22).map (fun i => (i.zero, i.size, i.bytes)) = some (some (.slice none 0 0), 1, 24) := by kernel_rfl
theorem make_slices (n : Nat) (hn : n ≤ 100000) : ∀ W : World, (Instr.makeSlice 69 (.int .i64 (n : Int)) (.int .i64 (n : Int))).run Try.prog W = .ok (.slice (some ⟨W.heap.size, 0, none⟩) n n) (W.alloc (.cells (List.replicate n (.slice none 0 0)).toArray 22)) := by
  intro W
  have h := run_make_row' (P := Try.prog) 69 22 (.slice none 0 0) 24 Try.underlying69 infoSl rfl .i64 .i64 n (by omega) (by omega) W
  have e : madeCells #[.slice none 0 0] n = (List.replicate n (.slice none 0 0)).toArray := by
    apply Array.toList_inj.1
    rw [toList_madeCells_one]
  rw [← e]
  exact h
theorem make_nums (m n : Nat) (hn : n ≤ 100000) (hm : m = n) : ∀ W : World, (Instr.makeSlice 22 (.int .i64 (n : Int)) (.int .i64 (n : Int))).run Try.prog W = .ok (.slice (some ⟨W.heap.size, 0, none⟩) n n) (W.alloc (.cells (nums .i64 (List.replicate m 0)).toArray 3)) := by
  subst hm
  intro W
  have h := make_row (P := Try.prog) 22 3 .i64 8 Try.underlying22 infoI (by decide) m (by omega) W
  have e : madeCells #[.int .i64 0] m = (nums .i64 (List.replicate m 0)).toArray := by
    apply Array.toList_inj.1
    rw [toList_madeCells_one]
    simp [nums]
  rw [← e]
  exact h

set_option maxHeartbeats 4000000 in
set_option maxRecDepth 100000 in
theorem rleast_any (A B C : Option Addr) (c d f : Nat) (bs : List (Int × Int)) (w : World) (hS : RI w A c (bs.map Prod.fst)) (hT : RI w B d (bs.map Prod.snd)) (hL : RI w C f tabI) (hl : bs.length ≤ 128) :
    Calls Try.prog 75 #[.slice A bs.length c, .slice B bs.length d, .slice C 191 f] w
      fun e w' => ∃ g cells, e = .returned (.slice (some ⟨g, 0, none⟩) bs.length bs.length) ∧ RowsAt (tabR bs) bs.length g 0 w' cells ∧ Below w.heap.size w w' := by
  obtain ⟨n, hn⟩ : ∃ n, bs.length = n := ⟨_, rfl⟩
  have hmk := make_slices n (by omega)
  obtain ⟨zs, hzs⟩ : ∃ zs : List Int, List.replicate 96 0 = zs := ⟨_, rfl⟩
  have hmk2 := make_nums 96 96 (by decide) rfl
  rw [hzs] at hmk2
  replace hmk2 : ∀ W : World, (Instr.makeSlice 22 (.int .i64 96) (.int .i64 96)).run Try.prog W = .ok (.slice (some ⟨W.heap.size, 0, none⟩) 96 96) (W.alloc (.cells (nums .i64 zs).toArray 3)) := hmk2
  have HZL := Lib.hid (show zs.length = 96 by rw [← hzs, List.length_replicate])
  have HS := Lib.hid hS
  have HTT := Lib.hid hT
  have HLL := Lib.hid hL
  have HN := Lib.hid (show bs.length = n ∧ n ≤ 128 from ⟨hn, by omega⟩)
  have hw2 : IntKind.i64.wrap ((n : Int) - 1) = (n : Int) - 1 := IntWalk.i64_in _ (by omega)
  have HTR := Lib.hid (tabR_row_length bs)
  have HTN := Lib.hid (tabR_nth bs)
  have HTL := Lib.hid (tabR_nth_bd bs)
  rw [hn] at HTR HTN ⊢
  obtain ⟨T, hTe⟩ : ∃ T, tabR bs = T := ⟨_, rfl⟩
  rw [hTe] at HTR HTN HTL ⊢
  clear hS hT hL hTe hl hn hzs
  go_enter Try.func75, Try.ntmps75
  go_wp2
  obtain ⟨g0, hg0⟩ : ∃ g0, w.heap.size = g0 := ⟨_, rfl⟩
  have hB0 : Blk (w.alloc (.cells (List.replicate n (.slice none 0 0)).toArray 22)) g0 (List.replicate n (.slice none 0 0)).toArray 22 := by rw [← hg0]; exact heap_alloc_new w _
  have hb0 := below_alloc (Below.refl w.heap.size w) (.cells (List.replicate n (.slice none 0 0)).toArray 22)
  have hD0 : RowsAt T n g0 n _ _ := ⟨hB0, List.length_replicate, fun j h1 h2 => by omega⟩
  have HG0 := Lib.hid hg0
  simp only [hg0]
  clear hg0 hmk hB0
  go_loopw [9] (fun kv wr => ∃ m : Nat, kv = .int .i64 ((m : Int) - 1) ∧ m ≤ n ∧ Hid (∃ cells, RowsAt T n g0 m wr cells) ∧ Hid (Below w.heap.size w wr)) (fun kv _ => (intOf kv + 1).toNat)
  case atStart => exact ⟨n, rfl, Nat.le_refl _, Lib.hid ⟨_, hD0⟩, Lib.hid hb0⟩
  case round =>
    clear hb0 hD0
    obtain ⟨m, rfl, hm, hX, hB⟩ := hrel
    by_cases h0 : m = 0
    · subst h0
      have hd : decide ((0 : Int) ≤ ((0 : Nat) : Int) - 1) = false := by decide
      go_wp2
      go_ret
      obtain ⟨cells, hx⟩ := hX.out
      exact ⟨g0, cells, rfl, hx, hB.out⟩
    · obtain ⟨k, rfl⟩ : ∃ k, m = k + 1 := ⟨m - 1, by omega⟩
      have hkz : (((k + 1 : Nat) : Int)) - 1 = (k : Int) := by omega
      simp only [hkz]
      have hd : decide ((0 : Int) ≤ (k : Int)) = true := decide_eq_true (by omega)
      have hwk : IntKind.i64.wrap ((k : Int) - 1) = (k : Int) - 1 := IntWalk.i64_in _ (by have := HN.out; omega)
      have hki : (k : Int) < (n : Int) := by omega
      obtain ⟨cells, hx⟩ := hX.out
      obtain ⟨u, hu⟩ : ∃ u, cells[k]? = some u := ⟨_, List.getElem?_eq_getElem (by rw [hx.2.1]; omega)⟩
      have c1 := hx.1.cell k (by rw [List.getElem?_toArray]; exact hu)
      have f1 := hx.1.free k
      have hlt0 := hx.1.lt
      have hne0 : g0 ≠ wr.heap.size := by omega
      have HX := Lib.hid hx
      clear hkz h0 hx hu hX
      go_wp2
      obtain ⟨gk, hgk⟩ : ∃ gk, wr.heap.size = gk := ⟨_, rfl⟩
      simp only [hgk]
      obtain ⟨Wa, hWa⟩ : ∃ Wa, wr.setCell ⟨g0, k, none⟩ (.slice (some ⟨gk, 0, none⟩) 96 96) = Wa := ⟨_, rfl⟩
      simp only [hWa]
      have hsa : Wa.heap.size = gk := by rw [← hWa, ← hgk]; simp
      have hga : wr.grownBy Wa (some g0) := by rw [← hWa]; exact grown_setCell _ g0 k _
      have qa : Blk Wa g0 (cells.set k (.slice (some ⟨gk, 0, none⟩) 96 96)).toArray 22 := by
        rw [← hWa]
        have h9 := HX.out.1.set k (.slice (some ⟨gk, 0, none⟩) 96 96)
        rwa [List.setIfInBounds_toArray] at h9
      obtain ⟨W1, hW1⟩ : ∃ W1, Wa.alloc (.cells (nums .i64 zs).toArray 3) = W1 := ⟨_, rfl⟩
      simp only [hW1]
      have ba := below_alloc (Below.refl Wa.heap.size Wa) (.cells (nums .i64 zs).toArray 3)
      have q1 : Blk W1 gk (nums .i64 zs).toArray 3 := by rw [← hW1, ← hsa]; exact heap_alloc_new Wa _
      rw [hW1] at ba
      have q0 := qa.below ba
      have hold : ∀ b, b < wr.heap.size → b ≠ g0 → W1.heap[b]? = wr.heap[b]? := fun b hb hne =>
        (ba.block b (by omega)).trans (hga.block b hb (fun e => hne (Option.some.inj e)))
      have hb1 : Below w.heap.size w W1 := below2 (hB.out.grown hga hB.out.size (fun r e => by cases e; have := HG0.out; omega)) ba
      have HQ0 := Lib.hid q0
      have HOLD := Lib.hid hold
      have HB1 := Lib.hid hb1
      have HGK := Lib.hid (show g0 < gk ∧ wr.heap.size = gk ∧ w.heap.size = g0 ∧ cells.length = n ∧ k < n from ⟨by omega, hgk, HG0.out, HX.out.2.1, by omega⟩)
      have hst : ∃ xs, Blk W1 gk (nums .i64 xs).toArray 3 ∧ xs.length = 96 ∧ ∀ t, t < 0 → nth 0 xs t = nth 0 (nth [] T k) t := ⟨zs, q1, HZL.out, fun t h => by omega⟩
      clear hgk hW1 hWa hsa hga qa ba q1 q0 hold hb1 c1 f1 hlt0 hne0
      go_loopw [32] (fun sv wr2 => ∃ s : Nat, sv = .int .i64 (s : Int) ∧ s ≤ 96 ∧ Hid (∃ xs, Blk wr2 gk (nums .i64 xs).toArray 3 ∧ xs.length = 96 ∧ ∀ t, t < s → nth 0 xs t = nth 0 (nth [] T k) t) ∧ Hid (Upd (fun x => x = gk) W1 wr2)) (fun sv _ => 96 - (intOf sv).toNat)
      case atStart => exact ⟨0, rfl, by omega, Lib.hid hst, Lib.hid (Upd.refl _ _)⟩
      case round =>
        clear hst
        obtain ⟨s, rfl, hs, hXS, hU⟩ := hrel
        by_cases hlt : s < 96
        · have hsi : (s : Int) < 96 := by omega
          obtain ⟨xs, x1, x2, x3⟩ := hXS.out
          have hkn : k < n := HGK.out.2.2.2.2
          have z0 := HQ0.out.keep (hU.out.keep (ok := fun x => x ≠ gk) fun _ h => h) (by have := HGK.out; omega)
          have k0 : wr.cell? ⟨g0, k, none⟩ = some (.slice (some ⟨gk, 0, none⟩) 96 96) := z0.cell k (by rw [List.getElem?_toArray, List.getElem?_set_self (by have := HGK.out; omega)])
          have c2 := blk_nums x1 s (by omega)
          have f2 := x1.free s
          obtain ⟨W2, hW2⟩ : ∃ W2, wr.setCell ⟨gk, s, none⟩ (.int .i64 1099511627776) = W2 := ⟨_, rfl⟩
          have y1 := blk_set_nums x1 s 1099511627776
          have hu2 : Upd (fun x => x = gk) W1 W2 := by rw [← hW2]; exact hU.out.trans (Upd.setCell (fun x => x = gk) _ gk s _ rfl) fun _ _ h => h
          rw [hW2] at y1
          have hb2 : Below w.heap.size w W2 := HB1.out.trans (hu2.below HB1.out.size (fun x _ e => by have := HGK.out; omega))
          have hk1 : k < (bs.map Prod.fst).length := by rw [List.length_map]; have := HN.out; omega
          obtain ⟨ad, rfl, b1⟩ := rd_int (HS.out.below hb2) k hk1
          obtain ⟨ad2, rfl, b2⟩ := rd_int (HTT.out.below hb2) k (by rw [List.length_map]; have := HN.out; omega)
          have e1 : nth 0 (bs.map Prod.fst) k = (nth (0, 0) bs k).1 := by simp [nth, List.getD_eq_getElem?_getD, show k < bs.length by have := HN.out; omega]
          have e2 : nth 0 (bs.map Prod.snd) k = (nth (0, 0) bs k).2 := by simp [nth, List.getD_eq_getElem?_getD, show k < bs.length by have := HN.out; omega]
          rw [e1] at b1
          rw [e2] at b2
          have HV := Lib.hid (show nth 0 (nth [] T k) s = rowRV (decide (k + 1 = n)) (nth [] T (k + 1)) (nth (0, 0) bs k).1 (nth (0, 0) bs k).2 (s : Int) by rw [HTN.out k hkn, rowRF_nth _ _ _ s hlt])
          generalize (nth (0, 0) bs k).1 = lo at b1 HV
          generalize (nth (0, 0) bs k).2 = hi at b2 HV
          have HY := Lib.hid y1
          have HU2 := Lib.hid hu2
          have HB2 := Lib.hid hb2
          have HXL := Lib.hid (show xs.length = 96 ∧ s < 96 ∧ ∀ t, t < s → nth 0 xs t = nth 0 (nth [] T k) t from ⟨x2, hlt, x3⟩)
          have HNX := Lib.hid (fun (v : Int) (hv : nth 0 (nth [] T k) s = v) t (ht : t < s + 1) => show nth 0 (xs.set s v) t = nth 0 (nth [] T k) t from by
            rw [nth_set _ _ _ _ (by rw [HXL.out.1]; exact HXL.out.2.1)]
            split
            · rename_i e; subst e; exact hv.symm
            · exact HXL.out.2.2 t (by omega))
          clear x1 x2 x3 z0 y1 hu2 hb2 hk1 e1 e2 hXS hlt hkn
          by_cases h1 : (s : Int) < lo
          · have e1 : decide ((s : Int) < lo) = true := decide_eq_true h1
            have HR := Lib.hid (show nth 0 (nth [] T k) s = 1099511627776 by rw [HV.out]; unfold rowRV; rw [if_pos (.inl h1)]; rfl)
            clear h1
            go_wp2
            go_roundw
            case rel => exact ⟨s + 1, by go_num, by have := HXL.out; omega, Lib.hid ⟨_, HY.out, by rw [List.length_set]; exact HXL.out.1, HNX.out _ HR.out⟩, HU2⟩
            case measure => simp [intOf] <;> (have := HXL.out; omega)
          · have e1 : decide ((s : Int) < lo) = false := decide_eq_false h1
            by_cases h2 : hi < (s : Int)
            · have e2 : decide (hi < (s : Int)) = true := decide_eq_true h2
              have HR := Lib.hid (show nth 0 (nth [] T k) s = 1099511627776 by rw [HV.out]; unfold rowRV; rw [if_pos (.inr h2)]; rfl)
              clear h1 h2
              go_wp2
              go_roundw
              case rel => exact ⟨s + 1, by go_num, by have := HXL.out; omega, Lib.hid ⟨_, HY.out, by rw [List.length_set]; exact HXL.out.1, HNX.out _ HR.out⟩, HU2⟩
              case measure => simp [intOf] <;> (have := HXL.out; omega)
            · have e2 : decide (hi < (s : Int)) = false := decide_eq_false h2
              have c3 := blk_nums HY.out s (by rw [List.length_set]; have := HXL.out; omega)
              have f3 := HY.out.free s
              have z2 := HQ0.out.keep (HU2.out.keep (ok := fun x => x ≠ gk) fun _ h => h) (by have := HGK.out; omega)
              have k2 : W2.cell? ⟨g0, k, none⟩ = some (.slice (some ⟨gk, 0, none⟩) 96 96) := z2.cell k (by rw [List.getElem?_toArray, List.getElem?_set_self (by have := HGK.out; omega)])
              by_cases h3 : k + 1 = n
              · have e3 : ((k : Int) == (n : Int) - 1) = true := by simp; omega
                have HR := Lib.hid (show nth 0 (nth [] T k) s = 0 by rw [HV.out]; unfold rowRV; rw [if_neg (by omega), if_pos (by simp [h3])])
                clear h1 h2 h3 z2
                go_wp2
                go_roundw
                case rel =>
                  have hz := blk_set_nums HY.out s 0
                  rw [List.set_set] at hz
                  exact ⟨s + 1, by go_num, by have := HXL.out; omega, Lib.hid ⟨_, hz, by rw [List.length_set]; exact HXL.out.1, HNX.out _ HR.out⟩, Lib.hid (HU2.out.trans (Upd.setCell (fun x => x = gk) _ gk s _ rfl) fun _ _ h => h)⟩
                case measure => simp [intOf] <;> (have := HXL.out; omega)
              · have e3 : ((k : Int) == (n : Int) - 1) = false := by simp; omega
                obtain ⟨k1, hk1⟩ : ∃ k1, k + 1 = k1 := ⟨_, rfl⟩
                have hkn := HGK.out.2.2.2.2
                have hwk1 : IntKind.i64.wrap ((k : Int) + 1) = (k1 : Int) := by rw [IntWalk.i64_in _ (by have := HN.out; omega)]; omega
                have hk1n : k1 < n := by omega
                have hki1 : (k1 : Int) < (n : Int) := by omega
                obtain ⟨gn, hgn, hgn2, hgn3⟩ := HX.out.2.2 k1 (by omega) hk1n
                have hgl := hgn3.lt
                have hn1 : Blk W1 gn (nums .i64 (nth [] T k1)).toArray 3 := (HOLD.out gn hgl (by omega)).trans hgn3
                have k3 : W2.cell? ⟨g0, k1, none⟩ = some (.slice (some ⟨gn, 0, none⟩) 96 96) := z2.cell k1 (by rw [List.getElem?_toArray, List.getElem?_set_ne (by omega)]; exact hgn)
                have HR := Lib.hid (show nth 0 (nth [] T k) s = (bstF (goC (nth [] T k1) (s : Int)) allL).1 by rw [HV.out, hk1]; unfold rowRV; rw [if_neg (by omega), if_neg (by simp; omega)])
                have HRL := Lib.hid (HTR.out k1 hk1n)
                have HRB := Lib.hid (fun t => HTL.out k1 t)
                obtain ⟨R, hR⟩ : ∃ R, nth [] T k1 = R := ⟨_, rfl⟩
                rw [hR] at HR HRL HRB hn1
                have HGN := Lib.hid (show gn ≠ gk ∧ gn < W1.heap.size from ⟨by have := HGK.out; omega, hn1.lt⟩)
                have HN1 := Lib.hid hn1
                clear h1 h2 h3 hk1 hk1n hR hgn hgn2 hgn3 hgl hn1 hkn z2 c3 f3
                go_wp2
                have hst : Blk W2 gk (nums .i64 (xs.set s (bstF (goC R (s : Int)) (allL.take 0)).1)).toArray 3 := HY.out
                go_loopw [71] (fun tv wr3 => ∃ t : Nat, tv = .int .i64 (t : Int) ∧ t ≤ 96 ∧ Hid (Blk wr3 gk (nums .i64 (xs.set s (bstF (goC R (s : Int)) (allL.take t)).1)).toArray 3) ∧ Hid (Upd (fun x => x = gk) W1 wr3)) (fun tv _ => 96 - (intOf tv).toNat)
                case atStart => exact ⟨0, rfl, by omega, Lib.hid hst, HU2⟩
                case round =>
                  clear hst k2 k3
                  obtain ⟨t, rfl, ht, hXT, hUT⟩ := hrel
                  by_cases hlt2 : t < 96
                  · have hti : (t : Int) < 96 := by omega
                    have hkq := hUT.out.keep (ok := fun x => x ≠ gk) fun _ h => h
                    have z3 := HQ0.out.keep hkq (by have := HGK.out; omega)
                    have k3 : wr.cell? ⟨g0, k, none⟩ = some (.slice (some ⟨gk, 0, none⟩) 96 96) := z3.cell k (by rw [List.getElem?_toArray, List.getElem?_set_self (by have := HGK.out; omega)])
                    have z4 := HN1.out.keep hkq HGN.out.1
                    have c4 := blk_nums z4 t (by rw [HRL.out]; exact hlt2)
                    have c5 := blk_nums hXT.out s (by rw [List.length_set]; have := HXL.out; omega)
                    rw [nth_set _ _ _ _ (by have := HXL.out; omega), if_pos rfl] at c5
                    have f5 := hXT.out.free s
                    have hb3 : Below w.heap.size w wr := HB1.out.trans (hUT.out.below HB1.out.size (fun x _ e => by have := HGK.out; omega))
                    have hs9 := HXL.out.2.1
                    obtain ⟨q, hq⟩ : ∃ q : Nat, (t : Int) - (s : Int) + 95 = (q : Int) := ⟨((t : Int) - (s : Int) + 95).toNat, by omega⟩
                    have hql : q < 191 := by omega
                    obtain ⟨ad3, rfl, c6⟩ := rd_int (HLL.out.below hb3) q (by rw [tabI_length]; exact hql)
                    have hw5 : IntKind.i64.wrap ((t : Int) - (s : Int)) = (t : Int) - (s : Int) := IntWalk.i64_in _ (by omega)
                    have hw6 : IntKind.i64.wrap ((t : Int) - (s : Int) + 95) = (q : Int) := by rw [hq]; exact IntWalk.i64_in _ (by omega)
                    have hqi : (q : Int) < 191 := by omega
                    have hLq : nth 0 tabI q = lenI ((t : Int) - (s : Int)) := by unfold lenI; rw [hq, Int.toNat_natCast]
                    rw [hLq] at c6
                    have hlb := lenI_bd ((t : Int) - (s : Int)) (by omega)
                    have hcb := HRB.out t
                    have hab := bstF_bd (goC R (s : Int)) (allL.take t) (fun x hx => by
                      have h3 := allL_take_mem hx
                      have h4 := lenI_bd (x - (s : Int)) (by omega)
                      have h5 := HRB.out x.toNat
                      unfold goC; omega)
                    have htk := take_succ_nth 0 allL t (by rw [allL_length]; exact hlt2)
                    rw [allL_nth t hlt2] at htk
                    have HSN := Lib.hid (show (bstF (goC R (s : Int)) (allL.take (t + 1))).1 = if nth 0 R t + lenI ((t : Int) - (s : Int)) < (bstF (goC R (s : Int)) (allL.take t)).1 then nth 0 R t + lenI ((t : Int) - (s : Int)) else (bstF (goC R (s : Int)) (allL.take t)).1 by
                      rw [htk, bstF_snoc]
                      unfold bstS
                      have hg : goC R (s : Int) (t : Int) = nth 0 R t + lenI ((t : Int) - (s : Int)) := by unfold goC; rw [Int.toNat_natCast]
                      rw [hg]
                      split <;> rfl)
                    unfold farI at hab hcb
                    generalize lenI ((t : Int) - (s : Int)) = L at c6 hlb HSN
                    generalize nth 0 R t = cc at c4 hcb HSN
                    obtain ⟨acc, hacc⟩ : ∃ acc, (bstF (goC R (s : Int)) (allL.take t)).1 = acc := ⟨_, rfl⟩
                    rw [hacc] at c5 hab HSN
                    have hw7 : IntKind.i64.wrap (cc + L) = cc + L := IntWalk.i64_in _ (by omega)
                    obtain ⟨mn, hmn⟩ : ∃ mn, (if cc + L < acc then cc + L else acc) = mn := ⟨_, rfl⟩
                    rw [hmn] at HSN
                    have HBX := Lib.hid hXT.out
                    rw [hacc] at HBX
                    have HUT := Lib.hid hUT.out
                    clear z3 z4 hkq hb3 hs9 hq hql hLq hlb hcb hab htk hacc hXT hUT hlt2
                    go_wp2
                    go_still_tail 22, (by kernel_rfl)
                    change wpList _ _ _ _ _ (World.drew _)
                    go_wp2
                    go_roundw
                    case rel =>
                      have hz := blk_set_nums HBX.out s mn
                      rw [List.set_set] at hz
                      exact ⟨t + 1, by go_num, by omega, Lib.hid (by rw [HSN.out]; exact hz.below (Below.refl _ _).drew), Lib.hid ((HUT.out.trans (Upd.setCell (fun x => x = gk) _ gk s _ rfl) fun _ _ h => h).trans (Upd.drew (fun x => x = gk) _) fun _ _ h => h)⟩
                    case measure => simp [intOf] <;> omega
                  · obtain rfl : t = 96 := by omega
                    have htk : allL.take 96 = allL := List.take_of_length_le (by rw [allL_length]; exact Nat.le_refl _)
                    have HXT := Lib.hid hXT.out
                    rw [htk, ← HR.out] at HXT
                    clear hlt2 ht htk hXT
                    go_wp2
                    go_roundw
                    case rel => exact ⟨s + 1, by go_num, by have := HXL.out; omega, Lib.hid ⟨_, HXT.out, by rw [List.length_set]; exact HXL.out.1, HNX.out _ rfl⟩, hUT⟩
                    case measure => simp [intOf] <;> (have := HXL.out; omega)
        · obtain rfl : s = 96 := by omega
          clear hs hlt
          go_wp2
          go_roundw
          case rel =>
            obtain ⟨xs, x1, x2, x3⟩ := hXS.out
            have hT96 : xs = nth [] T k := by
              apply List.ext_getElem
              · rw [x2, HTR.out k HGK.out.2.2.2.2]
              · intro i h1 h2
                have := x3 i (by omega)
                rwa [nth_eq 0 _ i h1, nth_eq 0 _ i h2] at this
            rw [hT96] at x1
            refine ⟨k, rfl, by omega, Lib.hid ⟨_, HX.out.put HGK.out.2.2.2.2 HGK.out.1 (HQ0.out.keep (hU.out.keep (ok := fun x => x ≠ gk) fun _ h => h) (by have := HGK.out; omega)) x1 (fun b hb hne => (hU.out.blk b (by have := HGK.out; have h9 := HOLD.out b hb hne; have h8 := Array.getElem?_eq_getElem hb; rw [h8] at h9; exact (Array.getElem?_eq_some_iff.1 h9).1) (by have := HGK.out; omega)).trans (HOLD.out b hb hne))⟩, Lib.hid (HB1.out.trans (hU.out.below HB1.out.size (fun x _ e => by have := HGK.out; omega)))⟩
          case measure => simp [intOf] <;> omega
end Go.Proofs.Ytkfgomhhenmmeaa

namespace Go.Proofs.Ytkfgomhhenmmeaa
open Go.RowKit

/-- One value that may not be, or the same one. -/
def Same1 (p r : Int) : Prop := (p < 0 ∧ farI ≤ r) ∨ (0 ≤ p ∧ p = r ∧ r < farI)
theorem best_same {V C : Int → Int} {xs : List Int} (h : ∀ x ∈ xs, Same1 (V x) (C x)) :
    ((lstF V xs).2 = false ∧ bstF C xs = (farI, -1)) ∨ ((lstF V xs).2 = true ∧ bstF C xs = (V (lstF V xs).1, (lstF V xs).1) ∧ 0 ≤ V (lstF V xs).1 ∧ V (lstF V xs).1 < farI) := by
  suffices h2 : ∀ (st : Int × Bool) (st' : Int × Int), ((st.2 = false ∧ st' = (farI, -1)) ∨ (st.2 = true ∧ st' = (V st.1, st.1) ∧ 0 ≤ V st.1 ∧ V st.1 < farI)) →
      (((xs.foldl (lstS V) st).2 = false ∧ xs.foldl (bstS C) st' = (farI, -1)) ∨ ((xs.foldl (lstS V) st).2 = true ∧ xs.foldl (bstS C) st' = (V (xs.foldl (lstS V) st).1, (xs.foldl (lstS V) st).1) ∧ 0 ≤ V (xs.foldl (lstS V) st).1 ∧ V (xs.foldl (lstS V) st).1 < farI)) from h2 (0, false) (farI, -1) (.inl ⟨rfl, rfl⟩)
  induction xs with
  | nil => intro st st' h2; exact h2
  | cons x xs ih =>
    intro st st' h2
    rw [List.foldl_cons, List.foldl_cons]
    refine ih (fun y hy => h y (List.mem_cons_of_mem _ hy)) _ _ ?_
    rcases h x List.mem_cons_self with ⟨h3, h4⟩ | ⟨h3, h4, h5⟩
    · have e1 : lstS V st x = st := by unfold lstS; rw [if_neg (by omega)]
      have e2 : bstS C st' x = st' := by
        unfold bstS
        rcases h2 with ⟨_, rfl⟩ | ⟨_, rfl, _, _⟩
        · rw [if_neg (by show ¬ C x < farI; omega)]
        · rw [if_neg (by show ¬ C x < V st.1; omega)]
      rw [e1, e2]; exact h2
    · rcases h2 with ⟨h6, rfl⟩ | ⟨h6, rfl, h7, h8⟩
      · have e1 : lstS V st x = (x, true) := by unfold lstS; rw [if_pos ⟨h3, .inl h6⟩]
        have e2 : bstS C (farI, -1) x = (C x, x) := by unfold bstS; rw [if_pos h5]
        rw [e1, e2]; exact .inr ⟨rfl, by rw [h4], h3, by rw [h4]; exact h5⟩
      · by_cases h9 : V x < V st.1
        · have e1 : lstS V st x = (x, true) := by unfold lstS; rw [if_pos ⟨h3, .inr h9⟩]
          have e2 : bstS C (V st.1, st.1) x = (C x, x) := by unfold bstS; rw [if_pos (by show C x < V st.1; omega)]
          rw [e1, e2]; exact .inr ⟨rfl, by rw [h4], h3, by rw [h4]; exact h5⟩
        · have e1 : lstS V st x = st := by unfold lstS; rw [if_neg (by rw [h6]; simp; omega)]
          have e2 : bstS C (V st.1, st.1) x = (V st.1, st.1) := by unfold bstS; rw [if_neg (by show ¬ C x < V st.1; omega)]
          rw [e1, e2]; exact .inr ⟨h6, rfl, h7, h8⟩
theorem lstF_false {V : Int → Int} {xs : List Int} (h : (lstF V xs).2 = false) : ∀ x ∈ xs, V x < 0 := by
  suffices h2 : ∀ (st : Int × Bool), (xs.foldl (lstS V) st).2 = false → st.2 = false ∧ ∀ x ∈ xs, V x < 0 from (h2 (0, false) h).2
  clear h
  induction xs with
  | nil => intro st h; exact ⟨h, fun x hx => by cases hx⟩
  | cons x xs ih =>
    intro st h
    rw [List.foldl_cons] at h
    obtain ⟨h1, h2⟩ := ih _ h
    have h3 : st.2 = false ∧ V x < 0 := by
      unfold lstS at h1
      split at h1
      · cases h1
      · rename_i h4
        refine ⟨h1, ?_⟩
        rw [h1] at h4
        simp at h4
        omega
    exact ⟨h3.1, fun y hy => by
      rcases List.mem_cons.1 hy with rfl | hy
      · exact h3.2
      · exact h2 y hy⟩
/-- Right bounds. -/
def RtB (bs : List (Int × Int)) : Prop := ∀ b ∈ bs, 0 ≤ b.1 ∧ b.1 ≤ b.2 ∧ b.2 ≤ 95
def AgreeRow (b : Int × Int) (p r : List Int) : Prop :=
  ∀ s : Nat, s < 96 → (((s : Int) < b.1 ∨ b.2 < (s : Int)) → nth 0 p s = -1 ∧ nth 0 r s = farI) ∧ (b.1 ≤ (s : Int) ∧ (s : Int) ≤ b.2 → 0 ≤ nth 0 p s ∧ nth 0 p s = nth 0 r s)
theorem AgreeRow.same {b : Int × Int} {p r : List Int} (h : AgreeRow b p r) {B : Int} (hp : ∀ s, nth 0 p s ≤ B) (hB : B < farI) (s : Nat) (hs : s < 96) : Same1 (nth 0 p s) (nth 0 r s) := by
  have h1 := h s hs
  by_cases h2 : (s : Int) < b.1 ∨ b.2 < (s : Int)
  · obtain ⟨e1, e2⟩ := h1.1 h2
    exact .inl ⟨by omega, by rw [e2]; exact Int.le_refl _⟩
  · obtain ⟨e1, e2⟩ := h1.2 (by omega)
    have := hp s
    exact .inr ⟨e1, e2, by omega⟩
theorem AgreeRow.go {b : Int × Int} {p r : List Int} (h : AgreeRow b p r) {B : Int} (hp : ∀ s, nth 0 p s ≤ B) (hB : B + 15 < farI) (f : Int) (hf : 0 ≤ f ∧ f ≤ 95) : ∀ x ∈ allL, Same1 (aftV p f x) (goC r f x) := fun x hx => by
  have h3 := allL_mem hx
  have h1 := h x.toNat (by omega)
  have hl := lenI_bd (x - f) (by omega)
  have hls := lenI_step (x - f) (by omega)
  unfold aftV goC
  have e : ((x.toNat : Nat) : Int) = x := by omega
  rw [e] at h1
  by_cases h2 : x < b.1 ∨ b.2 < x
  · obtain ⟨e1, e2⟩ := h1.1 h2
    rw [e1, e2]
    exact .inl ⟨by rw [if_pos (by decide)]; decide, by omega⟩
  · obtain ⟨e1, e2⟩ := h1.2 (by omega)
    have := hp x.toNat
    rw [if_neg (by omega)]
    exact .inr ⟨by omega, by omega, by omega⟩
theorem tab_agree : ∀ (bs : List (Int × Int)), RtB bs → bs.length ≤ 1000 → ∀ k, k < bs.length → AgreeRow (nth (0, 0) bs k) (nth [] (tabP bs) k) (nth [] (tabR bs) k)
  | [], _, _, k, hk => by simp at hk
  | b :: r, h, hl, 0, _ => by
    intro s hs
    rw [tabP, tabR, nth_cons_zero, nth_cons_zero, nth_cons_zero, rowF_nth _ _ _ s hs, rowRF_nth _ _ _ s hs]
    refine ⟨fun h1 => ⟨by unfold rowV; rw [if_pos h1], by unfold rowRV; rw [if_pos h1]⟩, fun h1 => ?_⟩
    have hn : ¬ ((s : Int) < b.1 ∨ b.2 < (s : Int)) := by omega
    unfold rowV rowRV
    simp only [if_neg hn]
    cases r with
    | nil => exact ⟨by simp, by simp⟩
    | cons b2 r2 =>
      have hA := tab_agree (b2 :: r2) (fun x hx => h x (List.mem_cons_of_mem _ hx)) (by simp at hl ⊢; omega) 0 (by simp)
      simp only [List.isEmpty_cons, Bool.false_eq_true, if_false]
      rw [headD_nth, headD_nth]
      rw [nth_cons_zero] at hA
      have hb := h b List.mem_cons_self
      have hb2 := h b2 (List.mem_cons_of_mem _ List.mem_cons_self)
      have hlen : (b2 :: r2).length ≤ 1000 := by simp at hl ⊢; omega
      have hgo := hA.go (B := 15 * ((b2 :: r2).length : Int)) (fun s => tabP_nth_le (b2 :: r2) 0 s) (by unfold farI; omega) (s : Int) (by omega)
      rcases best_same hgo with ⟨h2, _⟩ | ⟨_, h3, h4, _⟩
      · have h5 := lstF_false h2 b2.1 (by simp only [allL, List.mem_map, List.mem_range]; exact ⟨b2.1.toNat, by omega, by omega⟩)
        have h6 := (hA b2.1.toNat (by omega)).2 (by omega)
        unfold aftV at h5
        rw [if_neg (by omega)] at h5
        omega
      · rw [h3]; exact ⟨h4, rfl⟩
  | b :: r, h, hl, k + 1, hk => by
    rw [tabP, tabR, nth_cons_succ, nth_cons_succ, nth_cons_succ]
    exact tab_agree r (fun x hx => h x (List.mem_cons_of_mem _ hx)) (by simp at hl; omega) k (by simpa using hk)

/-! ### What is chosen -/
def selV (row o : List Int) (k : Nat) : Int → Int := if 0 < k then aftV row (nth 0 o (k - 1)) else fun t => nth 0 row t.toNat
def selP (T : List (List Int)) : Nat → List Int
  | 0 => []
  | k + 1 => selP T k ++ [(lstF (selV (nth [] T k) (selP T k) k) allL).1]
def bouC (row o : List Int) (k : Nat) (t : Int) : Int := if 0 < k then nth 0 row t.toNat + lenI (t - nth 0 o (k - 1)) else nth 0 row t.toNat
def bouP (T : List (List Int)) : Nat → List Int
  | 0 => []
  | k + 1 => bouP T k ++ [(bstF (bouC (nth [] T k) (bouP T k) k) allL).2]
theorem selP_length (T : List (List Int)) : ∀ k, (selP T k).length = k
  | 0 => rfl
  | k + 1 => by simp [selP, selP_length T k]
theorem bouP_length (T : List (List Int)) : ∀ k, (bouP T k).length = k
  | 0 => rfl
  | k + 1 => by simp [bouP, bouP_length T k]
theorem selP_range (T : List (List Int)) : ∀ k, ∀ x ∈ selP T k, 0 ≤ x ∧ x ≤ 95
  | 0, x, h => by cases h
  | k + 1, x, h => by
    rw [selP] at h
    rcases List.mem_append.1 h with h | h
    · exact selP_range T k x h
    · have := lstF_allL (selV (nth [] T k) (selP T k) k)
      rw [List.mem_singleton] at h
      subst h
      omega
/-- The document's choice is the program's. -/
theorem sel_bou (bs : List (Int × Int)) (h : RtB bs) (hl : bs.length ≤ 1000) : ∀ k, k ≤ bs.length → bouP (tabR bs) k = selP (tabP bs) k
  | 0, _ => rfl
  | k + 1, hk => by
    rw [bouP, selP, sel_bou bs h hl k (by omega)]
    suffices hx : (bstF (bouC (nth [] (tabR bs) k) (selP (tabP bs) k) k) allL).2 = (lstF (selV (nth [] (tabP bs) k) (selP (tabP bs) k) k) allL).1 by rw [hx]
    have hA := tab_agree bs h hl k (by omega)
    have hb := h (nth (0, 0) bs k) (nth_mem (0, 0) bs k (by omega))
    have hS : ∀ x ∈ allL, Same1 (selV (nth [] (tabP bs) k) (selP (tabP bs) k) k x) (bouC (nth [] (tabR bs) k) (selP (tabP bs) k) k x) := by
      intro x hx
      unfold selV bouC
      by_cases h0 : 0 < k
      · rw [if_pos h0, if_pos h0]
        have hm := selP_range (tabP bs) k (nth 0 (selP (tabP bs) k) (k - 1)) (nth_mem 0 _ _ (by rw [selP_length]; omega))
        exact hA.go (B := 15 * (bs.length : Int)) (fun s => tabP_nth_le bs k s) (by unfold farI; omega) _ hm x hx
      · rw [if_neg h0, if_neg h0]
        have h3 := allL_mem hx
        exact hA.same (B := 15 * (bs.length : Int)) (fun s => tabP_nth_le bs k s) (by unfold farI; omega) x.toNat (by omega)
    rcases best_same hS with ⟨h2, _⟩ | ⟨_, h3, _⟩
    · have h5 := lstF_false h2 (nth (0, 0) bs k).1 (by simp only [allL, List.mem_map, List.mem_range]; exact ⟨(nth (0, 0) bs k).1.toNat, by omega, by omega⟩)
      have h6 := (hA (nth (0, 0) bs k).1.toNat (by omega)).2 (by omega)
      unfold selV at h5
      by_cases h0 : 0 < k
      · rw [if_pos h0] at h5
        unfold aftV at h5
        rw [if_neg (by omega)] at h5
        omega
      · rw [if_neg h0] at h5
        omega
    · rw [h3]
theorem bouP_range (bs : List (Int × Int)) (h : RtB bs) (hl : bs.length ≤ 1000) (k : Nat) (hk : k ≤ bs.length) : ∀ x ∈ bouP (tabR bs) k, 0 ≤ x ∧ x ≤ 95 := by
  rw [sel_bou bs h hl k hk]; exact selP_range _ _

/-! ### Laid on the bands -/
def cntU (us : List Bool) (k : Nat) : Nat := (walkK us k).length
theorem cntU_hit {us : List Bool} {k : Nat} (h : nth false us k = true) : cntU us (k + 1) = cntU us k + 1 := by unfold cntU; rw [(walkK_hit h).1]; simp
theorem cntU_miss {us : List Bool} {k : Nat} (h : nth false us k = false) : cntU us (k + 1) = cntU us k := by unfold cntU; rw [(walkK_miss h).1]
theorem cntU_mono (us : List Bool) (i : Nat) : ∀ d, cntU us i ≤ cntU us (i + d)
  | 0 => Nat.le_refl _
  | d + 1 => by
    have := cntU_mono us i d
    cases h : nth false us (i + d)
    · rw [show i + (d + 1) = (i + d) + 1 by omega, cntU_miss h]; exact this
    · rw [show i + (d + 1) = (i + d) + 1 by omega, cntU_hit h]; omega
theorem cntU_lt {us : List Bool} {i k : Nat} (h : nth false us i = true) (hk : i < k) : cntU us i < cntU us k := by
  have h1 := cntU_mono us (i + 1) (k - (i + 1))
  rw [cntU_hit h, show i + 1 + (k - (i + 1)) = k by omega] at h1
  omega
theorem befK_cnt (us : List Bool) : ∀ k, (befK us k = -1 ∧ cntU us k = 0) ∨ ∃ j : Nat, befK us k = (j : Int) ∧ j < k ∧ nth false us j = true ∧ cntU us j + 1 = cntU us k
  | 0 => .inl ⟨rfl, rfl⟩
  | k + 1 => by
    cases h : nth false us k
    · rw [(walkK_miss h).2, cntU_miss h]
      rcases befK_cnt us k with h1 | ⟨j, h1, h2, h3, h4⟩
      · exact .inl h1
      · exact .inr ⟨j, h1, by omega, h3, h4⟩
    · rw [(walkK_hit h).2]
      exact .inr ⟨k, rfl, by omega, h, (cntU_hit h).symm⟩
/-- The values on the first bands that are used. -/
def sprU (us : List Bool) (o : List Int) (k : Nat) : List Int := (List.range us.length).map fun i => if i < k ∧ nth false us i = true then nth 0 o (cntU us i) else 0
theorem sprU_length (us : List Bool) (o : List Int) (k : Nat) : (sprU us o k).length = us.length := by simp [sprU]
theorem sprU_nth (us : List Bool) (o : List Int) (k i : Nat) (h : i < us.length) : nth 0 (sprU us o k) i = if i < k ∧ nth false us i = true then nth 0 o (cntU us i) else 0 := by
  rw [nth_eq 0 _ i (by rw [sprU_length]; exact h)]; simp [sprU]
theorem sprU_zero (us : List Bool) (o : List Int) : sprU us o 0 = List.replicate us.length 0 := by
  apply List.ext_getElem
  · simp [sprU]
  · intro i h1 h2; simp [sprU]
theorem sprU_miss {us : List Bool} {k : Nat} (o : List Int) (h : nth false us k = false) : sprU us o (k + 1) = sprU us o k := by
  apply List.ext_getElem
  · simp [sprU]
  · intro i h1 h2
    simp only [sprU, List.getElem_map, List.getElem_range]
    by_cases e : i = k
    · subst e; rw [if_neg (by rw [h]; simp), if_neg (by rw [h]; simp)]
    · congr 1
      apply propext
      constructor
      · rintro ⟨a, b⟩; exact ⟨by omega, b⟩
      · rintro ⟨a, b⟩; exact ⟨by omega, b⟩
/-- The next value is laid; the row of values may be longer already. -/
theorem sprU_hit {us : List Bool} {k : Nat} {o o2 : List Int} {v : Int} (h : nth false us k = true) (_ : k < us.length) (ho : ∀ i, i < cntU us k → nth 0 o2 i = nth 0 o i) (hv : nth 0 o2 (cntU us k) = v) : (sprU us o k).set k v = sprU us o2 (k + 1) := by
  apply List.ext_getElem
  · simp [sprU]
  · intro i h1 h2
    rw [List.getElem_set]
    simp only [sprU, List.getElem_map, List.getElem_range]
    split
    · rename_i e
      subst e
      rw [if_pos ⟨by omega, h⟩]; exact hv.symm
    · rename_i e
      by_cases hi : i < k ∧ nth false us i = true
      · rw [if_pos hi, if_pos ⟨by omega, hi.2⟩]
        exact (ho _ (cntU_lt hi.2 hi.1)).symm
      · rw [if_neg hi, if_neg (by rintro ⟨a, b⟩; exact hi ⟨by omega, b⟩)]
theorem chP_spr (T : List (List Int)) (us : List Bool) : ∀ k, k ≤ us.length → chP T us.length (walkK us k) = (sprU us (selP T (cntU us k)) k, cntU us k)
  | 0, _ => by rw [sprU_zero]; rfl
  | k + 1, hk => by
    have ih := chP_spr T us k (by omega)
    cases h : nth false us k
    · rw [(walkK_miss h).1, cntU_miss h, sprU_miss _ h]; exact ih
    · rw [(walkK_hit h).1, cntU_hit h, chP_snoc, ih]
      unfold chS
      simp only
      have hV : chV T (cntU us k) (sprU us (selP T (cntU us k)) k) (befK us k) = selV (nth [] T (cntU us k)) (selP T (cntU us k)) (cntU us k) := by
        unfold chV selV
        rcases befK_cnt us k with ⟨h1, h2⟩ | ⟨j, h1, h2, h3, h4⟩
        · rw [h1, h2, if_pos (by decide), if_neg (by omega)]
        · rw [h1, if_neg (by omega), if_pos (by omega), Int.toNat_natCast, sprU_nth _ _ _ _ (by omega), if_pos ⟨h2, h3⟩]
          congr 2
          omega
      rw [hV]
      congr 1
      refine sprU_hit h (by omega) (fun i hi => ?_) ?_
      · rw [selP, nth_append_left _ _ _ _ (by rw [selP_length]; exact hi)]
      · rw [selP, nth_append_right _ _ _ _ (by rw [selP_length]; exact Nat.le_refl _), selP_length, Nat.sub_self]
        simp [nth]
theorem bndL_taken (low high : List Int) (us : List Bool) : ∀ k, takK low us k = (bndL low high (walkK us k)).map Prod.fst ∧ takK high us k = (bndL low high (walkK us k)).map Prod.snd
  | 0 => ⟨rfl, rfl⟩
  | k + 1 => by
    have ih := bndL_taken low high us k
    cases h : nth false us k
    · rw [(walkK_miss h).1, takK_miss h, takK_miss h]; exact ih
    · rw [(walkK_hit h).1, takK_hit h, takK_hit h, bndL_snoc, ih.1, ih.2]; simp
end Go.Proofs.Ytkfgomhhenmmeaa

namespace Go.Proofs.Ytkfgomhhenmmeaa
open Go.RowKit

set_option maxHeartbeats 4000000 in
set_option maxRecDepth 100000 in
theorem bounded_any (A B : Option Addr) (c d : Nat) (bs : List (Int × Int)) (w : World) (hS : RI w A c (bs.map Prod.fst)) (hT : RI w B d (bs.map Prod.snd)) (hR : RtB bs) (hl : bs.length ≤ 128) :
    Calls Try.prog 56 #[.slice A bs.length c, .slice B bs.length d] w
      fun e w' => ∃ v, e = .returned v ∧ OwnI 3 .i64 w.heap.size w' v (bouP (tabR bs) bs.length) ∧ Below w.heap.size w w' := by
  have HLE := Lib.hid (fun C f W (h1 : Below w.heap.size w W) (h2 : RI W C f tabI) => rleast_any A B C c d f bs W (hS.below h1) (hT.below h1) h2 hl)
  have HBR := Lib.hid (bouP_range bs hR (by omega))
  have HTL := Lib.hid (tabR_nth_bd bs)
  have HTR := Lib.hid (tabR_row_length bs)
  have HTLn := Lib.hid (tabR_length bs)
  obtain ⟨n, hn⟩ : ∃ n, bs.length = n := ⟨_, rfl⟩
  rw [hn] at HLE HBR HTR HTLn ⊢
  obtain ⟨T, hTe⟩ : ∃ T, tabR bs = T := ⟨_, rfl⟩
  rw [hTe] at HLE HBR HTR HTL HTLn ⊢
  have hn128 : n ≤ 128 := by omega
  clear hS hT hR hl hn hTe
  go_enter Try.func56, Try.ntmps56
  go_wp2_with (first
    | (go_at_call 17; refine (rslengths_any _).mono ?_; rintro e w2 ⟨v2, rfl, hO2, b2⟩; obtain ⟨A2, c2, rfl, hL2⟩ := own_ri hO2; rw [tabI_length]; have HL2 := Lib.hid hL2; have HB2 := Lib.hid b2; clear hO2 hL2 b2)
    | (go_at_call 75; refine (HLE.out _ _ _ HB2.out HL2.out).mono ?_; rintro e w3 ⟨g, cells, rfl, hrows, b3⟩; have HR2 := Lib.hid (hrows.read HTLn.out HTR.out (by omega)); have HB3 := Lib.hid (below2 HB2.out b3); have HL3 := Lib.hid (HL2.out.below b3); clear hrows b3))
  go_loopw [7, 21] (fun ov iv wr => ∃ k : Nat, iv = .int .i64 (k : Int) ∧ k ≤ n ∧ Hid (OwnI 3 .i64 w3.heap.size wr ov (bouP T k)) ∧ Hid (Below w3.heap.size w3 wr)) (fun _ iv _ => n - (intOf iv).toNat)
  case atStart => exact ⟨0, rfl, Nat.zero_le _, Lib.hid (OwnI.nil _ _ _ _), Lib.hid (Below.refl _ _)⟩
  case round =>
    obtain ⟨k, rfl, hk, hO, hB⟩ := hrel
    by_cases hlt : k < n
    · obtain ⟨ad, A', c', e', hc, hrow⟩ := rd_sl (HR2.out.below hB.out) k (by rw [HTLn.out]; exact hlt)
      cases e'
      rw [HTR.out k hlt, add_plain] at hc
      have hki : (k : Int) < (n : Int) := by omega
      obtain ⟨A3, c3, rfl, hsl⟩ := hO.out.rd
      rw [bouP_length]
      have HO := Lib.hid hO.out
      rw [bouP_length] at HO
      have HSL := Lib.hid (hsl.weak (ok' := AnyB) fun _ _ _ => trivial)
      have HOR := Lib.hid (HBR.out k (by omega))
      have HTK := Lib.hid (fun t => HTL.out k t)
      have HRL := Lib.hid (HTR.out k hlt)
      obtain ⟨R, hRe⟩ : ∃ R, nth [] T k = R := ⟨_, rfl⟩
      have HRE := Lib.hid hRe
      rw [hRe] at hrow HTK HRL
      have HROW := Lib.hid hrow
      obtain ⟨o, hoe⟩ : ∃ o, bouP T k = o := ⟨_, rfl⟩
      have HOE := Lib.hid hoe
      rw [hoe] at HO HSL HOR
      have HOL := Lib.hid (show o.length = k by rw [← hoe, bouP_length])
      clear hlt hrow hRe hoe hsl hO
      go_wp2
      go_loopw [10, 11, 28] (fun bv av sv wr2 => ∃ (s : Nat) (b a : Int), sv = .int .i64 (s : Int) ∧ s ≤ 96 ∧ bv = .int .i64 b ∧ av = .int .i64 a ∧ Hid (bstF (bouC R o k) (allL.take s) = (b, a)) ∧ wr2 = wr) (fun _ _ sv _ => 96 - (intOf sv).toNat)
      case atStart => exact ⟨0, 1099511627776, -1, rfl, by omega, rfl, rfl, Lib.hid rfl, rfl⟩
      case round =>
        obtain ⟨s, b, a, rfl, hs, rfl, rfl, hST, rfl⟩ := hrel
        by_cases hlt2 : s < 96
        · have hsi : (s : Int) < 96 := by omega
          obtain ⟨ad4, rfl, c4⟩ := rd_int HROW.out s (by rw [HRL.out]; exact hlt2)
          have hcb := HTK.out s
          have htk := take_succ_nth 0 allL s (by rw [allL_length]; exact hlt2)
          rw [allL_nth s hlt2] at htk
          have HSN := Lib.hid (show bstF (bouC R o k) (allL.take (s + 1)) = if bouC R o k (s : Int) < b then (bouC R o k (s : Int), (s : Int)) else (b, a) by
            rw [htk, bstF_snoc, hST.out]; rfl)
          unfold farI at hcb
          by_cases h0 : 0 < k
          · have hd0 : decide (0 < (k : Int)) = true := decide_eq_true (by omega)
            have hd0N : decide (0 < k) = true := decide_eq_true h0
            obtain ⟨k0, hk0⟩ : ∃ k0, k = k0 + 1 := ⟨k - 1, by omega⟩
            obtain ⟨ad5, rfl, c5⟩ := rd_int HSL.out k0 (by rw [HOL.out]; omega)
            have hpr := HOR.out _ (nth_mem 0 o k0 (by rw [HOL.out]; omega))
            have hC : bouC R o k (s : Int) = nth 0 R s + lenI ((s : Int) - nth 0 o k0) := by unfold bouC; rw [if_pos h0, Int.toNat_natCast, show k - 1 = k0 by omega]
            generalize nth 0 o k0 = p at c5 hpr hC
            obtain ⟨q, hq⟩ : ∃ q : Nat, (s : Int) - p + 95 = (q : Int) := ⟨((s : Int) - p + 95).toNat, by omega⟩
            have hql : q < 191 := by omega
            obtain ⟨ad6, rfl, c6⟩ := rd_int (HL3.out.below hB.out) q (by rw [tabI_length]; exact hql)
            have hLq : nth 0 tabI q = lenI ((s : Int) - p) := by unfold lenI; rw [hq, Int.toNat_natCast]
            rw [hLq] at c6
            have hlb := lenI_bd ((s : Int) - p) (by omega)
            have hw5 : IntKind.i64.wrap ((s : Int) - p) = (s : Int) - p := IntWalk.i64_in _ (by omega)
            have hw6 : IntKind.i64.wrap ((s : Int) - p + 95) = (q : Int) := by rw [hq]; exact IntWalk.i64_in _ (by omega)
            have hqi : (q : Int) < 191 := by omega
            have hw8 : (k : Int) - 1 = (k0 : Int) := by omega
            have hk0i : (k0 : Int) < (k : Int) := by omega
            rw [hC] at HSN
            generalize lenI ((s : Int) - p) = L at c6 hlb HSN
            generalize nth 0 R s = cc at c4 hcb HSN
            have hw7 : IntKind.i64.wrap (cc + L) = cc + L := IntWalk.i64_in _ (by omega)
            clear hC hLq hq hlb hcb htk hpr h0 hk0
            by_cases hlt3 : cc + L < b
            · have hd3 : decide (cc + L < b) = true := decide_eq_true hlt3
              have HR := Lib.hid (HSN.out.trans (if_pos hlt3))
              clear hlt3
              go_wp2
              go_roundw
              case rel => exact ⟨s + 1, _, _, by go_num, by omega, rfl, rfl, HR, trivial⟩
              case measure => simp [intOf] <;> omega
            · have hd3 : decide (cc + L < b) = false := decide_eq_false hlt3
              have HR := Lib.hid (HSN.out.trans (if_neg hlt3))
              clear hlt3
              go_wp2
              go_roundw
              case rel => exact ⟨s + 1, _, _, by go_num, by omega, rfl, rfl, HR, trivial⟩
              case measure => simp [intOf] <;> omega
          · have hd0 : decide (0 < (k : Int)) = false := decide_eq_false (by omega)
            have hd0N : decide (0 < k) = false := decide_eq_false h0
            have hC : bouC R o k (s : Int) = nth 0 R s := by unfold bouC; rw [if_neg h0, Int.toNat_natCast]
            rw [hC] at HSN
            generalize nth 0 R s = cc at c4 hcb HSN
            clear hC hcb htk h0
            by_cases hlt3 : cc < b
            · have hd3 : decide (cc < b) = true := decide_eq_true hlt3
              have HR := Lib.hid (HSN.out.trans (if_pos hlt3))
              clear hlt3
              go_wp2
              go_roundw
              case rel => exact ⟨s + 1, _, _, by go_num, by omega, rfl, rfl, HR, trivial⟩
              case measure => simp [intOf] <;> omega
            · have hd3 : decide (cc < b) = false := decide_eq_false hlt3
              have HR := Lib.hid (HSN.out.trans (if_neg hlt3))
              clear hlt3
              go_wp2
              go_roundw
              case rel => exact ⟨s + 1, _, _, by go_num, by omega, rfl, rfl, HR, trivial⟩
              case measure => simp [intOf] <;> omega
        · obtain rfl : s = 96 := by omega
          have htk : allL.take 96 = allL := List.take_of_length_le (by rw [allL_length]; exact Nat.le_refl _)
          have HNX := Lib.hid (show bouP T (k + 1) = o ++ [a] by
            have h2 := hST.out
            rw [htk] at h2
            rw [bouP, HOE.out, HRE.out, h2])
          have hsz := hB.out.size
          have hsz3 := HB3.out.size
          have HBB := Lib.hid hB.out
          clear hlt2 hs htk hST
          go_wp2_with (at_builtin; (refine append_one (w0 := w3) w3.heap.size rfl (.tmp 54) (.tmp 56) 22 3 .i64 8 rfl Try.underlying22 infoI (by decide) _ o a rfl rfl HO.out HBB.out HBB.out.size (by have := HOL.out; omega) ?_); intro v1 w4 hO4 hB4 hg4 hat4; have HO4 := Lib.hid hO4; have HB4 := Lib.hid hB4; clear hO4 hB4 hat4 hg4)
          go_roundw
          case rel => exact ⟨k + 1, by go_num, by omega, Lib.hid (by rw [HNX.out]; exact HO4.out), HB4⟩
          case measure => simp [intOf] <;> omega
    · obtain rfl : k = n := by omega
      go_wp2
      go_ret
      exact ⟨_, rfl, hO.out.mono HB3.out.size, below2 HB3.out hB.out⟩
end Go.Proofs.Ytkfgomhhenmmeaa

namespace Go.Proofs.Ytkfgomhhenmmeaa
open Go.RowKit

theorem isBoth_all {low high : List Int} : ∀ k, k ≤ low.length → k ≤ high.length → isBoth low high k = ((low.take k).all isB && (high.take k).all isB)
  | 0, _, _ => rfl
  | k + 1, h1, h2 => by
    rw [isBoth_succ, isBoth_all k (by omega) (by omega), all_take_succ low k (by omega), all_take_succ high k (by omega)]
    cases (low.take k).all isB <;> cases (high.take k).all isB <;> cases isB (nth 0 low k) <;> rfl
theorem walkK_mem (us : List Bool) : ∀ k, ∀ x ∈ walkK us k, x.1 < k
  | 0, x, h => by cases h
  | k + 1, x, h => by
    cases hu : nth false us k
    · rw [(walkK_miss hu).1] at h
      have := walkK_mem us k x h; omega
    · rw [(walkK_hit hu).1] at h
      rcases List.mem_append.1 h with h | h
      · have := walkK_mem us k x h; omega
      · rw [List.mem_singleton] at h; subst h; exact Nat.lt_succ_self k
/-- What is chosen, by the document's table. -/
theorem choose_doc {low high : List Int} {us : List Bool} (h1 : low.length = us.length) (h2 : high.length = us.length) (h128 : us.length ≤ 128) (h6 : isBoth low high us.length = true) (h5 : (bndL low high (walkK us us.length)).all (fun b => decide (b.1 ≤ b.2)) = true) :
    RtB (bndL low high (walkK us us.length)) ∧ chooseE low high us = 0 ∧ chooseO low high us = sprU us (bouP (tabR (bndL low high (walkK us us.length))) (bndL low high (walkK us us.length)).length) us.length := by
  have hR : RtB (bndL low high (walkK us us.length)) := by
    intro b hb
    have hle := List.all_eq_true.1 h5 b hb
    simp only [bndL, List.mem_map] at hb
    obtain ⟨x, hx, rfl⟩ := hb
    have hxk : x.1 < us.length := walkK_mem us us.length x hx
    have := isBoth_at h6 hxk
    simp at hle
    exact ⟨this.1.1, hle, this.2.2⟩
  have hE : chooseE low high us = 0 := by unfold chooseE; rw [if_neg (by omega), if_neg (by rw [h6]; decide), if_neg (by rw [h5]; decide)]
  refine ⟨hR, hE, ?_⟩
  have hlen : (bndL low high (walkK us us.length)).length = cntU us us.length := by rw [bndL, List.length_map]; rfl
  have h9 := walkK_len us us.length
  unfold chooseO
  rw [if_pos hE, chP_spr _ us us.length (Nat.le_refl _), hlen, sel_bou _ hR (by rw [hlen]; unfold cntU; omega) _ (by rw [hlen]; exact Nat.le_refl _)]

set_option maxHeartbeats 4000000 in
set_option maxRecDepth 100000 in
theorem rchoose1 (A B C : Option Addr) (c d f : Nat) (low high : List Int) (us : List Bool) (w : World) (hS : RI w A c low) (hT : RI w B d high) (hU : RB w C f us) (h : low.length ≠ us.length ∨ high.length ≠ us.length ∨ 128 < us.length ∨ isBoth low high us.length = false) :
    Calls Try.prog 24 #[.slice A low.length c, .slice B high.length d, .slice C us.length f] w (ChooseP low high us w) := by
  have hn1 := hS.len
  have hn2 := hT.len
  have hn3 := hU.len
  by_cases h1 : low.length ≠ us.length ∨ high.length ≠ us.length ∨ 128 < us.length
  · have hE : chooseE low high us = 1 := by unfold chooseE; rw [if_pos h1]
    have HX := Lib.hid (choose_err hE (by decide))
    have HE := Lib.hid hE
    have hcs : (((low.length : Int) != (us.length : Int)) = true) ∨ (((low.length : Int) != (us.length : Int)) = false ∧ ((high.length : Int) != (us.length : Int)) = true) ∨ (((low.length : Int) != (us.length : Int)) = false ∧ ((high.length : Int) != (us.length : Int)) = false ∧ decide (128 < (us.length : Int)) = true) := by
      by_cases e1 : low.length = us.length
      · by_cases e2 : high.length = us.length
        · exact .inr (.inr ⟨by simp [e1], by simp [e2], decide_eq_true (by omega)⟩)
        · exact .inr (.inl ⟨by simp [e1], by simp; omega⟩)
      · exact .inl (by simp; omega)
    clear h h1 hE
    rcases hcs with e1 | ⟨e1, e2⟩ | ⟨e1, e2, e3⟩
    all_goals
      go_enter Try.func24, Try.ntmps24
      go_wp2
      go_ret3
      exact ⟨_, by rw [HX.out.2, HE.out]; rfl, by rw [HX.out.1]; exact OwnI.nil _ _ _ _, Below.refl _ _⟩
  · have hl : low.length = us.length := by omega
    have hh : high.length = us.length := by omega
    have h6 : isBoth low high us.length = false := by
      rcases h with h | h | h | h
      · omega
      · omega
      · omega
      · exact h
    have hE : chooseE low high us = 6 := by unfold chooseE; rw [if_neg h1, if_pos h6]
    have HX := Lib.hid (choose_err hE (by decide))
    have HE := Lib.hid hE
    have hb := isBoth_all (low := low) (high := high) us.length (by omega) (by omega)
    rw [h6, ← hl, List.take_length, hl, ← hh, List.take_length] at hb
    have HL := Lib.hid (ranged_any A c low w hS)
    have HH := Lib.hid (ranged_any B d high w hT)
    have e1 : ((low.length : Int) != (us.length : Int)) = false := by simp [hl]
    have e2 : ((high.length : Int) != (us.length : Int)) = false := by simp [hh]
    have e3 : decide (128 < (us.length : Int)) = false := decide_eq_false (by omega)
    have hcs : low.all isB = false ∨ (low.all isB = true ∧ high.all isB = false) := by
      cases h7 : low.all isB
      · exact .inl rfl
      · rw [h7] at hb; exact .inr ⟨rfl, by simpa using hb.symm⟩
    clear h h1 hE h6 hb hl hh
    rcases hcs with h7 | ⟨h7, h8⟩
    · rw [h7] at HL
      clear h7
      go_enter Try.func24, Try.ntmps24
      go_wp2_with (go_at_call 54; refine HL.out.mono ?_; rintro e w2 ⟨rfl, rfl⟩)
      go_ret3
      exact ⟨_, by rw [HX.out.2, HE.out]; rfl, by rw [HX.out.1]; exact OwnI.nil _ _ _ _, Below.refl _ _⟩
    · rw [h7] at HL
      rw [h8] at HH
      clear h7 h8
      go_enter Try.func24, Try.ntmps24
      go_wp2_with (first
        | (go_at_call_has 54 (Value.slice A low.length c); refine HL.out.mono ?_; rintro e w2 ⟨rfl, rfl⟩)
        | (go_at_call_has 54 (Value.slice B high.length d); refine HH.out.mono ?_; rintro e w2 ⟨rfl, rfl⟩))
      go_ret3
      exact ⟨_, by rw [HX.out.2, HE.out]; rfl, by rw [HX.out.1]; exact OwnI.nil _ _ _ _, Below.refl _ _⟩

end Go.Proofs.Ytkfgomhhenmmeaa

namespace Go.Proofs.Ytkfgomhhenmmeaa
open Go.RowKit

set_option maxHeartbeats 2000000 in
set_option maxRecDepth 100000 in
theorem rchoose_any (A B C : Option Addr) (c d f : Nat) (low high : List Int) (us : List Bool) (w : World) (hS : RI w A c low) (hT : RI w B d high) (hU : RB w C f us) :
    Calls Try.prog 24 #[.slice A low.length c, .slice B high.length d, .slice C us.length f] w (ChooseP low high us w) := by
  by_cases hbad : low.length ≠ us.length ∨ high.length ≠ us.length ∨ 128 < us.length ∨ isBoth low high us.length = false
  · exact rchoose1 A B C c d f low high us w hS hT hU hbad
  have hl : low.length = us.length := by omega
  have hh : high.length = us.length := by omega
  have h128 : us.length ≤ 128 := by omega
  have h6 : isBoth low high us.length = true := by
    cases h7 : isBoth low high us.length
    · exact absurd (.inr (.inr (.inr h7))) hbad
    · rfl
  have hb := isBoth_all (low := low) (high := high) us.length (by omega) (by omega)
  rw [h6, ← hl, List.take_length, hl, ← hh, List.take_length] at hb
  have hb1 : low.all isB = true := by cases h7 : low.all isB; rw [h7] at hb; cases hb; rfl
  have hb2 : high.all isB = true := by rw [hb1] at hb; simpa using hb.symm
  have HL := Lib.hid (ranged_any A c low w hS)
  have HH := Lib.hid (ranged_any B d high w hT)
  rw [hb1] at HL
  rw [hb2] at HH
  have e1 : ((low.length : Int) != (us.length : Int)) = false := by simp [hl]
  have e2 : ((high.length : Int) != (us.length : Int)) = false := by simp [hh]
  have e3 : decide (128 < (us.length : Int)) = false := decide_eq_false (by omega)
  have HT1 := Lib.hid (taken_any A C c f low us w hS hU hl (by omega))
  have HT2 := Lib.hid (fun W (h : Below w.heap.size w W) => taken_any B C d f high us W (hT.below h) (hU.below h) hh (by omega))
  rw [hl, (bndL_taken low high us us.length).1] at HT1
  rw [hh] at HT2
  have htk := (bndL_taken low high us us.length).2
  rw [htk] at HT2
  have HDOC := Lib.hid (choose_doc hl hh h128 h6)
  have HE5 := Lib.hid (fun (h : (bndL low high (walkK us us.length)).all (fun b => decide (b.1 ≤ b.2)) = false) => show chooseE low high us = 5 from by unfold chooseE; rw [if_neg (by omega), if_neg (by rw [h6]; decide), if_pos h])
  have hblen : (bndL low high (walkK us us.length)).length = cntU us us.length := by rw [bndL, List.length_map]; rfl
  obtain ⟨bs, hbs⟩ : ∃ bs, bndL low high (walkK us us.length) = bs := ⟨_, rfl⟩
  rw [hbs] at HT1 HT2 HDOC HE5 hblen
  have HBL := Lib.hid hblen
  have hb128 : bs.length ≤ 128 := by rw [hblen]; have := walkK_len us us.length; unfold cntU; omega
  have HUS := Lib.hid hU
  have HLS := Lib.hid (show low.length = us.length ∧ high.length = us.length ∧ us.length ≤ 128 from ⟨hl, hh, h128⟩)
  have hsz := hU.len
  obtain ⟨i0, hi0, hz0, hz1, hz2⟩ := info_parts' infoI
  have hmk := make_row (P := Try.prog) 22 3 .i64 8 Try.underlying22 infoI (by decide) us.length (by omega)
  clear hbad hS hT hU hl hh h6 hb hb1 hb2 htk hblen hbs hsz
  go_enter Try.func24, Try.ntmps24
  go_wp2_with (first
    | (go_at_call_has 54 (Value.slice A low.length c); refine HL.out.mono ?_; rintro e w2 ⟨rfl, rfl⟩)
    | (go_at_call_has 54 (Value.slice B high.length d); refine HH.out.mono ?_; rintro e w2 ⟨rfl, rfl⟩)
    | (go_at_call_has 55 (Value.slice A low.length c); rw [HLS.out.1]; refine HT1.out.mono ?_; rintro e w2 ⟨v2, rfl, hO2, b2⟩; obtain ⟨A2, c2, rfl, hL2⟩ := own_ri hO2; rw [List.length_map]; have HL2 := Lib.hid hL2; have HB2 := Lib.hid b2; clear hO2 hL2 b2)
    | (go_at_call_has 55 (Value.slice B high.length d); rw [HLS.out.2.1]; refine (HT2.out _ HB2.out).mono ?_; rintro e w3 ⟨v3, rfl, hO3, b3⟩; obtain ⟨A3, c3, rfl, hL3⟩ := own_ri hO3; rw [List.length_map]; have HL3 := Lib.hid hL3; have HB3 := Lib.hid (below2 HB2.out b3); have HL2' := Lib.hid (HL2.out.below b3); clear hO3 hL3 b3))
  go_loopw [51] (fun iv wr => ∃ k : Nat, iv = .int .i64 (k : Int) ∧ k ≤ bs.length ∧ Hid ((bs.take k).all (fun b => decide (b.1 ≤ b.2)) = true) ∧ Hid (Below w3.heap.size w3 wr)) (fun iv _ => bs.length - (intOf iv).toNat)
  case atStart => exact ⟨0, rfl, Nat.zero_le _, Lib.hid rfl, Lib.hid (Below.refl _ _)⟩
  case round =>
    obtain ⟨k, rfl, hk, hP, hB⟩ := hrel
    by_cases hlt : k < bs.length
    · obtain ⟨ad2, rfl, k1⟩ := rd_int (HL2'.out.below hB.out) k (by rw [List.length_map]; exact hlt)
      obtain ⟨ad3, rfl, k2⟩ := rd_int (HL3.out.below hB.out) k (by rw [List.length_map]; exact hlt)
      have hki : (k : Int) < (bs.length : Int) := by omega
      have e4 : nth 0 (bs.map Prod.fst) k = (nth (0, 0) bs k).1 := by simp [nth, List.getD_eq_getElem?_getD, hlt]
      have e5 : nth 0 (bs.map Prod.snd) k = (nth (0, 0) bs k).2 := by simp [nth, List.getD_eq_getElem?_getD, hlt]
      rw [e4] at k1
      rw [e5] at k2
      have HNX := Lib.hid (show (bs.take (k + 1)).all (fun b => decide (b.1 ≤ b.2)) = decide ((nth (0, 0) bs k).1 ≤ (nth (0, 0) bs k).2) by
        rw [take_succ_nth (0, 0) bs k hlt, List.all_append, hP.out]; simp)
      have HNO := Lib.hid (fun (h : decide ((nth (0, 0) bs k).1 ≤ (nth (0, 0) bs k).2) = false) => show bs.all (fun b => decide (b.1 ≤ b.2)) = false from by
        cases h7 : bs.all (fun b => decide (b.1 ≤ b.2))
        · rfl
        · have h8 := List.all_eq_true.1 h7 _ (nth_mem (0, 0) bs k hlt)
          rw [h] at h8; cases h8)
      generalize (nth (0, 0) bs k).1 = lo at k1 HNX HNO
      generalize (nth (0, 0) bs k).2 = hi at k2 HNX HNO
      clear e4 e5 hlt
      by_cases hle : hi < lo
      · have hd : decide (hi < lo) = true := decide_eq_true hle
        have HE := Lib.hid (HE5.out (HNO.out (decide_eq_false (by omega))))
        have HX := Lib.hid (choose_err HE.out (by decide))
        clear hle
        go_wp2
        go_quiet (fail)
        go_wp2
        go_ret3
        exact ⟨_, by rw [HX.out.2, HE.out]; rfl, by rw [HX.out.1]; exact OwnI.nil _ _ _ _, (below2 HB3.out hB.out).trans ((below_drewN (Below.refl _ _) _).mono (by have := HB3.out.size; have := hB.out.size; omega))⟩
      · have hd : decide (hi < lo) = false := decide_eq_false hle
        have HQ := Lib.hid (HNX.out.trans (decide_eq_true (by omega)))
        clear hle
        go_wp2
        go_quiet (fail)
        go_wp2
        go_roundw
        case rel => exact ⟨k + 1, by go_num, by omega, HQ, Lib.hid (below_drewN hB.out _)⟩
        case measure => simp [intOf] <;> omega
    · obtain rfl : k = bs.length := by omega
      have hall : bs.all (fun b => decide (b.1 ≤ b.2)) = true := by have := hP.out; rwa [List.take_length] at this
      have HD := Lib.hid (HDOC.out hall)
      have HBO := Lib.hid (bounded_any A2 A3 c2 c3 bs wr (HL2'.out.below hB.out) (HL3.out.below hB.out) HD.out.1 hb128)
      have HBX := Lib.hid (below2 HB3.out hB.out)
      clear hall hk hlt
      go_wp2_with (go_at_call 56; refine HBO.out.mono ?_; rintro e w4 ⟨v4, rfl, hO4, b4⟩; obtain ⟨A4, c4, rfl, hL4⟩ := hO4.rd; rw [bouP_length]; have HL4 := Lib.hid (hL4.weak (ok' := fun b => b < w4.heap.size) fun b hb _ => hb); have HB4 := Lib.hid (below2 HBX.out b4); clear hO4 hL4 b4)
      obtain ⟨o, ho⟩ : ∃ o, bouP (tabR bs) bs.length = o := ⟨_, rfl⟩
      have HO := Lib.hid (show o.length = bs.length by rw [← ho, bouP_length])
      rw [ho] at HL4 HD
      obtain ⟨gr, hgr⟩ : ∃ gr, w4.heap.size = gr := ⟨_, rfl⟩
      have hba := below_alloc (Below.refl w4.heap.size w4) (.cells (madeCells #[.int .i64 0] us.length) 3)
      have hO0 := own_made w4 3 .i64 us.length (by have := HLS.out; omega)
      have hL40 := HL4.out.below hba
      rw [← sprU_zero us o] at hO0
      obtain ⟨W5, hW5⟩ : ∃ W5, w4.alloc (.cells (madeCells #[.int .i64 0] us.length) 3) = W5 := ⟨_, rfl⟩
      simp only [hW5, hgr] at hba hO0 hL40 ⊢
      have HB5 := Lib.hid (below2 HB4.out (by rw [hgr]; exact hba))
      have HGR := Lib.hid hgr
      clear hW5 hgr hba ho HDOC HE5 HT1 HT2 HBO
      go_loopw [12, 72] (fun lv iv wr5 => ∃ (i q : Nat) (A5 : Option Addr) (c5 : Nat), iv = .int .i64 (i : Int) ∧ i ≤ us.length ∧ lv = .slice A5 q c5 ∧ Hid (q = (o.drop (cntU us i)).length ∧ Sl (kInt .i64) (fun b => b < gr) wr5 A5 c5 (o.drop (cntU us i))) ∧ Hid (OwnI 3 .i64 gr wr5 (.slice (some ⟨gr, 0, none⟩) us.length us.length) (sprU us o i)) ∧ Hid (Below w.heap.size w wr5)) (fun _ iv _ => us.length - (intOf iv).toNat)
      case atStart => exact ⟨0, bs.length, A4, c4, rfl, Nat.zero_le _, rfl, Lib.hid ⟨by show bs.length = (o.drop 0).length; rw [List.drop_zero, HO.out], hL40⟩, Lib.hid hO0, HB5⟩
      case round =>
        clear hO0 hL40 hB
        obtain ⟨i, q, A5, c5, rfl, hi, rfl, hLL, hOO, hB⟩ := hrel
        by_cases hlt : i < us.length
        · obtain ⟨ad, rfl, hcu⟩ := rd_bool (HUS.out.below hB.out) i hlt
          have hii : (i : Int) < (us.length : Int) := by omega
          cases hu : nth false us i
          · rw [hu] at hcu
            have HM := Lib.hid (show cntU us (i + 1) = cntU us i ∧ sprU us o (i + 1) = sprU us o i from ⟨cntU_miss hu, sprU_miss o hu⟩)
            clear hu hlt
            go_wp2
            go_roundw
            case rel => exact ⟨i + 1, q, A5, c5, by go_num, by omega, rfl, by rw [HM.out.1]; exact hLL, by rw [HM.out.2]; exact hOO, hB⟩
            case measure => simp [intOf] <;> omega
          · rw [hu] at hcu
            have hcl := cntU_lt hu hlt
            have hol := HO.out
            have hbl := HBL.out
            have hq := hLL.out.1
            rw [List.length_drop] at hq
            obtain ⟨q1, hq1⟩ : ∃ q1, q = q1 + 1 := ⟨q - 1, by omega⟩
            obtain ⟨ad5, rfl, k5⟩ := rd_int hLL.out.2 0 (by rw [List.length_drop]; omega)
            rw [nth_drop, Nat.add_zero, add_zero] at k5
            have k6 := hOO.out.at_ i (by rw [sprU_length]; exact hlt)
            have k7 := k6.1
            have k8 := k6.2
            obtain ⟨A6, hcut6, hsl6⟩ := cut_from (P := Try.prog) 22 3 Try.underlying22 hi0 (some ad5) q c5 1 (by omega)
            have hcut7 : ∀ W : World, (Instr.slice 22 (.slice (some ad5) q c5) (some (.int .i64 1)) none none).run Try.prog W = .ok (.slice A6 (q - 1) (c5 - 1)) W := hcut6
            have HM := Lib.hid (show cntU us (i + 1) = cntU us i + 1 ∧ (sprU us o i).set i (nth 0 o (cntU us i)) = sprU us o (i + 1) from ⟨cntU_hit hu, sprU_hit hu hlt (fun _ _ => rfl) rfl⟩)
            generalize nth 0 o (cntU us i) = v at k5 HM
            have HQ := Lib.hid (show q = o.length - cntU us i ∧ cntU us i + 1 ≤ o.length from ⟨hq, by omega⟩)
            have HSL6 := Lib.hid (fun W h => hsl6 (kInt .i64) (fun b => b < gr) W _ hz1.symm hLL.out.1.symm h)
            have hqp : (0 : Int) < (q : Int) := by omega
            have hqpN : 0 < q := by omega
            clear hu hcl hol hbl hq hq1 k6 hcut6 hsl6
            go_wp2
            go_roundw
            case rel =>
              have hs := hOO.out.set i v
              have hb6 := below_grown hB.out hB.out.size hs.2 (fun r e => by cases e; have := HGR.out; have := HB4.out.size; omega)
              have hk6 : Keep (fun b => b < gr) wr (wr.setCell ⟨gr, i, none⟩ (.int .i64 v)) := (Keep.of_grown1 hs.2).weak fun b hb => by omega
              refine ⟨i + 1, q - 1, A6, c5 - 1, by go_num, by omega, rfl, Lib.hid ?_, Lib.hid ?_, Lib.hid hb6⟩
              · rw [HM.out.1]
                have h9 := HSL6.out _ (hLL.out.2.keep hk6)
                rw [List.drop_drop] at h9
                exact ⟨by rw [List.length_drop]; have := HQ.out; omega, h9⟩
              · rw [← HM.out.2]; exact hs.1
            case measure => simp [intOf] <;> omega
        · obtain rfl : i = us.length := by omega
          have hc9 := rscost_any (some ⟨gr, 0, none⟩) C us.length f (sprU us o us.length) us wr (own_sl hOO.out) (HUS.out.below hB.out)
          rw [sprU_length] at hc9
          have HC9 := Lib.hid hc9
          have HOO := Lib.hid hOO.out
          have HNN := Lib.hid (show chooseN low high us = (costS (sprU us o us.length) us).1 by unfold chooseN; rw [if_pos HD.out.2.1, HD.out.2.2])
          obtain ⟨⟨cn, ce⟩, hcc⟩ : ∃ cc, costS (sprU us o us.length) us = cc := ⟨_, rfl⟩
          rw [hcc] at HC9 HNN
          clear hc9 hcc hlt hi hOO hLL
          go_wp2_with (go_at_call 14; refine HC9.out.mono ?_; rintro e w9 ⟨rfl, b9⟩)
          go_ret3
          exact ⟨_, by rw [HNN.out, HD.out.2.1]; rfl, by rw [HD.out.2.2]; exact (HOO.out.below b9).mono (by have := HGR.out; have := HB4.out.size; omega), below2 hB.out b9⟩
end Go.Proofs.Ytkfgomhhenmmeaa

namespace Go.Proofs.Ytkfgomhhenmmeaa
open Go.RowKit

set_option maxHeartbeats 2000000 in
set_option maxRecDepth 100000 in
theorem tbytes_any (A : Option Addr) (c : Nat) (bs : List Bool) (w : World) (hS : RY w A c (bitsI bs)) (hn : bs.length ≤ 1000000000000) :
    Calls Try.prog 62 #[.slice A bs.length c] w fun e w' => ∃ x, e = .returned x ∧ OwnI 5 .u8 w.heap.size w' x (packB bs) ∧ Below w.heap.size w w' := by
  obtain ⟨L, hL⟩ : ∃ L, (bs.length + 7) / 8 = L := ⟨_, rfl⟩
  have hmk := make_row (P := Try.prog) 32 5 .u8 1 Try.underlying32 infoY (by decide) L (by omega)
  have hLi : ((bs.length : Int) + 7) / 8 = (L : Int) := by omega
  have HL := Lib.hid hL
  clear hL
  go_enter Try.func62, Try.ntmps62
  go_wp2
  have hO := own_made w 5 .u8 L (by have := HL.out; omega)
  have hB := below_alloc (Below.refl w.heap.size w) (.cells (madeCells #[.int .u8 0] L) 5)
  generalize w.alloc (.cells (madeCells #[.int .u8 0] L) 5) = w1 at hO hB ⊢
  clear hmk hLi
  go_loopw [13] (fun i wr => ∃ k : Nat, k ≤ bs.length ∧ i = .int .i64 k ∧ OwnI 5 .u8 w.heap.size wr (.slice (some ⟨w.heap.size, 0, none⟩) L L) (padB (bs.take k) L) ∧ Below w.heap.size w wr) (fun i _ => bs.length - (intOf i).toNat)
  case atStart => exact ⟨0, Nat.zero_le _, rfl, by rw [List.take_zero, padB_nil]; exact hO, hB⟩
  case round =>
    clear hO hB
    obtain ⟨k, hk, rfl, hO, hB⟩ := hrel
    by_cases hlt : k < bs.length
    · have hLL := HL.out
      have htl : (bs.take k).length = k := by rw [List.length_take]; omega
      obtain ⟨ka, kf⟩ := hO.at_ (k / 8) (by rw [padB_length _ _ (by omega)]; omega)
      have hkn := padB_nth (bs.take k) L (by omega)
      have hor := or_bit (bs.take k) (nth false bs k)
      have hX := byteB_lt (bs.take k) ((bs.take k).length / 8)
      have hsn := padB_snoc (bs.take k) (nth false bs k) L (by omega)
      rw [← take_succ_nth false bs k hlt] at hsn
      rw [htl] at hkn hor hX hsn
      rw [hkn] at ka
      obtain ⟨ad, rfl, hc⟩ := rd_int (hS.below hB) k (by rw [bitsI_length]; exact hlt)
      rw [bitsI_nth _ _ hlt] at hc
      obtain ⟨X, hXe⟩ : ∃ X, byteB (bs.take k) (k / 8) = X := ⟨_, rfl⟩
      obtain ⟨q, hq⟩ : ∃ q, k / 8 = q := ⟨_, rfl⟩
      obtain ⟨t, ht⟩ : ∃ t, 7 - k % 8 = t := ⟨_, rfl⟩
      rw [hXe, ht] at hor hsn
      rw [hXe] at hX ka
      rw [hq] at ka kf hsn
      have ht7 : t ≤ 7 := by omega
      have w1 : IntKind.i64.wrap ((k : Int) / 8) = (q : Int) := by rw [IntWalk.i64_in _ (by omega)]; omega
      have w2 : ((k : Int)).tmod 8 = 7 - (t : Int) := by rw [Int.tmod_eq_emod_of_nonneg (by omega)]; omega
      have w3 : IntKind.i64.wrap (7 - (7 - (t : Int))) = (t : Int) := by rw [IntWalk.i64_in _ (by omega)]; omega
      have hPp : 0 < 2 ^ t ∧ 2 ^ t ≤ 128 := ⟨Nat.two_pow_pos _, by have := Nat.pow_le_pow_right (n := 2) (by decide) ht7; simpa using this⟩
      have hPc : ((2 : Int) ^ t) = ((2 ^ t : Nat) : Int) := by simp
      have hbd := b2i_bd (nth false bs k)
      have hy : 0 ≤ b2i (nth false bs k) * 2 ^ t ∧ b2i (nth false bs k) * 2 ^ t ≤ 128 := by rw [hPc]; cases nth false bs k <;> simp [b2i] <;> omega
      have w5 : IntKind.u8.wrap (b2i (nth false bs k) * 2 ^ t) = b2i (nth false bs k) * 2 ^ t := by rw [IntKind.wrap_u8]; omega
      have hqL : q < L := by omega
      have HO8 := Lib.hid hor
      have HSN := Lib.hid hsn
      have HO := Lib.hid hO
      clear hor hsn hO hkn htl hXe hq ht hPp hPc hy hLL
      go_wp2
      go_still_tail 12, (by kernel_rfl)
      change wpList _ _ _ _ _ (World.drew _)
      rw [HO8.out]
      clear w1 w2 w3 w5 ht7 hbd hX
      go_wp2
      go_roundw
      case rel =>
        have hs := HO.out.set q ((X : Int) + b2i (nth false bs k) * 2 ^ t)
        refine ⟨k + 1, by omega, by go_num, ?_, (below_grown hB hB.size hs.2 (fun r e => by have := Option.some.inj e; omega)).drew⟩
        rw [HSN.out]
        exact hs.1.below (Below.refl _ _).drew
      case measure => simp [intOf]; omega
    · obtain rfl : k = bs.length := by omega
      go_wp2
      go_ret
      exact ⟨_, rfl, by rw [List.take_length] at hO; have := HL.out; rw [← this, padB_all, this] at hO; exact hO, hB⟩

set_option maxHeartbeats 1000000 in
set_option maxRecDepth 100000 in
theorem samebytes_any (A B : Option Addr) (c d : Nat) (a b : List Int) (w : World) (hS : RY w A c a) (hT : RY w B d b) :
    Calls Try.prog 61 #[.slice A a.length c, .slice B b.length d] w fun e w' => e = .returned (.bool (sameL a b)) ∧ Below w.heap.size w w' := by
  have hn := hS.len
  have hm := hT.len
  by_cases hl : a.length = b.length
  · have hb : ((a.length : Int) != (b.length : Int)) = false := by simp [hl]
    have HL := Lib.hid hl
    clear hl
    go_enter Try.func61, Try.ntmps61
    go_wp2
    go_loopw [13] (fun i wr => ∃ k : Nat, k ≤ a.length ∧ i = .int .i64 k ∧ Hid (∀ j, j < k → nth 0 a j = nth 0 b j) ∧ Below w.heap.size w wr) (fun i _ => a.length - (intOf i).toNat)
    case atStart => exact ⟨0, Nat.zero_le _, rfl, fun j hj => absurd hj (by omega), Below.refl _ _⟩
    case round =>
      obtain ⟨k, hk, rfl, hne, hB⟩ := hrel
      by_cases hlt : k < a.length
      · have hkb : k < b.length := by rw [← HL.out]; exact hlt
        obtain ⟨ad, rfl, hc⟩ := rd_int (hS.below hB) k hlt
        obtain ⟨ad', rfl, hc'⟩ := rd_int (hT.below hB) k hkb
        have hk0 : (0 : Int) ≤ (k : Int) := by omega
        have hka : (k : Int) < (a.length : Int) := by omega
        have hkb' : (k : Int) < (b.length : Int) := by omega
        by_cases hx : nth 0 a k = nth 0 b k
        · have hxb : (nth 0 a k != nth 0 b k) = false := by simp [hx]
          have hne' : Hid (∀ j, j < k + 1 → nth 0 a j = nth 0 b j) := fun j hj => by
            rcases Nat.lt_or_ge j k with h | h
            · exact hne.out j h
            · obtain rfl : j = k := by omega
              exact hx
          clear hx
          go_wp2
          go_quiet (fail)
          go_wp2
          go_roundw
          case rel => exact ⟨k + 1, by omega, by go_num, hne', below_drewN hB _⟩
          case measure => simp [intOf]; omega
        · have hxb : (nth 0 a k != nth 0 b k) = true := by simp [hx]
          have HN := Lib.hid (show sameL a b = false from decide_eq_false fun e => hx (by rw [e]))
          clear hx
          go_wp2
          go_quiet (fail)
          go_wp2
          go_ret
          exact ⟨ret_bool HN.out.symm, below_drewN hB _⟩
      · obtain rfl : k = a.length := by omega
        have HN := Lib.hid (same_end HL.out hne.out)
        go_wp2
        go_ret
        exact ⟨ret_bool HN.out.symm, hB⟩
  · have hb : ((a.length : Int) != (b.length : Int)) = true := by simp; omega
    have HN := Lib.hid (show sameL a b = false from decide_eq_false fun e => hl (by rw [e]))
    clear hl
    go_enter Try.func61, Try.ntmps61
    go_wp2
    go_ret
    exact ⟨ret_bool HN.out.symm, Below.refl _ _⟩
end Go.Proofs.Ytkfgomhhenmmeaa

namespace Go.Proofs.Ytkfgomhhenmmeaa
open Go.RowKit

def sameBo (a b : List Bool) : Bool := decide (a = b)
theorem sameBo_end {a b : List Bool} (hl : a.length = b.length) (h : ∀ j, j < a.length → nth false a j = nth false b j) : sameBo a b = true := by
  refine decide_eq_true (List.ext_getElem hl fun i h1 h2 => ?_)
  have := h i h1
  rwa [nth_eq false a i h1, nth_eq false b i h2] at this
set_option maxHeartbeats 1000000 in
set_option maxRecDepth 100000 in
theorem bools_any (A B : Option Addr) (c d : Nat) (a b : List Bool) (w : World) (hS : RB w A c a) (hT : RB w B d b) :
    Calls Try.prog 27 #[.slice A a.length c, .slice B b.length d] w fun e w' => e = .returned (.bool (sameBo a b)) ∧ Below w.heap.size w w' := by
  have hn := hS.len
  have hm := hT.len
  by_cases hl : a.length = b.length
  · have hb : ((a.length : Int) != (b.length : Int)) = false := by simp [hl]
    have HL := Lib.hid hl
    clear hl
    go_enter Try.func27, Try.ntmps27
    go_wp2
    go_loopw [13] (fun i wr => ∃ k : Nat, k ≤ a.length ∧ i = .int .i64 k ∧ Hid (∀ j, j < k → nth false a j = nth false b j) ∧ Below w.heap.size w wr) (fun i _ => a.length - (intOf i).toNat)
    case atStart => exact ⟨0, Nat.zero_le _, rfl, fun j hj => absurd hj (by omega), Below.refl _ _⟩
    case round =>
      obtain ⟨k, hk, rfl, hne, hB⟩ := hrel
      by_cases hlt : k < a.length
      · have hkb : k < b.length := by rw [← HL.out]; exact hlt
        obtain ⟨ad, rfl, hc⟩ := rd_bool (hS.below hB) k hlt
        obtain ⟨ad', rfl, hc'⟩ := rd_bool (hT.below hB) k hkb
        have hk0 : (0 : Int) ≤ (k : Int) := by omega
        have hka : (k : Int) < (a.length : Int) := by omega
        have hkb' : (k : Int) < (b.length : Int) := by omega
        by_cases hx : nth false a k = nth false b k
        · have hxb : (nth false a k != nth false b k) = false := by simp [hx]
          have hxc : (!(nth false a k == nth false b k)) = false := by simp [hx]
          have hxd : (nth false a k == nth false b k) = true := by simp [hx]
          have hne' : Hid (∀ j, j < k + 1 → nth false a j = nth false b j) := fun j hj => by
            rcases Nat.lt_or_ge j k with h | h
            · exact hne.out j h
            · obtain rfl : j = k := by omega
              exact hx
          clear hx
          go_wp2
          go_quiet (fail)
          go_wp2
          go_roundw
          case rel => exact ⟨k + 1, by omega, by go_num, hne', below_drewN hB _⟩
          case measure => simp [intOf]; omega
        · have hxb : (nth false a k != nth false b k) = true := by simp [hx]
          have hxc : (!(nth false a k == nth false b k)) = true := by simp [hx]
          have hxd : (nth false a k == nth false b k) = false := by simp [hx]
          have HN := Lib.hid (show sameBo a b = false from decide_eq_false fun e => hx (by rw [e]))
          clear hx
          go_wp2
          go_quiet (fail)
          go_wp2
          go_ret
          exact ⟨ret_bool HN.out.symm, below_drewN hB _⟩
      · obtain rfl : k = a.length := by omega
        have HN := Lib.hid (sameBo_end HL.out hne.out)
        go_wp2
        go_ret
        exact ⟨ret_bool HN.out.symm, hB⟩
  · have hb : ((a.length : Int) != (b.length : Int)) = true := by simp; omega
    have HN := Lib.hid (show sameBo a b = false from decide_eq_false fun e => hl (by rw [e]))
    clear hl
    go_enter Try.func27, Try.ntmps27
    go_wp2
    go_ret
    exact ⟨ret_bool HN.out.symm, Below.refl _ _⟩

set_option maxHeartbeats 2000000 in
set_option maxRecDepth 100000 in
theorem tbits_any (A : Option Addr) (c : Nat) (b : List Int) (n : Nat) (w : World) (hS : RY w A c b) (hb : ∀ x ∈ b, 0 ≤ x ∧ x < 256) (h8 : n ≤ 8 * b.length) (hm : b.length ≤ 10000000) :
    Calls Try.prog 44 #[.slice A b.length c, .int .i64 (n : Int)] w fun e w' => ∃ x, e = .returned x ∧ OwnI 5 .u8 w.heap.size w' x (bitsI (ofB b n)) ∧ Below w.heap.size w w' := by
  have hw8 : IntKind.i64.wrap (8 * (b.length : Int)) = 8 * (b.length : Int) := IntWalk.i64_in _ (by omega)
  have HX := Lib.hid hb
  have HL := Lib.hid (ofB_length b n)
  have HS := Lib.hid hS
  clear hb hS
  go_enter Try.func44, Try.ntmps44
  go_wp2
  go_loopw [5, 6] (fun v i wr => ∃ k : Nat, k ≤ n ∧ i = .int .i64 (k : Int) ∧ Hid (OwnI 5 .u8 w.heap.size wr v (bitsI ((ofB b n).take k))) ∧ Hid (Below w.heap.size w wr)) (fun _ i _ => n - (intOf i).toNat)
  case atStart => exact ⟨0, Nat.zero_le _, rfl, Lib.hid (OwnI.nil _ _ _ _), Lib.hid (Below.refl _ _)⟩
  case round =>
    obtain ⟨k, hk, rfl, hO, hB⟩ := hrel
    by_cases hlt : k < n
    · obtain ⟨ad, rfl, hc⟩ := rd_int (HS.out.below hB.out) (k / 8) (by omega)
      have hxb := HX.out _ (nth_mem 0 b (k / 8) (by omega))
      have hx := bitB_and8 b k hxb.1 hxb.2
      have HTK := Lib.hid (show bitsI ((ofB b n).take (k + 1)) = bitsI ((ofB b n).take k) ++ [b2i (bitB b k)] by
        rw [take_succ_nth false _ k (by rw [HL.out]; exact hlt), ofB_nth _ _ _ hlt]; simp [bitsI])
      have hlen : (bitsI ((ofB b n).take k)).length ≤ 100000000 := by rw [bitsI_length, List.length_take]; omega
      obtain ⟨q, hq⟩ : ∃ q, k / 8 = q := ⟨_, rfl⟩
      obtain ⟨t, ht⟩ : ∃ t, 7 - k % 8 = t := ⟨_, rfl⟩
      rw [hq, ht] at hx
      rw [hq] at hc
      have hql : q < b.length := by omega
      have hqli : (q : Int) < (b.length : Int) := by omega
      have hqd : (k : Int) / 8 = (q : Int) := by omega
      have htd : 7 - (k : Int) % 8 = (t : Int) := by omega
      have ht7 : t ≤ 7 := by omega
      have hd1 : decide ((k : Int) < (n : Int)) = true := decide_eq_true (by omega)
      have hd2 : decide ((k : Int) < 8 * (b.length : Int)) = true := decide_eq_true (by omega)
      have hd1N : decide (k < n) = true := decide_eq_true hlt
      have hd2N : decide (k < 8 * b.length) = true := decide_eq_true (by omega)
      generalize b2i (bitB b k) = y at hx HTK
      have HLT := Lib.hid hlt
      clear hxb hq ht hlt
      go_wp2_with (at_builtin; (refine append_one (w0 := w) w.heap.size rfl (.tmp 19) (.tmp 30) 43 5 .u8 1 rfl Try.underlying43 infoY (by decide) u5 (bitsI ((ofB b n).take k)) y rfl rfl hO.out hB.out hB.out.size (by omega) ?_); intro v1 w4 hO4 hB4 _ _; have HO4 := Lib.hid hO4; have HB4 := Lib.hid hB4; clear hO4 hB4)
      go_roundw
      case rel => exact ⟨k + 1, HLT.out, by go_num, by rw [HTK.out]; exact HO4, HB4⟩
      case measure => have := HLT.out; simp [intOf]; omega
    · obtain rfl : k = n := by omega
      have hd1 : decide ((k : Int) < (k : Int)) = false := decide_eq_false (by omega)
      have HT := Lib.hid (show (ofB b k).take k = ofB b k from List.take_of_length_le (by rw [HL.out]; exact Nat.le_refl _))
      go_wp2
      go_ret
      exact ⟨_, rfl, by rw [← HT.out]; exact hO.out, hB.out⟩
end Go.Proofs.Ytkfgomhhenmmeaa

namespace Go.Proofs.Ytkfgomhhenmmeaa
open Go.RowKit

theorem packB_bd (bs : List Bool) : ∀ x ∈ packB bs, 0 ≤ x ∧ x < 256 := fun x hx => by
  simp only [packB, List.mem_map, List.mem_range] at hx
  obtain ⟨j, _, rfl⟩ := hx
  have := byteB_lt bs j
  exact ⟨Int.natCast_nonneg _, by show ((byteB bs j : Nat) : Int) < 256; omega⟩
theorem lit_rb (W : World) (e : TypeId) (xs : List Bool) (hm : xs.length ≤ 9223372036854775807) : RB (W.alloc (.cells (bools xs).toArray e)) (some ⟨W.heap.size, 0, none⟩) xs.length xs :=
  (sl_bools (heap_alloc_new W _) (Nat.le_refl _) hm).any
set_option maxRecDepth 100000 in
theorem ex_cost : costS [10, 0, 12] [true, false, true] = (12, 0) := by decide +kernel
set_option maxRecDepth 100000 in
theorem ex_ch : chooseE [10, 15] [20, 30] [true, true] = 0 ∧ chooseO [10, 15] [20, 30] [true, true] = [15, 15] ∧ chooseN [10, 15] [20, 30] [true, true] = 8 := by decide +kernel
/-- The bits of the example. -/
def exX : List Bool := fullB [] (rowB [10, 0, 12] [true, false, true])
set_option maxRecDepth 100000 in
theorem ex_wr : writeS [10, 0, 12] [true, false, true] ([] : List Bool).length = 0 ∧ exX.length = 12 := by decide +kernel
set_option maxRecDepth 100000 in
theorem ex_rd : readQ exX 0 [true, false, true] = ([10, 0, 12], 0, 12) := by decide +kernel
set_option maxRecDepth 100000 in
theorem ex_pk : (packB exX).length = 2 ∧ ofB (packB exX) 12 = exX := by decide +kernel
set_option maxRecDepth 100000 in
theorem ex_us : usedB [2, 1] [0, 0, 5] = [false, true] ∧ usedE [2, 1] [0, 0, 5] = 0 := by decide +kernel
set_option maxRecDepth 100000 in
theorem ex_tab : nth 0 tabI 97 = 5 ∧ nth 0 tabI 95 = 1 := by decide +kernel

theorem ch_ex (w : World) : Calls Try.prog 23 #[.slice (some ⟨w.heap.size, 0, none⟩) 2 2, .slice (some ⟨w.heap.size + 1, 0, none⟩) 2 2, .slice (some ⟨w.heap.size + 1 + 1, 0, none⟩) 2 2]
    (((w.alloc (.cells #[.int .i64 10, .int .i64 15] 3)).alloc (.cells #[.int .i64 20, .int .i64 30] 3)).alloc (.cells #[.bool true, .bool true] 4)) fun e w' => ∃ A c, e = .returned (.tuple #[.slice A 2 c, .int .i64 8, .int .i64 0]) ∧ RI w' A c [15, 15] ∧ Below w.heap.size w w' := by
  have h1 := lit_ri w 3 .i64 [10, 15] (by decide)
  have h2 := lit_ri (w.alloc (.cells (nums .i64 [10, 15]).toArray 3)) 3 .i64 [20, 30] (by decide)
  have h3 := lit_rb ((w.alloc (.cells (nums .i64 [10, 15]).toArray 3)).alloc (.cells (nums .i64 [20, 30]).toArray 3)) 4 [true, true] (by decide)
  rw [World.size_alloc] at h2
  rw [World.size_alloc, World.size_alloc] at h3
  have b1 := lit_be w 3 .i64 [10, 15]
  have b2 := below_alloc (Below.refl _ (w.alloc (.cells (nums .i64 [10, 15]).toArray 3))) (.cells (nums .i64 [20, 30]).toArray 3)
  have b3 := below_alloc (Below.refl _ ((w.alloc (.cells (nums .i64 [10, 15]).toArray 3)).alloc (.cells (nums .i64 [20, 30]).toArray 3))) (.cells (bools [true, true]).toArray 4)
  refine (schoose_any _ _ _ 2 2 2 [10, 15] [20, 30] [true, true] _ ((h1.below b2).below b3) (h2.below b3) h3).mono ?_
  rintro e w' ⟨v, rfl, hO, hb⟩
  obtain ⟨A, c, rfl, h⟩ := own_ri hO
  rw [ex_ch.2.1] at h
  rw [ex_ch.1, ex_ch.2.1, ex_ch.2.2]
  exact ⟨A, c, rfl, h, below2 (below2 (below2 b1 b2) b3) hb⟩
theorem us_ex (w : World) : Calls Try.prog 25 #[.slice (some ⟨w.heap.size, 0, none⟩) 2 2, .slice (some ⟨w.heap.size + 1, 0, none⟩) 3 3]
    ((w.alloc (.cells #[.int .i64 2, .int .i64 1] 3)).alloc (.cells #[.int .i64 0, .int .i64 0, .int .i64 5] 3)) fun e w' => ∃ A c, e = .returned (.tuple #[.slice A 2 c, .int .i64 0]) ∧ RB w' A c [false, true] ∧ Below w.heap.size w w' := by
  have h1 := lit_ri w 3 .i64 [2, 1] (by decide)
  have h2 := lit_ri (w.alloc (.cells (nums .i64 [2, 1]).toArray 3)) 3 .i64 [0, 0, 5] (by decide)
  rw [World.size_alloc] at h2
  have b1 := lit_be w 3 .i64 [2, 1]
  have b2 := below_alloc (Below.refl _ (w.alloc (.cells (nums .i64 [2, 1]).toArray 3))) (.cells (nums .i64 [0, 0, 5]).toArray 3)
  refine (used_any _ _ 2 3 [2, 1] [0, 0, 5] _ (h1.below b2) h2 (by decide) (by decide)).mono ?_
  rintro e w' ⟨A, c, rfl, h, hb⟩
  rw [ex_us.1] at h
  rw [ex_us.1, ex_us.2]
  exact ⟨A, c, rfl, h, below2 (below2 b1 b2) hb⟩
theorem bools_ex (x y : Bool) (A : Option Addr) (c : Nat) (w : World) (hA : RB w A c [x, y]) : Calls Try.prog 27 #[.slice A 2 c, .slice (some ⟨w.heap.size, 0, none⟩) 2 2] (w.alloc (.cells #[.bool x, .bool y] 4)) fun e w' => e = .returned (.bool true) ∧ Below w.heap.size w w' := by
  have b1 := below_alloc (Below.refl _ w) (.cells (bools [x, y]).toArray 4)
  refine (bools_any A _ c 2 [x, y] [x, y] _ (hA.below b1) (lit_rb w 4 [x, y] (show 2 ≤ 9223372036854775807 by decide))).mono ?_
  rintro e w' ⟨rfl, hb⟩
  exact ⟨by rw [show sameBo [x, y] [x, y] = true by simp [sameBo]], below2 b1 hb⟩
theorem ints_e2 (x y : Int) (A : Option Addr) (c : Nat) (w : World) (hA : RI w A c [x, y]) : Calls Try.prog 15 #[.slice A 2 c, .slice (some ⟨w.heap.size, 0, none⟩) 2 2] (w.alloc (.cells #[.int .i64 x, .int .i64 y] 3)) fun e w' => e = .returned (.bool true) ∧ Below w.heap.size w w' :=
  ints_ex A c [x, y] 2 rfl (by decide) w hA
theorem ints_eq3 (x y z : Int) (A B : Option Addr) (c d : Nat) (w : World) (hA : RI w A c [x, y, z]) (hB : RI w B d [x, y, z]) : Calls Try.prog 15 #[.slice A 3 c, .slice B 3 d] w fun e w' => e = .returned (.bool true) ∧ Below w.heap.size w w' := by
  refine (ints_ref A B c d [x, y, z] [x, y, z] w hA hB).mono ?_
  rintro e w' ⟨rfl, hb⟩
  exact ⟨by rw [show sameL [x, y, z] [x, y, z] = true by simp [sameL]], hb⟩

set_option maxHeartbeats 4000000 in
set_option maxRecDepth 100000 in
theorem awake_any (w : World) : Calls Try.prog 12 #[] w fun e w' => e = .returned (.bool true) ∧ Below w.heap.size w w' := by
  have h1 := lit_ri w 3 .i64 [10, 0, 12] (by decide)
  have h2 := lit_rb (w.alloc (.cells (nums .i64 [10, 0, 12]).toArray 3)) 4 [true, false, true] (by decide)
  rw [World.size_alloc] at h2
  have b1 := lit_be w 3 .i64 [10, 0, 12]
  have b2 := below_alloc (Below.refl _ (w.alloc (.cells (nums .i64 [10, 0, 12]).toArray 3))) (.cells (bools [true, false, true]).toArray 4)
  replace h1 := h1.below b2
  have b := below2 b1 b2
  go_enter Try.func12, Try.ntmps12
  go_wp2_with fail
  obtain ⟨p1, hp1⟩ : ∃ p1, w.heap.size = p1 := ⟨_, rfl⟩
  obtain ⟨p2, hp2⟩ : ∃ p2, p1 + 1 = p2 := ⟨_, rfl⟩
  obtain ⟨W0, hW0⟩ : ∃ W0, (w.alloc (.cells (nums .i64 [10, 0, 12]).toArray 3)).alloc (.cells (bools [true, false, true]).toArray 4) = W0 := ⟨_, rfl⟩
  rw [hW0, hp1] at h1
  rw [hW0, hp1, hp2] at h2
  rw [hW0] at b
  have hW0' : (w.alloc (.cells #[.int .i64 10, .int .i64 0, .int .i64 12] 3)).alloc (.cells #[.bool true, .bool false, .bool true] 4) = W0 := hW0
  simp only [hW0', hp1, hp2]
  replace h1 : RI W0 (some ⟨p1, 0, none⟩) 3 [10, 0, 12] := h1
  replace h2 : RB W0 (some ⟨p2, 0, none⟩) 3 [true, false, true] := h2
  have HP := Lib.hid hp1
  clear b1 b2 hW0 hW0' hp1 hp2
  refine (slengths_any _).mono ?_
  rintro e w1 ⟨v3, rfl, hO, b1⟩
  obtain ⟨A3, c3, rfl, h3⟩ := own_ri hO
  rw [tabI_length]
  clear hO
  replace h1 := h1.below b1; replace h2 := h2.below b1; replace b := below2 b b1; clear b1
  go_wp2_with fail
  refine (scost_any _ _ 3 3 [10, 0, 12] [true, false, true] _ h1 h2).mono ?_
  rw [ex_cost]
  rintro e w2 ⟨rfl, b1⟩
  replace h1 := h1.below b1; replace h2 := h2.below b1; replace h3 := h3.below b1; replace b := below2 b b1; clear b1
  go_wp2_with fail
  refine (ch_ex _).mono ?_
  rintro e w3 ⟨A6, c6, rfl, h6, b1⟩
  replace h1 := h1.below b1; replace h2 := h2.below b1; replace h3 := h3.below b1; replace b := below2 b b1; clear b1
  go_wp2_with fail
  refine (wnew_any _).mono ?_
  rintro e w4 ⟨g, rfl, hw, b1, hg⟩
  replace h1 := h1.apart b1 hg; replace h2 := h2.apart b1 hg; replace h3 := h3.apart b1 hg; replace h6 := h6.apart b1 hg
  have hgw : w.heap.size ≤ g := by have := b.size; omega
  replace b := below2 b b1; clear b1 hg
  go_wp2_with fail
  refine (swrite_any _ g _ _ 3 3 [] [10, 0, 12] [true, false, true] _ hw (by decide) h1 h2).mono ?_
  rw [ex_wr.1]
  rintro e w5 ⟨rfl, hw5, hu⟩
  replace hw5 : Wr (fun b => b = g ∨ w4.heap.size ≤ b) w5 g exX := hw5
  have hk := hu.keep (ok := fun x => x ≠ g) fun _ h => h
  replace h1 := (h1.keep hk).any; replace h2 := (h2.keep hk).any; replace h3 := (h3.keep hk).any; replace h6 := (h6.keep hk).any
  replace b := b.trans (hu.below b.size (fun x _ e => by omega)); clear hu hk hw hgw
  go_wp2_with fail
  refine (wbytes_any _ g exX _ hw5 (by rw [ex_wr.2]; decide)).mono ?_
  rintro e w6 ⟨v7, rfl, hO, b1⟩
  obtain ⟨A7, c7, rfl, h7⟩ := own_ri hO
  have hpb : ∀ x ∈ packB exX, 0 ≤ x ∧ x < 256 := packB_bd exX
  rw [ex_pk.1]
  clear hO
  replace h1 := h1.below b1; replace h2 := h2.below b1; replace h3 := h3.below b1; replace h6 := h6.below b1; replace hw5 := hw5.below b1; replace b := below2 b b1; clear b1
  go_wp2_with fail
  refine (wlen_any _ g exX _ hw5).mono ?_
  rw [ex_wr.2]
  rintro e w7 ⟨rfl, rfl⟩
  go_wp2_with fail
  have ho := ropen_ok A7 c7 (packB exX) 12 w6 h7 hpb (by rw [ex_pk.1]; decide) (by rw [ex_pk.1]; decide) (by decide)
  rw [ex_pk.1, ex_pk.2] at ho
  refine ho.mono ?_
  rintro e w8 ⟨gr, rfl, hr, b1, hg⟩
  replace h1 := h1.apart b1 hg; replace h2 := h2.apart b1 hg; replace h3 := h3.apart b1 hg; replace h6 := h6.apart b1 hg
  have hgw : w.heap.size ≤ gr := by have := b.size; omega
  replace b := below2 b b1; clear b1 hg ho h7 hw5 hpb
  go_wp2_with fail
  refine (sRead_any _ gr 0 exX _ 3 [true, false, true] _ hr h2).mono ?_
  rw [ex_rd]
  rintro e w9 ⟨v8, rfl, hO, _, hu⟩
  obtain ⟨A8, c8, rfl, h8⟩ := own_ri hO
  have hk := hu.keep (ok := fun x => x ≠ gr) fun _ h => h
  replace h1 := (h1.keep hk).any; replace h3 := (h3.keep hk).any; replace h6 := (h6.keep hk).any
  replace b := b.trans (hu.below b.size (fun x _ e => by omega)); clear hu hk hr hgw hO h2
  go_wp2_with fail
  refine (us_ex _).mono ?_
  rintro e w10 ⟨A9, c9, rfl, h9, b1⟩
  replace h1 := h1.below b1; replace h3 := h3.below b1; replace h6 := h6.below b1; replace h8 := h8.below b1; replace b := below2 b b1; clear b1
  obtain ⟨ad3, rfl, k97⟩ := rd_int h3 97 (by rw [tabI_length]; decide)
  rw [ex_tab.1] at k97
  replace k97 : w10.cell? ⟨ad3.block, ad3.off + 97, none⟩ = some (.int .i64 5) := by simpa [Addr.add] using k97
  go_wp2_with fail
  refine (ints_e2 _ _ A6 c6 _ h6).mono ?_
  rintro e w11 ⟨rfl, b1⟩
  replace h1 := h1.below b1; replace h3 := h3.below b1; replace h8 := h8.below b1; replace h9 := h9.below b1; replace b := below2 b b1; clear b1 k97
  obtain ⟨ad4, e4, k95⟩ := rd_int h3 95 (by rw [tabI_length]; decide)
  cases e4
  rw [ex_tab.2] at k95
  replace k95 : w11.cell? ⟨ad3.block, ad3.off + 95, none⟩ = some (.int .i64 1) := by simpa [Addr.add] using k95
  go_wp2_with fail
  refine (ints_eq3 _ _ _ A8 _ c8 3 _ h8 h1).mono ?_
  rintro e w12 ⟨rfl, b1⟩
  replace h9 := h9.below b1; replace b := below2 b b1; clear b1 k95
  go_wp2_with fail
  refine (bools_ex _ _ A9 c9 _ h9).mono ?_
  rintro e w13 ⟨rfl, b1⟩
  replace b := below2 b b1; clear b1
  go_wp2
  go_ret
  exact ⟨rfl, b⟩
end Go.Proofs.Ytkfgomhhenmmeaa

namespace Go.Proofs.Ytkfgomhhenmmeaa
open Go.RowKit

theorem few1_any (A B : Option Addr) (c d : Nat) (ss : List Int) (us : List Bool) (W : World) (hS : RI W A c ss) :
    Calls Try.prog 11 #[.slice B us.length d, .slice (some ⟨W.heap.size, 0, none⟩) 1 1] (W.alloc (.cells #[.slice A ss.length c] 22)) fun e w' => e = .returned (.bool (fewB us.length [ss])) ∧ Below W.heap.size W w' := by
  refine (few_any _ B 1 d us.length [ss] _ (lit_sl1 W 22 hS).any (by simp)).mono ?_
  rintro e w' ⟨rfl, rfl⟩
  exact ⟨rfl, below_alloc (Below.refl _ _) _⟩
theorem few2_any (A1 A2 B : Option Addr) (c1 c2 d : Nat) (xs ys : List Int) (us : List Bool) (W : World) (h1 : RI W A1 c1 xs) (h2 : RI W A2 c2 ys) :
    Calls Try.prog 11 #[.slice B us.length d, .slice (some ⟨W.heap.size, 0, none⟩) 2 2] (W.alloc (.cells #[.slice A1 xs.length c1, .slice A2 ys.length c2] 22)) fun e w' => e = .returned (.bool (fewB us.length [xs, ys])) ∧ Below W.heap.size W w' := by
  refine (few_any _ B 2 d us.length [xs, ys] _ (lit_sl2 W 22 h1 h2).any (by simp)).mono ?_
  rintro e w' ⟨rfl, rfl⟩
  exact ⟨rfl, below_alloc (Below.refl _ _) _⟩
theorem few0_any (B : Option Addr) (d : Nat) (us : List Bool) (W : World) :
    Calls Try.prog 11 #[.slice B us.length d, .slice none 0 0] W fun e w' => e = .returned (.bool (decide (us.length ≤ 200))) ∧ W = w' :=
  (few_any none B 0 d us.length [] W ⟨Nat.le_refl _, by decide, Kd.Rd.nil _ _ _ _⟩ (by simp)).mono fun e w' h => ⟨h.1, h.2⟩
end Go.Proofs.Ytkfgomhhenmmeaa

namespace Go.Proofs.Ytkfgomhhenmmeaa
open Go.ChangeShapes Go.WideShapes Go.ChangeAt Go.WideMaps Go.WideElems Go.RowKit Go.Deep

section
variable {H : Type} {enc : TypeId × Value → H} {W : World}
/-- A []bool. -/
theorem open_B {fuel : Nat} {v : Value} {x : DataW H × List MemPlace} (h : DataW.trod enc Try.prog W 0 (fun _ => true) true fuel 23 [v] = some x) :
    ∃ A c xs, v = .slice A xs.length c ∧ RB W A c xs := by
  rcases open_bools Try.underlying23 Try.underlying4 (by kernel_rfl) h with ⟨hcs, _⟩ | ⟨a, len, cap, B, hcs, _, hl, hm, _, hcell⟩
  · injection hcs with hv _
    exact ⟨none, 0, [], hv, ⟨Nat.le_refl _, by omega, Kd.Rd.nil _ _ _ _⟩⟩
  · injection hcs with hv _
    have hlen : ((List.range len).map B).length = len := by simp
    refine ⟨some a, cap, (List.range len).map B, by rw [hlen]; exact hv, sl_cells kBool rfl (fun i => .bool (B i)) (by rw [hlen]; exact hl) hm (fun i hi => ?_) (fun i hi => ?_)⟩
    · rw [hlen] at hi
      exact hcell i (by omega)
    · rw [hlen] at hi
      show [Value.bool (B i)] = [.bool (nth false ((List.range len).map B) i)]
      rw [nth_eq false _ i (by rw [hlen]; exact hi)]
      simp
set_option maxRecDepth 100000 in
/-- The bits that a reader begins with. -/
theorem open_Z {r : Reach} {b0 : Nat} {v : Value} {d : DataW H} {p : List MemPlace} (hv : Value.okWide Try.prog W r b0 34 v) (h : DataW.Trod enc Try.prog W 0 (fun _ => true) true 34 v d p) :
    ∃ (A : Option Addr) (c : Nat) (b : List Int) (N At : Int), v = .agg #[.slice A b.length c, .int .i64 N, .int .i64 At] ∧ RY W A c b ∧ ∀ x ∈ b, 0 ≤ x ∧ x < 256 := by
  obtain ⟨v0, v1, v2, y0, y1, y2, n, rfl, rfl, rfl, h0, h1, h2⟩ := Joins.open_agg3 (P := Try.prog) Try.underlying34 (by kernel_rfl) (by kernel_rfl) hv h
  obtain ⟨A, c, s, rfl, h3, h4, _⟩ := open_Y h0
  obtain ⟨k1, e1, _⟩ := DataW.trod_int (P := Try.prog) Try.underlying3 h1
  obtain ⟨k2, e2, _⟩ := DataW.trod_int (P := Try.prog) Try.underlying3 h2
  injection e1 with e1 _
  injection e2 with e2 _
  subst e1 e2
  exact ⟨A, c, s, k1, k2, rfl, h3, h4⟩
set_option maxRecDepth 100000 in
/-- What a writer begins with. -/
theorem open_M {r : Reach} {b0 : Nat} {v : Value} {d : DataW H} {p : List MemPlace} (hv : Value.okWide Try.prog W r b0 62 v) (h : DataW.Trod enc Try.prog W 0 (fun _ => true) true 62 v d p) :
    ∃ (A : Option Addr) (c : Nat) (b : List Int) (L : Int), v = .agg #[.slice A b.length c, .int .i64 L] ∧ RY W A c b ∧ ∀ x ∈ b, 0 ≤ x ∧ x < 256 := by
  obtain ⟨v0, v1, y0, y1, n, rfl, rfl, rfl, h0, h1⟩ := Joins.open_agg2 (P := Try.prog) Try.underlying62 (by kernel_rfl) (by kernel_rfl) hv h
  obtain ⟨A, c, s, rfl, h3, h4, _⟩ := open_Y h0
  obtain ⟨k1, e1, _⟩ := DataW.trod_int (P := Try.prog) Try.underlying3 h1
  injection e1 with e1 _
  subst e1
  exact ⟨A, c, s, k1, rfl, h3, h4⟩
end
end Go.Proofs.Ytkfgomhhenmmeaa

namespace Go.Proofs.Ytkfgomhhenmmeaa
open Go.RowKit

theorem wordF_word {ls : List Int} (hr : Right ls) {s : Nat} (hs : s < ls.length) (h0 : 0 < lenOf ls s) (rest : List Bool) : ∀ (fuel n : Nat), n < lenOf ls s → lenOf ls s ≤ n + fuel →
    wordF ls (numB (codeN ls s) (lenOf ls s) ++ rest) fuel n = (s, 0, lenOf ls s)
  | 0, n, h1, h2 => by omega
  | fuel + 1, n, h1, h2 => by
    have h16 := hr.ok.len16
    have hC := code_lt h16 hr.full hs
    have hl : (numB (codeN ls s) (lenOf ls s)).length = lenOf ls s := numB_length _ _
    have hv : valB ((numB (codeN ls s) (lenOf ls s) ++ rest).take (n + 1)) = codeN ls s / 2 ^ (lenOf ls s - (n + 1)) := by
      rw [List.take_append_of_le_length (by omega), numB_take _ _ _ (by omega), valB_numB]
      refine Nat.mod_eq_of_lt ?_
      rw [Nat.div_lt_iff_lt_mul (Nat.two_pow_pos _), ← Nat.pow_add]
      rw [show n + 1 + (lenOf ls s - (n + 1)) = lenOf ls s by omega]
      exact hC
    unfold wordF
    rw [if_neg (by rw [List.length_append]; omega), hv]
    rcases Nat.lt_or_ge (n + 1) (lenOf ls s) with h3 | h3
    · have e1 : symF ls ls.length (n + 1, codeN ls s / 2 ^ (lenOf ls s - (n + 1))) = none := symF_none fun j hj ⟨hj0, e⟩ => by
        injection e with e1 e2
        have hne : j ≠ s := fun e => by subst e; omega
        exact code_free h16 hj hs hne hj0 (by omega) (by rw [← e1]; exact e2)
      rw [e1]
      exact wordF_word hr hs h0 rest fuel (n + 1) h3 (by omega)
    · have e : n + 1 = lenOf ls s := by omega
      rw [e, Nat.sub_self, Nat.pow_zero, Nat.div_one, symF_some hr h0 hs (Nat.le_refl _)]
theorem step_read (d : Int) (h : -95 ≤ d ∧ d ≤ 95) (rest : List Bool) : stepV (stepB d ++ rest) = d ∧ stepE (stepB d ++ rest) = 0 ∧ stepN (stepB d ++ rest) = stepL d := by
  have hk : (d + 95).toNat < tabI.length := by rw [tabI_length]; omega
  have hl := tab_lenOf_stepL d h
  have hb := tabS_bound (d + 95).toNat (by rw [tabI_length] at hk; exact hk)
  have h0 : 0 < lenOf tabI (d + 95).toNat := by rw [tab_lenOf _ (by rw [tabI_length] at hk; exact hk)]; omega
  have hw : wordR tabI (stepB d ++ rest) = ((d + 95).toNat, 0, stepL d) := by
    unfold stepB wordR
    rw [← hl]
    exact wordF_word tab_right hk h0 rest 16 0 h0 (by have := tab_len16 (d + 95).toNat; omega)
  unfold stepV stepE stepN
  rw [hw]
  exact ⟨by rw [if_pos rfl]; show (((d + 95).toNat : Nat) : Int) - 95 = d; omega, rfl, rfl⟩
/-- The scales of the first bands that are used. -/
def sprS (ss : List Int) (us : List Bool) (k : Nat) : List Int := (List.range us.length).map fun i => if i < k ∧ nth false us i = true then nth 0 ss i else 0
theorem sprS_length (ss : List Int) (us : List Bool) (k : Nat) : (sprS ss us k).length = us.length := by simp [sprS]
theorem sprS_nth (ss : List Int) (us : List Bool) (k i : Nat) (h : i < us.length) : nth 0 (sprS ss us k) i = if i < k ∧ nth false us i = true then nth 0 ss i else 0 := by
  rw [nth_eq 0 _ i (by rw [sprS_length]; exact h)]; simp [sprS]
theorem sprS_zero (ss : List Int) (us : List Bool) : sprS ss us 0 = List.replicate us.length 0 := by
  apply List.ext_getElem
  · simp [sprS]
  · intro i h1 h2; simp [sprS]
theorem sprS_miss {ss : List Int} {us : List Bool} {k : Nat} (h : nth false us k = false) : sprS ss us (k + 1) = sprS ss us k := by
  apply List.ext_getElem
  · simp [sprS]
  · intro i h1 h2
    simp only [sprS, List.getElem_map, List.getElem_range]
    by_cases e : i = k
    · subst e; rw [if_neg (by rw [h]; simp), if_neg (by rw [h]; simp)]
    · congr 1
      apply propext
      constructor
      · rintro ⟨a, b⟩; exact ⟨by omega, b⟩
      · rintro ⟨a, b⟩; exact ⟨by omega, b⟩
theorem sprS_hit {ss : List Int} {us : List Bool} {k : Nat} (h : nth false us k = true) : (sprS ss us k).set k (nth 0 ss k) = sprS ss us (k + 1) := by
  apply List.ext_getElem
  · simp [sprS]
  · intro i h1 h2
    rw [List.getElem_set]
    simp only [sprS, List.getElem_map, List.getElem_range]
    split
    · rename_i e
      subst e
      rw [if_pos ⟨by omega, h⟩]
    · rename_i e
      by_cases hi : i < k ∧ nth false us i = true
      · rw [if_pos hi, if_pos ⟨by omega, hi.2⟩]
      · rw [if_neg hi, if_neg (by rintro ⟨a, b⟩; exact hi ⟨by omega, b⟩)]
theorem freeB_at {ss : List Int} {us : List Bool} {n i : Nat} (h : freeB ss us n = true) (hi : i < n) (hu : nth false us i = false) : nth 0 ss i = 0 := by
  have := List.all_eq_true.1 h i (List.mem_range.2 hi)
  rw [hu] at this
  simpa using this
theorem sprS_all {ss : List Int} {us : List Bool} (hl : ss.length = us.length) (hf : freeB ss us ss.length = true) : sprS ss us us.length = ss := by
  apply List.ext_getElem
  · rw [sprS_length, hl]
  · intro i h1 h2
    simp only [sprS, List.getElem_map, List.getElem_range]
    cases hu : nth false us i
    · rw [if_neg (by simp), ← nth_eq 0 ss i h2, freeB_at hf h2 hu]
    · rw [if_pos ⟨by rw [← hl]; exact h2, rfl⟩, nth_eq 0 ss i h2]
theorem rd_row {ss : List Int} {us : List Bool} (hE : checkedE ss us = 0) : ∀ k, k ≤ us.length → rdP (rowB ss us) 0 us.length (walkK us k) = (sprS ss us k, (bitsP ss (walkK us k)).length, 0)
  | 0, _ => by rw [sprS_zero]; rfl
  | k + 1, hk => by
    have ih := rd_row hE k (by omega)
    have hok := checked_ok hE
    cases hu : nth false us k
    · rw [(walkK_miss hu).1, sprS_miss hu]; exact ih
    · obtain ⟨t, ht⟩ := walkK_prefix us (k + 1) us.length hk
      have hrow : rowB ss us = bitsP ss (walkK us k) ++ (fieldP ss (k, befK us k) ++ bitsP ss t) := by
        rw [rowB_walk hE, ht, (walkK_hit hu).1]; simp [bitsP]
      rw [(walkK_hit hu).1, rdP_snoc, ih, bitsP_snoc, List.length_append, fieldP_len]
      have hrk := nth_range hok.2.2.1 k
      have hdrop : (rowB ss us).drop (bitsP ss (walkK us k)).length = fieldP ss (k, befK us k) ++ bitsP ss t := by rw [hrow, List.drop_left]
      have hlen : (rowB ss us).length = (bitsP ss (walkK us k)).length + (stepC ss (k, befK us k) + (bitsP ss t).length) := by rw [hrow, List.length_append, List.length_append, fieldP_len]
      obtain ⟨p, hp⟩ : ∃ p, (bitsP ss (walkK us k)).length = p := ⟨_, rfl⟩
      rw [hp] at hdrop hlen ⊢
      have hset := sprS_hit (ss := ss) hu
      have hisB : isB (nth 0 ss k) = true := (isB_iff _).2 hrk
      have key : rdE (rowB ss us) p (befK us k) = 0 ∧ rdV (rowB ss us) (sprS ss us k) p (befK us k) = nth 0 ss k ∧ rdN (rowB ss us) p (befK us k) = p + stepC ss (k, befK us k) := by
        rcases befK_cnt us k with ⟨h1, _⟩ | ⟨j, h1, h2, h3, _⟩
        · have hf : fieldP ss (k, befK us k) = numB (nth 0 ss k).toNat 7 := by unfold fieldP; rw [if_pos (by show befK us k < 0; omega)]
          have hc : stepC ss (k, befK us k) = 7 := by unfold stepC; rw [if_pos (by show befK us k < 0; omega)]
          rw [hc] at hlen
          rw [hf] at hdrop
          rw [hc]
          unfold rdE rdV rdN
          rw [h1, if_pos (by decide), if_pos (by decide), if_pos (by decide)]
          unfold getE getV getI
          rw [if_neg (by omega), if_neg (by omega), if_neg (by omega), hdrop, List.take_append_of_le_length (by rw [numB_length]; exact Nat.le_refl _), List.take_of_length_le (by rw [numB_length]; exact Nat.le_refl _), valB_numB]
          refine ⟨rfl, ?_, rfl⟩
          rw [Nat.mod_eq_of_lt (by have h9 : (2 : Nat) ^ 7 = 128 := by decide
                                   omega)]
          omega
        · have hrj := nth_range hok.2.2.1 j
          have hf : fieldP ss (k, befK us k) = stepB (nth 0 ss k - nth 0 ss j) := by unfold fieldP; rw [if_neg (by show ¬ befK us k < 0; omega)]; show stepB (nth 0 ss k - nth 0 ss (befK us k).toNat) = _; rw [h1, Int.toNat_natCast]
          have hc : stepC ss (k, befK us k) = stepL (nth 0 ss k - nth 0 ss j) := by unfold stepC; rw [if_neg (by show ¬ befK us k < 0; omega)]; show stepL (nth 0 ss k - nth 0 ss (befK us k).toNat) = _; rw [h1, Int.toNat_natCast]
          rw [hf] at hdrop
          rw [hc]
          obtain ⟨s1, s2, s3⟩ := step_read (nth 0 ss k - nth 0 ss j) (by omega) (bitsP ss t)
          unfold rdE rdV rdN
          rw [h1, if_neg (by omega), if_neg (by omega), if_neg (by omega), hdrop, s1, s2, s3, Int.toNat_natCast, sprS_nth _ _ _ _ (by omega), if_pos ⟨h2, h3⟩]
          exact ⟨rfl, by omega, rfl⟩
      obtain ⟨k1, k2, k3⟩ := key
      unfold rdStep
      simp only [k1, k2, k3, ne_eq, not_true_eq_false, if_false, hisB, Bool.true_eq_false, hset]
theorem read_row {ss : List Int} {us : List Bool} (hE : checkedE ss us = 0) : readQ (rowB ss us) 0 us = (ss, 0, (rowB ss us).length) := by
  have hok := checked_ok hE
  have h := rd_row hE us.length (Nat.le_refl _)
  unfold readQ
  rw [if_neg (by omega), h, if_neg (by simp), sprS_all hok.1 hok.2.2.2, rowB_walk hE]
end Go.Proofs.Ytkfgomhhenmmeaa

namespace Go.Proofs.Ytkfgomhhenmmeaa
open Go.RowKit

set_option maxRecDepth 100000 in
theorem far_all : ∀ d : Fin 94, nth 0 tabI (96 + d.val) ≤ nth 0 tabI (97 + d.val) ∧ nth 0 tabI (94 - d.val) ≤ nth 0 tabI (93 - d.val) ∧ nth 0 tabI 95 ≤ nth 0 tabI (96 + d.val) ∧ nth 0 tabI 95 ≤ nth 0 tabI (94 - d.val) := by decide +kernel
theorem far_at (d : Nat) (h1 : 1 ≤ d) (h2 : d < 95) : nth 0 tabI (95 + d) ≤ nth 0 tabI (96 + d) ∧ nth 0 tabI (95 - d) ≤ nth 0 tabI (94 - d) ∧ nth 0 tabI 95 ≤ nth 0 tabI (95 + d) ∧ nth 0 tabI 95 ≤ nth 0 tabI (95 - d) := by
  have h := far_all ⟨d - 1, by omega⟩
  simp only at h
  rw [show 96 + (d - 1) = 95 + d by omega, show 97 + (d - 1) = 96 + d by omega, show 94 - (d - 1) = 95 - d by omega, show 93 - (d - 1) = 94 - d by omega] at h
  exact h
/-- The scales, those of the first bands that are used moved. -/
def upS (ss : List Int) (us : List Bool) (m : Int) (k : Nat) : List Int := (List.range ss.length).map fun i => nth 0 ss i + (if i < k ∧ nth false us i = true then m else 0)
theorem upS_length (ss : List Int) (us : List Bool) (m : Int) (k : Nat) : (upS ss us m k).length = ss.length := by simp [upS]
theorem upS_nth (ss : List Int) (us : List Bool) (m : Int) (k i : Nat) (h : i < ss.length) : nth 0 (upS ss us m k) i = nth 0 ss i + (if i < k ∧ nth false us i = true then m else 0) := by
  rw [nth_eq 0 _ i (by rw [upS_length]; exact h)]; simp [upS]
theorem upS_zero (ss : List Int) (us : List Bool) (m : Int) : upS ss us m 0 = ss := by
  apply List.ext_getElem
  · simp [upS]
  · intro i h1 h2; simp [upS, nth_eq 0 ss i h2]
theorem upS_miss {ss : List Int} {us : List Bool} {m : Int} {k : Nat} (h : nth false us k = false) : upS ss us m (k + 1) = upS ss us m k := by
  apply List.ext_getElem
  · simp [upS]
  · intro i h1 h2
    simp only [upS, List.getElem_map, List.getElem_range]
    congr 1
    by_cases e : i = k
    · subst e; rw [if_neg (by rw [h]; simp), if_neg (by rw [h]; simp)]
    · congr 1
      apply propext
      constructor
      · rintro ⟨a, b⟩; exact ⟨by omega, b⟩
      · rintro ⟨a, b⟩; exact ⟨by omega, b⟩
theorem upS_hit {ss : List Int} {us : List Bool} {m : Int} {k : Nat} (h : nth false us k = true) : (upS ss us m k).set k (nth 0 ss k + m) = upS ss us m (k + 1) := by
  apply List.ext_getElem
  · simp [upS]
  · intro i h1 h2
    rw [List.getElem_set]
    simp only [upS, List.getElem_map, List.getElem_range]
    split
    · rename_i e
      subst e
      rw [if_pos ⟨by omega, h⟩]
    · rename_i e
      congr 1
      by_cases hi : i < k ∧ nth false us i = true
      · rw [if_pos hi, if_pos ⟨by omega, hi.2⟩]
      · rw [if_neg hi, if_neg (by rintro ⟨a, b⟩; exact hi ⟨by omega, b⟩)]
theorem walkK_at (us : List Bool) : ∀ k, ∀ x ∈ walkK us k, x.1 < k ∧ nth false us x.1 = true ∧ x.2 = befK us x.1
  | 0, x, h => by cases h
  | k + 1, x, h => by
    cases hu : nth false us k
    · rw [(walkK_miss hu).1] at h
      have := walkK_at us k x h
      exact ⟨by omega, this.2⟩
    · rw [(walkK_hit hu).1] at h
      rcases List.mem_append.1 h with h | h
      · have := walkK_at us k x h
        exact ⟨by omega, this.2⟩
      · rw [List.mem_singleton] at h; subst h; exact ⟨Nat.lt_succ_self k, hu, rfl⟩
theorem costP_congr {a b : List Int} : ∀ {pre : List (Nat × Int)}, (∀ x ∈ pre, stepC a x = stepC b x) → costP a pre = costP b pre
  | [], _ => rfl
  | x :: pre, h => by
    have e1 : costP a (x :: pre) = stepC a x + costP a pre := by simp [costP]
    have e2 : costP b (x :: pre) = stepC b x + costP b pre := by simp [costP]
    rw [e1, e2, h x List.mem_cons_self, costP_congr fun y hy => h y (List.mem_cons_of_mem _ hy)]
theorem cost_up {ss : List Int} {us : List Bool} {m : Int} (hl : ss.length = us.length) : costP (upS ss us m us.length) (walkK us us.length) = costP ss (walkK us us.length) := by
  refine costP_congr fun x hx => ?_
  obtain ⟨h1, h2, h3⟩ := walkK_at us us.length x hx
  unfold stepC
  by_cases hb : x.2 < 0
  · rw [if_pos hb, if_pos hb]
  · rw [if_neg hb, if_neg hb]
    rcases befK_cnt us x.1 with ⟨h4, _⟩ | ⟨j, h4, h5, h6, _⟩
    · omega
    · have hj : x.2.toNat = j := by omega
      rw [hj, upS_nth _ _ _ _ _ (by omega), upS_nth _ _ _ _ _ (by omega), if_pos ⟨h1, h2⟩, if_pos ⟨by omega, h6⟩]
      congr 1
      omega
theorem costS_up {ss : List Int} {us : List Bool} {m : Int} (hE : checkedE ss us = 0) (hF : checkedE (upS ss us m us.length) us = 0) : (costS (upS ss us m us.length) us).1 = (costS ss us).1 := by
  unfold costS
  rw [if_neg (by simp [hF]), if_neg (by simp [hE]), cost_up (checked_ok hE).1]
end Go.Proofs.Ytkfgomhhenmmeaa

namespace Go.Proofs.Ytkfgomhhenmmeaa
open Go.RowKit

def holdsB (bs row : List Bool) : Bool := decide (bs.length = row.length) && sameL (packB bs) (packB row)
theorem holdsB_refl (bs : List Bool) : holdsB bs bs = true := by simp [holdsB, sameL]

set_option maxHeartbeats 1000000 in
set_option maxRecDepth 100000 in
theorem holds_any (o : Nat → Prop) (g : Nat) (bs row : List Bool) (R : Option Addr) (c : Nat) (w : World) (h : Wr o w g bs) (hR : RY w R c (bitsI row)) (hl : bs.length ≤ 2000000) (_ : row.length ≤ 2000000) :
    Calls Try.prog 37 #[.pointer (some ⟨g, 0, none⟩), .slice R row.length c] w fun e w' => e = .returned (.bool (holdsB bs row)) ∧ Below w.heap.size w w' := by
  have HW := Lib.hid (wlen_any o g bs w h)
  by_cases hlen : bs.length = row.length
  · have hb : ((bs.length : Int) == (row.length : Int)) = true := by simp [hlen]
    have HB := Lib.hid (wbytes_any o g bs w h hl)
    have HP := Lib.hid (fun W (hb : Below w.heap.size w W) => tbytes_any R c row W (hR.below hb) (by omega))
    have HE := Lib.hid (show holdsB bs row = sameL (packB bs) (packB row) by unfold holdsB; rw [decide_eq_true hlen]; rfl)
    have HSM := Lib.hid (fun (A B : Option Addr) (c d : Nat) (a b : List Int) (w : World) (hS : RY w A c a) (hT : RY w B d b) => samebytes_any A B c d a b w hS hT)
    clear hlen h hR
    go_enter Try.func37, Try.ntmps37
    go_wp2_with (first
      | (go_at_call 30; refine HW.out.mono ?_; rintro e w2 ⟨rfl, rfl⟩)
      | (go_at_call 32; refine HB.out.mono ?_; rintro e w3 ⟨v3, rfl, hO3, b3⟩; obtain ⟨A3, c3, rfl, hL3⟩ := own_ri hO3; have HL3 := Lib.hid hL3; clear hO3 hL3)
      | (go_at_call 62; refine (HP.out _ b3).mono ?_; rintro e w4 ⟨v4, rfl, hO4, b4⟩; obtain ⟨A4, c4, rfl, hL4⟩ := own_ri hO4; have HL4 := Lib.hid hL4; clear hO4 hL4)
      | (go_at_call 61; refine (HSM.out _ _ _ _ _ _ _ (HL3.out.below b4) HL4.out).mono ?_; rintro e w5 ⟨rfl, b5⟩))
    go_ret
    exact ⟨ret_bool HE.out.symm, below2 (below2 b3 b4) b5⟩
  · have hb : ((bs.length : Int) == (row.length : Int)) = false := by simp; omega
    have HE := Lib.hid (show holdsB bs row = false by unfold holdsB; rw [decide_eq_false hlen]; rfl)
    clear hlen h hR
    go_enter Try.func37, Try.ntmps37
    go_wp2_with (go_at_call 30; refine HW.out.mono ?_; rintro e w2 ⟨rfl, rfl⟩)
    go_ret
    exact ⟨ret_bool HE.out.symm, Below.refl _ _⟩

set_option maxHeartbeats 400000 in
theorem rfew_any (A : Option Addr) (n c : Nat) (L : Int) (w : World) :
    Calls Try.prog 34 #[.agg #[.slice A n c, .int .i64 L]] w fun e w' => e = .returned (.bool (decide (n ≤ 50))) ∧ Below w.heap.size w w' := by
  by_cases h : n ≤ 50
  · have hd : decide ((n : Int) ≤ 50) = true := decide_eq_true (by omega)
    have HD := Lib.hid (show decide (n ≤ 50) = true from decide_eq_true h)
    clear h
    go_enter Try.func34, Try.ntmps34
    go_wp2
    go_ret
    exact ⟨by rw [HD.out]; rfl, below_alloc (Below.refl _ _) _⟩
  · have hd : decide ((n : Int) ≤ 50) = false := decide_eq_false (by omega)
    have HD := Lib.hid (show decide (n ≤ 50) = false from decide_eq_false h)
    clear h
    go_enter Try.func34, Try.ntmps34
    go_wp2
    go_ret
    exact ⟨by rw [HD.out]; rfl, below_alloc (Below.refl _ _) _⟩
end Go.Proofs.Ytkfgomhhenmmeaa

namespace Go.Proofs.Ytkfgomhhenmmeaa
open Go.RowKit

def rightB (n : Nat) (N At : Int) : Bool := decide (n ≤ 2000) && decide (0 ≤ N) && decide (N ≤ 8 * (n : Int)) && decide (0 ≤ At) && decide (At ≤ N)

set_option maxHeartbeats 2000000 in
set_option maxRecDepth 100000 in
theorem right17_any (A : Option Addr) (n c : Nat) (N At : Int) (w : World) :
    Calls Try.prog 18 #[.agg #[.slice A n c, .int .i64 N, .int .i64 At]] w fun e w' => e = .returned (.bool (rightB n N At)) ∧ Below w.heap.size w w' := by
  have hrb : ∀ r, rightB n N At = r → Hid (rightB n N At = r) := fun _ h => Lib.hid h
  by_cases q1 : n ≤ 2000
  · have d1 : decide ((n : Int) ≤ 2000) = true := decide_eq_true (by omega)
    have hw8 : IntKind.i64.wrap (8 * (n : Int)) = 8 * (n : Int) := IntWalk.i64_in _ (by omega)
    by_cases q2 : (0 : Int) ≤ N
    · have d2 : decide (0 ≤ N) = true := decide_eq_true (by omega)
      by_cases q3 : N ≤ 8 * (n : Int)
      · have d3 : decide (N ≤ 8 * (n : Int)) = true := decide_eq_true (by omega)
        by_cases q4 : (0 : Int) ≤ At
        · have d4 : decide (0 ≤ At) = true := decide_eq_true (by omega)
          by_cases q5 : At ≤ N
          · have d5 : decide (At ≤ N) = true := decide_eq_true (by omega)
            have HR := hrb true (by unfold rightB; simp [q1, q2, q3, q4, q5])
            clear hrb q1 q2 q3 q4 q5
            go_enter Try.func18, Try.ntmps18
            go_wp2
            go_ret
            exact ⟨ret_bool HR.out.symm, below_alloc (Below.refl _ _) _⟩
          · have d5 : decide (At ≤ N) = false := decide_eq_false (by omega)
            have HR := hrb false (by unfold rightB; simp [q1, q2, q3, q4, q5])
            clear hrb q1 q2 q3 q4 q5
            go_enter Try.func18, Try.ntmps18
            go_wp2
            go_ret
            exact ⟨ret_bool HR.out.symm, below_alloc (Below.refl _ _) _⟩
        · have d4 : decide (0 ≤ At) = false := decide_eq_false (by omega)
          have HR := hrb false (by unfold rightB; simp [q1, q2, q3, q4])
          clear hrb q1 q2 q3 q4
          go_enter Try.func18, Try.ntmps18
          go_wp2
          go_ret
          exact ⟨ret_bool HR.out.symm, below_alloc (Below.refl _ _) _⟩
      · have d3 : decide (N ≤ 8 * (n : Int)) = false := decide_eq_false (by omega)
        have HR := hrb false (by unfold rightB; simp [q1, q2, q3])
        clear hrb q1 q2 q3
        go_enter Try.func18, Try.ntmps18
        go_wp2
        go_ret
        exact ⟨ret_bool HR.out.symm, below_alloc (Below.refl _ _) _⟩
    · have d2 : decide (0 ≤ N) = false := decide_eq_false (by omega)
      have HR := hrb false (by unfold rightB; simp [q1, q2])
      clear hrb q1 q2
      go_enter Try.func18, Try.ntmps18
      go_wp2
      go_ret
      exact ⟨ret_bool HR.out.symm, below_alloc (Below.refl _ _) _⟩
  · have d1 : decide ((n : Int) ≤ 2000) = false := decide_eq_false (by omega)
    have HR := hrb false (by unfold rightB; simp [q1])
    clear hrb q1
    go_enter Try.func18, Try.ntmps18
    go_wp2
    go_ret
    exact ⟨ret_bool HR.out.symm, below_alloc (Below.refl _ _) _⟩
end Go.Proofs.Ytkfgomhhenmmeaa
