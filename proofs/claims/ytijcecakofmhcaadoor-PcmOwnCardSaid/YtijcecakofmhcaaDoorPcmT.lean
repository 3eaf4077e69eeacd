/- Rows of their own in one block, and pcm: Split: what the call returns, for any list and numbers. -/
import Derived.Test.YtijcecakofmhcaaDoorPcmS
import Derived.Test.YtijcecakofmhcaaDoorPcmM
import Derived.IntWalk
import Derived.Deep.DeepCutAuto
namespace Go.Proofs.YtijcecakofmhcaaDoor
open Go.RowKit

/-- The block gT holds slices that own their rows, each a row of its own. -/
structure Rows (base gT : Nat) (w : World) (vs : List Value) (ls : List (List Int)) : Prop where
  blk : Blk w gT vs.toArray 36
  len : vs.length = ls.length
  own : ∀ j, j < ls.length → OwnI 3 .i64 base w (nth undef vs j) (nth [] ls j)
  apart : ∀ i j, i < ls.length → j < ls.length → i ≠ j → ∀ b, (nth undef vs i).ownBlock = some b → (nth undef vs j).ownBlock ≠ some b
  lt : gT < base

theorem nth_set_eq {α : Type} (d : α) (xs : List α) (j : Nat) (x : α) (h : j < xs.length) : nth d (xs.set j x) j = x := by
  simp [nth, List.getD_eq_getElem?_getD, h]
theorem nth_set_ne {α : Type} (d : α) (xs : List α) (i j : Nat) (x : α) (h : i ≠ j) : nth d (xs.set i x) j = nth d xs j := by
  simp [nth, List.getD_eq_getElem?_getD, List.getElem?_set_ne h]
theorem nth_replicate {α : Type} (d : α) (n j : Nat) (x : α) (h : j < n) : nth d (List.replicate n x) j = x := by
  rw [nth_eq d _ _ (by simpa using h)]; simp

theorem Rows.below {base gT : Nat} {w w' : World} {vs : List Value} {ls : List (List Int)} (h : Rows base gT w vs ls) (hb : Below w.heap.size w w') : Rows base gT w' vs ls :=
  ⟨h.blk.below hb, h.len, fun j hj => (h.own j hj).below hb, h.apart, h.lt⟩
theorem Rows.start (n gT : Nat) (w : World) (base : Nat) (hb : Blk w gT (List.replicate n (.slice none 0 0)).toArray 36) (hl : gT < base) : Rows base gT w (List.replicate n (.slice none 0 0)) (List.replicate n []) := by
  refine ⟨hb, by simp, fun j hj => ?_, fun i j hi hj hne b hbb => ?_, hl⟩
  · simp only [List.length_replicate] at hj
    rw [nth_replicate _ _ _ _ hj, nth_replicate _ _ _ _ hj]
    exact OwnI.nil _ _ _ _
  · simp only [List.length_replicate] at hi
    rw [nth_replicate _ _ _ _ hi] at hbb
    cases hbb
theorem own_kI {e : TypeId} {ik : IntKind} {base : Nat} {w : World} {v : Value} {xs : List Int} (h : OwnI e ik base w v xs) : OwnK (kInt ik) e base (fun _ => True) w v xs := by
  refine ⟨nums ik xs, h, by simp [nums, kInt], fun j hj => ?_⟩
  have hg := nums_get ik xs j hj
  have hl : j < (nums ik xs).length := by simpa [nums] using hj
  show ((nums ik xs).drop (j * 1)).take 1 = [.int ik (nth 0 xs j)]
  rw [Nat.mul_one, List.drop_eq_getElem_cons hl, List.take_succ_cons, List.take_zero]
  rw [List.getElem?_eq_getElem hl] at hg
  rw [Option.some.inj hg]
theorem own_Ik {e : TypeId} {ik : IntKind} {base : Nat} {w : World} {v : Value} {xs : List Int} (h : OwnK (kInt ik) e base (fun _ => True) w v xs) : OwnI e ik base w v xs := by
  obtain ⟨cells, ho, hr⟩ := h
  have hc : cells = nums ik xs := by
    have hl : cells.length = xs.length := by have := hr.1; simpa [kInt] using this
    refine List.ext_getElem (by simpa [nums] using hl) fun j h1 h2 => ?_
    have hj : j < xs.length := by omega
    have hk : ((cells.drop (j * 1)).take 1) = [.int ik (nth 0 xs j)] := hr.2 j hj
    rw [Nat.mul_one, List.drop_eq_getElem_cons h1, List.take_succ_cons, List.take_zero] at hk
    have hg := nums_get ik xs j hj
    rw [List.getElem?_eq_getElem h2] at hg
    rw [Option.some.inj hg]
    exact (List.cons.inj hk).1
  rw [hc] at ho
  exact ho
/-- One row has grown: the others stand. -/
theorem Rows.step {base gT : Nat} {w w6 : World} {vs : List Value} {ls : List (List Int)} (h : Rows base gT w vs ls) (j : Nat) (hj : j < ls.length) {v' : Value} {x' : List Int}
    (ho : OwnI 3 .i64 base w6 v' x') (hg : w.grownBy w6 (nth undef vs j).ownBlock) (hat : ∀ b, v'.ownBlock = some b → (nth undef vs j).ownBlock = some b ∨ w.heap.size ≤ b) :
    Rows base gT (w6.setCell ⟨gT, j, none⟩ v') (vs.set j v') (ls.set j x') := by
  have hjv : j < vs.length := by rw [h.len]; exact hj
  have hgT : w6.grownBy (w6.setCell ⟨gT, j, none⟩ v') (some gT) := grown_setCell w6 gT j v'
  have hne : ∀ b, (nth undef vs j).ownBlock = some b → b ≠ gT := fun b hb => by have := (h.own j hj).base_le b hb; have := h.lt; omega
  have hb6 : Blk w6 gT vs.toArray 36 := h.blk.keep (Keep.of_grown hg) (fun e => hne gT e.symm rfl)
  have keepT : ∀ {v : Value} {y : List Int}, OwnI 3 .i64 base w6 v y → OwnI 3 .i64 base (w6.setCell ⟨gT, j, none⟩ v') v y := fun {v} {y} o => o.grown hgT (by
    cases hv : v.ownBlock with
    | none => exact .inl rfl
    | some b => exact .inr (fun e => by have := o.base_le b hv; have := h.lt; have := Option.some.inj e; omega))
  refine ⟨?_, by simp [h.len], fun i hi => ?_, fun i i2 hi hi2 hne2 b hb => ?_, h.lt⟩
  · have := hb6.set j v'
    simpa using this
  · rw [List.length_set] at hi
    by_cases e : i = j
    · subst e
      rw [nth_set_eq _ _ _ _ hjv, nth_set_eq _ _ _ _ hj]
      exact keepT ho
    · rw [nth_set_ne _ _ _ _ _ (Ne.symm e), nth_set_ne _ _ _ _ _ (Ne.symm e)]
      refine keepT ((h.own i hi).grown hg ?_)
      cases hv : (nth undef vs i).ownBlock with
      | none => exact .inl rfl
      | some b => exact .inr (fun e2 => h.apart i j hi hj e b hv e2.symm)
  · rw [List.length_set] at hi hi2
    by_cases e : i = j
    · subst e
      rw [nth_set_eq _ _ _ _ hjv] at hb
      rw [nth_set_ne _ _ _ _ _ hne2]
      intro e3
      rcases hat b hb with h4 | h4
      · exact h.apart i i2 hi hi2 hne2 b h4 e3
      · have := ((h.own i2 hi2).lt b e3).2
        omega
    · rw [nth_set_ne _ _ _ _ _ (Ne.symm e)] at hb
      by_cases e2 : i2 = j
      · subst e2
        rw [nth_set_eq _ _ _ _ hjv]
        intro e3
        rcases hat b e3 with h4 | h4
        · exact h.apart i i2 hi hi2 hne2 b hb h4
        · have := ((h.own i hi).lt b hb).2
          omega
      · rw [nth_set_ne _ _ _ _ _ (Ne.symm e2)]
        exact h.apart i i2 hi hi2 hne2 b hb
/-- What the block reads as. -/
theorem Rows.rd {base gT : Nat} {w : World} {vs : List Value} {ls : List (List Int)} (h : Rows base gT w vs ls) (hm : ls.length ≤ maxLen) :
    Sl (kSl (kInt .i64)) (fun b => gT ≤ b) w (some ⟨gT, 0, none⟩) ls.length ls := by
  refine ⟨Nat.le_refl _, by simpa [maxLen] using hm, fun j hj => ?_⟩
  obtain ⟨A, c, e, hs⟩ := (h.own j hj).rd
  refine ⟨_, [.slice A (nth [] ls j).length c], rfl, Nat.le_refl _, h.blk.lt, ⟨A, c, rfl, hs.weak fun b _ hb => by have := hb.1; have := h.lt; omega⟩, fun i v hv => ?_⟩
  match i, hv with
  | 0, hv =>
    simp at hv
    subst hv
    have := h.blk.cell j (v := nth undef vs j) (by simpa using nth_some undef vs j (by rw [h.len]; exact hj))
    rw [e] at this
    simpa [kSl, add_plain] using this

def splitK (l : List Int) (n : Nat) : Nat → List (List Int)
  | 0 => List.replicate n []
  | k + 1 => (splitK l n k).set (k % n) (nth [] (splitK l n k) (k % n) ++ [nth 0 l k])
theorem splitK_length (l : List Int) (n k : Nat) : (splitK l n k).length = n := by
  induction k with
  | zero => simp [splitK]
  | succ k ih => simp [splitK, ih]
theorem made_replicate (n : Nat) (v : Value) : madeCells #[v] n = (List.replicate n v).toArray := by
  apply Array.ext
  · simp [madeCells]
  · intro i h1 h2
    simp [madeCells, Nat.mod_one]
theorem splitK_row (l : List Int) (n k j : Nat) : (nth [] (splitK l n k) j).length ≤ k := by
  induction k with
  | zero =>
    rcases Nat.lt_or_ge j n with h | h
    · rw [splitK, nth_replicate _ _ _ _ h]; exact Nat.le_refl _
    · simp [splitK, nth, List.getD_eq_getElem?_getD, h]
  | succ k ih =>
    rw [splitK]
    by_cases e : k % n = j
    · subst e
      rcases Nat.lt_or_ge (k % n) (splitK l n k).length with h | h
      · rw [nth_set_eq _ _ _ _ h]; simpa using ih
      · rw [List.set_eq_of_length_le h]; omega
    · rw [nth_set_ne _ _ _ _ _ e]; omega
def splitS (l : List Int) (ch rate : Int) : Int × List (List Int) × Int :=
  if ch < 1 ∨ 2 < ch ∨ isRateB rate = false then (0, [], 1)
  else if l.length % ch.toNat ≠ 0 then (0, [], 4)
  else if 8192 < l.length / ch.toNat then (0, [], 2)
  else if l.all smpB then (rate, splitK l ch.toNat l.length, 0) else (0, [], 6)

set_option maxHeartbeats 2000000 in
set_option maxRecDepth 100000 in
theorem split_any (A : Option Addr) (c : Nat) (l : List Int) (ch rate : Int) (w : World) (hG : GR w) (hL : RI w A c l) :
    Calls Tryd.prog 22 #[.slice A l.length c, .int .i64 ch, .int .i64 rate] w fun e w' => RetS w.heap.size (splitS l ch rate) e w' ∧ Below w.heap.size w w' := by
  have hn := hL.len
  have hcase : (ch < 1) ∨ (¬ ch < 1 ∧ 2 < ch) ∨ (¬ ch < 1 ∧ ¬ 2 < ch) := by omega
  rcases hcase with h1 | ⟨h1, h2⟩ | ⟨h1, h2⟩
  · have HP := Lib.hid (show splitS l ch rate = (0, [], 1) by simp [splitS, h1])
    go_enter Tryd.func22, Tryd.ntmps22
    go_wp2_with (first | ((with_reducible refine at_dst (N := 6) rfl ?_); refine ev_new #[.int .i64 0, .slice none 0 0] 24 rfl ?hr ?_; (case hr => first | (go_simp; done) | (go_simp; rfl)); intro g2 w2 eg2 zg2 b2 Bg2; skip) | ((with_reducible refine at_store (p := 6) rfl ?_); (refine ev_put #[.int .i64 0, .slice none 0 0] rfl 24 (.tmp 6) (.tmp 23) rfl g2 24 _ rfl rfl Bg2 sizeS rfl rfl ?_); intro wf Bq hqf hzf; have z0 := Bq.cell 0 rfl; have z1 := Bq.cell 1 rfl))
    have G2 : w.heap.size ≤ g2 := by have := eg2.out; omega
    refine bodyPost_ret (v := .tuple #[.agg #[.int .i64 0, .slice none 0 0], .int .i64 1]) (by simp [results, Tryd.results22, go_sem, z0, z1]) rfl ⟨?_, ?_⟩
    · rw [HP.out]; exact RetS.none _ _ _
    · exact below_grown b2 b2.size hqf (fun k e => by have := Option.some.inj e; omega)
  · have HP := Lib.hid (show splitS l ch rate = (0, [], 1) by simp [splitS, h2])
    go_enter Tryd.func22, Tryd.ntmps22
    go_wp2_with (first | ((with_reducible refine at_dst (N := 6) rfl ?_); refine ev_new #[.int .i64 0, .slice none 0 0] 24 rfl ?hr ?_; (case hr => first | (go_simp; done) | (go_simp; rfl)); intro g2 w2 eg2 zg2 b2 Bg2; skip) | ((with_reducible refine at_store (p := 6) rfl ?_); (refine ev_put #[.int .i64 0, .slice none 0 0] rfl 24 (.tmp 6) (.tmp 23) rfl g2 24 _ rfl rfl Bg2 sizeS rfl rfl ?_); intro wf Bq hqf hzf; have z0 := Bq.cell 0 rfl; have z1 := Bq.cell 1 rfl))
    have G2 : w.heap.size ≤ g2 := by have := eg2.out; omega
    refine bodyPost_ret (v := .tuple #[.agg #[.int .i64 0, .slice none 0 0], .int .i64 1]) (by simp [results, Tryd.results22, go_sem, z0, z1]) rfl ⟨?_, ?_⟩
    · rw [HP.out]; exact RetS.none _ _ _
    · exact below_grown b2 b2.size hqf (fun k e => by have := Option.some.inj e; omega)
  · cases hR : isRateB rate
    · have HP := Lib.hid (show splitS l ch rate = (0, [], 1) by simp [splitS, hR])
      have HR := Lib.hid hR
      clear hR
      go_enter Tryd.func22, Tryd.ntmps22
      go_wp2_with (first | ((with_reducible refine at_dst (N := 6) rfl ?_); refine ev_new #[.int .i64 0, .slice none 0 0] 24 rfl ?hr ?_; (case hr => first | (go_simp; done) | (go_simp; rfl)); intro g2 w2 eg2 zg2 b2 Bg2; skip) | (go_at_call 63; refine (isRate_any _ _ (hG.below b2)).mono ?_; rintro e w4 ⟨rfl, rfl⟩; rw [HR.out]) | ((with_reducible refine at_store (p := 6) rfl ?_); (refine ev_put #[.int .i64 0, .slice none 0 0] rfl 24 (.tmp 6) (.tmp 23) rfl g2 24 _ rfl rfl Bg2 sizeS rfl rfl ?_); intro wf Bq hqf hzf; have z0 := Bq.cell 0 rfl; have z1 := Bq.cell 1 rfl))
      have G2 : w.heap.size ≤ g2 := by have := eg2.out; omega
      refine bodyPost_ret (v := .tuple #[.agg #[.int .i64 0, .slice none 0 0], .int .i64 1]) (by simp [results, Tryd.results22, go_sem, z0, z1]) rfl ⟨?_, ?_⟩
      · rw [HP.out]; exact RetS.none _ _ _
      · exact below_grown b2 b2.size hqf (fun k e => by have := Option.some.inj e; omega)
    · obtain ⟨n, rfl⟩ : ∃ n : Nat, ch = n := ⟨ch.toNat, by omega⟩
      have hS : splitS l n rate = if l.length % n ≠ 0 then (0, [], 4) else if 8192 < l.length / n then (0, [], 2) else if l.all smpB then (rate, splitK l n l.length, 0) else (0, [], 6) := by
        unfold splitS
        rw [if_neg (by simp [hR]; omega), Int.toNat_natCast]
      have HR := Lib.hid hR
      clear hR
      have hn1 : 1 ≤ n := by omega
      have hn2 : n ≤ 2 := by omega
      obtain ⟨d, hd⟩ : ∃ d : Nat, l.length / n = d := ⟨_, rfl⟩
      have hdl : d ≤ l.length := by rw [← hd]; exact Nat.div_le_self _ _
      have hdq : wrap64 ((l.length : Int) / (n : Int)) = (d : Int) := by
        rw [← Int.natCast_ediv, hd]
        unfold wrap64
        omega
      rw [hd] at hS
      by_cases hm : l.length % n = 0
      · rw [if_neg (by simp [hm])] at hS
        have hmm : (l.length : Int) % (n : Int) = 0 := by rw [← Int.natCast_emod, hm]; rfl
        by_cases hf : 8192 < d
        · have HP := Lib.hid (hS.trans (if_pos hf))
          clear hS
          have hff : (8192 : Int) < (d : Int) := by omega
          clear hd
          go_enter Tryd.func22, Tryd.ntmps22
          go_wp2_with (first | ((with_reducible refine at_dst (N := 6) rfl ?_); refine ev_new #[.int .i64 0, .slice none 0 0] 24 rfl ?hr ?_; (case hr => first | (go_simp; done) | (go_simp; rfl)); intro g2 w2 eg2 zg2 b2 Bg2; skip) | (go_at_call 63; refine (isRate_any _ _ (hG.below b2)).mono ?_; rintro e w4 ⟨rfl, rfl⟩; rw [HR.out]) | ((with_reducible refine at_store (p := 6) rfl ?_); (refine ev_put #[.int .i64 0, .slice none 0 0] rfl 24 (.tmp 6) (.tmp 37) rfl g2 24 _ rfl rfl Bg2 sizeS rfl rfl ?_); intro wf Bq hqf hzf; have z0 := Bq.cell 0 rfl; have z1 := Bq.cell 1 rfl))
          have G2 : w.heap.size ≤ g2 := by have := eg2.out; omega
          refine bodyPost_ret (v := .tuple #[.agg #[.int .i64 0, .slice none 0 0], .int .i64 2]) (by simp [results, Tryd.results22, go_sem, z0, z1]) rfl ⟨?_, ?_⟩
          · rw [HP.out]; exact RetS.none _ _ _
          · exact below_grown b2 b2.size hqf (fun k e => by have := Option.some.inj e; omega)
        · rw [if_neg hf] at hS
          have hff : ¬ (8192 : Int) < (d : Int) := by omega
          have HD := Lib.hid hd
          have hl16 : l.length ≤ 16385 := by
            have h1 := Nat.div_add_mod l.length n
            rw [hd, hm] at h1
            have h2 : n * d ≤ 2 * 8192 := Nat.mul_le_mul hn2 (by omega)
            omega
          clear hd
          cases ha : l.all smpB
          · have HP := Lib.hid (hS.trans (by rw [ha]; try rfl))
            have HA := Lib.hid ha
            clear hS ha
            go_enter Tryd.func22, Tryd.ntmps22
            go_wp2_with (first | ((with_reducible refine at_dst (N := 6) rfl ?_); refine ev_new #[.int .i64 0, .slice none 0 0] 24 rfl ?hr ?_; (case hr => first | (go_simp; done) | (go_simp; rfl)); intro g2 w2 eg2 zg2 b2 Bg2; skip) | (go_at_call 63; refine (isRate_any _ _ (hG.below b2)).mono ?_; rintro e w4 ⟨rfl, rfl⟩; rw [HR.out]) | (go_at_call 64; refine (all_int_any _ _ _ _ (hL.below b2)).mono ?_; rintro e w5 ⟨rfl, rfl⟩; rw [HA.out]) | ((with_reducible refine at_store (p := 6) rfl ?_); (refine ev_put #[.int .i64 0, .slice none 0 0] rfl 24 (.tmp 6) (.tmp 42) rfl g2 24 _ rfl rfl Bg2 sizeS rfl rfl ?_); intro wf Bq hqf hzf; have z0 := Bq.cell 0 rfl; have z1 := Bq.cell 1 rfl))
            have G2 : w.heap.size ≤ g2 := by have := eg2.out; omega
            refine bodyPost_ret (v := .tuple #[.agg #[.int .i64 0, .slice none 0 0], .int .i64 6]) (by simp [results, Tryd.results22, go_sem, z0, z1]) rfl ⟨?_, ?_⟩
            · rw [HP.out]; exact RetS.none _ _ _
            · exact below_grown b2 b2.size hqf (fun k e => by have := Option.some.inj e; omega)
          · have HP := Lib.hid (hS.trans (by rw [ha]; try rfl) : splitS l n rate = (rate, splitK l n l.length, 0))
            have HA := Lib.hid ha
            clear hS ha
            have hmk := run_make_row' (P := Tryd.prog) 22 36 (.slice none 0 0) 24 Tryd.underlying22 infoS rfl .i64 .i64 n (by omega) (by omega)
            go_enter Tryd.func22, Tryd.ntmps22
            go_wp2_with (first | ((with_reducible refine at_dst (N := 6) rfl ?_); refine ev_new #[.int .i64 0, .slice none 0 0] 24 rfl ?hr ?_; (case hr => first | (go_simp; done) | (go_simp; rfl)); intro g2 w2 eg2 zg2 b2 Bg2; skip) | (go_at_call 63; refine (isRate_any _ _ (hG.below b2)).mono ?_; rintro e w4 ⟨rfl, rfl⟩; rw [HR.out]) | (go_at_call 64; refine (all_int_any _ _ _ _ (hL.below b2)).mono ?_; rintro e w5 ⟨rfl, rfl⟩; rw [HA.out]))
            have BT : Blk ((w2.alloc (.cells (madeCells #[.slice none 0 0] n) 36)).alloc (.cells #[.int .i64 rate, .slice (some ⟨w2.heap.size, 0, none⟩) n n] 24)) w2.heap.size (List.replicate n (.slice none 0 0)).toArray 36 := by
              rw [← made_replicate]
              exact (show Blk (w2.alloc _) w2.heap.size _ _ from heap_alloc_new w2 _).below (below_alloc (Below.refl _ _) _)
            have B8 : Blk ((w2.alloc (.cells (madeCells #[.slice none 0 0] n) 36)).alloc (.cells #[.int .i64 rate, .slice (some ⟨w2.heap.size, 0, none⟩) n n] 24)) (w2.heap.size + 1) #[.int .i64 rate, .slice (some ⟨w2.heap.size, 0, none⟩) n n] 24 := by
              have := heap_alloc_new (w2.alloc (.cells (madeCells #[.slice none 0 0] n) 36)) (.cells #[.int .i64 rate, .slice (some ⟨w2.heap.size, 0, none⟩) n n] 24)
              rwa [World.size_alloc] at this
            have hB := below_alloc (below_alloc (Below.refl w2.heap.size w2) (.cells (madeCells #[.slice none 0 0] n) 36)) (.cells #[.int .i64 rate, .slice (some ⟨w2.heap.size, 0, none⟩) n n] 24)
            have hsz : ((w2.alloc (.cells (madeCells #[.slice none 0 0] n) 36)).alloc (.cells #[.int .i64 rate, .slice (some ⟨w2.heap.size, 0, none⟩) n n] 24)).heap.size = w2.heap.size + 1 + 1 := by simp [World.size_alloc]
            generalize ((w2.alloc (.cells (madeCells #[.slice none 0 0] n) 36)).alloc (.cells #[.int .i64 rate, .slice (some ⟨w2.heap.size, 0, none⟩) n n] 24)) = W at BT B8 hB hsz ⊢
            have HZ := Lib.hid hsz
            clear hsz hmk
            have B2 := Bg2.below hB
            have BX := below2 b2 hB
            have G2 : w.heap.size ≤ g2 := by have := eg2.out; omega
            have G3 : w.heap.size ≤ w2.heap.size := b2.size
            have hA := hL.apart BX G3
            have g2lt := B2.lt
            go_loopw [49] (fun i wr => ∃ (k : Nat) (vs : List Value), k ≤ l.length ∧ i = .int .i64 k ∧ Rows (w2.heap.size + 1 + 1) w2.heap.size wr vs (splitK l n k) ∧ W.grownBy wr (some w2.heap.size)) (fun i _ => l.length - (intOf i).toNat)
            case atStart =>
              exact ⟨0, _, Nat.zero_le _, rfl, Rows.start n w2.heap.size W (w2.heap.size + 1 + 1) BT (by omega), World.grownBy.refl _ _⟩
            case round =>
              obtain ⟨k, vs, hk, rfl, hR, hg⟩ := hrel
              have C8 := B8.keep (Keep.of_grown hg) (fun e => by have := Option.some.inj e; omega)
              have m0 := C8.cell 0 rfl
              have m1 := C8.cell 1 rfl
              have hlen := splitK_length l n k
              have hvl := hR.len.trans hlen
              by_cases hlt : k < l.length
              · have hLr := hA.keep (Keep.of_grown1 hg)
                obtain ⟨ad, rfl, hc⟩ := rd_int hLr k hlt
                have hjn : k % n < n := Nat.mod_lt _ (by omega)
                obtain ⟨j, hj⟩ : ∃ j, k % n = j := ⟨_, rfl⟩
                have hmj : (k : Int) % (n : Int) = (j : Int) := by rw [← Int.natCast_emod, hj]
                have hmt : Int.tmod (k : Int) (n : Int) = (j : Int) := by rw [Int.tmod_eq_emod_of_nonneg (by omega)]; exact hmj
                have hn0 : ¬ n = 0 := by omega
                rw [hj] at hjn
                have HJ := Lib.hid hj
                clear hj
                have hOj := hR.own j (by rw [hlen]; exact hjn)
                obtain ⟨A', c', hv, hsj⟩ := hOj.rd
                have hcT : wr.cell? ⟨w2.heap.size, j, none⟩ = some (.slice A' (nth [] (splitK l n k) j).length c') := by
                  rw [← hv]
                  exact hR.blk.cell j (by simpa using nth_some undef vs j (by rw [hvl]; exact hjn))
                have hfT := hR.blk.free j
                clear hlen hvl
                go_wp2_with fail
                have hrl := splitK_row l n k j
                have hbase : w2.heap.size + 1 + 1 ≤ wr.heap.size := by have := hg.size; have := HZ.out; omega
                have HV := Lib.hid hv
                have hO' : OwnI 3 .i64 (w2.heap.size + 1 + 1) wr (.slice A' (nth [] (splitK l n k) j).length c') (nth [] (splitK l n k) j) := by rw [← hv]; exact hOj
                have hbk := hO'.base_le
                have hRd := hR.below (Below.refl wr.heap.size wr).drew
                have C8d := C8.below (Below.refl wr.heap.size wr).drew
                have hOd := own_kI (hO'.below (Below.refl wr.heap.size wr).drew)
                have hltT : w2.heap.size < wr.heap.size := by omega
                have hcTa := cell_below (below_alloc (Below.refl wr.heap.size wr) (.cells #[.int .i64 (nth 0 l k)] 3)) hcT
                have m1a := cell_below (below_alloc (Below.refl wr.heap.size wr) (.cells #[.int .i64 (nth 0 l k)] 3)) m1
                clear hv hOj
                go_region_law ((go_loud (refine step_append_k (W := wr.drew) (k := kInt .i64) (w2.heap.size + 1 + 1) ?a1 (.tmp 65) (.tmp 67) 36 3 (.int .i64 0) 8 (fun _ => True) ?a2 Tryd.underlying36 infoI ?a3 ?a4 ?a5 (.slice A' (nth [] (splitK l n k) j).length c') (nth [] (splitK l n k) j) (nth 0 l k) [.int .i64 (nth 0 l k)] ?a6 ?a7 ?a8 ?hO ?hx ?hb ?hl ?_)); (case a1 => rfl); (case a2 => rfl); (case a3 => rfl); (case a4 => decide); (case a5 => decide); (case a6 => rfl); (case a7 => rfl); (case a8 => rfl); (case hO => exact hOd); (case hx => rfl); (case hb => exact hbase); (case hl => omega); intro g6 cap6 w6 hO6 hg6 hb6 ha6; have T6 := hRd.blk.keep (Keep.of_grown hg6) (fun e => by have := hbk _ e.symm; omega); have c6 := T6.cell j (v := .slice A' (nth [] (splitK l n k) j).length c') (by rw [← HV.out]; simpa using nth_some undef vs j (by rw [hR.len, splitK_length]; exact hjn)); have f6 := T6.free j; have D6 := C8d.keep (Keep.of_grown hg6) (fun e => by have := hbk _ e.symm; omega); have k6 := D6.cell 1 rfl)
                all_goals
                  have hR' : Rows (w2.heap.size + 1 + 1) w2.heap.size (w6.setCell ⟨w2.heap.size, j, none⟩ (.slice (some ⟨g6, 0, none⟩) ((nth [] (splitK l n k) j).length + 1) cap6)) (vs.set j (.slice (some ⟨g6, 0, none⟩) ((nth [] (splitK l n k) j).length + 1) cap6)) (splitK l n (k + 1)) := by
                    rw [show splitK l n (k + 1) = (splitK l n k).set j (nth [] (splitK l n k) j ++ [nth 0 l k]) by rw [splitK, HJ.out]]
                    refine hRd.step j (by rw [splitK_length]; exact hjn) (own_Ik hO6) (by rw [HV.out]; exact hg6) (fun b hb => ?_)
                    rw [HV.out]
                    have hb := Option.some.inj hb
                    rw [← hb]
                    rcases ha6 with h4 | h4
                    · exact .inl h4
                    · exact .inr (Nat.le_of_lt h4)
                  have hg' := grown_trans (grown_row (grown_row hg (grown_of_below (Below.refl wr.heap.size wr).drew none) (fun _ e => by cases e)) hg6 (fun b e => by have := hbk b e; have := HZ.out; omega)) (grown_setCell w6 w2.heap.size j (.slice (some ⟨g6, 0, none⟩) ((nth [] (splitK l n k) j).length + 1) cap6))
                  go_wp2_with fail
                  go_roundw
                  case rel => exact ⟨k + 1, _, by omega, by go_num, hR', hg'⟩
                  case measure => simp [intOf]; omega
              · obtain rfl : k = l.length := by omega
                have D2 := B2.keep (Keep.of_grown hg) (fun e => by have := Option.some.inj e; have := eg2.out; have := zg2.out; omega)
                go_wp2_with (((with_reducible refine at_store (p := 6) rfl ?_); (refine ev_put #[.int .i64 rate, .slice (some ⟨w2.heap.size, 0, none⟩) n n] rfl 24 (.tmp 6) (.tmp 71) rfl g2 24 _ rfl rfl D2 sizeS rfl rfl ?_); intro wf Bq hqf hzf; have z0 := Bq.cell 0 rfl; have z1 := Bq.cell 1 rfl))
                refine bodyPost_ret (v := .tuple #[.agg #[.int .i64 rate, .slice (some ⟨w2.heap.size, 0, none⟩) n n], .int .i64 0]) (by simp [results, Tryd.results22, go_sem, z0, z1]) rfl ⟨?_, ?_⟩
                · rw [HP.out]
                  refine ⟨some ⟨w2.heap.size, 0, none⟩, n, by simp [hlen], ?_⟩
                  have hs := hR.rd (by rw [hlen]; simp [maxLen]; omega)
                  rw [hlen] at hs
                  have e12 := eg2.out
                  have e13 := zg2.out
                  exact (hs.keep ((Keep.of_grown1 hqf).weak fun b hb => by omega)).weak fun b _ hb => by omega
                · exact below_grown (below_grown BX BX.size hg (fun k e => by have := Option.some.inj e; omega)) (Nat.le_trans BX.size hg.size) hqf (fun k e => by have := Option.some.inj e; omega)
      · have HP := Lib.hid (hS.trans (if_pos hm))
        clear hS
        have hmm : ¬ (l.length : Int) % (n : Int) = 0 := by rw [← Int.natCast_emod]; omega
        go_enter Tryd.func22, Tryd.ntmps22
        go_wp2_with (first | ((with_reducible refine at_dst (N := 6) rfl ?_); refine ev_new #[.int .i64 0, .slice none 0 0] 24 rfl ?hr ?_; (case hr => first | (go_simp; done) | (go_simp; rfl)); intro g2 w2 eg2 zg2 b2 Bg2; skip) | (go_at_call 63; refine (isRate_any _ _ (hG.below b2)).mono ?_; rintro e w4 ⟨rfl, rfl⟩; rw [HR.out]) | ((with_reducible refine at_store (p := 6) rfl ?_); (refine ev_put #[.int .i64 0, .slice none 0 0] rfl 24 (.tmp 6) (.tmp 30) rfl g2 24 _ rfl rfl Bg2 sizeS rfl rfl ?_); intro wf Bq hqf hzf; have z0 := Bq.cell 0 rfl; have z1 := Bq.cell 1 rfl))
        have G2 : w.heap.size ≤ g2 := by have := eg2.out; omega
        refine bodyPost_ret (v := .tuple #[.agg #[.int .i64 0, .slice none 0 0], .int .i64 4]) (by simp [results, Tryd.results22, go_sem, z0, z1]) rfl ⟨?_, ?_⟩
        · rw [HP.out]; exact RetS.none _ _ _
        · exact below_grown b2 b2.size hqf (fun k e => by have := Option.some.inj e; omega)
end Go.Proofs.YtijcecakofmhcaaDoor
