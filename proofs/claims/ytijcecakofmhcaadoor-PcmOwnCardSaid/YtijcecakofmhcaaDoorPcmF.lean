/- pcm: the functions that change is given: Pad's, Cut's, Join's, Mix's: what each call returns. -/
import Derived.Test.YtijcecakofmhcaaDoorPcmD
namespace Go.Proofs.YtijcecakofmhcaaDoor
open Go.RowKit

set_option maxHeartbeats 400000 in
theorem pad1_makes (bk more n0 : Nat) (s : List (List Int)) (hs : ∀ c ∈ s, c.length ≤ 8192) (hm : more ≤ 128) (_ : bk < n0) :
    Makes 80 #[.pointer (some ⟨bk, 0, none⟩)] bk n0 (fun _ w => w.cell? ⟨bk, 0, none⟩ = some (.int .i64 more)) s (fun j => nth [] s j ++ List.replicate more 0) := by
  intro j A w hj hi hr hn
  have hl := hs _ (nth_mem [] s j hj)
  have hmk := make_row (P := Tryd.prog) 36 3 .i64 8 Tryd.underlying36 infoI (by decide) more (by omega)
  go_enter Tryd.func80, Tryd.ntmps80
  go_wp2_with fail
  have hM := own_sl (own_made w 3 .i64 more (by omega))
  have hb1 := below_alloc (Below.refl w.heap.size w) (.cells (madeCells #[.int .i64 0] more) 3)
  have hL := lit_sl2 _ 36 (hr.below hb1) hM
  simp only [List.length_replicate, World.size_alloc] at hL
  refine (concat_any _ _ [nth [] s j, List.replicate more 0] _ hL (by simp [sumLen]; omega)).mono ?_
  rintro e w' ⟨v, rfl, hO, hB⟩
  go_wp2
  go_ret
  have hB2 := (below2 (below_alloc hb1 _) hB)
  exact ⟨_, rfl, by simpa using hO.mono (by simp; omega), grown_of_below hB2 _, cell_below hB2 hi⟩

set_option maxHeartbeats 400000 in
theorem cut1_makes (b1 b2 n0 : Nat) (fr to_ : Nat) (s : List (List Int)) (hs : ∀ c ∈ s, to_ ≤ c.length ∧ c.length ≤ 8192) (hm : fr ≤ to_) (_ : b1 < n0) (_ : b2 < n0) :
    Makes 72 #[.pointer (some ⟨b1, 0, none⟩), .pointer (some ⟨b2, 0, none⟩)] b1 n0 (fun _ w => w.cell? ⟨b1, 0, none⟩ = some (.int .i64 fr) ∧ w.cell? ⟨b2, 0, none⟩ = some (.int .i64 to_)) s (fun j => ((nth [] s j).take to_).drop fr) := by
  rintro j A w hj ⟨hi1, hi2⟩ hr hn
  have hl := hs _ (nth_mem [] s j hj)
  have e : to_ - fr = (((nth [] s j).take to_).drop fr).length := by rw [List.length_drop, List.length_take]; omega
  have H := Lib.hid e
  clear e
  have hcut : ∃ A' c', ((nth [] s j).length = fr → A' = A ∧ c' = 0) ∧ ((nth [] s j).length ≠ fr → A' = A.map (·.add fr) ∧ c' = (nth [] s j).length - fr) ∧ RI w A' c' (((nth [] s j).take to_).drop fr) := by
    by_cases hq : (nth [] s j).length = fr
    · refine ⟨A, 0, fun _ => ⟨rfl, rfl⟩, fun h => absurd hq h, ?_⟩
      have : ((nth [] s j).take to_).drop fr = [] := List.eq_nil_of_length_eq_zero (by rw [← H.out]; omega)
      rw [this]
      exact ⟨Nat.le_refl _, by omega, Kd.Rd.nil _ _ _ _⟩
    · refine ⟨_, _, fun h => absurd h hq, fun _ => ⟨rfl, rfl⟩, ?_, by omega, ?_⟩
      · rw [← H.out]; omega
      · have := (hr.any.rd.take to_).drop fr
        simpa [kInt] using this
  obtain ⟨A', c', hc1, hc2, hsl⟩ := hcut
  by_cases hq : (nth [] s j).length = fr
  · obtain ⟨rfl, rfl⟩ := hc1 hq
    have hq' : (nth [] s j).length - fr = 0 := by omega
    clear hc1 hc2
    go_enter Tryd.func72, Tryd.ntmps72
    go_wp2_with fail
    rw [H.out]
    refine (clone_any _ _ _ _ hsl (by rw [← H.out]; omega)).mono ?_
    rintro e w' ⟨v, rfl, hO, hB⟩
    go_wp2
    go_ret
    exact ⟨_, rfl, hO, grown_of_below hB _, cell_below hB hi1, cell_below hB hi2⟩
  · obtain ⟨rfl, rfl⟩ := hc2 hq
    clear hc1 hc2
    go_enter Tryd.func72, Tryd.ntmps72
    go_wp2_with fail
    rw [H.out]
    refine (clone_any _ _ _ _ hsl (by rw [← H.out]; omega)).mono ?_
    rintro e w' ⟨v, rfl, hO, hB⟩
    go_wp2
    go_ret
    exact ⟨_, rfl, hO, grown_of_below hB _, cell_below hB hi1, cell_below hB hi2⟩

/-- The second sound, as the functions see it: its variable, and that its data lie in older blocks, apart from the counter. -/
def SeesB (gb bk n0 : Nat) (Ab : Option Addr) (cb : Nat) (sb : List (List Int)) (w : World) : Prop :=
  w.cell? ⟨gb, 1, none⟩ = some (.slice Ab sb.length cb) ∧ Sl (kSl (kInt .i64)) (fun b => b < n0 ∧ b ≠ bk) w Ab cb sb
theorem SeesB.keep {gb bk n0 : Nat} {Ab : Option Addr} {cb : Nat} {sb : List (List Int)} {a b : World} (h : SeesB gb bk n0 Ab cb sb a) (hg : gb < n0) (hgk : gb ≠ bk) (hk : Keep (fun i => i < n0 ∧ i ≠ bk) a b) : SeesB gb bk n0 Ab cb sb b :=
  ⟨hk.cell ⟨hg, hgk⟩ h.1, h.2.keep hk⟩

theorem sizeI : (Tryd.prog.info? 3).map (·.size) = some 1 := by kernel_rfl
set_option maxHeartbeats 400000 in
theorem join1_makes (bk gb n0 : Nat) (Ab : Option Addr) (cb : Nat) (sb s : List (List Int)) (hs : ∀ c ∈ s, c.length ≤ 8192) (hb : ∀ c ∈ sb, c.length ≤ 8192) (hl : s.length = sb.length) (h2 : s.length ≤ 2) (hgb : gb < n0) (hne : gb ≠ bk) :
    Makes 76 #[.pointer (some ⟨bk, 0, none⟩), .pointer (some ⟨gb, 0, none⟩)] bk n0 (fun j w => Blk w bk #[.int .i64 ((j : Int) - 1)] 3 ∧ SeesB gb bk n0 Ab cb sb w) s (fun j => nth [] s j ++ nth [] sb j) := by
  rintro j A w hj ⟨hi1, hi2⟩ hr hn
  have hls := hs _ (nth_mem [] s j hj)
  have hlb := hb _ (nth_mem [] sb j (by omega))
  have hjb : j < sb.length := by omega
  have k0 := hi1.cell 0 rfl
  have HL := Lib.hid hl
  clear hl
  go_enter Tryd.func76, Tryd.ntmps76
  go_wp2_with (first | ((with_reducible refine at_store (p := 1) rfl ?_); go_must ((refine ev_put1 (.int .i64 j) 0 rfl 3 (.tmp 1) (.tmp 6) rfl bk 3 #[.int .i64 ((j : Int) - 1)] rfl rfl hi1 sizeI (by simp) rfl ?_); intro w1 hk1 hg1 hz1; clear k0; have k0 := hk1.cell 0 rfl; have hS := hi2.keep hgb hne ((Keep.of_grown1 hg1).weak (fun i hi => hi.2)); have kb := hS.1; obtain ⟨ad, A', c', rfl, hc, hs'⟩ := rd_sl hS.2 j hjb; have hr1 := hr.keep (Keep.of_grown1 hg1))) | fail)
  have hL := lit_sl2 _ 36 hr1 hs'
  refine (concat_any _ _ [nth [] s j, nth [] sb j] _ hL (by simp [sumLen]; omega)).mono ?_
  rintro e w' ⟨v, rfl, hO, hB⟩
  go_wp2
  go_ret
  have hB2 := (below2 (below_alloc (Below.refl w1.heap.size w1) _) hB)
  refine ⟨_, rfl, by simpa using hO.mono (by simp; have := hg1.size; omega), grown_trans hg1 (grown_of_below hB2 _), ?_, cell_below hB2 hS.1, hS.2.below hB2⟩
  have := hk1.below hB2
  simpa using this
end Go.Proofs.YtijcecakofmhcaaDoor
