/- The law's 'spoil': every sample of a sound is overwritten. -/
import Derived.Test.YtijcecakofmhcaaDoorLibT
import Derived.Test.YtijcecakofmhcaaDoorPcmD
namespace Go.Proofs.YtijcecakofmhcaaDoor
open Go.RowKit

/-- Outside some blocks nothing has changed; inside, ints may have become 7. -/
structure Sp (ok : Nat → Prop) (w w' : World) : Prop where
  os : w'.os = w.os
  tape : w'.tape = w.tape
  output : w'.output = w.output
  size : w.heap.size ≤ w'.heap.size
  out : ∀ b, b < w.heap.size → ¬ ok b → w'.heap[b]? = w.heap[b]?
  cell : ∀ a v, w.cell? a = some v → w'.cell? a = some v ∨ (ok a.block ∧ (∃ x, v = .int .i64 x) ∧ w'.cell? a = some (.int .i64 7))
  fz : ∀ a : Addr, a.block < w.heap.size → w'.frozen? a = w.frozen? a
section
variable {ok : Nat → Prop} {w w1 w2 : World}
theorem Sp.refl (ok : Nat → Prop) (w : World) : Sp ok w w := ⟨rfl, rfl, rfl, Nat.le_refl _, fun _ _ _ => rfl, fun _ _ h => .inl h, fun _ _ => rfl⟩
theorem Sp.trans (h : Sp ok w w1) (k : Sp ok w1 w2) : Sp ok w w2 := by
  refine ⟨k.os.trans h.os, k.tape.trans h.tape, k.output.trans h.output, Nat.le_trans h.size k.size, fun b hb ho => (k.out b (Nat.lt_of_lt_of_le hb h.size) ho).trans (h.out b hb ho), fun a v hv => ?_,
    fun a ha => (k.fz a (Nat.lt_of_lt_of_le ha h.size)).trans (h.fz a ha)⟩
  rcases h.cell a v hv with h1 | ⟨h1, h2, h3⟩
  · exact k.cell a v h1
  · rcases k.cell a _ h3 with h4 | ⟨_, _, h4⟩
    · exact .inr ⟨h1, h2, h4⟩
    · exact .inr ⟨h1, h2, h4⟩
theorem Sp.of_below (ok : Nat → Prop) (h : Below w.heap.size w w1) : Sp ok w w1 :=
  ⟨h.os, h.tape, h.output, h.size, fun b hb _ => h.block b hb, fun _ _ hv => .inl (cell_below h hv), fun a ha => World.frozen?_of_block (w := w) (h.block a.block ha)⟩
theorem Sp.put {a : Addr} {x : Int} (hc : w.cell? a = some (.int .i64 x)) (ho : ok a.block) : Sp ok w (w.setCell a (.int .i64 7)) := by
  refine ⟨rfl, rfl, rfl, by simp, fun b _ hb => heap_setCell_other w a b _ (fun e => by subst e; exact hb ho), fun p v hv => ?_, fun p _ => World.frozen?_setCell ..⟩
  by_cases e : a = p
  · subst e
    exact .inr ⟨ho, ⟨x, by rw [hc] at hv; exact (Option.some.inj hv).symm⟩, World.cell?_setCell_same _ _ _ hc⟩
  · exact .inl ((World.cell?_setCell_other _ _ _ _ e).trans hv)
theorem Sp.keep (h : Sp ok w w1) : Keep (fun b => ¬ ok b) w w1 := ⟨h.size, fun b hb ho => h.out b hb ho⟩
theorem Sp.slice (h : Sp ok w w1) {a : Addr} {A : Option Addr} {n c : Nat} (hc : w.cell? a = some (.slice A n c)) : w1.cell? a = some (.slice A n c) := by
  rcases h.cell a _ hc with h1 | ⟨_, ⟨x, h2⟩, _⟩
  · exact h1
  · cases h2
theorem Sp.seven (h : Sp ok w w1) {a : Addr} (hc : w.cell? a = some (.int .i64 7)) : w1.cell? a = some (.int .i64 7) := by
  rcases h.cell a _ hc with h1 | ⟨_, _, h1⟩ <;> exact h1
theorem Sp.int (h : Sp ok w w1) {a : Addr} {x : Int} (hc : w.cell? a = some (.int .i64 x)) : ∃ y, w1.cell? a = some (.int .i64 y) := by
  rcases h.cell a _ hc with h1 | ⟨_, _, h1⟩ <;> exact ⟨_, h1⟩
end
def sevens (s : List (List Int)) : List (List Int) := s.map fun c => List.replicate c.length 7
/-- The first channels hold sevens. -/
def SevenTo (w w1 : World) (A : Option Addr) (s : List (List Int)) (k : Nat) : Prop :=
  ∀ j, j < k → ∀ ad, A = some ad → ∀ A' l c', w.cell? (ad.add j) = some (.slice A' l c') → ∀ i, i < (nth [] s j).length → ∀ ad', A' = some ad' → w1.cell? (ad'.add i) = some (.int .i64 7)
theorem SevenTo.sp {ok : Nat → Prop} {w w1 w2 : World} {A : Option Addr} {s : List (List Int)} {k : Nat} (h : SevenTo w w1 A s k) (hs : Sp ok w1 w2) : SevenTo w w2 A s k :=
  fun j hj ad e A' l c' hc i hi ad' e' => hs.seven (h j hj ad e A' l c' hc i hi ad' e')
theorem sevens_done {ok : Nat → Prop} {w w1 : World} {A : Option Addr} {c : Nat} {s : List (List Int)} (h : Sl kT ok w A c s) (hs : Sp ok w w1) (hd : SevenTo w w1 A s s.length) : Sl kT ok w1 A c (sevens s) := by
  have hl : (sevens s).length = s.length := by simp [sevens]
  refine ⟨by rw [hl]; exact h.le, h.cap, fun j hj => ?_⟩
  rw [hl] at hj
  obtain ⟨ad, cs, e, ho, hlt, ⟨A', c', rfl, hT⟩, hc⟩ := h.rd j hj
  have hn : nth kT.dflt (sevens s) j = List.replicate (nth [] s j).length 7 := by
    unfold sevens
    show nth [] _ j = _
    rw [nth_eq [] _ j (by simpa using hj), nth_eq [] s j hj]; simp
  have hcell := hc 0 _ rfl
  have hcell' : w.cell? (ad.add j) = some (.slice A' (nth [] s j).length c') := by simpa [kT] using hcell
  refine ⟨ad, [.slice A' (nth [] s j).length c'], e, ho, Nat.lt_of_lt_of_le hlt hs.size, ?_, fun i v hv => ?_⟩
  · rw [hn]
    refine ⟨A', c', by simp, ⟨by rw [List.length_replicate]; exact hT.sl.le, hT.sl.cap, fun i hi => ?_⟩, fun i hi ad' e' => ?_⟩
    · rw [List.length_replicate] at hi
      obtain ⟨ad', cs', e', ho', hlt', rfl, hc'⟩ := hT.sl.rd i hi
      have h7 := hd j hj ad e A' _ c' hcell' i hi ad' e'
      refine ⟨ad', _, e', ho', Nat.lt_of_lt_of_le hlt' hs.size, rfl, fun q v hv => ?_⟩
      match q, hv with
      | 0, hv =>
        simp at hv
        subst hv
        have : nth (kInt .i64).dflt (List.replicate (nth [] s j).length (7 : Int)) i = 7 := by
          show nth 0 _ i = _
          rw [nth_eq 0 _ i (by simpa using hi)]; simp
        rw [this]
        simpa [kInt] using h7
    · rw [List.length_replicate] at hi
      obtain ⟨ad'', cs', e'', ho', hlt', _, _⟩ := hT.sl.rd i hi
      obtain rfl : ad'' = ad' := Option.some.inj (e''.symm.trans e')
      rw [hs.fz _ (by rw [add_block]; exact hlt')]
      exact hT.thaw i hi _ e'
  · match i, hv with
    | 0, hv =>
      simp at hv
      subst hv
      have := hs.slice hcell'
      simpa [kT] using this

set_option maxHeartbeats 1000000 in
set_option maxRecDepth 100000 in
theorem spoil_any (r : Int) (A : Option Addr) (c : Nat) (s : List (List Int)) (w : World) (ok : Nat → Prop) (hS : Sl kT ok w A c s) :
    Calls Tryd.prog 42 #[.agg #[.int .i64 r, .slice A s.length c]] w fun e w' => e = .returned (.tuple #[]) ∧ Sl kT ok w' A c (sevens s) ∧ Sp ok w w' := by
  have hn := hS.len
  go_enter Tryd.func42, Tryd.ntmps42
  go_wp2_with (((with_reducible refine at_dst (N := 1) rfl ?_); refine ev_new #[.int .i64 r, .slice A s.length c] 24 rfl ?hr ?_; (case hr => first | (go_simp; done) | (go_simp; rfl)); intro g1 w1 eg1 zg1 b1 Bg1; have k0 := Bg1.cell 0 rfl; have k1 := Bg1.cell 1 rfl))
  have hb1 := Sp.of_below ok b1
  clear k0 k1
  go_loopw [8] (fun i wr => ∃ k : Nat, k ≤ s.length ∧ i = .int .i64 k ∧ Sp ok w wr ∧ SevenTo w wr A s k) (fun i _ => s.length - (intOf i).toNat)
  case atStart => exact ⟨0, Nat.zero_le _, rfl, hb1, fun j hj => by omega⟩
  case round =>
    obtain ⟨k, hk, rfl, hP, hD⟩ := hrel
    by_cases hlt : k < s.length
    · obtain ⟨ad, A', c', rfl, ho, hc, hT⟩ := rd_T hS k hlt
      have hc1 := hP.slice hc
      have hTl := hT.sl.len
      go_wp2_with fail
      obtain ⟨wo, hwo⟩ : ∃ wo : World, wo = wr := ⟨_, rfl⟩
      rw [← hwo] at hP hD
      go_loopw [14] (fun i wr => ∃ q : Nat, q ≤ (nth [] s k).length ∧ i = .int .i64 q ∧ Sp ok w wr ∧ SevenTo w wr (some ad) s k ∧ ∀ i, i < q → ∀ ad', A' = some ad' → wr.cell? (ad'.add i) = some (.int .i64 7)) (fun i _ => (nth [] s k).length - (intOf i).toNat)
      case atStart => exact ⟨0, Nat.zero_le _, rfl, by rw [← hwo]; exact hP, by rw [← hwo]; exact hD, fun i hi => by omega⟩
      case round =>
        clear hP hD hc1
        obtain ⟨q, hq, rfl, hP, hD, hE⟩ := hrel
        by_cases hql : q < (nth [] s k).length
        · obtain ⟨ad', cs', e', ho', hlt', rfl, hc'⟩ := hT.sl.rd q hql
          have hcell : w.cell? (ad'.add q) = some (.int .i64 (nth 0 (nth [] s k) q)) := by have := hc' 0 _ rfl; simpa [kInt] using this
          have hfz := (hP.fz (ad'.add q) (by rw [add_block]; exact hlt')).trans (hT.thaw q hql _ e')
          obtain ⟨y, hy⟩ := hP.int hcell
          have hst := Sp.put (ok := ok) hy (by rw [add_block]; exact ho')
          subst e'
          clear hc' hlt'
          have HST := Lib.hid hst
          have HP := Lib.hid hP
          have HD := Lib.hid hD
          have HE := Lib.hid hE
          clear hst hP hD hE hcell
          go_wp2_with fail
          go_roundw
          case rel =>
            refine ⟨q + 1, by omega, by go_num, HP.out.trans HST.out, HD.out.sp HST.out, fun i hi ad'' e'' => ?_⟩
            rcases Nat.lt_or_ge i q with h | h
            · exact HST.out.seven (HE.out i h ad'' e'')
            · obtain rfl : i = q := by omega
              obtain rfl := Option.some.inj e''
              exact World.cell?_setCell_same _ _ _ hy
          case measure => simp [intOf]; omega
        · obtain rfl : q = (nth [] s k).length := by omega
          have HP := Lib.hid hP
          have HD := Lib.hid hD
          have HE := Lib.hid hE
          clear hP hD hE
          go_wp2_with fail
          go_roundw
          case rel =>
            refine ⟨k + 1, by omega, by go_num, HP.out, fun j hj ad2 e2 A2 l2 c2 h2 i hi ad3 e3 => ?_⟩
            rcases Nat.lt_or_ge j k with h | h
            · exact HD.out j h ad2 e2 A2 l2 c2 h2 i hi ad3 e3
            · obtain rfl : j = k := by omega
              obtain rfl := Option.some.inj e2
              rw [hc] at h2
              injection h2 with h2
              injection h2 with h2
              subst h2
              exact HE.out i hi ad3 e3
          case measure => simp [intOf]; omega
    · obtain rfl : k = s.length := by omega
      go_wp2_with fail
      refine bodyPost_end (v := .tuple #[]) (by simp [results, Tryd.results42, go_sem]) rfl ⟨rfl, sevens_done hS hP hD, hP⟩
end Go.Proofs.YtijcecakofmhcaaDoor
