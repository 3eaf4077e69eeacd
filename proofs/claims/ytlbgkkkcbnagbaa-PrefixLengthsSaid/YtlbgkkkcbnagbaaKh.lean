/- The reference's prefix: word, Write, begins: what each call returns. · The reference's prefix: Write, begins: what each call returns. · The reference's prefix: read: what it returns. · The reference's prefix: Read: what it returns. · The reference's prefix: Encode: what it returns. · The reference's prefix: Decode: what it returns. -/
import Derived.Test.YtlbgkkkcbnagbaaKg
import Derived.Test.YtlbgkkkcbnagbaaKf
import Derived.Test.YtlbgkkkcbnagbaaKe
namespace Go.Proofs.Ytlbgkkkcbnagbaa
open Go.RowKit Go.Shelf

theorem hasB_zero {ls : List Int} (hr : Right ls) {k : Nat} (hk : k < ls.length) : hasB ls (k : Int) = !(nth 0 ls k == 0) := by
  have := hr.ok.at k
  unfold hasB
  rw [Int.toNat_natCast, decide_eq_true (show (0 : Int) ≤ (k : Int) by omega), decide_eq_true (show (k : Int) < (ls.length : Int) by omega), Bool.true_and, Bool.true_and, Bool.eq_iff_iff]
  simp; omega

set_option maxHeartbeats 2000000 in
set_option maxRecDepth 100000 in
theorem word_any (A : Option Addr) (c : Nat) (ls : List Int) (s : Int) (w : World) (hS : RI w A c ls) (hr : Right ls) :
    Calls Try.prog 73 #[.slice A ls.length c, .int .i64 s] w fun e w' => ∃ v, e = .returned (.tuple #[v, .bool (hasB ls s)]) ∧ OwnI 5 .u8 w.heap.size w' v (bitsI (wordB ls s)) ∧ Below w.heap.size w w' := by
  have hn := hS.len
  have hck := (checkN_right ls).2 hr
  by_cases h0 : s < 0
  · have HE := Lib.hid (show hasB ls s = false ∧ wordB ls s = [] by
      have h1 : hasB ls s = false := by simp [hasB]; omega
      exact ⟨h1, by unfold wordB; rw [if_pos (.inr h1)]⟩)
    clear hr hck
    go_enter Try.func73, Try.ntmps73
    go_wp2
    go_ret2
    exact ⟨_, ret_two rfl (by rw [HE.out.1]; rfl), by rw [HE.out.2]; exact OwnI.nil _ _ _ _, Below.refl _ _⟩
  · obtain ⟨k, rfl⟩ := Int.eq_ofNat_of_zero_le (show 0 ≤ s by omega)
    by_cases hk : k < ls.length
    · obtain ⟨ad, rfl, hc⟩ := rd_int hS k hk
      by_cases hz : nth 0 ls k = 0
      · have HE := Lib.hid (show hasB ls (k : Int) = false ∧ wordB ls (k : Int) = [] by
          have h1 : hasB ls (k : Int) = false := by rw [hasB_zero hr hk, hz]; rfl
          exact ⟨h1, by unfold wordB; rw [if_pos (.inr h1)]⟩)
        rw [hz] at hc
        clear hr hck hz h0
        go_enter Try.func73, Try.ntmps73
        go_wp2
        go_ret2
        exact ⟨_, ret_two rfl (by rw [HE.out.1]; rfl), by rw [HE.out.2]; exact OwnI.nil _ _ _ _, Below.refl _ _⟩
      · have hzb : (nth 0 ls k == 0) = false := by simpa using hz
        have HE := Lib.hid (show hasB ls (k : Int) = true ∧ wordB ls (k : Int) = numB (codeN ls k) (lenOf ls k) by
          have h1 : hasB ls (k : Int) = true := by rw [hasB_zero hr hk, hzb]; rfl
          exact ⟨h1, by unfold wordB; rw [if_neg (by rw [h1]; simp [hck]), Int.toNat_natCast]⟩)
        have h16 := hr.ok.len16 k
        have hlen := hr.ok.at k
        have hnx : nth 0 ls k = ((lenOf ls k : Nat) : Int) := by unfold lenOf; omega
        have hcl := code_lt hr.ok.len16 hr.full hk
        have h2L : 2 ^ lenOf ls k ≤ 65536 := by have := Nat.pow_le_pow_right (n := 2) (by decide) h16; simpa using this
        have HC := Lib.hid (rcodes_any _ c ls w hS)
        have HX := Lib.hid (show codesR ls = codesL ls by simp [codesR, hck])
        have HN := Lib.hid (fun W => number_ref (codeN ls k) (lenOf ls k) W (by omega) (by omega))
        have HS := Lib.hid hS
        have HLN := Lib.hid hnx
        clear hr hck hz h16 hlen hcl h2L h0 hS
        rw [hnx] at hc hzb
        go_enter Try.func73, Try.ntmps73
        go_wp2_with (go_at_call 18; refine HC.out.mono ?_; rintro e w2 ⟨v, rfl, hO, b2⟩)
        rw [HX.out] at hO
        obtain ⟨A2, c2, rfl⟩ := hO.slice
        obtain ⟨ad2, rfl, hc2⟩ := rd_int (own_sl hO) k (by rw [codesL_length]; exact hk)
        rw [codesL_nth _ _ hk] at hc2
        obtain ⟨ad1, e1, hc1⟩ := rd_int (HS.out.below b2) k hk
        cases e1
        rw [HLN.out] at hc1
        rw [codesL_length]
        clear hO hc
        go_still_tail 8, (by kernel_rfl)
        change wpList _ _ _ _ _ (World.drew _)
        have HDR := Lib.hid ((Below.refl w2.heap.size w2).drew)
        go_wp2_with (go_at_call 84; refine (HN.out _).mono ?_; rintro e w3 ⟨v3, rfl, hO3, b3⟩)
        go_ret2
        refine ⟨_, ret_two rfl (by rw [HE.out.1]; rfl), ?_, below2 (below2 b2 HDR.out) b3⟩
        rw [HE.out.2]
        exact hO3.mono (by have := b2.size; exact this)
    · have HE := Lib.hid (show hasB ls (k : Int) = false ∧ wordB ls (k : Int) = [] by
        have h1 : hasB ls (k : Int) = false := by simp [hasB]; omega
        exact ⟨h1, by unfold wordB; rw [if_pos (.inr h1)]⟩)
      have hkd : decide (ls.length ≤ k) = true := decide_eq_true (by omega)
      have hkd2 : decide ((ls.length : Int) ≤ (k : Int)) = true := decide_eq_true (by omega)
      clear hr hck h0
      go_enter Try.func73, Try.ntmps73
      go_wp2
      go_ret2
      exact ⟨_, ret_two rfl (by rw [HE.out.1]; rfl), by rw [HE.out.2]; exact OwnI.nil _ _ _ _, Below.refl _ _⟩
end Go.Proofs.Ytlbgkkkcbnagbaa

namespace Go.Proofs.Ytlbgkkkcbnagbaa
open Go.RowKit Go.Shelf

theorem wordB_len (ls : List Int) (h16 : ∀ k, lenOf ls k ≤ 16) (s : Int) : (wordB ls s).length ≤ 16 := by
  unfold wordB
  split
  · simp
  · rw [numB_length]; exact h16 _
theorem writeE_of {ls : List Int} {n : Nat} {s : Int} (hck : checkN ls = 0) (hh : hasB ls s = true) : writeE ls n s = fullE n (wordB ls s).length := by
  unfold writeE wordB
  rw [if_neg (by simp [hck]), if_neg (by simp [hh]), if_neg (by simp [hck, hh]), numB_length]
theorem fullE_ofB (bs : List Bool) : ofB (packB bs) bs.length = bs := by rw [ofB_packB _ _ (Nat.le_refl _), List.take_length]

set_option maxHeartbeats 2000000 in
set_option maxRecDepth 100000 in
theorem rwrite_any (o : Nat → Prop) (g : Nat) (A : Option Addr) (c : Nat) (ls : List Int) (s : Int) (bs : List Bool) (w : World) (h : Vr o w g bs) (hl : bs.length ≤ 1048576) (hS : RI w A c ls) :
    Calls Try.prog 43 #[.pointer (some ⟨g, 0, none⟩), .slice A ls.length c, .int .i64 s] w
      fun e w' => e = .returned (.int .i64 (writeE ls bs.length s)) ∧ Vr (fun b => o b ∨ w.heap.size ≤ b) w' g (fullB bs (wordB ls s)) ∧ Upd o w w' := by
  have HF := Lib.hid (fullB_nil bs hl)
  by_cases hck : checkN ls = 0
  · have hr := (checkN_right ls).1 hck
    have HX := Lib.hid hck
    have HW := Lib.hid (word_any A c ls s w hS hr)
    have H := Lib.hid h
    have HS := Lib.hid hS
    cases hh : hasB ls s
    · have HE := Lib.hid (show writeE ls bs.length s = 5 ∧ wordB ls s = [] by unfold writeE wordB; simp [hck, hh])
      rw [hh] at HW
      clear hck hh hr h hS
      go_enter Try.func43, Try.ntmps43
      go_wp2_with (first
        | (go_at_call 20; refine (rcheck_any _ _ _ _ HS.out).mono ?_; rintro e w2 ⟨rfl, rfl⟩; rw [HX.out])
        | (go_at_call 73; refine HW.out.mono ?_; rintro e w3 ⟨v, rfl, hO, b3⟩))
      go_ret
      exact ⟨ret_int HE.out.1.symm, by rw [HE.out.2, HF.out]; exact (H.out.below b3).weak fun b _ h => .inl h, Upd.of_below b3 o⟩
    · rw [hh] at HW
      have HE := Lib.hid (writeE_of (n := bs.length) hck hh)
      have hwl := wordB_len ls hr.ok.len16 s
      have HA := Lib.hid (fun A2 c2 W (hV : Vr (fun b => o b ∧ b < w.heap.size) W g bs) (hR : RY W A2 c2 (packB (wordB ls s))) => append_ref (fun b => o b ∧ b < w.heap.size) g (wordB ls s).length A2 c2 (packB (wordB ls s)) bs W hV hR (packB_range _) (by rw [packB_length]; omega) (by rw [packB_length]; omega) hl)
      rw [fullE_ofB] at HA
      have HP := Lib.hid (fun A2 c2 W (hR : RY W A2 c2 (bitsI (wordB ls s))) => pack_ref A2 c2 (wordB ls s) W hR (by omega))
      clear hck hh hr h hS
      obtain ⟨l, hl'⟩ : ∃ l, wordB ls s = l := ⟨_, rfl⟩
      rw [hl'] at HE HA HP HW
      have HL := Lib.hid hl'
      clear hwl hl'
      go_enter Try.func43, Try.ntmps43
      go_wp2_with (first
        | (go_at_call 20; refine (rcheck_any _ _ _ _ HS.out).mono ?_; rintro e w2 ⟨rfl, rfl⟩; rw [HX.out])
        | (go_at_call 73; refine HW.out.mono ?_; rintro e w3 ⟨v, rfl, hO, b3⟩; obtain ⟨A3, c3, rfl⟩ := hO.slice; rw [bitsI_length]; have HO := Lib.hid hO; clear hO)
        | (go_at_call 74; refine (HP.out _ _ _ (own_sl HO.out)).mono ?_; rintro e w4 ⟨v4, rfl, hO4, b4⟩; obtain ⟨A4, c4, rfl⟩ := hO4.slice; have HO4 := Lib.hid hO4; clear hO4; have HB4 := Lib.hid (below2 b3 b4); clear b3 b4)
        | (go_at_call 41; refine (HA.out _ _ _ (H.out.cut.upd (o2 := fun _ => False) (Upd.of_below HB4.out _) (fun _ _ _ h => h)) (own_sl HO4.out)).mono ?_; rintro e w5 ⟨rfl, hw5, hu5⟩))
      go_ret
      refine ⟨ret_int HE.out.symm, ?_, (Upd.of_below HB4.out o).trans (hu5.weak (o' := o) fun _ _ h => h.1) fun _ _ h => h⟩
      rw [HL.out]
      refine hw5.weak fun b _ h => ?_
      rcases h with h | h
      · exact .inl h.1
      · exact .inr (by have := HB4.out.size; omega)
  · have hb : (checkN ls != 0) = true := by simpa using hck
    have HE := Lib.hid (show writeE ls bs.length s = checkN ls ∧ wordB ls s = [] by unfold writeE wordB; simp [hck])
    clear hck
    go_enter Try.func43, Try.ntmps43
    go_wp2_with (go_at_call 20; refine (rcheck_any _ _ _ _ hS).mono ?_; rintro e w2 ⟨rfl, rfl⟩)
    go_ret
    exact ⟨ret_int HE.out.1.symm, by rw [HE.out.2, HF.out]; exact h.weak fun b _ h => .inl h, Upd.refl _ _⟩

def preB (x y : List Bool) : Bool := decide (x.length ≤ y.length) && decide (x = y.take x.length)
theorem sameL_bits (x y : List Bool) : sameL (bitsI x) (bitsI y) = decide (x = y) := by
  unfold sameL
  congr 1
  exact propext ⟨bitsI_inj, fun h => by rw [h]⟩
set_option maxHeartbeats 2000000 in
set_option maxRecDepth 100000 in
theorem begins_any (A B : Option Addr) (c d : Nat) (x y : List Bool) (w : World) (hS : RY w A c (bitsI x)) (hT : RY w B d (bitsI y)) (hx0 : 0 < x.length) :
    Calls Try.prog 85 #[.slice A x.length c, .slice B y.length d] w fun e w' => e = .returned (.bool (preB x y)) ∧ Below w.heap.size w w' := by
  by_cases hl : x.length ≤ y.length
  · have hyd : y.length ≤ d := by have := hT.le; rwa [bitsI_length] at this
    obtain ⟨ad, rfl, hc⟩ := rd_int hT 0 (by rw [bitsI_length]; omega)
    have hcc := hT.cap
    have hP := hT.part 0 x.length (by rw [bitsI_length]; omega)
    rw [List.drop_zero, ← bitsI_take] at hP
    have hyx : (y.take x.length).length = x.length := by rw [List.length_take]; omega
    have HSM := Lib.hid (fun A' c' (hA : RY w A' c' (bitsI (y.take x.length))) => same_ref A A' c c' (bitsI x) (bitsI (y.take x.length)) w hS hA)
    rw [bitsI_length, bitsI_length, hyx, sameL_bits] at HSM
    have HE := Lib.hid (show preB x y = decide (x = y.take x.length) by unfold preB; rw [decide_eq_true hl, Bool.true_and])
    have HP := Lib.hid hP
    clear hS hT hP
    go_enter Try.func85, Try.ntmps85
    go_wp2_with (go_at_call 26; refine (HSM.out _ _ HP.out).mono ?_; rintro e w2 ⟨rfl, b2⟩)
    go_ret
    exact ⟨ret_bool HE.out.symm, b2⟩
  · have HE := Lib.hid (show preB x y = false by unfold preB; rw [decide_eq_false hl, Bool.false_and])
    have hld : decide (x.length ≤ y.length) = false := decide_eq_false hl
    go_enter Try.func85, Try.ntmps85
    go_wp2
    go_ret
    exact ⟨ret_bool HE.out.symm, Below.refl _ _⟩
end Go.Proofs.Ytlbgkkkcbnagbaa

namespace Go.Proofs.Ytlbgkkkcbnagbaa
open Go.RowKit Go.Shelf

theorem symF_none {ls : List Int} {p : Nat × Nat} : ∀ {k : Nat}, (∀ j, j < k → ¬ (0 < lenOf ls j ∧ p = (lenOf ls j, codeN ls j))) → symF ls k p = none
  | 0, _ => rfl
  | k + 1, h => by
    unfold symF
    rw [if_neg (h k (by omega))]
    exact symF_none fun j hj => h j (by omega)
theorem code_uniq {ls : List Int} (hr : Right ls) {i j : Nat} (hi : i < ls.length) (hj : j < ls.length) (h0 : 0 < lenOf ls i) (hl : lenOf ls i = lenOf ls j) (hc : codeN ls i = codeN ls j) : i = j := by
  rcases Nat.decEq i j with h | h
  · have := code_free (i := i) (j := j) hr.ok.len16 hi hj h h0 (by omega)
    rw [← hl, Nat.sub_self, Nat.pow_zero, Nat.div_one] at this
    exact absurd hc.symm this
  · exact h
theorem symF_some {ls : List Int} (hr : Right ls) {i : Nat} (h0 : 0 < lenOf ls i) : ∀ {k : Nat}, i < k → k ≤ ls.length → symF ls k (lenOf ls i, codeN ls i) = some i
  | 0, h, _ => absurd h (by omega)
  | k + 1, h, hk => by
    unfold symF
    by_cases e : 0 < lenOf ls k ∧ (lenOf ls i, codeN ls i) = (lenOf ls k, codeN ls k)
    · rw [if_pos e]
      have h1 : lenOf ls i = lenOf ls k := congrArg Prod.fst e.2
      have h2 : codeN ls i = codeN ls k := congrArg Prod.snd e.2
      rw [code_uniq hr (i := i) (j := k) (by omega) (by omega) h0 h1 h2]
    · rw [if_neg e]
      have : i ≠ k := fun h => e ⟨h ▸ h0, by rw [h]⟩
      exact symF_some hr h0 (by omega) (by omega)
theorem begAt_preB {bits : List Bool} {n L C : Nat} (hn : 0 < n) (hnL : n ≤ L) (hnb : n ≤ bits.length) (hC : C < 2 ^ L) : preB (bits.take n) (numB C L) = begAt L C 0 (n, valB (bits.take n)) := by
  have hl : (bits.take n).length = n := by rw [List.length_take]; omega
  unfold preB begAt
  rw [hl, numB_length, decide_eq_true hnL, Bool.true_and, numB_take _ _ _ hnL]
  have hq : C / 2 ^ (L - n) < 2 ^ n := by
    rw [Nat.div_lt_iff_lt_mul (Nat.two_pow_pos _), ← Nat.pow_add, show n + (L - n) = L by omega]; exact hC
  congr 1
  apply propext
  constructor
  · intro h
    refine ⟨hn, hnL, ?_⟩
    show valB (bits.take n) = _
    rw [h, valB_numB, Nat.mod_eq_of_lt hq]
  · rintro ⟨_, _, h⟩
    have h : valB (bits.take n) = C / 2 ^ (L - n) := h
    rw [← h]
    have := numB_valB (bits.take n)
    rw [hl] at this
    exact this.symm
theorem begAt_gt {n L C V : Nat} (h : L < n) : begAt L C 0 (n, V) = false := decide_eq_false (fun ⟨_, h2, _⟩ => by have h2 : n ≤ L := h2; omega)
theorem begAt_eq {n C V : Nat} (h : 0 < n) : begAt n C 0 (n, V) = decide (V = C) := by
  unfold begAt
  congr 1
  apply propext
  show (0 < n ∧ n ≤ n ∧ V = C / 2 ^ (n - n)) ↔ _
  rw [Nat.sub_self, Nat.pow_zero, Nat.div_one]
  exact ⟨fun h => h.2.2, fun e => ⟨h, Nat.le_refl _, e⟩⟩

set_option maxHeartbeats 4000000 in
set_option maxRecDepth 100000 in
theorem rread_any (A B : Option Addr) (c d : Nat) (ls : List Int) (l : List Bool) (w : World) (hS : RI w A c ls) (hT : RY w B d (bitsI l)) (hr : Right ls) (hl : l.length ≤ 1048576) :
    Calls Try.prog 69 #[.slice A ls.length c, .slice B l.length d] w
      fun e w' => e = .returned (.tuple #[.int .i64 (readR ls l).1, .int .i64 (readR ls l).2.2, .int .i64 (readR ls l).2.1]) ∧ Below w.heap.size w w' := by
  have hck := (checkN_right ls).2 hr
  have h256 := hr.len
  have HC := Lib.hid (rcodes_any A c ls w hS)
  have HX := Lib.hid (show codesR ls = codesL ls by simp [codesR, hck])
  have hld : l.length ≤ d := by have := hT.le; rwa [bitsI_length] at this
  have hdc := hT.cap
  have HR := Lib.hid hr
  have HS := Lib.hid hS
  have HT := Lib.hid hT
  clear hck hr hS hT
  go_enter Try.func69, Try.ntmps69
  go_wp2_with (go_at_call 18; refine HC.out.mono ?_; rintro e w2 ⟨v, rfl, hO, b2⟩)
  rw [HX.out] at hO
  obtain ⟨A2, c2, rfl⟩ := hO.slice
  rw [codesL_length]
  have HO := Lib.hid hO
  have HB2 := Lib.hid b2
  clear hO b2 HC
  go_loopw [9] (fun nn wr => ∃ n : Nat, 1 ≤ n ∧ n ≤ 17 ∧ nn = .int .i64 (n : Int) ∧ Below w2.heap.size w2 wr ∧ Hid (readR ls l = readF (symF ls ls.length) (begF ls ls.length) l (18 - n) (n - 1))) (fun nn _ => 18 - (intOf nn).toNat)
  case atStart => exact ⟨1, Nat.le_refl _, by omega, rfl, Below.refl _ _, rfl⟩
  case round =>
    obtain ⟨n, hn1, hn17, rfl, hB, hrun⟩ := hrel
    by_cases hsh : l.length < n
    · have hd1 : decide (l.length < n) = true := decide_eq_true (by omega)
      have HRES := Lib.hid (show readR ls l = (0, 3, 0) by
        rw [hrun.out, show 18 - n = (17 - n) + 1 by omega]
        unfold readF
        rw [if_pos (by omega)])
      clear hsh
      go_wp2
      refine bodyPost_ret (v := .tuple #[.int .i64 0, .int .i64 0, .int .i64 3]) (by simp [results, Try.results69, go_sem]) rfl ⟨by rw [HRES.out]; rfl, below2 HB2.out hB⟩
    · have hd1 : decide (l.length < n) = false := decide_eq_false (by omega)
      obtain ⟨V, hV⟩ : ∃ V, valB (l.take (n)) = V := ⟨_, rfl⟩
      have HRUN := Lib.hid (show readR ls l = match symF ls ls.length (n, V) with
          | some s => ((s : Int), 0, n)
          | none => if begF ls ls.length (n, V) = true then readF (symF ls ls.length) (begF ls ls.length) l (17 - n) n else (0, 4, 0) by
        rw [hrun.out, show 18 - n = (17 - n) + 1 by omega]
        conv => lhs; unfold readF
        rw [if_neg (by omega), show n - 1 + 1 = n by omega, hV]
        rfl)
      have HV := Lib.hid hV
      have hml : n ≤ l.length := by omega
      clear hV hrun hsh
      go_wp2
      go_loopw [10, 27] (fun so i wr2 => ∃ k : Nat, k ≤ ls.length ∧ i = .int .i64 (k : Int) ∧ so = .bool (begF ls k (n, V)) ∧ Below wr.heap.size wr wr2 ∧ Hid (∀ j, j < k → ¬ (0 < lenOf ls j ∧ (n, V) = (lenOf ls j, codeN ls j)))) (fun _ i _ => ls.length - (intOf i).toNat)
      case atStart => exact ⟨0, Nat.zero_le _, rfl, rfl, Below.refl _ _, fun j hj => absurd hj (by omega)⟩
      case round =>
        obtain ⟨k, hk, rfl, rfl, hB2, hne⟩ := hrel
        have hBr := below2 hB hB2
        by_cases hlt : k < ls.length
        · have HBr := Lib.hid hBr
          have HBw := Lib.hid (below2 HB2.out hBr)
          obtain ⟨ad, rfl, hc⟩ := rd_int (HS.out.below HBw.out) k hlt
          have hlen := HR.out.ok.at k
          have hnx : nth 0 ls k = ((lenOf ls k : Nat) : Int) := by unfold lenOf; omega
          have h16 := HR.out.ok.len16 k
          rw [hnx] at hc
          by_cases hx : lenOf ls k < n
          · have hxd : decide (lenOf ls k < n) = true := decide_eq_true (by omega)
            have HG := Lib.hid (show begF ls (k + 1) (n, V) = begF ls k (n, V) by
              show (begF ls k (n, V) || begAt _ _ 0 (n, V)) = _
              rw [begAt_gt hx, Bool.or_false])
            have hne' : Hid (∀ j, j < k + 1 → ¬ (0 < lenOf ls j ∧ (n, V) = (lenOf ls j, codeN ls j))) := fun j hj => by
              rcases Nat.lt_or_ge j k with h | h
              · exact hne.out j h
              · obtain rfl : j = k := by omega
                rintro ⟨_, h2⟩
                have h2 : n = lenOf ls j := congrArg Prod.fst h2
                omega
            clear hx hlen hnx hBr
            go_wp2
            go_roundw
            case rel => exact ⟨k + 1, by omega, by go_num, by rw [HG.out], hB2, hne'⟩
            case measure => simp [intOf]; omega
          · have hxd : decide (lenOf ls k < n) = false := decide_eq_false (by omega)
            have hcl := code_lt HR.out.ok.len16 HR.out.full hlt
            have h2L : 2 ^ lenOf ls k ≤ 65536 := by have := Nat.pow_le_pow_right (n := 2) (by decide) h16; simpa using this
            have hpb := begAt_preB (bits := l) (n := n) (by omega) (Nat.not_lt.1 hx) hml hcl
            rw [HV.out] at hpb
            have HCC := Lib.hid (show ∃ ad2, A2 = some ad2 ∧ ∀ W, Below w2.heap.size w2 W → W.cell? (ad2.add k) = some (.int .i64 (codeN ls k : Int)) by
              obtain ⟨ad2, e2, _⟩ := rd_int (own_sl HO.out) k (by rw [codesL_length]; exact hlt)
              refine ⟨ad2, e2, fun W hW => ?_⟩
              obtain ⟨ad3, e3, h3⟩ := rd_int ((own_sl HO.out).below hW) k (by rw [codesL_length]; exact hlt)
              rw [e2] at e3
              cases e3
              rw [codesL_nth _ _ hlt] at h3
              exact h3)
            obtain ⟨ad2, rfl, hcc⟩ := HCC.out
            obtain ⟨L, hLe⟩ : ∃ L, lenOf ls k = L := ⟨_, rfl⟩
            obtain ⟨C, hCe⟩ : ∃ C, codeN ls k = C := ⟨_, rfl⟩
            rw [hLe] at hc hpb hcl h2L h16 hx hxd
            rw [hCe] at hpb hcl hcc
            have HN := Lib.hid (fun W => number_ref C L W (by omega) (by omega))
            have hc2 := hcc _ HBr.out
            have HTW := Lib.hid (HT.out.below HBw.out)
            obtain ⟨adl, rfl, _⟩ := rd_int HT.out 0 (by rw [bitsI_length]; omega)
            have htl : (l.take (n)).length = n := by rw [List.length_take]; omega
            have hP := HTW.out.part 0 (n) (by rw [bitsI_length]; omega)
            rw [List.drop_zero, ← bitsI_take] at hP
            have HP := Lib.hid hP
            have HBGN := Lib.hid (fun A' c' A3 c3 W (hA : RY W A' c' (bitsI (l.take (n)))) (hB : RY W A3 c3 (bitsI (numB C L))) => begins_any A' A3 c' c3 (l.take (n)) (numB C L) W hA hB (by omega))
            rw [htl, numB_length, hpb] at HBGN
            have HGS := Lib.hid (show begF ls (k + 1) (n, V) = (begF ls k (n, V) || begAt L C 0 (n, V)) by rw [← hLe, ← hCe]; rfl)
            have HLC := Lib.hid (show lenOf ls k = L ∧ codeN ls k = C from ⟨hLe, hCe⟩)
            have HNL := Lib.hid (numB_length C L)
            clear hcc HCC hP hpb htl hcl h2L hlen hnx hBr hLe hCe h16
            by_cases heq : L = n
            · replace heq := heq.symm
              subst heq
              rw [begAt_eq (show 0 < n by omega)] at HBGN HGS
              by_cases hVC : V = C
              · have HSYM := Lib.hid (show symF ls ls.length (n, V) = some k by
                  have := symF_some HR.out (i := k) (by rw [HLC.out.1]; omega) hlt (Nat.le_refl _)
                  rwa [HLC.out.1, HLC.out.2, ← hVC] at this)
                rw [decide_eq_true hVC] at HBGN
                clear hVC hx
                go_wp2_with (first
                  | (go_at_call 84; refine (HN.out _).mono ?_; rintro e w3 ⟨v3, rfl, hO3, b3⟩; obtain ⟨A3, c3, rfl⟩ := hO3.slice; rw [bitsI_length, HNL.out]; have HO3 := Lib.hid hO3; clear hO3)
                  | (go_at_call 85; refine (HBGN.out _ _ _ _ _ (HP.out.below b3) (own_sl HO3.out)).mono ?_; rintro e w4 ⟨rfl, b4⟩))
                refine bodyPost_ret (v := .tuple #[.int .i64 (k : Int), .int .i64 (n : Int), .int .i64 0]) (by simp [results, Try.results69, go_sem]) rfl ⟨by rw [HRUN.out, HSYM.out], below2 (below2 HBw.out b3) b4⟩
              · have hne' : Hid (∀ j, j < k + 1 → ¬ (0 < lenOf ls j ∧ (n, V) = (lenOf ls j, codeN ls j))) := fun j hj => by
                  rcases Nat.lt_or_ge j k with h | h
                  · exact hne.out j h
                  · obtain rfl : j = k := by omega
                    rintro ⟨_, h2⟩
                    have h2 : V = codeN ls j := congrArg Prod.snd h2
                    rw [HLC.out.2] at h2
                    exact hVC h2
                rw [decide_eq_false hVC] at HBGN HGS
                rw [Bool.or_false] at HGS
                clear hVC hx
                cases hbg : begF ls k (n, V)
                · rw [hbg] at HGS
                  go_wp2_with (first
                    | (go_at_call 84; refine (HN.out _).mono ?_; rintro e w3 ⟨v3, rfl, hO3, b3⟩; obtain ⟨A3, c3, rfl⟩ := hO3.slice; rw [bitsI_length, HNL.out]; have HO3 := Lib.hid hO3; clear hO3)
                    | (go_at_call 85; refine (HBGN.out _ _ _ _ _ ((HP.out.below b3).below (Below.refl _ _)) (own_sl HO3.out)).mono ?_; rintro e w4 ⟨rfl, b4⟩)
                    | (go_at_call 85; refine (HBGN.out _ _ _ _ _ ((HP.out.below b3).below b4) ((own_sl HO3.out).below b4)).mono ?_; rintro e w5 ⟨rfl, b5⟩))
                  go_roundw
                  case rel => exact ⟨k + 1, by omega, by go_num, by rw [HGS.out], below2 (below2 (below2 hB2 b3) b4) b5, hne'⟩
                  case measure => simp [intOf]; omega
                · rw [hbg] at HGS
                  go_wp2_with (first
                    | (go_at_call 84; refine (HN.out _).mono ?_; rintro e w3 ⟨v3, rfl, hO3, b3⟩; obtain ⟨A3, c3, rfl⟩ := hO3.slice; rw [bitsI_length, HNL.out]; have HO3 := Lib.hid hO3; clear hO3)
                    | (go_at_call 85; refine (HBGN.out _ _ _ _ _ (HP.out.below b3) (own_sl HO3.out)).mono ?_; rintro e w4 ⟨rfl, b4⟩))
                  go_roundw
                  case rel => exact ⟨k + 1, by omega, by go_num, by rw [HGS.out], below2 (below2 hB2 b3) b4, hne'⟩
                  case measure => simp [intOf]; omega
            · have hne' : Hid (∀ j, j < k + 1 → ¬ (0 < lenOf ls j ∧ (n, V) = (lenOf ls j, codeN ls j))) := fun j hj => by
                rcases Nat.lt_or_ge j k with h | h
                · exact hne.out j h
                · obtain rfl : j = k := by omega
                  rintro ⟨_, h2⟩
                  have h2 : n = lenOf ls j := congrArg Prod.fst h2
                  rw [HLC.out.1] at h2
                  exact heq h2.symm
              have heb : ((L : Int) == (n : Int)) = false := by rw [beq_eq_false_iff_ne]; omega
              clear heq hx
              obtain ⟨T, hT⟩ : ∃ T, begAt L C 0 (n, V) = T := ⟨_, rfl⟩
              rw [hT] at HBGN HGS
              clear hT
              cases hbg : begF ls k (n, V)
              · rw [hbg, Bool.false_or] at HGS
                go_wp2_with (first
                  | (go_at_call 84; refine (HN.out _).mono ?_; rintro e w3 ⟨v3, rfl, hO3, b3⟩; obtain ⟨A3, c3, rfl⟩ := hO3.slice; rw [bitsI_length, HNL.out]; have HO3 := Lib.hid hO3; clear hO3)
                  | (go_at_call 85; refine (HBGN.out _ _ _ _ _ (HP.out.below b3) (own_sl HO3.out)).mono ?_; rintro e w4 ⟨rfl, b4⟩))
                go_roundw
                case rel => exact ⟨k + 1, by omega, by go_num, by rw [HGS.out], below2 (below2 hB2 b3) b4, hne'⟩
                case measure => simp [intOf]; omega
              · rw [hbg, Bool.true_or] at HGS
                go_wp2_with (go_at_call 84; refine (HN.out _).mono ?_; rintro e w3 ⟨v3, rfl, hO3, b3⟩; obtain ⟨A3, c3, rfl⟩ := hO3.slice; rw [bitsI_length, HNL.out]; have HO3 := Lib.hid hO3; clear hO3)
                go_roundw
                case rel => exact ⟨k + 1, by omega, by go_num, by rw [HGS.out], below2 hB2 b3, hne'⟩
                case measure => simp [intOf]; omega
        · obtain rfl : k = ls.length := by omega
          have HSN := Lib.hid (symF_none (ls := ls) (p := (n, V)) hne.out)
          rw [HSN.out] at HRUN
          have HBr := Lib.hid hBr
          cases hbg : begF ls ls.length (n, V)
          · have HRES := Lib.hid (show readR ls l = (0, 4, 0) by rw [HRUN.out]; simp [hbg])
            clear hbg
            go_wp2
            refine bodyPost_ret (v := .tuple #[.int .i64 0, .int .i64 0, .int .i64 4]) (by simp [results, Try.results69, go_sem]) rfl ⟨by rw [HRES.out]; rfl, below2 HB2.out HBr.out⟩
          · have HRES := Lib.hid (show readR ls l = readF (symF ls ls.length) (begF ls ls.length) l (17 - n) n by rw [HRUN.out]; simp [hbg])
            have hn16 : n ≤ 16 := begF_short HR.out.ok.len16 _ _ hbg
            have hwr : IntKind.i64.wrap ((n : Int) + 1) = (n : Int) + 1 := IntWalk.i64_in _ (by omega)
            clear hbg
            go_wp2
            go_roundw
            case rel => exact ⟨n + 1, by omega, by omega, by go_num, HBr.out, by rw [show 18 - (n + 1) = 17 - n by omega, show n + 1 - 1 = n by omega]; exact HRES.out⟩
            case measure => simp [intOf]; omega
end Go.Proofs.Ytlbgkkkcbnagbaa

namespace Go.Proofs.Ytlbgkkkcbnagbaa
open Go.RowKit Go.Shelf

theorem begF_16 {ls : List Int} (hr : Right ls) (V : Nat) : ∀ {k : Nat}, k ≤ ls.length → begF ls k (16, V) = true → ∃ i, i < k ∧ lenOf ls i = 16 ∧ codeN ls i = V
  | 0, _, h => by cases h
  | k + 1, hk, h => by
    simp only [begF, Bool.or_eq_true] at h
    rcases h with h | h
    · obtain ⟨i, h1, h2, h3⟩ := begF_16 hr V (by omega) h
      exact ⟨i, by omega, h2, h3⟩
    · have h := of_decide_eq_true h
      obtain ⟨_, h2, h3⟩ := h
      have h2 : 16 ≤ lenOf ls k := h2
      have h3 : V = codeN ls k / 2 ^ (lenOf ls k - 16) := h3
      have hl := hr.ok.len16 k
      have e : lenOf ls k = 16 := by omega
      rw [e, Nat.sub_self, Nat.pow_zero, Nat.div_one] at h3
      exact ⟨k, by omega, e, h3.symm⟩
theorem symF_16 {ls : List Int} (hr : Right ls) (V : Nat) (h : symF ls ls.length (16, V) = none) : begF ls ls.length (16, V) = false := by
  cases hb : begF ls ls.length (16, V)
  · rfl
  · obtain ⟨i, h1, h2, h3⟩ := begF_16 hr V (Nat.le_refl _) hb
    have := symF_some hr (i := i) (by omega) h1 (Nat.le_refl _)
    rw [h2, h3, h] at this
    cases this
theorem readF_cut {ls : List Int} (hr : Right ls) (D : List Bool) : ∀ (fuel n : Nat), n < 16 → readF (symF ls ls.length) (begF ls ls.length) (D.take 16) fuel n = readF (symF ls ls.length) (begF ls ls.length) D fuel n
  | 0, _, _ => rfl
  | fuel + 1, n, h => by
    have e1 : ((D.take 16).length ≤ n) ↔ (D.length ≤ n) := by rw [List.length_take]; omega
    have e2 : (D.take 16).take (n + 1) = D.take (n + 1) := by rw [List.take_take, Nat.min_eq_left (by omega)]
    unfold readF
    rw [e2]
    by_cases hs : D.length ≤ n
    · rw [if_pos hs, if_pos (e1.2 hs)]
    · rw [if_neg hs, if_neg (fun h => hs (e1.1 h))]
      cases hsy : symF ls ls.length (n + 1, valB (D.take (n + 1))) with
      | some s => rfl
      | none =>
        dsimp only
        by_cases hn : n = 15
        · subst hn
          rw [symF_16 hr _ hsy]
          simp
        · rw [readF_cut hr D fuel (n + 1) (by omega)]
theorem readR_cut {ls : List Int} (hr : Right ls) (D : List Bool) : readR ls (D.take 16) = readR ls D := readF_cut hr D 17 0 (by omega)

set_option maxHeartbeats 4000000 in
set_option maxRecDepth 100000 in
theorem rRead_any (o : Nat → Prop) (A : Option Addr) (c : Nat) (ls : List Int) (g i : Nat) (l : List Bool) (w : World) (h : Qr o w g l i) (hS : Sl (kInt .i64) (fun b => b ≠ g) w A c ls) :
    Calls Try.prog 34 #[.pointer (some ⟨g, 0, none⟩), .slice A ls.length c] w
      fun e w' => e = .returned (.tuple #[.int .i64 (readL ls (l.drop i)).1, .int .i64 (readL ls (l.drop i)).2.1]) ∧ Qr o w' g l (i + (readL ls (l.drop i)).2.2) ∧ Upd (fun b => b = g) w w' := by
  have hA : RI w A c ls := hS.weak fun _ _ _ => trivial
  have HC := Lib.hid (rcheck_any A c ls w hA)
  have H := Lib.hid h
  have hi := h.le
  have hlb := h.bound
  clear h
  by_cases hck : checkN ls = 0
  · have hr := (checkN_right ls).1 hck
    have HX := Lib.hid hck
    obtain ⟨q, hq⟩ : ∃ q, l.length - i = q := ⟨_, rfl⟩
    obtain ⟨n, hn⟩ : ∃ n, min 16 q = n := ⟨_, rfl⟩
    have hcut : cutL l i n = (l.drop i).take 16 := by
      unfold cutL
      rw [if_neg (by omega)]
      have e : (l.drop i).length = q := by rw [List.length_drop]; omega
      rcases Nat.le_total 16 q with h | h
      · rw [← hn, Nat.min_eq_left h]
      · rw [← hn, Nat.min_eq_right h, ← e, List.take_length, List.take_of_length_le (by omega)]
    have hcl : (cutL l i n).length = n := by rw [hcut, List.length_take, List.length_drop]; omega
    have hE : getE l i n = 0 ∧ getI l i n = i + n := by unfold getE getI; rw [if_neg (by omega), if_neg (by omega)]; exact ⟨rfl, rfl⟩
    have HT := Lib.hid (fun W (hQ : Qr o W g l i) => qtake_ref o g i n l W hQ (by omega))
    rw [hE.1, hE.2] at HT
    have HO := Lib.hid (fun A' c' W (hR : RY W A' c' (packB (cutL l i n))) => of_ref A' c' (packB (cutL l i n)) n W hR (packB_range _) (by rw [packB_length, hcl]; omega) (by omega))
    have e2 : ofB (packB (cutL l i n)) n = cutL l i n := by have := fullE_ofB (cutL l i n); rwa [hcl] at this
    rw [e2] at HO
    have HRD := Lib.hid (fun A' c' W (hR : RY W A' c' (bitsI (cutL l i n))) (hL : RI W A c ls) => rread_any A A' c c' ls (cutL l i n) W hL hR hr (by omega))
    have hres : readR ls (cutL l i n) = readL ls (l.drop i) := by rw [hcut, readR_cut hr]; unfold readL; rw [if_neg (by simp [hck])]
    rw [hres, hcl] at HRD
    obtain ⟨R, hR⟩ : ∃ R, readL ls (l.drop i) = R := ⟨_, rfl⟩
    have hk : R.2.2 ≤ q := by
      have h1 := readF_count (symF ls ls.length) (begF ls ls.length) (l.drop i) 17 0 (Nat.zero_le _)
      have h2 : readL ls (l.drop i) = readR ls (l.drop i) := by unfold readL; rw [if_neg (by simp [hck])]
      rw [← hR, h2]
      have h3 : (readR ls (l.drop i)).2.2 ≤ (l.drop i).length := h1
      rw [List.length_drop] at h3; omega
    rw [hR] at HRD
    rw [hR]
    have hsk : seekI l (i + n) (((i + R.2.2 : Nat) : Int)) = i + R.2.2 := by unfold seekI; rw [if_neg (by omega), Int.toNat_natCast]
    have HSK := Lib.hid (fun W (hQ : Qr o W g l (i + n)) => qseek_any o g (i + n) ((i + R.2.2 : Nat) : Int) l W hQ)
    rw [hsk] at HSK
    have HL := Lib.hid (qleft_any o g i l w H.out)
    rw [hq] at HL
    obtain ⟨K, hK⟩ : ∃ K, R.2.2 = K := ⟨_, rfl⟩
    rw [hK] at HRD HSK hk
    have hmin : (if (q : Int) < 16 then (q : Int) else 16) = (n : Int) := by split <;> omega
    have hmin2 : min (16 : Int) (q : Int) = (n : Int) := by omega
    have hwk : IntKind.i64.wrap ((i : Int) + (K : Int)) = ((i + K : Nat) : Int) := by rw [IntWalk.i64_in _ (by omega)]; omega
    have HAT := Lib.hid (qat_any o g i l w H.out)
    have HS := Lib.hid hS
    have HK := Lib.hid hK
    have HCL := Lib.hid hcl
    clear hr hck hq hcut hcl hE e2 hres hR hsk hK hA hS
    go_enter Try.func34, Try.ntmps34
    go_wp2_with (first
      | (go_at_call 20; refine HC.out.mono ?_; rintro e w2 ⟨rfl, rfl⟩; rw [HX.out])
      | (go_at_call 36; refine HAT.out.mono ?_; rintro e w2 ⟨rfl, rfl⟩)
      | (go_at_call 67; refine HL.out.mono ?_; rintro e w3 ⟨rfl, b3⟩; have HQ3 := Lib.hid (H.out.below b3); have HU3 := Lib.hid (Upd.of_below b3 (fun b => b = g)); clear b3)
      | (go_at_call 68; refine (HT.out _ HQ3.out).mono ?_; rintro e w4 ⟨v4, rfl, hO4, hQ4, hu4⟩; obtain ⟨A4, c4, rfl⟩ := hO4.slice; have HO4 := Lib.hid hO4; have HQ4 := Lib.hid hQ4; have HU4 := Lib.hid (HU3.out.trans hu4 fun _ _ h => h); clear hO4 hQ4 hu4)
      | (go_at_call 66; refine (HO.out _ _ _ (own_sl HO4.out)).mono ?_; rintro e w5 ⟨v5, rfl, hO5, b5⟩; obtain ⟨A5, c5, rfl⟩ := hO5.slice; rw [bitsI_length, HCL.out]; have HO5 := Lib.hid hO5; have HQ5 := Lib.hid (HQ4.out.below b5); have HU5 := Lib.hid (HU4.out.trans (Upd.of_below b5 (fun b => b = g)) fun _ _ h => h); clear hO5 b5; have HS5 := Lib.hid (show RI w5 A c ls from (HS.out.keep (HU5.out.keep (ok := fun b => b ≠ g) fun _ h => h)).weak fun _ _ _ => trivial))
      | (go_at_call 69; refine (HRD.out _ _ _ (own_sl HO5.out) HS5.out).mono ?_; rintro e w6 ⟨rfl, b6⟩; have HQ6 := Lib.hid (HQ5.out.below b6); have HU6 := Lib.hid (HU5.out.trans (Upd.of_below b6 (fun b => b = g)) fun _ _ h => h); clear b6)
      | (go_at_call 32; refine (HSK.out _ HQ6.out).mono ?_; rintro e w7 ⟨rfl, hQ7, hu7⟩; have HQ7 := Lib.hid hQ7; have HU7 := Lib.hid (HU6.out.trans hu7 fun _ _ h => h); clear hQ7 hu7))
    go_ret2
    exact ⟨rfl, by rw [HK.out]; exact HQ7.out, HU7.out⟩
  · have hb : (checkN ls != 0) = true := by simpa using hck
    have HE := Lib.hid (show readL ls (l.drop i) = (0, checkN ls, 0) by unfold readL; rw [if_pos hck])
    clear hck hS hA
    go_enter Try.func34, Try.ntmps34
    go_wp2_with (go_at_call 20; refine HC.out.mono ?_; rintro e w2 ⟨rfl, rfl⟩)
    go_ret2
    exact ⟨ret_two (by rw [HE.out]; rfl) (by rw [HE.out]; rfl), by rw [HE.out]; exact H.out, Upd.refl _ _⟩
end Go.Proofs.Ytlbgkkkcbnagbaa

namespace Go.Proofs.Ytlbgkkkcbnagbaa
open Go.RowKit Go.Shelf

set_option maxHeartbeats 4000000 in
set_option maxRecDepth 100000 in
theorem rencode_any (A B : Option Addr) (c d : Nat) (ls ss : List Int) (w : World) (hS : RI w A c ls) (hT : RI w B d ss) (hn : ss.length ≤ 60000) :
    Calls Try.prog 25 #[.slice A ls.length c, .slice B ss.length d] w
      fun e w' => ∃ v, e = .returned (.tuple #[v, .int .i64 (encodeR ls ss).1.length, .int .i64 (encodeR ls ss).2]) ∧ OwnI 5 .u8 w.heap.size w' v (packB (encodeR ls ss).1) ∧ Below w.heap.size w w' := by
  have HC := Lib.hid (rcheck_any A c ls w hS)
  have hlc := hS.len
  by_cases hck : checkN ls = 0
  · have hr := (checkN_right ls).1 hck
    have HX := Lib.hid hck
    have HR := Lib.hid hr
    have HS := Lib.hid hS
    have HT := Lib.hid hT
    have hlen := hr.len
    have HBAD := Lib.hid (show noneS ls ss = true → encodeR ls ss = ([], 5) by intro h; unfold encodeR; rw [if_neg (by simp [hck]), if_pos h])
    have HGOOD := Lib.hid (show noneS ls ss = false → encodeR ls ss = (encB ls ss, 0) by intro h; unfold encodeR; rw [if_neg (by simp [hck]), if_neg (by simp [h])])
    clear hck hr hS hT
    go_enter Try.func25, Try.ntmps25
    go_wp2_with (go_at_call 20; refine HC.out.mono ?_; rintro e w2 ⟨rfl, rfl⟩; rw [HX.out])
    go_loop [21] (fun i => ∃ k : Nat, k ≤ ss.length ∧ i = .int .i64 k ∧ Hid (∀ j, j < k → hasB ls (nth 0 ss j) = true)) (fun i => ss.length - (intOf i).toNat)
    case atStart => exact ⟨0, Nat.zero_le _, rfl, fun j hj => absurd hj (by omega)⟩
    case round =>
      obtain ⟨k, hk, rfl, hne⟩ := hrel
      by_cases hlt : k < ss.length
      · obtain ⟨ad, rfl, hc⟩ := rd_int HT.out k hlt
        obtain ⟨s, hs⟩ : ∃ s, nth 0 ss k = s := ⟨_, rfl⟩
        have HB := Lib.hid (show hasB ls s = false → encodeR ls ss = ([], 5) by
          intro h
          refine HBAD.out (List.any_eq_true.2 ⟨_, nth_mem 0 ss k hlt, ?_⟩)
          rw [hs, h]; rfl)
        have HG := Lib.hid (show hasB ls s = true → Hid (∀ j, j < k + 1 → hasB ls (nth 0 ss j) = true) by
          intro h j hj
          rcases Nat.lt_or_ge j k with h1 | h1
          · exact hne.out j h1
          · obtain rfl : j = k := by omega
            rw [hs]; exact h)
        rw [hs] at hc
        clear hs
        by_cases h0 : s < 0
        · have HE := Lib.hid (HB.out (by simp [hasB]; omega))
          go_wp2
          refine bodyPost_ret (v := .tuple #[.slice none 0 0, .int .i64 0, .int .i64 5]) (by simp [results, Try.results25, go_sem]) rfl ⟨.slice none 0 0, by rw [HE.out]; rfl, by rw [HE.out]; exact OwnI.nil _ _ _ _, Below.refl _ _⟩
        · obtain ⟨x, rfl⟩ := Int.eq_ofNat_of_zero_le (show 0 ≤ s by omega)
          by_cases hx : x < ls.length
          · obtain ⟨ad2, rfl, hc2⟩ := rd_int HS.out x hx
            have hhz := hasB_zero HR.out hx
            have hxd : decide (ls.length ≤ x) = false := decide_eq_false (by omega)
            by_cases hz : nth 0 ls x = 0
            · have HE := Lib.hid (HB.out (by rw [hhz, hz]; rfl))
              rw [hz] at hc2
              clear hz hhz h0
              go_wp2
              refine bodyPost_ret (v := .tuple #[.slice none 0 0, .int .i64 0, .int .i64 5]) (by simp [results, Try.results25, go_sem]) rfl ⟨.slice none 0 0, by rw [HE.out]; rfl, by rw [HE.out]; exact OwnI.nil _ _ _ _, Below.refl _ _⟩
            · have hzb : (nth 0 ls x == 0) = false := by simpa using hz
              have HG1 := Lib.hid (HG.out (by rw [hhz, hzb]; rfl))
              clear hz hhz h0
              go_wp2
              go_round
              case rel => exact ⟨k + 1, by omega, by go_num, HG1.out⟩
              case measure => simp [intOf]; omega
          · have HE := Lib.hid (HB.out (by simp [hasB]; omega))
            have hxd : decide (ls.length ≤ x) = true := decide_eq_true (by omega)
            clear h0
            go_wp2
            refine bodyPost_ret (v := .tuple #[.slice none 0 0, .int .i64 0, .int .i64 5]) (by simp [results, Try.results25, go_sem]) rfl ⟨.slice none 0 0, by rw [HE.out]; rfl, by rw [HE.out]; exact OwnI.nil _ _ _ _, Below.refl _ _⟩
      · obtain rfl : k = ss.length := by omega
        have hno : noneS ls ss = false := by
          unfold noneS
          rw [List.any_eq_false]
          intro x hx
          obtain ⟨j, hj, rfl⟩ := List.mem_iff_getElem.1 hx
          have := hne.out j hj
          rw [nth_eq 0 ss j hj] at this
          simp [this]
        have HE := Lib.hid (HGOOD.out hno)
        have HN := hne
        have HL16 := Lib.hid HR.out.ok.len16
        clear hno hne HBAD HGOOD
        go_wp2
        have hV0 := Vr.new w
        have hal := below_alloc (Below.refl w.heap.size w) (.cells #[.slice none 0 0] 58)
        have hz1 : (w.alloc (.cells #[.slice none 0 0] 58)).heap.size = w.heap.size + 1 := World.size_alloc _ _
        obtain ⟨gw, hgw⟩ : ∃ gw, w.heap.size = gw := ⟨_, rfl⟩
        obtain ⟨w1, hw1⟩ : ∃ w1, w.alloc (.cells #[.slice none 0 0] 58) = w1 := ⟨_, rfl⟩
        rw [hw1, hgw] at hV0
        rw [hw1] at hal hz1
        simp only [hgw, hw1]
        have HG := Lib.hid (show w.heap.size = gw ∧ w1.heap.size = gw + 1 from ⟨hgw, by rw [hz1, hgw]⟩)
        have HV0 := Lib.hid hV0
        have HAL := Lib.hid hal
        clear hV0 hal hz1 hgw hw1
        go_loopw [45] (fun i wr => ∃ k : Nat, k ≤ ss.length ∧ i = .int .i64 k ∧ Vr (fun b => b = gw ∨ w1.heap.size ≤ b) wr gw (encB ls (ss.take k)) ∧ Upd (fun b => b = gw) w1 wr) (fun i _ => ss.length - (intOf i).toNat)
        case atStart => exact ⟨0, Nat.zero_le _, rfl, by rw [List.take_zero]; exact HV0.out.weak fun b _ h => .inl h, Upd.refl _ _⟩
        case round =>
          obtain ⟨k, hk, rfl, hW, hU⟩ := hrel
          have hgg := HG.out
          have HBW := Lib.hid (HAL.out.trans (hU.below (by omega) fun b _ e => by omega))
          by_cases hlt : k < ss.length
          · obtain ⟨ad, rfl, hc⟩ := rd_int (HT.out.below HBW.out) k hlt
            have hh := HN.out k hlt
            have hst := encB_take (ls := ls) hlt
            have hel := encB_len HL16.out (ss.take k)
            have hkl : (ss.take k).length ≤ k := by rw [List.length_take]; omega
            have hwb : wordB ls (nth 0 ss k) = numB (codeN ls (nth 0 ss k).toNat) (lenOf ls (nth 0 ss k).toNat) := by unfold wordB; rw [if_neg (by rw [hh, HX.out]; simp)]
            have h16 := wordB_len ls HL16.out (nth 0 ss k)
            have hwe : writeE ls (encB ls (ss.take k)).length (nth 0 ss k) = 0 := by rw [writeE_of HX.out hh]; unfold fullE; rw [if_neg (by omega)]
            have hfb : fullB (encB ls (ss.take k)) (wordB ls (nth 0 ss k)) = encB ls (ss.take (k + 1)) := by unfold fullB; rw [if_neg (by omega), hst, hwb]
            have hP := rwrite_any (fun b => b = gw ∨ w1.heap.size ≤ b) gw A c ls (nth 0 ss k) (encB ls (ss.take k)) wr hW (by omega) (HS.out.below HBW.out)
            rw [hwe, hfb] at hP
            have HP := Lib.hid hP
            have HU := Lib.hid hU
            clear hW hU hh hst hel hkl hwb hwe hfb hP h16 hgg
            go_wp2_with (go_at_call 43; refine HP.out.mono ?_; rintro e w7 ⟨rfl, hw7, hu7⟩)
            go_roundw
            case rel =>
              have hus := HU.out.size
              refine ⟨k + 1, by omega, by go_num, ?_, ?_⟩
              · refine hw7.weak fun b _ h => ?_
                rcases h with h | h
                · exact h
                · exact .inr (by omega)
              · exact HU.out.trans hu7 fun b hb h => by omega
            case measure => simp [intOf]; omega
          · obtain rfl : k = ss.length := by omega
            rw [List.take_length] at hW
            have hle := encB_len HL16.out ss
            have HB := Lib.hid (bytes_ref _ gw (encB ls ss) wr hW (by omega))
            have HW := Lib.hid hW
            have HU := Lib.hid hU
            clear hW hU hgg
            go_wp2_with (first
              | (go_at_call 47; refine HB.out.mono ?_; rintro e w7 ⟨v7, rfl, hO7, b7⟩; have HLN := Lib.hid (len_ref _ gw (encB ls ss) w7 (HW.out.below b7)))
              | (go_at_call 45; refine HLN.out.mono ?_; rintro e w8 ⟨rfl, rfl⟩))
            refine bodyPost_ret (v := .tuple #[v7, .int .i64 (encB ls ss).length, .int .i64 0]) (by simp [results, Try.results25, go_sem]) rfl ⟨v7, ?_, ?_, ?_⟩
            · rw [HE.out]
            · rw [HE.out]; exact hO7.mono (HBW.out.size)
            · exact below2 HBW.out b7
  · have hb2 : (checkN ls != 0) = true := by simpa using hck
    have HE := Lib.hid (show encodeR ls ss = ([], checkN ls) by unfold encodeR; rw [if_pos hck])
    clear hck hS hT
    go_enter Try.func25, Try.ntmps25
    go_wp2_with (go_at_call 20; refine HC.out.mono ?_; rintro e w2 ⟨rfl, rfl⟩)
    refine bodyPost_ret (v := .tuple #[.slice none 0 0, .int .i64 0, .int .i64 (checkN ls)]) (by simp [results, Try.results25, go_sem]) rfl ⟨.slice none 0 0, ?_, ?_, Below.refl _ _⟩
    · rw [HE.out]; rfl
    · rw [HE.out]
      show OwnI _ _ _ _ _ (packB [])
      exact OwnI.nil _ _ _ _
end Go.Proofs.Ytlbgkkkcbnagbaa

namespace Go.Proofs.Ytlbgkkkcbnagbaa
open Go.RowKit

structure DqI (w : World) (ls : List Int) (l : List Bool) (cn g base : Nat) (v : Value) (xs : List Int) (i : Nat) (W : World) : Prop where
  rd : Qr (fun b => w.heap.size ≤ b ∧ b < base) W g l i
  own : OwnI 3 .i64 base W v xs
  low : Below w.heap.size w W
  siz : base ≤ W.heap.size
  rel : decF ls cn l = catD xs (decF ls (cn - xs.length) (l.drop i))
  len : xs.length ≤ i
  cnt : xs.length ≤ cn

set_option maxHeartbeats 4000000 in
set_option maxRecDepth 100000 in
theorem rdecode_any (A B : Option Addr) (c d : Nat) (ls b : List Int) (n count : Int) (w : World) (hS : RI w A c ls) (hT : RY w B d b) (hb : ∀ x ∈ b, 0 ≤ x ∧ x < 256) (hm : b.length ≤ 1000000000000) :
    Calls Try.prog 28 #[.slice A ls.length c, .slice B b.length d, .int .i64 n, .int .i64 count] w
      fun e w' => ∃ v, e = .returned (.tuple #[v, .int .i64 (decodeR ls b n count).2]) ∧ OwnI 3 .i64 w.heap.size w' v (decodeR ls b n count).1 ∧ Below w.heap.size w w' := by
  have HC := Lib.hid (rcheck_any A c ls w hS)
  have hw8 : IntKind.i64.wrap (8 * (b.length : Int)) = 8 * (b.length : Int) := IntWalk.i64_in _ (by omega)
  by_cases hck : checkN ls = 0
  · have hr := (checkN_right ls).1 hck
    have HX := Lib.hid hck
    by_cases h0 : n < 0
    · have HE := Lib.hid (show decodeR ls b n count = ([], 1) by unfold decodeR; rw [if_neg (by simp [hck]), if_pos (.inl (by unfold openE; rw [if_pos (.inl h0)]))])
      clear hck hr hb hS hT
      go_enter Try.func28, Try.ntmps28
      go_wp2_with (go_at_call 20; refine HC.out.mono ?_; rintro e w2 ⟨rfl, rfl⟩; rw [HX.out])
      go_ret2
      refine ⟨.slice none 0 0, ret_two rfl (by rw [HE.out]; rfl), ?_, Below.refl _ _⟩
      rw [HE.out]; exact OwnI.nil _ _ _ _
    · obtain ⟨m, rfl⟩ := Int.eq_ofNat_of_zero_le (show 0 ≤ n by omega)
      have hd0 : decide ((m : Int) < 0) = false := decide_eq_false (by omega)
      by_cases h8 : 8 * b.length < m
      · have hd1 : decide (8 * (b.length : Int) < (m : Int)) = true := decide_eq_true (by omega)
        have HE := Lib.hid (show decodeR ls b (m : Int) count = ([], 1) by unfold decodeR; rw [if_neg (by simp [hck]), if_pos (.inl (by unfold openE; rw [if_pos (.inr (by omega))]))])
        clear hck hr hb hS hT h0 h8
        go_enter Try.func28, Try.ntmps28
        go_wp2_with (go_at_call 20; refine HC.out.mono ?_; rintro e w2 ⟨rfl, rfl⟩; rw [HX.out])
        go_ret2
        refine ⟨.slice none 0 0, ret_two rfl (by rw [HE.out]; rfl), ?_, Below.refl _ _⟩
        rw [HE.out]; exact OwnI.nil _ _ _ _
      · have hd1 : decide (8 * (b.length : Int) < (m : Int)) = false := decide_eq_false (by omega)
        by_cases hc : count < 0
        · have HE := Lib.hid (show decodeR ls b (m : Int) count = ([], 1) by unfold decodeR; rw [if_neg (by simp [hck]), if_pos (.inr hc)])
          clear hck hr hb hS hT h0 h8
          go_enter Try.func28, Try.ntmps28
          go_wp2_with (go_at_call 20; refine HC.out.mono ?_; rintro e w2 ⟨rfl, rfl⟩; rw [HX.out])
          go_ret2
          refine ⟨.slice none 0 0, ret_two rfl (by rw [HE.out]; rfl), ?_, Below.refl _ _⟩
          rw [HE.out]; exact OwnI.nil _ _ _ _
        · obtain ⟨cn, rfl⟩ := Int.eq_ofNat_of_zero_le (show 0 ≤ count by omega)
          have hcd : decide ((cn : Int) < 0) = false := decide_eq_false (by omega)
          by_cases hbig : 1048576 < m
          · have he : openE b.length (m : Int) = 2 := by unfold openE; rw [if_neg (by omega), if_pos (by omega)]
            have HO := Lib.hid (qopen_no B d b (m : Int) w hm (by rw [he]; decide))
            rw [he] at HO
            have HE := Lib.hid (show decodeR ls b (m : Int) (cn : Int) = ([], 2) by unfold decodeR; rw [if_neg (by simp [hck]), if_neg (by rw [he]; omega), if_pos (by rw [he]; decide), he])
            clear hck hr hb hS hT h0 h8 he hc hbig
            go_enter Try.func28, Try.ntmps28
            go_wp2_with (first
              | (go_at_call 20; refine HC.out.mono ?_; rintro e w2 ⟨rfl, rfl⟩; rw [HX.out])
              | (go_at_call 30; refine HO.out.mono ?_; rintro e w2 ⟨rfl, rfl⟩))
            go_ret2
            refine ⟨.slice none 0 0, ret_two rfl (by rw [HE.out]; rfl), ?_, Below.refl _ _⟩
            rw [HE.out]; exact OwnI.nil _ _ _ _
          · have he : openE b.length (m : Int) = 0 := by unfold openE; rw [if_neg (by omega), if_neg (by omega)]
            have HO := Lib.hid (qopen_ok B d b m w hT hb hm (by omega) (by omega))
            have HE := Lib.hid (show decodeR ls b (m : Int) (cn : Int) = decF ls cn (ofB b m) by unfold decodeR; rw [if_neg (by simp [hck]), if_neg (by simp [he]), if_neg (by simp [he])]; simp)
            have HL := Lib.hid (show (ofB b m).length ≤ 1048576 by rw [ofB_length]; omega)
            obtain ⟨l, hl⟩ : ∃ l, ofB b m = l := ⟨_, rfl⟩
            rw [hl] at HE HO HL
            have HS := Lib.hid hS
            clear hck hr hb hS hT h0 h8 he hc hbig hl
            go_enter Try.func28, Try.ntmps28
            go_wp2_with (first
              | (go_at_call 20; refine HC.out.mono ?_; rintro e w2 ⟨rfl, rfl⟩; rw [HX.out])
              | (go_at_call 30; refine HO.out.mono ?_; rintro e w3 ⟨g, rfl, hr3, b3, hg3⟩))
            have hI0 : DqI w ls l cn g w3.heap.size (.slice none 0 0) [] 0 w3 :=
              ⟨hr3.weak fun b h1 h2 => ⟨h2, h1⟩, OwnI.nil _ _ _ _, b3, Nat.le_refl _, by rw [List.drop_zero, catD_nil]; rfl, Nat.le_refl _, Nat.zero_le _⟩
            have HG := Lib.hid (show w.heap.size ≤ g ∧ g < w3.heap.size ∧ w.heap.size ≤ w3.heap.size from ⟨hg3, hr3.lt, b3.size⟩)
            clear HO HC hr3 b3 hg3
            go_loopw [13] (fun v wr => ∃ xs i, DqI w ls l cn g w3.heap.size v xs i wr) (fun v _ => match v with | .slice _ n _ => cn - n | _ => 0)
            case atStart => exact ⟨[], 0, hI0⟩
            case round =>
              clear hI0
              obtain ⟨xs, i, hI⟩ := hrel
              obtain ⟨Av, cv, rfl⟩ := hI.own.slice
              have hxl : xs.length ≤ 1048576 := by have := hI.len; have := hI.rd.le; have := HL.out; omega
              by_cases hlt : xs.length < cn
              · have hd : decide (xs.length < cn) = true := decide_eq_true hlt
                have hgg := HG.out
                have hB := rRead_any _ A c ls g i l wr hI.rd ((HS.out.weak (ok' := fun b => b < w.heap.size) fun b hb _ => hb).below hI.low |>.weak fun b _ h => by omega)
                obtain ⟨R, hR⟩ : ∃ R, readL ls (l.drop i) = R := ⟨_, rfl⟩
                have hRR : readR ls (l.drop i) = R := by rw [← hR]; unfold readL; rw [if_neg (by rw [HX.out]; simp)]
                rw [hR] at hB
                obtain ⟨c', hc'⟩ : ∃ c', cn - xs.length = c' + 1 := ⟨cn - xs.length - 1, by omega⟩
                by_cases he : R.2.1 = 0
                · have hst := catD_step (c := c') (xs := xs) (show (readR ls (l.drop i)).2.1 = 0 by rw [hRR]; exact he)
                  have hcnt := readF_some (symF ls ls.length) (begF ls ls.length) (l.drop i) 17 0 (by have h := he; rw [← hRR] at h; exact h)
                  have hrr : 0 < R.2.2 := by rw [← hRR]; exact hcnt
                  rw [hRR, List.drop_drop] at hst
                  rw [he] at hB
                  have HB := Lib.hid hB
                  have HI := Lib.hid hI
                  have HST := Lib.hid hst
                  have HRR := Lib.hid (show 0 < R.2.2 ∧ cn - xs.length = c' + 1 from ⟨hrr, hc'⟩)
                  clear hB hI hst hcnt hrr hgg he hR hRR hlt hc'
                  go_wp2_with (first
                    | (go_at_call 34; refine HB.out.mono ?_; rintro e w6 ⟨rfl, hr6, hu6⟩; have hk6 : Keep (fun b => b ≠ g) wr w6 := hu6.keep fun b h => h; have hO6 := ownI_keep HI.out.own hk6 (fun b e => by have := HI.out.own.base_le b e; have := HG.out; omega); have HO6 := Lib.hid hO6; clear hO6)
                    | (at_builtin; (refine append_one (w0 := w6) w3.heap.size rfl (.tmp 56) (.tmp 58) 22 3 .i64 8 rfl Try.underlying22 infoI (by decide) _ xs R.1 rfl rfl HO6.out (Below.refl _ _) (by have := HI.out.siz; have := hu6.size; omega) (by omega) ?_); intro v7 w7 hO7 hB7 hg7 hat7))
                  have hs1 := HI.out.siz
                  obtain ⟨Av', cv', hv7⟩ := hO7.slice
                  subst hv7
                  go_roundw
                  case rel =>
                    have hgz := HG.out
                    have hl6 := hr6.lt
                    have hkb : Keep (fun b => b < w3.heap.size) w6 w7 := ⟨hB7.size, fun b hb h => hB7.block b h⟩
                    refine ⟨xs ++ [R.1], i + R.2.2, hr6.keep hkb (fun b h => h.2), hO7, ?_, by have := hu6.size; have := hB7.size; omega, ?_, ?_, ?_⟩
                    · exact (HI.out.low.trans (hu6.below (by have := HI.out.low.size; omega) fun b _ e => by omega)).trans (hB7.mono (by omega))
                    · have h1 := HI.out.rel
                      have h2 := HRR.out
                      rw [h2.2, HST.out] at h1
                      rw [List.length_append, List.length_singleton, show cn - (xs.length + 1) = c' by omega]
                      exact h1
                    · have h1 := HI.out.len; have h2 := HRR.out.1; simp; omega
                    · have h2 := HRR.out.2; simp; omega
                  case measure => have h2 := HRR.out.2; simp; omega
                · have hst := catD_stop (c := c') (xs := xs) (show (readR ls (l.drop i)).2.1 ≠ 0 by rw [hRR]; exact he)
                  rw [hRR] at hst
                  have hrel := hI.rel
                  rw [hc', hst] at hrel
                  have heb : (R.2.1 != 0) = true := by simpa using he
                  have heb2 : (R.2.1 == 0) = false := by simpa using he
                  have HB := Lib.hid hB
                  have HI := Lib.hid hI
                  have HRL := Lib.hid hrel
                  clear hB hI hst hrel hR hRR hc' he hgg
                  go_wp2_with (go_at_call 34; refine HB.out.mono ?_; rintro e w6 ⟨rfl, hr6, hu6⟩)
                  go_ret2
                  have hgz := HG.out
                  refine ⟨.slice none 0 0, ret_two rfl (by rw [HE.out, HRL.out]; rfl), by rw [HE.out, HRL.out]; exact OwnI.nil _ _ _ _, HI.out.low.trans (hu6.below (by have := HI.out.low.size; omega) fun b _ e => by omega)⟩
              · have hd : decide (xs.length < cn) = false := decide_eq_false hlt
                have hfin : decF ls cn l = (xs, 0) := by
                  have h1 := hI.rel
                  have h2 := hI.cnt
                  rw [show cn - xs.length = 0 by omega] at h1
                  rw [h1]; unfold catD decF; simp
                have HF := Lib.hid hfin
                have HI := Lib.hid hI
                clear hI hfin hlt
                go_wp2
                go_ret2
                have hgz := HG.out
                refine ⟨_, ret_two rfl (by rw [HE.out, HF.out]; rfl), by rw [HE.out, HF.out]; exact HI.out.own.mono (by omega), HI.out.low⟩
  · have hb2 : (checkN ls != 0) = true := by simpa using hck
    have HE := Lib.hid (show decodeR ls b n count = ([], checkN ls) by unfold decodeR; rw [if_pos hck])
    clear hck hb hS hT
    go_enter Try.func28, Try.ntmps28
    go_wp2_with (go_at_call 20; refine HC.out.mono ?_; rintro e w2 ⟨rfl, rfl⟩)
    go_ret2
    refine ⟨.slice none 0 0, ret_two rfl (by rw [HE.out]; rfl), ?_, Below.refl _ _⟩
    rw [HE.out]; exact OwnI.nil _ _ _ _
end Go.Proofs.Ytlbgkkkcbnagbaa
