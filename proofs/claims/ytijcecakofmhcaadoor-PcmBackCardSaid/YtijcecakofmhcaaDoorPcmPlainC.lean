/- Plain laws of layer 2: what was read from a file without other chunks is the file again. No program is walked. -/
import Derived.Test.YtijcecakofmhcaaDoorPcmPlainB
namespace Go.Proofs.YtijcecakofmhcaaDoor

/-- How many bytes of the file are spoken for, and which. -/
def wt (s : FileS) : Nat := (if s.known = true then 24 else 0) + (if s.done = true then 8 + 2 * s.l.length else 0)
def txt (s : FileS) : List Int := (if s.known = true then fmtL s.ch s.rate else []) ++ (if s.done = true then chunkL nData (leL 2 s.l) else [])
structure GoodF (s : FileS) : Prop where
  ch : s.known = true → (s.ch = 1 ∨ s.ch = 2) ∧ isRateB s.rate = true
  none : s.done = false → s.l = []
  kn : s.done = true → s.known = true ∧ s.l.length % s.ch.toNat = 0 ∧ s.l.length / s.ch.toNat ≤ 8192
  smp : ∀ x ∈ s.l, -32768 ≤ x ∧ x ≤ 32767
theorem GoodF.start : GoodF fst0 := ⟨fun h => (by cases h), fun _ => rfl, fun h => (by cases h), fun x h => (by cases h)⟩
theorem step_fmt {s : FileS} (G : GoodF s) {body : List Int} (he : formatE s body = 0) :
    GoodF (formatS s body) ∧ wt (formatS s body) = wt s + 24 ∧ body.length = 16 ∧ txt (formatS s body) = txt s ++ chunkL nFmt body := by
  unfold formatE at he
  unfold formatS
  split at he
  · cases he
  · rename_i h1
    rw [if_neg h1]
    have hk : s.known = false := by
      cases h : s.known
      · rfl
      · exact absurd (.inl h) h1
    have hl : body.length = 16 := by
      rcases Nat.lt_trichotomy body.length 16 with h | h | h
      · exact absurd (.inr (by omega)) h1
      · exact h
      · exact absurd (.inr (by omega)) h1
    have hd : s.done = false := by
      cases h : s.done
      · rfl
      · have := (G.kn h).1; rw [hk] at this; cases this
    split at he
    · cases he
    · rename_i h2
      have c1 : fmtCh body = 1 ∨ fmtCh body = 2 := by
        have a1 : ¬ fmtCh body < 1 := fun h => h2 (.inl h)
        have a2 : ¬ 2 < fmtCh body := fun h => h2 (.inr (.inl h))
        omega
      have c2 : isRateB (fmtRate body) = true := by
        cases h : isRateB (fmtRate body)
        · exact absurd (.inr (.inr (.inl h))) h2
        · rfl
      have c3 : (fmtL (fmtCh body) (fmtRate body)).drop 8 = body := by
        by_cases h : (fmtL (fmtCh body) (fmtRate body)).drop 8 = body
        · exact h
        · exact absurd (.inr (.inr (.inr h))) h2
      have hno := G.none hd
      refine ⟨⟨fun _ => ⟨c1, c2⟩, fun _ => hno, fun h => ?_, fun x hx => G.smp x hx⟩, ?_, hl, ?_⟩
      · rw [hd] at h; cases h
      · simp [wt, hk, hd]
      · simp only [txt, hk, hd]
        rw [fmtL_drop] at c3
        simp [fmtL_chunk, c3]
theorem step_data {s : FileS} (G : GoodF s) {body : List Int} (hb : Bytes body) (he : dataE s body = 0) :
    GoodF (dataS s body) ∧ wt (dataS s body) = wt s + 8 + body.length ∧ body.length % 2 = 0 ∧ txt (dataS s body) = txt s ++ chunkL nData body := by
  have he0 := he
  unfold dataE at he
  unfold dataS
  rw [if_pos he0]
  split at he
  · cases he
  · rename_i h1
    split at he
    · cases he
    · rename_i h2
      have hd : s.done = false := by
        cases h : s.done
        · rfl
        · exact absurd (.inl h) h1
      have hk : s.known = true := by
        cases h : s.known
        · exact absurd (.inr (.inl h)) h1
        · rfl
      have hm : (body.length : Int) % (2 * s.ch) = 0 := by
        by_cases h : (body.length : Int) % (2 * s.ch) = 0
        · exact h
        · exact absurd (.inr (.inr h)) h1
      have hno := G.none hd
      obtain ⟨hc, hr⟩ := G.ch hk
      have hev : body.length % 2 = 0 := by
        rcases hc with h | h <;> rw [h] at hm <;> omega
      have hL : (s.l ++ dataL body (body.length / 2)).length = body.length / 2 := by rw [hno, List.nil_append, dataL_length]
      refine ⟨⟨fun _ => ⟨hc, hr⟩, fun h => (by cases h), fun _ => ⟨hk, ?_, ?_⟩, fun x hx => ?_⟩, ?_, hev, ?_⟩
      · show (s.l ++ dataL body (body.length / 2)).length % s.ch.toNat = 0
        rw [hL]
        rcases hc with h | h <;> rw [h] at hm ⊢ <;> simp <;> omega
      · show (s.l ++ dataL body (body.length / 2)).length / s.ch.toNat ≤ 8192
        rw [hL]
        rcases hc with h | h <;> rw [h] at h2 hm ⊢ <;> simp <;> omega
      · rw [hno, List.nil_append] at hx
        exact dataL_range _ _ _ hx
      · simp only [wt, hk, hd, if_true]
        rw [hL]
        simp
        omega
      · simp only [txt, hk, hd, if_true]
        rw [hno, List.nil_append, leL_dataL body hb _ (by omega), List.take_of_length_le (by omega)]
        simp
theorem step_look {s : FileS} (G : GoodF s) {nm body : List Int} (hb : Bytes body) (he : lookE s (nm, body, false) = 0) :
    GoodF (lookS s (nm, body, false)) ∧ wt (lookS s (nm, body, false)) ≤ wt s + (8 + body.length + body.length % 2) ∧
      (wt (lookS s (nm, body, false)) = wt s + (8 + body.length + body.length % 2) → body.length % 2 = 0 ∧ txt (lookS s (nm, body, false)) = txt s ++ chunkL nm body) := by
  unfold lookE at he
  unfold lookS
  simp only [Bool.false_eq_true, if_false] at he ⊢
  by_cases h1 : nm = nFmt
  · subst h1
    simp only [if_true] at he ⊢
    obtain ⟨a, b, c, d⟩ := step_fmt G he
    exact ⟨a, by omega, fun _ => ⟨by omega, d⟩⟩
  · rw [if_neg h1] at he ⊢
    by_cases h2 : nm = nData
    · subst h2
      simp only [if_true] at he ⊢
      obtain ⟨a, b, c, d⟩ := step_data G hb he
      exact ⟨a, by omega, fun _ => ⟨c, d⟩⟩
    · rw [if_neg h2]
      exact ⟨G, by omega, fun h => by omega⟩
theorem Bytes.take {b : List Int} (h : Bytes b) (n : Nat) : Bytes (b.take n) := fun x hx => h x (List.mem_of_mem_take hx)
theorem Bytes.drop {b : List Int} (h : Bytes b) (n : Nat) : Bytes (b.drop n) := fun x hx => h x (List.mem_of_mem_drop hx)
theorem ckN_nonneg {b : List Int} (h : Bytes b) : (numB ((b.take 8).drop 4)) = (ckN b : Int) := by
  unfold ckN
  have := (numB_nonneg _ ((h.take 8).drop 4)).1
  omega
theorem chunks_read : ∀ (f : Nat) (b : List Int) (s s' : FileS), GoodF s → Bytes b → b.length < f → readC s (chunksF f b) = (0, s') →
    GoodF s' ∧ wt s' ≤ wt s + b.length ∧ (wt s' = wt s + b.length → txt s' = txt s ++ b) := by
  intro f
  induction f with
  | zero => intro b s s' _ _ h; omega
  | succ f ih =>
    intro b s s' G hB hl hR
    unfold chunksF at hR
    split at hR
    · rename_i h0
      subst h0
      simp only [readC, Prod.mk.injEq, true_and] at hR
      subst hR
      exact ⟨G, by simp, fun _ => by simp⟩
    · rename_i h0
      split at hR
      · simp [readC, lookE] at hR
      · rename_i h1
        have hn : 8 + ckN b + ckN b % 2 ≤ b.length := by omega
        rw [readC] at hR
        split at hR
        · rename_i hE
          have hbl : ((b.take (8 + ckN b)).drop 8).length = ckN b := by rw [List.length_drop, List.length_take]; omega
          have hS := step_look G ((hB.take _).drop _) hE
          rw [hbl] at hS
          have hI := ih _ _ _ hS.1 (hB.drop _) (by rw [List.length_drop]; omega) hR
          have hrl : (b.drop (8 + ckN b + ckN b % 2)).length = b.length - (8 + ckN b + ckN b % 2) := List.length_drop
          rw [hrl] at hI
          refine ⟨hI.1, by omega, fun he => ?_⟩
          obtain ⟨hev, ht⟩ := hS.2.2 (by omega)
          rw [hI.2.2 (by omega), ht, List.append_assoc]
          congr 1
          have hk : chunkL (b.take 4) ((b.take (8 + ckN b)).drop 8) = b.take (8 + ckN b) := by
            unfold chunkL
            rw [hbl, ← ckN_nonneg hB, leB_numB' ((hB.take 8).drop 4) (by rw [List.length_drop, List.length_take]; omega)]
            conv => rhs; rw [← List.take_append_drop 8 (b.take (8 + ckN b)), List.take_take, show min 8 (8 + ckN b) = 8 by omega]
            rw [← List.append_assoc]
            congr 1
            conv => rhs; rw [← List.take_append_drop 4 (b.take 8), List.take_take]
            rfl
          rw [hk, hev, Nat.add_zero, List.take_append_drop]
        · rename_i hE
          exact absurd (congrArg Prod.fst hR) hE

/-! ### What Split gives -/
theorem splitK_form (l : List Int) (n : Nat) (h1 : 1 ≤ n) (h2 : n ≤ 2) : ∀ m, splitK l n (m * n) = (List.range n).map (fun j => (List.range m).map (fun i => nth 0 l (i * n + j))) := by
  intro m
  induction m with
  | zero =>
    rw [Nat.zero_mul]
    show List.replicate n [] = (List.range n).map (fun _ => [])
    rw [List.map_const', List.length_range]
  | succ m ih =>
    rcases (show n = 1 ∨ n = 2 by omega) with rfl | rfl
    · rw [Nat.mul_one] at ih ⊢
      rw [splitK, ih, Nat.mod_one]
      simp [List.range_succ, nth]
    · rw [show (m + 1) * 2 = m * 2 + 1 + 1 by omega, splitK, splitK, ih, show m * 2 % 2 = 0 by omega, show (m * 2 + 1) % 2 = 1 by omega]
      show [_ , _] = [_ , _]
      simp [List.range_succ, nth]
theorem split_valid {l : List Int} {ch r : Int} (hc : ch = 1 ∨ ch = 2) (hr : isRateB r = true) (hm : l.length % ch.toNat = 0) (hd : l.length / ch.toNat ≤ 8192) (hx : ∀ x ∈ l, -32768 ≤ x ∧ x ≤ 32767) :
    ∃ s, splitS l ch r = (r, s, 0) ∧ validB r s = true ∧ (s.length : Int) = ch ∧ weave s = l := by
  have hn1 : 1 ≤ ch.toNat := by omega
  have hn2 : ch.toNat ≤ 2 := by omega
  have hnc : (ch.toNat : Int) = ch := by omega
  have hS : splitS l ch r = (r, splitK l ch.toNat l.length, 0) := by
    unfold splitS
    rw [if_neg (by rw [hr]; simp; omega), if_neg (by omega), if_neg (by omega), if_pos (List.all_eq_true.2 fun x h => by have := hx x h; simp only [smpB, Bool.and_eq_true, decide_eq_true_eq]; exact this)]
  generalize ch.toNat = n at *
  obtain ⟨k, hk⟩ : ∃ k, l.length = k * n := ⟨l.length / n, by have := Nat.div_add_mod l.length n; rw [hm, Nat.add_zero, Nat.mul_comm] at this; exact this.symm⟩
  have hk8 : k ≤ 8192 := by rw [hk, Nat.mul_div_cancel _ (by omega)] at hd; exact hd
  have hF := splitK_form l n hn1 hn2 k
  rw [← hk] at hF
  refine ⟨splitK l n l.length, hS, ?_, by rw [hF]; simpa using hnc, ?_⟩
  · have h0 : len0 (splitK l n l.length) = k := by
      rw [hF]; unfold len0
      rw [nth_map_range [] _ n 0 hn1]; simp
    refine valid_of ⟨hr, by rw [splitK_length]; exact hn1, by rw [splitK_length]; exact hn2, by rw [h0]; exact hk8, fun c hc => ?_, fun c hc x hxc => ?_⟩
    · rw [h0]; rw [hF] at hc
      obtain ⟨j, _, rfl⟩ := List.mem_map.1 hc
      simp
    · rw [hF] at hc
      obtain ⟨j, hj, rfl⟩ := List.mem_map.1 hc
      obtain ⟨i, hi, rfl⟩ := List.mem_map.1 hxc
      have hj := List.mem_range.1 hj
      have hi := List.mem_range.1 hi
      refine hx _ (nth_mem 0 l _ ?_)
      rw [hk]
      have : (i + 1) * n ≤ k * n := Nat.mul_le_mul_right _ hi
      rw [Nat.succ_mul] at this; omega
  · have h0 : len0 (splitK l n l.length) = k := by
      rw [hF]; unfold len0
      rw [nth_map_range [] _ n 0 hn1]; simp
    have hsl : (splitK l n l.length).length = n := splitK_length _ _ _
    have hwl : (weave (splitK l n l.length)).length = l.length := by rw [weave_length, h0, hsl, hk]
    refine List.ext_getElem hwl fun p hp1 hp2 => ?_
    rw [← nth_eq 0 _ p hp1, ← nth_eq 0 l p hp2]
    have hpd : p = p / n * n + p % n := by have := Nat.div_add_mod p n; rw [Nat.mul_comm] at this; omega
    have hpm : p % n < n := Nat.mod_lt _ (by omega)
    have hpk : p / n < k := by
      rw [Nat.div_lt_iff_lt_mul (by omega)]; omega
    have := weaveN_nth (splitK l n l.length) (p % n) (by rw [hsl]; exact hpm) k (p / n) hpk
    rw [hsl, ← hpd] at this
    unfold weave
    rw [h0, this, hF, nth_map_range [] _ n _ hpm, nth_map_range 0 _ k _ hpk, ← hpd]
theorem splitS_err {l : List Int} {ch r : Int} (h : (splitS l ch r).2.2 ≠ 0) : splitS l ch r = (0, [], (splitS l ch r).2.2) := by
  unfold splitS at h ⊢
  split
  · rfl
  · rename_i h1; rw [if_neg h1] at h
    split
    · rfl
    · rename_i h2; rw [if_neg h2] at h
      split
      · rfl
      · rename_i h3; rw [if_neg h3] at h
        split
        · rename_i h4; rw [if_pos h4] at h; exact absurd rfl h
        · rfl
/-- What Read returns: an error and nothing, or a valid sound whose file is no longer, and is it if as long. -/
theorem back_file (b : List Int) (hB : Bytes b) : ((readS b).2.2 ≠ 0 ∧ (readS b).1 = 0 ∧ (readS b).2.1 = []) ∨
    ((readS b).2.2 = 0 ∧ validB (readS b).1 (readS b).2.1 = true ∧ (waveL (readS b).1 (readS b).2.1).length ≤ b.length ∧ ((waveL (readS b).1 (readS b).2.1).length = b.length → waveL (readS b).1 (readS b).2.1 = b)) := by
  by_cases h0 : b.length < 12
  · have : readS b = (0, [], 3) := by unfold readS; rw [if_pos h0]
    rw [this]; exact .inl ⟨by decide, rfl, rfl⟩
  by_cases h1 : headB b = false
  · have : readS b = (0, [], 4) := by unfold readS; rw [if_neg h0, if_pos h1]
    rw [this]; exact .inl ⟨by decide, rfl, rfl⟩
  obtain ⟨e, st, hR⟩ : ∃ e st, readC fst0 (chunksF ((b.drop 12).length + 1) (b.drop 12)) = (e, st) := ⟨_, _, rfl⟩
  have hr0 : readS b = if e ≠ 0 then (0, [], e) else if st.done = false then (0, [], 4) else splitS st.l st.ch st.rate := by
    unfold readS; rw [if_neg h0, if_neg h1, hR]
  by_cases h2 : e = 0
  · subst h2
    rw [if_neg (by simp)] at hr0
    by_cases h3 : st.done = false
    · rw [if_pos h3] at hr0
      rw [hr0]; exact .inl ⟨by decide, rfl, rfl⟩
    · rw [if_neg h3] at hr0
      have hd : st.done = true := by simpa using h3
      obtain ⟨G, hle, heq⟩ := chunks_read _ _ _ _ GoodF.start (hB.drop 12) (by omega) hR
      obtain ⟨hk, hm, hdv⟩ := G.kn hd
      obtain ⟨hc, hr⟩ := G.ch hk
      obtain ⟨s, hS, hv, hsl, hw⟩ := split_valid hc hr hm hdv G.smp
      rw [hS] at hr0
      right
      rw [hr0]
      have hlw : (waveL st.rate s).length = 44 + 2 * st.l.length := by rw [waveL_length, ← weave_length, hw]
      have hwt : wt st = 32 + 2 * st.l.length := by simp only [wt, hk, hd, if_true]; omega
      have hw0 : wt fst0 = 0 := rfl
      have hdl : (b.drop 12).length = b.length - 12 := List.length_drop
      refine ⟨rfl, hv, by show (waveL st.rate s).length ≤ _; omega, fun hE => ?_⟩
      have hE : (waveL st.rate s).length = b.length := hE
      show waveL st.rate s = b
      have ht := heq (by omega)
      have ht0 : txt fst0 = [] := rfl
      rw [ht0, List.nil_append] at ht
      have hh : headB b = true := by simpa using h1
      simp only [headB, Bool.and_eq_true, decide_eq_true_eq] at hh
      obtain ⟨e1, e2, e3⟩ := hh
      have hsz : leB 4 (36 + 2 * (s.length : Int) * len0 s) = (b.take 8).drop 4 := by
        have : (36 + 2 * (s.length : Int) * (len0 s : Int)) = numB ((b.take 8).drop 4) := by
          rw [e2, ← hE, hlw, ← hw, weave_length, Int.mul_assoc]
          have : (s.length : Int) * (len0 s : Int) = ((len0 s * s.length : Nat) : Int) := by rw [Int.natCast_mul, Int.mul_comm]
          rw [this]; omega
        rw [this, leB_numB' ((hB.take 8).drop 4) (by rw [List.length_drop, List.length_take]; omega)]
      conv => rhs; rw [← List.take_append_drop 12 b, ← ht]
      rw [waveL_eq, hsz, hw, hsl]
      simp only [txt, hk, hd, if_true]
      rw [fmtL_chunk, List.append_nil, ← List.append_assoc, ← List.append_assoc]
      congr 1
      rw [← e1, ← e3]
      have a1 : b.take 12 = b.take 8 ++ (b.take 12).drop 8 := by
        conv => lhs; rw [← List.take_append_drop 8 (b.take 12), List.take_take, show min 8 12 = 8 from rfl]
      have a2 : b.take 8 = b.take 4 ++ (b.take 8).drop 4 := by
        conv => lhs; rw [← List.take_append_drop 4 (b.take 8), List.take_take, show min 4 8 = 4 from rfl]
      rw [← a2]
      exact a1.symm
  · rw [if_pos h2] at hr0
    rw [hr0]; exact .inl ⟨h2, rfl, rfl⟩
/-! ### The file is bytes -/
theorem byteAt_range (n : Int) (i : Nat) : 0 ≤ byteAt n i ∧ byteAt n i < 256 := by
  unfold byteAt
  generalize n / 2 ^ (8 * i) = m
  omega
theorem leB_bytes (m : Nat) (n : Int) : Bytes (leB m n) := fun x hx => by
  obtain ⟨i, _, rfl⟩ := List.mem_map.1 hx
  exact byteAt_range n i
theorem leL_bytes (m : Nat) (l : List Int) : Bytes (leL m l) := fun x hx => by
  obtain ⟨n, _, hx⟩ := List.mem_flatMap.1 hx
  exact leB_bytes m n x hx
theorem Bytes.app {xs ys : List Int} (h : Bytes xs) (k : Bytes ys) : Bytes (xs ++ ys) := fun x hx => by
  rcases List.mem_append.1 hx with hx | hx
  · exact h x hx
  · exact k x hx
theorem waveL_bytes (r : Int) (s : List (List Int)) : Bytes (waveL r s) := by
  have n1 : Bytes nRiff := by unfold Bytes nRiff; decide
  have n2 : Bytes nWave := by unfold Bytes nWave; decide
  have n3 : Bytes nFmt := by unfold Bytes nFmt; decide
  have n4 : Bytes nData := by unfold Bytes nData; decide
  rw [waveL_eq]
  unfold chunkL fmtB
  exact n1.app ((leB_bytes _ _).app (n2.app ((n3.app ((leB_bytes _ _).app ((leB_bytes _ _).app ((leB_bytes _ _).app ((leB_bytes _ _).app ((leB_bytes _ _).app ((leB_bytes _ _).app (leB_bytes _ _)))))))).app ((n4.app ((leB_bytes _ _).app (leL_bytes _ _))).app (fun x hx => by cases hx)))))
theorem waveL_small {r : Int} {s : List (List Int)} (hv : validB r s = true) : (waveL r s).length ≤ 60000 := by
  have V := valid_facts hv
  have := Nat.mul_le_mul V.len V.two
  rw [waveL_length]
  omega
end Go.Proofs.YtijcecakofmhcaaDoor
