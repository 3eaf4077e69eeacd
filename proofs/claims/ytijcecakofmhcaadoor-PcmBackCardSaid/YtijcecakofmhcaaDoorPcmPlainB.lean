/- Plain laws of layer 2: files are read as they were written. No program is walked. -/
import Derived.Test.YtijcecakofmhcaaDoorPcmPlainA
import Derived.Test.YtijcecakofmhcaaDoorPcmRead
import Derived.Test.YtijcecakofmhcaaDoorPcmW
namespace Go.Proofs.YtijcecakofmhcaaDoor

/-! ### Numbers as bytes -/
theorem byteAt_succ (n : Int) (i : Nat) : byteAt n (i + 1) = byteAt (n / 256) i := by
  unfold byteAt
  rw [show (8 * (i + 1)) = 8 + 8 * i by omega, Int.pow_add, ← Int.ediv_ediv_of_nonneg (by decide)]
  rfl
theorem leB_cons (m : Nat) (n : Int) : leB (m + 1) n = n % 256 :: leB m (n / 256) := by
  unfold leB
  rw [List.range_succ_eq_map, List.map_cons, List.map_map]
  congr 1
  · simp [byteAt]
  · refine List.map_congr_left fun i _ => ?_
    exact byteAt_succ n i
theorem emod_mul_pos (n P : Int) : n % 256 + 256 * (n / 256 % P) = n % (256 * P) := by
  rw [Int.emod_def n (256 * P), Int.emod_def (n / 256) P, Int.ediv_ediv_of_nonneg (by decide), Int.mul_sub, ← Int.mul_assoc]
  have := Int.emod_add_mul_ediv n 256
  omega
theorem numB_leB (m : Nat) : ∀ n : Int, numB (leB m n) = n % 256 ^ m := by
  induction m with
  | zero => intro n; simp [leB, numB, Int.emod_one]
  | succ m ih =>
    intro n
    rw [leB_cons, numB, ih, Int.pow_succ, Int.mul_comm (256 ^ m) 256]
    exact emod_mul_pos n _
theorem numB_leB_of {m : Nat} {n : Int} (h0 : 0 ≤ n) (h1 : n < 256 ^ m) : numB (leB m n) = n := by
  rw [numB_leB, Int.emod_eq_of_lt h0 h1]
theorem leB_numB : ∀ xs : List Int, Bytes xs → leB xs.length (numB xs) = xs := by
  intro xs
  induction xs with
  | nil => intro _; rfl
  | cons x xs ih =>
    intro h
    have hx := h x (by simp)
    rw [List.length_cons, leB_cons, numB]
    rw [show (x + 256 * numB xs) % 256 = x by omega, show (x + 256 * numB xs) / 256 = numB xs by omega, ih fun y hy => h y (by simp [hy])]
theorem leB_numB' {xs : List Int} {m : Nat} (h : Bytes xs) (hm : xs.length = m) : leB m (numB xs) = xs := by subst hm; exact leB_numB xs h
theorem leL_one (m : Nat) (n : Int) : leL m [n] = leB m n := by simp [leL]
theorem leL_append (m : Nat) (xs ys : List Int) : leL m (xs ++ ys) = leL m xs ++ leL m ys := by simp [leL]
theorem leL_cons (m : Nat) (x : Int) (ys : List Int) : leL m (x :: ys) = leB m x ++ leL m ys := rfl
theorem leB_two (x : Int) : leB 2 x = [x % 256, x / 256 % 256] := by
  rw [leB_cons, leB_cons]; rfl
theorem numB_two (a b : Int) : numB [a, b] = a + 256 * b := by simp [numB]
theorem i16_wrap_of {x : Int} (h : -32768 ≤ x ∧ x ≤ 32767) (y : Int) (hy : y = x % 65536) : IntKind.i16.wrap y = x := by
  subst hy
  simp only [IntKind.wrap, IntKind.bits, IntKind.signed]; simp; split <;> omega
theorem i16_wrap_mod (y : Int) (h : 0 ≤ y ∧ y < 65536) : IntKind.i16.wrap y % 65536 = y := by
  simp only [IntKind.wrap, IntKind.bits, IntKind.signed]; simp; split <;> omega

/-! ### The samples of a chunk -/
theorem dataL_leL (l : List Int) (h : ∀ x ∈ l, -32768 ≤ x ∧ x ≤ 32767) : dataL (leL 2 l) l.length = l := by
  unfold dataL
  conv => rhs; rw [← range_map_nth 0 l]
  refine List.map_congr_left fun i hi => ?_
  have hi := List.mem_range.1 hi
  have hx := h _ (nth_mem 0 l i hi)
  refine i16_wrap_of hx _ ?_
  have : pairL (leL 2 l) i = leB 2 (nth 0 l i) := by
    unfold pairL
    have h1 : leL 2 l = leL 2 (l.take i) ++ (leB 2 (nth 0 l i) ++ leL 2 (l.drop (i + 1))) := by
      rw [← leL_cons, ← leL_append, ← drop_nth 0 l i hi, List.take_append_drop]
    have h2 : (leL 2 (l.take i)).length = 2 * i := by rw [leL_length, List.length_take]; omega
    rw [h1, List.take_append, h2, List.drop_append, List.length_take, h2]
    rw [show 2 * i + 2 - 2 * i = 2 by omega, show min (2 * i + 2) (2 * i) = 2 * i by omega, Nat.sub_self, List.drop_zero]
    rw [List.take_of_length_le (by omega : (leL 2 (l.take i)).length ≤ 2 * i + 2), List.drop_of_length_le (by omega), List.nil_append]
    rw [List.take_append, leB_length, Nat.sub_self, List.take_zero, List.append_nil, List.take_of_length_le (by rw [leB_length]; omega)]
  rw [this, numB_leB]
  rfl
theorem pairL_eq (b : List Int) (i : Nat) (h : 2 * i + 2 ≤ b.length) : pairL b i = [nth 0 b (2 * i), nth 0 b (2 * i + 1)] := by
  unfold pairL
  rw [List.drop_take, show 2 * i + 2 - 2 * i = 2 by omega, drop_nth 0 b (2 * i) (by omega), drop_nth 0 b (2 * i + 1) (by omega)]
  rfl
theorem leL_dataL (b : List Int) (hb : Bytes b) : ∀ k, 2 * k ≤ b.length → leL 2 (dataL b k) = b.take (2 * k) := by
  intro k
  induction k with
  | zero => intro _; simp [dataL, leL]
  | succ k ih =>
    intro hk
    have h1 : dataL b (k + 1) = dataL b k ++ [IntKind.i16.wrap (numB (pairL b k))] := by simp [dataL, List.range_succ]
    rw [h1, leL_append, ih (by omega), leL_one, pairL_eq b k (by omega), numB_two]
    have ha := hb _ (nth_mem 0 b (2 * k) (by omega))
    have hc := hb _ (nth_mem 0 b (2 * k + 1) (by omega))
    have hm := i16_wrap_mod (nth 0 b (2 * k) + 256 * nth 0 b (2 * k + 1)) (by omega)
    rw [leB_two]
    generalize hw : IntKind.i16.wrap (nth 0 b (2 * k) + 256 * nth 0 b (2 * k + 1)) = w at hm
    rw [show w % 256 = nth 0 b (2 * k) by omega, show w / 256 % 256 = nth 0 b (2 * k + 1) by omega]
    rw [show 2 * (k + 1) = 2 * k + 1 + 1 by omega, take_succ_nth 0 b (2 * k + 1) (by omega), take_succ_nth 0 b (2 * k) (by omega)]
    simp
theorem dataL_range (b : List Int) (k : Nat) (x : Int) (h : x ∈ dataL b k) : -32768 ≤ x ∧ x ≤ 32767 := by
  obtain ⟨i, _, rfl⟩ := List.mem_map.1 h
  exact i16_range _

/-! ### Split of Interleave -/
theorem weaveN_nth (s : List (List Int)) (j : Nat) (hj : j < s.length) : ∀ k i, i < k → nth 0 (weaveN s k) (i * s.length + j) = nth 0 (nth [] s j) i := by
  intro k
  induction k with
  | zero => intro i h; omega
  | succ k ih =>
    intro i hi
    rw [weaveN_succ]
    by_cases h : i < k
    · have : i * s.length + j < k * s.length := by
        have : (i + 1) * s.length ≤ k * s.length := Nat.mul_le_mul_right _ h
        rw [Nat.succ_mul] at this; omega
      rw [nth_append_left 0 _ _ _ (by rw [weaveN_length]; exact this), ih i h]
    · obtain rfl : i = k := by omega
      rw [nth_append_right 0 _ _ _ (by rw [weaveN_length]; omega), weaveN_length, Nat.add_sub_cancel_left]
      unfold col
      rw [nth_map_list [] 0 _ s j hj]
theorem splitK_weave (s : List (List Int)) (h1 : 1 ≤ s.length) (h2 : s.length ≤ 2) (h : ∀ c ∈ s, c.length = len0 s) : ∀ m, m ≤ len0 s → splitK (weave s) s.length (m * s.length) = s.map (fun c => c.take m) := by
  intro m
  induction m with
  | zero =>
    intro _
    rw [Nat.zero_mul]
    show List.replicate s.length [] = s.map (fun c => c.take 0)
    simp only [List.take_zero]
    exact (List.map_const' ..).symm
  | succ m ih =>
    intro hm
    have ih := ih (by omega)
    match s, h1, h2, h, ih with
    | [x], _, _, h, ih =>
      have hw := weaveN_nth [x] 0 (by simp) (len0 [x]) m (by omega)
      simp only [List.length_singleton, Nat.mul_one, Nat.add_zero] at hw ih ⊢
      have hx : m < x.length := by have := h x (by simp); omega
      rw [splitK, ih, Nat.mod_one]
      show [x.take m ++ [nth 0 (weave [x]) m]] = _
      rw [show nth 0 (weave [x]) m = nth 0 x m from hw]
      simp [take_succ_nth 0 x m hx]
    | [x, y], _, _, h, ih =>
      have hw0 := weaveN_nth [x, y] 0 (by simp) (len0 [x, y]) m (by omega)
      have hw1 := weaveN_nth [x, y] 1 (by simp) (len0 [x, y]) m (by omega)
      have hl : ([x, y] : List (List Int)).length = 2 := rfl
      rw [hl] at hw0 hw1 ih ⊢
      have hx : m < x.length := by have := h x (by simp); omega
      have hy : m < y.length := by have := h y (by simp); omega
      rw [show (m + 1) * 2 = m * 2 + 1 + 1 by omega, splitK, splitK, ih, show m * 2 % 2 = 0 by omega, show (m * 2 + 1) % 2 = 1 by omega]
      show [x.take m ++ [nth 0 (weave [x, y]) (m * 2)], y.take m ++ [nth 0 (weave [x, y]) (m * 2 + 1)]] = _
      rw [show nth 0 (weave [x, y]) (m * 2) = nth 0 x m from hw0, show nth 0 (weave [x, y]) (m * 2 + 1) = nth 0 y m from hw1]
      simp [take_succ_nth 0 x m hx, take_succ_nth 0 y m hy]
theorem weave_all {r : Int} {s : List (List Int)} (V : VFacts r s) : (weave s).all smpB = true := by
  refine List.all_eq_true.2 fun x hx => ?_
  obtain ⟨c, hc, hxc⟩ := weave_mem V.same hx
  have := V.smp c hc x hxc
  simp only [smpB, Bool.and_eq_true, decide_eq_true_eq]
  exact this
theorem weave_length (s : List (List Int)) : (weave s).length = len0 s * s.length := weaveN_length s _
theorem back_split {r : Int} {s : List (List Int)} (hv : validB r s = true) : splitS (weave s) s.length r = (r, s, 0) := by
  have V := valid_facts hv
  have h1 := V.one
  have h2 := V.two
  have h3 := V.len
  unfold splitS
  have hl := weave_length s
  rw [if_neg (by rw [V.rate]; simp; omega), Int.toNat_natCast, if_neg (by rw [hl]; simp), if_neg (by rw [hl, Nat.mul_div_cancel _ (by omega)]; omega), if_pos (weave_all V)]
  rw [hl, splitK_weave s h1 h2 V.same _ (Nat.le_refl _)]
  congr 2
  have : ∀ c ∈ s, c.take (len0 s) = id c := fun c hc => List.take_of_length_le (by rw [V.same c hc]; omega)
  rw [List.map_congr_left this, List.map_id]

/-! ### Read of Wave -/
theorem fmtL_eq (ch rate : Int) : fmtL ch rate = nFmt ++ (leB 4 16 ++ (leB 2 1 ++ (leB 2 ch ++ (leB 4 rate ++ (leB 4 (2 * ch * rate) ++ (leB 2 (2 * ch) ++ leB 2 16)))))) := by
  simp [fmtL, leL, nFmt]
theorem fmtL_length (ch rate : Int) : (fmtL ch rate).length = 24 := by rw [fmtL_eq]; simp [leB_length, nFmt]
/-- What a chunk looks like. -/
def chunkL (nm body : List Int) : List Int := nm ++ (leB 4 body.length ++ body)
theorem ckN_chunk (nm body rest : List Int) (h : nm.length = 4) (hb : body.length < 4294967296) : ckN (chunkL nm body ++ rest) = body.length := by
  unfold ckN chunkL
  have : ((nm ++ (leB 4 body.length ++ body) ++ rest).take 8).drop 4 = leB 4 body.length := by
    rw [List.append_assoc, List.append_assoc, List.take_append, h, List.take_of_length_le (by omega), show 8 - 4 = 4 from rfl, List.take_append, leB_length, Nat.sub_self, List.take_zero, List.append_nil, List.take_of_length_le (by rw [leB_length]; omega)]
    rw [List.drop_append, h, Nat.sub_self, List.drop_zero, List.drop_of_length_le (by omega), List.nil_append]
  rw [this, numB_leB_of (by omega) (by show (body.length : Int) < 4294967296; omega)]
  simp
theorem chunksF_chunk (f : Nat) (nm body rest : List Int) (h : nm.length = 4) (hb : body.length < 4294967296) (hp : body.length % 2 = 0) :
    chunksF (f + 1) (chunkL nm body ++ rest) = (nm, body, false) :: chunksF f rest := by
  have hn := ckN_chunk nm body rest h hb
  have hl : (chunkL nm body).length = 8 + body.length := by unfold chunkL; simp [h, leB_length]; omega
  have e0 : ∀ b, chunksF (f + 1) b = if b = [] then [] else if b.length < 8 ∨ b.length - 8 < ckN b + ckN b % 2 then [([], [], true)] else (b.take 4, (b.take (8 + ckN b)).drop 8, false) :: chunksF f (b.drop (8 + ckN b + ckN b % 2)) := fun _ => rfl
  rw [e0, hn, hp, if_neg (by intro e; have := congrArg List.length e; rw [List.length_append, hl] at this; simp at this), if_neg (by rw [List.length_append, hl]; omega)]
  have e1 : (chunkL nm body ++ rest).take 4 = nm := by
    unfold chunkL
    rw [List.append_assoc, List.take_append, h, Nat.sub_self, List.take_zero, List.append_nil, List.take_of_length_le (by omega)]
  have e2 : ((chunkL nm body ++ rest).take (8 + body.length)).drop 8 = body := by
    rw [List.take_append, hl, Nat.sub_self, List.take_zero, List.append_nil, List.take_of_length_le (by omega)]
    unfold chunkL
    rw [← List.append_assoc, List.drop_append, List.length_append, h, leB_length, Nat.sub_self, List.drop_zero, List.drop_of_length_le (by rw [List.length_append, h, leB_length]; omega), List.nil_append]
  have e3 : (chunkL nm body ++ rest).drop (8 + body.length + 0) = rest := by
    rw [Nat.add_zero, List.drop_append, hl, Nat.sub_self, List.drop_zero, List.drop_of_length_le (by omega), List.nil_append]
  rw [e1, e2, e3]
theorem chunksF_end (f : Nat) : chunksF f [] = [] := by cases f <;> simp [chunksF]
/-- The body of the chunk of the form. -/
def fmtB (ch rate : Int) : List Int := leB 2 1 ++ (leB 2 ch ++ (leB 4 rate ++ (leB 4 (2 * ch * rate) ++ (leB 2 (2 * ch) ++ leB 2 16))))
theorem fmtB_length (ch rate : Int) : (fmtB ch rate).length = 16 := by simp [fmtB, leB_length]
theorem fmtL_chunk (ch rate : Int) : fmtL ch rate = chunkL nFmt (fmtB ch rate) := by
  unfold chunkL
  rw [fmtB_length, fmtL_eq]; rfl
theorem fmtL_drop (ch rate : Int) : (fmtL ch rate).drop 8 = fmtB ch rate := by
  rw [fmtL_chunk]
  unfold chunkL
  rw [← List.append_assoc, List.drop_append, List.length_append, leB_length, show nFmt.length = 4 from rfl, Nat.sub_self, List.drop_zero, List.drop_of_length_le (by rw [List.length_append, leB_length]; decide), List.nil_append]
theorem fmtB_ch (ch rate : Int) (h : 0 ≤ ch ∧ ch < 65536) : fmtCh (fmtB ch rate) = ch := by
  unfold fmtCh
  have : ((fmtB ch rate).take 4).drop 2 = leB 2 ch := by
    unfold fmtB
    rw [List.take_append, leB_length, List.take_of_length_le (by rw [leB_length]; omega), show 4 - 2 = 2 from rfl, List.take_append, leB_length, Nat.sub_self, List.take_zero, List.append_nil, List.take_of_length_le (by rw [leB_length]; omega)]
    rw [List.drop_append, leB_length, Nat.sub_self, List.drop_zero, List.drop_of_length_le (by rw [leB_length]; omega), List.nil_append]
  rw [this, numB_leB_of h.1 (by show ch < 65536; exact h.2)]
theorem fmtB_rate (ch rate : Int) (h : 0 ≤ rate ∧ rate < 4294967296) : fmtRate (fmtB ch rate) = rate := by
  unfold fmtRate
  have : ((fmtB ch rate).take 8).drop 4 = leB 4 rate := by
    unfold fmtB
    rw [← List.append_assoc, List.take_append, List.length_append, leB_length, leB_length, List.take_of_length_le (by rw [List.length_append, leB_length, leB_length]; omega), show 8 - (2 + 2) = 4 from rfl, List.take_append, leB_length, Nat.sub_self, List.take_zero, List.append_nil, List.take_of_length_le (by rw [leB_length]; omega)]
    rw [List.drop_append, List.length_append, leB_length, leB_length, show 4 - (2 + 2) = 0 from rfl, List.drop_zero, List.drop_of_length_le (by rw [List.length_append, leB_length, leB_length]; omega), List.nil_append]
  rw [this, numB_leB_of h.1 (by show rate < 4294967296; exact h.2)]
theorem waveL_eq (r : Int) (s : List (List Int)) : waveL r s = nRiff ++ (leB 4 (36 + 2 * s.length * len0 s) ++ (nWave ++ (chunkL nFmt (fmtB s.length r) ++ (chunkL nData (leL 2 (weave s)) ++ [])))) := by
  unfold waveL
  rw [fmtL_chunk]
  have : (leL 2 (weave s)).length = 2 * s.length * len0 s := by rw [leL_length, weave_length, Nat.mul_comm, Nat.mul_comm (len0 s), Nat.mul_assoc]
  simp only [chunkL, leL_one, this, nRiff, nWave, nData, List.append_assoc, List.append_nil, Int.natCast_mul]
  rfl
theorem waveL_length (r : Int) (s : List (List Int)) : (waveL r s).length = 44 + 2 * (len0 s * s.length) := by
  rw [waveL_eq]
  simp only [chunkL, List.length_append, leB_length, fmtB_length, leL_length, weave_length, List.length_nil, show nRiff.length = 4 from rfl, show nWave.length = 4 from rfl, show nFmt.length = 4 from rfl, show nData.length = 4 from rfl]
  omega
theorem back_read {r : Int} {s : List (List Int)} (hv : validB r s = true) : readS (waveL r s) = (r, s, 0) := by
  have V := valid_facts hv
  have h1 := V.one
  have h2 := V.two
  have h3 := V.len
  have hr := rate_range V.rate
  have hN : len0 s * s.length ≤ 16384 := Nat.le_trans (Nat.mul_le_mul h3 h2) (by decide)
  have hlen := waveL_length r s
  have hD : (leL 2 (weave s)).length = 2 * (len0 s * s.length) := by rw [leL_length, weave_length]; omega
  have hd12 : (waveL r s).drop 12 = chunkL nFmt (fmtB s.length r) ++ (chunkL nData (leL 2 (weave s)) ++ []) := by
    rw [waveL_eq, ← List.append_assoc, ← List.append_assoc, List.drop_append, show (nRiff ++ leB 4 (36 + 2 * (s.length : Int) * len0 s) ++ nWave).length = 12 by simp [leB_length, nRiff, nWave], Nat.sub_self, List.drop_zero,
      List.drop_of_length_le (by simp [leB_length, nRiff, nWave]), List.nil_append]
  have hhead : headB (waveL r s) = true := by
    have e1 : (waveL r s).take 4 = nRiff := by rw [waveL_eq, List.take_append, show nRiff.length = 4 from rfl, Nat.sub_self, List.take_zero, List.append_nil, List.take_of_length_le (by decide)]
    have e2 : ((waveL r s).take 8).drop 4 = leB 4 (36 + 2 * (s.length : Int) * len0 s) := by
      rw [waveL_eq, List.take_append, show nRiff.length = 4 from rfl, List.take_of_length_le (by decide), show 8 - 4 = 4 from rfl, List.take_append, leB_length, Nat.sub_self, List.take_zero, List.append_nil, List.take_of_length_le (by rw [leB_length]; omega)]
      rw [List.drop_append, show nRiff.length = 4 from rfl, Nat.sub_self, List.drop_zero, List.drop_of_length_le (by decide), List.nil_append]
    have e3 : ((waveL r s).take 12).drop 8 = nWave := by
      rw [waveL_eq, ← List.append_assoc, List.take_append, List.length_append, leB_length, show nRiff.length = 4 from rfl, List.take_of_length_le (by simp [leB_length, nRiff]), show 12 - (4 + 4) = 4 from rfl, List.take_append, show nWave.length = 4 from rfl, Nat.sub_self, List.take_zero, List.append_nil, List.take_of_length_le (by decide)]
      rw [List.drop_append, List.length_append, leB_length, show nRiff.length = 4 from rfl, show 8 - (4 + 4) = 0 from rfl, List.drop_zero, List.drop_of_length_le (by simp [leB_length, nRiff]), List.nil_append]
    have hm : (2 * (s.length : Int) * (len0 s : Int)) = ((2 * (len0 s * s.length) : Nat) : Int) := by rw [Int.natCast_mul, Int.natCast_mul, Int.mul_assoc, Int.mul_comm (s.length : Int)]; rfl
    unfold headB
    rw [e1, e2, e3, hm, numB_leB_of (by omega) (by show (36 + ((2 * (len0 s * s.length) : Nat) : Int)) < 4294967296; omega), hlen]
    simp
    omega
  have hch : chunksF (((waveL r s).drop 12).length + 1) ((waveL r s).drop 12) = [(nFmt, fmtB s.length r, false), (nData, leL 2 (weave s), false)] := by
    have hl : ((waveL r s).drop 12).length = 30 + 2 * (len0 s * s.length) + 1 + 1 := by rw [List.length_drop, hlen]; omega
    rw [hl, hd12, chunksF_chunk _ _ _ _ rfl (by rw [fmtB_length]; decide) (by rw [fmtB_length]), chunksF_chunk _ _ _ _ rfl (by rw [hD]; omega) (by rw [hD]; omega), chunksF_end]
  have hf1 := fmtB_ch s.length r ⟨by omega, by omega⟩
  have hf2 := fmtB_rate s.length r ⟨by omega, by omega⟩
  have hfe : formatE fst0 (fmtB s.length r) = 0 := by
    unfold formatE
    rw [if_neg (by rw [fmtB_length]; simp [fst0]), hf1, hf2, if_neg (by rw [fmtL_drop, V.rate]; simp; omega)]
  have hfs : formatS fst0 (fmtB s.length r) = ⟨s.length, r, true, false, []⟩ := by
    unfold formatS
    rw [if_neg (by rw [fmtB_length]; simp [fst0]), hf1, hf2]; rfl
  have hl1 : lookE fst0 (nFmt, fmtB s.length r, false) = 0 := by unfold lookE; simp [hfe]
  have hs1 : lookS fst0 (nFmt, fmtB s.length r, false) = ⟨s.length, r, true, false, []⟩ := by unfold lookS; simp [hfs]
  have hde : dataE ⟨s.length, r, true, false, []⟩ (leL 2 (weave s)) = 0 := by
    have hk : ((leL 2 (weave s)).length : Int) = (len0 s : Int) * (2 * (s.length : Int)) := by rw [hD, Int.natCast_mul, Int.natCast_mul, Int.mul_left_comm]; rfl
    unfold dataE
    simp only [hk]
    rw [if_neg (by simp), if_neg (by rw [Int.mul_ediv_cancel _ (by omega)]; omega)]
  have hds : dataS ⟨s.length, r, true, false, []⟩ (leL 2 (weave s)) = ⟨s.length, r, true, true, weave s⟩ := by
    unfold dataS
    rw [if_pos hde, hD, Nat.mul_div_cancel_left _ (by decide), ← weave_length s, dataL_leL _ fun x hx => by
      obtain ⟨c, hc, hxc⟩ := weave_mem V.same hx
      exact V.smp c hc x hxc]
    rfl
  have hl2 : lookE ⟨s.length, r, true, false, []⟩ (nData, leL 2 (weave s), false) = 0 := by unfold lookE; simp [hde, nData, nFmt]
  have hs2 : lookS ⟨s.length, r, true, false, []⟩ (nData, leL 2 (weave s), false) = ⟨s.length, r, true, true, weave s⟩ := by unfold lookS; simp [hds, nData, nFmt]
  have hrc : readC fst0 (chunksF (((waveL r s).drop 12).length + 1) ((waveL r s).drop 12)) = (0, ⟨s.length, r, true, true, weave s⟩) := by
    rw [hch, readC, if_pos hl1, hs1, readC, if_pos hl2, hs2, readC]
  unfold readS
  rw [if_neg (by rw [hlen]; omega), if_neg (by rw [hhead]; simp), hrc]
  simp only []
  rw [if_neg (by simp), if_neg (by simp)]
  exact back_split hv
end Go.Proofs.YtijcecakofmhcaaDoor
