/- Plain laws of layer 2: files are read as they were written. No program is walked. -/
import Derived.Test.YtijcecakofmhcaaDoorPcmPlainA
import Derived.Test.YtijcecakofmhcaaDoorPcmRead
import Derived.Test.YtijcecakofmhcaaDoorPcmW
namespace Go.Proofs.YtijcecakofmhcaaDoor

/-! ### Numbers as bytes -/
theorem byteAt_succ (n : Int) (i : Nat) : byteAt n (i + 1) = byteAt (n / 256) i := by
  unfold byteAt
  rw [show (8 * (i + 1)) = 8 + 8 * i by omega, Int.pow_add, ← Int.ediv_ediv_of_nonneg (by decide)]
  rfl
theorem leB_cons (m : Nat) (n : Int) : leB (m + 1) n = n % 256 :: leB m (n / 256) := by
  unfold leB
  rw [List.range_succ_eq_map, List.map_cons, List.map_map]
  congr 1
  · simp [byteAt]
  · refine List.map_congr_left fun i _ => ?_
    exact byteAt_succ n i
theorem emod_mul_pos (n P : Int) : n % 256 + 256 * (n / 256 % P) = n % (256 * P) := by
  rw [Int.emod_def n (256 * P), Int.emod_def (n / 256) P, Int.ediv_ediv_of_nonneg (by decide), Int.mul_sub, ← Int.mul_assoc]
  have := Int.emod_add_mul_ediv n 256
  omega
theorem numB_leB (m : Nat) : ∀ n : Int, numB (leB m n) = n % 256 ^ m := by
  induction m with
  | zero => intro n; simp [leB, numB, Int.emod_one]
  | succ m ih =>
    intro n
    rw [leB_cons, numB, ih, Int.pow_succ, Int.mul_comm (256 ^ m) 256]
    exact emod_mul_pos n _
theorem numB_leB_of {m : Nat} {n : Int} (h0 : 0 ≤ n) (h1 : n < 256 ^ m) : numB (leB m n) = n := by
  rw [numB_leB, Int.emod_eq_of_lt h0 h1]
theorem leB_numB : ∀ xs : List Int, Bytes xs → leB xs.length (numB xs) = xs := by
  intro xs
  induction xs with
  | nil => intro _; rfl
  | cons x xs ih =>
    intro h
    have hx := h x (by simp)
    rw [List.length_cons, leB_cons, numB]
    rw [show (x + 256 * numB xs) % 256 = x by omega, show (x + 256 * numB xs) / 256 = numB xs by omega, ih fun y hy => h y (by simp [hy])]
theorem leB_numB' {xs : List Int} {m : Nat} (h : Bytes xs) (hm : xs.length = m) : leB m (numB xs) = xs := by subst hm; exact leB_numB xs h
theorem leL_one (m : Nat) (n : Int) : leL m [n] = leB m n := by simp [leL]
theorem leL_append (m : Nat) (xs ys : List Int) : leL m (xs ++ ys) = leL m xs ++ leL m ys := by simp [leL]
theorem leL_cons (m : Nat) (x : Int) (ys : List Int) : leL m (x :: ys) = leB m x ++ leL m ys := rfl
theorem leB_two (x : Int) : leB 2 x = [x % 256, x / 256 % 256] := by
  rw [leB_cons, leB_cons]; rfl
theorem numB_two (a b : Int) : numB [a, b] = a + 256 * b := by simp [numB]
theorem i16_wrap_of {x : Int} (h : -32768 ≤ x ∧ x ≤ 32767) (y : Int) (hy : y = x % 65536) : IntKind.i16.wrap y = x := by
  subst hy
  simp only [IntKind.wrap, IntKind.bits, IntKind.signed]; simp; split <;> omega
theorem i16_wrap_mod (y : Int) (h : 0 ≤ y ∧ y < 65536) : IntKind.i16.wrap y % 65536 = y := by
  simp only [IntKind.wrap, IntKind.bits, IntKind.signed]; simp; split <;> omega

/-! ### The samples of a chunk -/
theorem dataL_leL (l : List Int) (h : ∀ x ∈ l, -32768 ≤ x ∧ x ≤ 32767) : dataL (leL 2 l) l.length = l := by
  unfold dataL
  conv => rhs; rw [← range_map_nth 0 l]
  refine List.map_congr_left fun i hi => ?_
  have hi := List.mem_range.1 hi
  have hx := h _ (nth_mem 0 l i hi)
  refine i16_wrap_of hx _ ?_
  have : pairL (leL 2 l) i = leB 2 (nth 0 l i) := by
    unfold pairL
    have h1 : leL 2 l = leL 2 (l.take i) ++ (leB 2 (nth 0 l i) ++ leL 2 (l.drop (i + 1))) := by
      rw [← leL_cons, ← leL_append, ← drop_nth 0 l i hi, List.take_append_drop]
    have h2 : (leL 2 (l.take i)).length = 2 * i := by rw [leL_length, List.length_take]; omega
    rw [h1, List.take_append, h2, List.drop_append, List.length_take, h2]
    rw [show 2 * i + 2 - 2 * i = 2 by omega, show min (2 * i + 2) (2 * i) = 2 * i by omega, Nat.sub_self, List.drop_zero]
    rw [List.take_of_length_le (by omega : (leL 2 (l.take i)).length ≤ 2 * i + 2), List.drop_of_length_le (by omega), List.nil_append]
    rw [List.take_append, leB_length, Nat.sub_self, List.take_zero, List.append_nil, List.take_of_length_le (by rw [leB_length]; omega)]
  rw [this, numB_leB]
  rfl
theorem pairL_eq (b : List Int) (i : Nat) (h : 2 * i + 2 ≤ b.length) : pairL b i = [nth 0 b (2 * i), nth 0 b (2 * i + 1)] := by
  unfold pairL
  rw [List.drop_take, show 2 * i + 2 - 2 * i = 2 by omega, drop_nth 0 b (2 * i) (by omega), drop_nth 0 b (2 * i + 1) (by omega)]
  rfl
theorem leL_dataL (b : List Int) (hb : Bytes b) : ∀ k, 2 * k ≤ b.length → leL 2 (dataL b k) = b.take (2 * k) := by
  intro k
  induction k with
  | zero => intro _; simp [dataL, leL]
  | succ k ih =>
    intro hk
    have h1 : dataL b (k + 1) = dataL b k ++ [IntKind.i16.wrap (numB (pairL b k))] := by simp [dataL, List.range_succ]
    rw [h1, leL_append, ih (by omega), leL_one, pairL_eq b k (by omega), numB_two]
    have ha := hb _ (nth_mem 0 b (2 * k) (by omega))
    have hc := hb _ (nth_mem 0 b (2 * k + 1) (by omega))
    have hm := i16_wrap_mod (nth 0 b (2 * k) + 256 * nth 0 b (2 * k + 1)) (by omega)
    rw [leB_two]
    generalize hw : IntKind.i16.wrap (nth 0 b (2 * k) + 256 * nth 0 b (2 * k + 1)) = w at hm
    rw [show w % 256 = nth 0 b (2 * k) by omega, show w / 256 % 256 = nth 0 b (2 * k + 1) by omega]
    rw [show 2 * (k + 1) = 2 * k + 1 + 1 by omega, take_succ_nth 0 b (2 * k + 1) (by omega), take_succ_nth 0 b (2 * k) (by omega)]
    simp
theorem dataL_range (b : List Int) (k : Nat) (x : Int) (h : x ∈ dataL b k) : -32768 ≤ x ∧ x ≤ 32767 := by
  obtain ⟨i, _, rfl⟩ := List.mem_map.1 h
  exact i16_range _

/-! ### Split of Interleave -/
theorem weaveN_nth (s : List (List Int)) (j : Nat) (hj : j < s.length) : ∀ k i, i < k → nth 0 (weaveN s k) (i * s.length + j) = nth 0 (nth [] s j) i := by
  intro k
  induction k with
  | zero => intro i h; omega
  | succ k ih =>
    intro i hi
    rw [weaveN_succ]
    by_cases h : i < k
    · have : i * s.length + j < k * s.length := by
        have : (i + 1) * s.length ≤ k * s.length := Nat.mul_le_mul_right _ h
        rw [Nat.succ_mul] at this; omega
      rw [nth_append_left 0 _ _ _ (by rw [weaveN_length]; exact this), ih i h]
    · obtain rfl : i = k := by omega
      rw [nth_append_right 0 _ _ _ (by rw [weaveN_length]; omega), weaveN_length, Nat.add_sub_cancel_left]
      unfold col
      rw [nth_map_list [] 0 _ s j hj]
theorem splitK_weave (s : List (List Int)) (h1 : 1 ≤ s.length) (h2 : s.length ≤ 2) (h : ∀ c ∈ s, c.length = len0 s) : ∀ m, m ≤ len0 s → splitK (weave s) s.length (m * s.length) = s.map (fun c => c.take m) := by
  intro m
  induction m with
  | zero =>
    intro _
    rw [Nat.zero_mul]
    show List.replicate s.length [] = s.map (fun c => c.take 0)
    simp only [List.take_zero]
    exact (List.map_const' ..).symm
  | succ m ih =>
    intro hm
    have ih := ih (by omega)
    match s, h1, h2, h, ih with
    | [x], _, _, h, ih =>
      have hw := weaveN_nth [x] 0 (by simp) (len0 [x]) m (by omega)
      simp only [List.length_singleton, Nat.mul_one, Nat.add_zero] at hw ih ⊢
      have hx : m < x.length := by have := h x (by simp); omega
      rw [splitK, ih, Nat.mod_one]
      show [x.take m ++ [nth 0 (weave [x]) m]] = _
      rw [show nth 0 (weave [x]) m = nth 0 x m from hw]
      simp [take_succ_nth 0 x m hx]
    | [x, y], _, _, h, ih =>
      have hw0 := weaveN_nth [x, y] 0 (by simp) (len0 [x, y]) m (by omega)
      have hw1 := weaveN_nth [x, y] 1 (by simp) (len0 [x, y]) m (by omega)
      have hl : ([x, y] : List (List Int)).length = 2 := rfl
      rw [hl] at hw0 hw1 ih ⊢
      have hx : m < x.length := by have := h x (by simp); omega
      have hy : m < y.length := by have := h y (by simp); omega
      rw [show (m + 1) * 2 = m * 2 + 1 + 1 by omega, splitK, splitK, ih, show m * 2 % 2 = 0 by omega, show (m * 2 + 1) % 2 = 1 by omega]
      show [x.take m ++ [nth 0 (weave [x, y]) (m * 2)], y.take m ++ [nth 0 (weave [x, y]) (m * 2 + 1)]] = _
      rw [show nth 0 (weave [x, y]) (m * 2) = nth 0 x m from hw0, show nth 0 (weave [x, y]) (m * 2 + 1) = nth 0 y m from hw1]
      simp [take_succ_nth 0 x m hx, take_succ_nth 0 y m hy]
theorem weave_all {r : Int} {s : List (List Int)} (V : VFacts r s) : (weave s).all smpB = true := by
  refine List.all_eq_true.2 fun x hx => ?_
  obtain ⟨c, hc, hxc⟩ := weave_mem V.same hx
  have := V.smp c hc x hxc
  simp only [smpB, Bool.and_eq_true, decide_eq_true_eq]
  exact this
theorem weave_length (s : List (List Int)) : (weave s).length = len0 s * s.length := weaveN_length s _
theorem back_split {r : Int} {s : List (List Int)} (hv : validB r s = true) : splitS (weave s) s.length r = (r, s, 0) := by
  have V := valid_facts hv
  have h1 := V.one
  have h2 := V.two
  have h3 := V.len
  unfold splitS
  have hl := weave_length s
  rw [if_neg (by rw [V.rate]; simp; omega), Int.toNat_natCast, if_neg (by rw [hl]; simp), if_neg (by rw [hl, Nat.mul_div_cancel _ (by omega)]; omega), if_pos (weave_all V)]
  rw [hl, splitK_weave s h1 h2 V.same _ (Nat.le_refl _)]
  congr 2
  have : ∀ c ∈ s, c.take (len0 s) = id c := fun c hc => List.take_of_length_le (by rw [V.same c hc]; omega)
  rw [List.map_congr_left this, List.map_id]

/-! ### Read of Wave -/
theorem fmtL_eq (ch rate : Int) : fmtL ch rate = nFmt ++ (leB 4 16 ++ (leB 2 1 ++ (leB 2 ch ++ (leB 4 rate ++ (leB 4 (2 * ch * rate) ++ (leB 2 (2 * ch) ++ leB 2 16)))))) := by
  simp [fmtL, leL, nFmt]
theorem fmtL_length (ch rate : Int) : (fmtL ch rate).length = 24 := by rw [fmtL_eq]; simp [leB_length, nFmt]
/-- What a chunk looks like. -/
def chunkL (nm body : List Int) : List Int := nm ++ (leB 4 body.length ++ body)
theorem ckN_chunk (nm body rest : List Int) (h : nm.length = 4) (hb : body.length < 4294967296) : ckN (chunkL nm body ++ rest) = body.length := by
  unfold ckN chunkL
  have : ((nm ++ (leB 4 body.length ++ body) ++ rest).take 8).drop 4 = leB 4 body.length := by
    rw [List.append_assoc, List.append_assoc, List.take_append, h, List.take_of_length_le (by omega), show 8 - 4 = 4 from rfl, List.take_append, leB_length, Nat.sub_self, List.take_zero, List.append_nil, List.take_of_length_le (by rw [leB_length]; omega)]
    rw [List.drop_append, h, Nat.sub_self, List.drop_zero, List.drop_of_length_le (by omega), List.nil_append]
  rw [this, numB_leB_of (by omega) (by show (body.length : Int) < 4294967296; omega)]
  simp
theorem chunksF_chunk (f : Nat) (nm body rest : List Int) (h : nm.length = 4) (hb : body.length < 4294967296) (hp : body.length % 2 = 0) :
    chunksF (f + 1) (chunkL nm body ++ rest) = (nm, body, false) :: chunksF f rest := by
  have hn := ckN_chunk nm body rest h hb
  have hl : (chunkL nm body).length = 8 + body.length := by unfold chunkL; simp [h, leB_length]; omega
  have e0 : ∀ b, chunksF (f + 1) b = if b = [] then [] else if b.length < 8 ∨ b.length - 8 < ckN b + ckN b % 2 then [([], [], true)] else (b.take 4, (b.take (8 + ckN b)).drop 8, false) :: chunksF f (b.drop (8 + ckN b + ckN b % 2)) := fun _ => rfl
  rw [e0, hn, hp, if_neg (by intro e; have := congrArg List.length e; rw [List.length_append, hl] at this; simp at this), if_neg (by rw [List.length_append, hl]; omega)]
  have e1 : (chunkL nm body ++ rest).take 4 = nm := by
    unfold chunkL
    rw [List.append_assoc, List.take_append, h, Nat.sub_self, List.take_zero, List.append_nil, List.take_of_length_le (by omega)]
  have e2 : ((chunkL nm body ++ rest).take (8 + body.length)).drop 8 = body := by
    rw [List.take_append, hl, Nat.sub_self, List.take_zero, List.append_nil, List.take_of_length_le (by omega)]
    unfold chunkL
    rw [← List.append_assoc, List.drop_append, List.length_append, h, leB_length, Nat.sub_self, List.drop_zero, List.drop_of_length_le (by rw [List.length_append, h, leB_length]; omega), List.nil_append]
  have e3 : (chunkL nm body ++ rest).drop (8 + body.length + 0) = rest := by
    rw [Nat.add_zero, List.drop_append, hl, Nat.sub_self, List.drop_zero, List.drop_of_length_le (by omega), List.nil_append]
  rw [e1, e2, e3]
theorem chunksF_end (f : Nat) : chunksF f [] = [] := by cases f <;> simp [chunksF]
/-- The body of the chunk of the form. -/
def fmtB (ch rate : Int) : List Int := leB 2 1 ++ (leB 2 ch ++ (leB 4 rate ++ (leB 4 (2 * ch * rate) ++ (leB 2 (2 * ch) ++ leB 2 16))))
theorem fmtB_length (ch rate : Int) : (fmtB ch rate).length = 16 := by simp [fmtB, leB_length]
theorem fmtL_chunk (ch rate : Int) : fmtL ch rate = chunkL nFmt (fmtB ch rate) := by
  unfold chunkL
  rw [fmtB_length, fmtL_eq]; rfl
theorem fmtL_drop (ch rate : Int) : (fmtL ch rate).drop 8 = fmtB ch rate := by
  rw [fmtL_chunk]
  unfold chunkL
  rw [← List.append_assoc, List.drop_append, List.length_append, leB_length, show nFmt.length = 4 from rfl, Nat.sub_self, List.drop_zero, List.drop_of_length_le (by rw [List.length_append, leB_length]; decide), List.nil_append]
theorem fmtB_ch (ch rate : Int) (h : 0 ≤ ch ∧ ch < 65536) : fmtCh (fmtB ch rate) = ch := by
  unfold fmtCh
  have : ((fmtB ch rate).take 4).drop 2 = leB 2 ch := by
    unfold fmtB
    rw [List.take_append, leB_length, List.take_of_length_le (by rw [leB_length]; omega), show 4 - 2 = 2 from rfl, List.take_append, leB_length, Nat.sub_self, List.take_zero, List.append_nil, List.take_of_length_le (by rw [leB_length]; omega)]
    rw [List.drop_append, leB_length, Nat.sub_self, List.drop_zero, List.drop_of_length_le (by rw [leB_length]; omega), List.nil_append]
  rw [this, numB_leB_of h.1 (by show ch < 65536; exact h.2)]
theorem fmtB_rate (ch rate : Int) (h : 0 ≤ rate ∧ rate < 4294967296) : fmtRate (fmtB ch rate) = rate := by
  unfold fmtRate
  have : ((fmtB ch rate).take 8).drop 4 = leB 4 rate := by
    unfold fmtB
    rw [← List.append_assoc, List.take_append, List.length_append, leB_length, leB_length, List.take_of_length_le (by rw [List.length_append, leB_length, leB_length]; omega), show 8 - (2 + 2) = 4 from rfl, List.take_append, leB_length, Nat.sub_self, List.take_zero, List.append_nil, List.take_of_length_le (by rw [leB_length]; omega)]
    rw [List.drop_append, List.length_append, leB_length, leB_length, show 4 - (2 + 2) = 0 from rfl, List.drop_zero, List.drop_of_length_le (by rw [List.length_append, leB_length, leB_length]; omega), List.nil_append]
  rw [this, numB_leB_of h.1 (by show rate < 4294967296; exact h.2)]
theorem waveL_eq (r : Int) (s : List (List Int)) : waveL r s = nRiff ++ (leB 4 (36 + 2 * s.length * len0 s) ++ (nWave ++ (chunkL nFmt (fmtB s.length r) ++ (chunkL nData (leL 2 (weave s)) ++ [])))) := by
  unfold waveL
  rw [fmtL_chunk]
  have : (leL 2 (weave s)).length = 2 * s.length * len0 s := by rw [leL_length, weave_length, Nat.mul_comm, Nat.mul_comm (len0 s), Nat.mul_assoc]
  simp only [chunkL, leL_one, this, nRiff, nWave, nData, List.append_assoc, List.append_nil, Int.natCast_mul]
  rfl
theorem waveL_length (r : Int) (s : List (List Int)) : (waveL r s).length = 44 + 2 * (len0 s * s.length) := by
  rw [waveL_eq]
  simp only [chunkL, List.length_append, leB_length, fmtB_length, leL_length, weave_length, List.length_nil, show nRiff.length = 4 from rfl, show nWave.length = 4 from rfl, show nFmt.length = 4 from rfl, show nData.length = 4 from rfl]
  omega
theorem back_read {r : Int} {s : List (List Int)} (hv : validB r s = true) : readS (waveL r s) = (r, s, 0) := by
  have V := valid_facts hv
  have h1 := V.one
  have h2 := V.two
  have h3 := V.len
  have hr := rate_range V.rate
  have hN : len0 s * s.length ≤ 16384 := Nat.le_trans (Nat.mul_le_mul h3 h2) (by decide)
  have hlen := waveL_length r s
  have hD : (leL 2 (weave s)).length = 2 * (len0 s * s.length) := by rw [leL_length, weave_length]; omega
  have hd12 : (waveL r s).drop 12 = chunkL nFmt (fmtB s.length r) ++ (chunkL nData (leL 2 (weave s)) ++ []) := by
    rw [waveL_eq, ← List.append_assoc, ← List.append_assoc, List.drop_append, show (nRiff ++ leB 4 (36 + 2 * (s.length : Int) * len0 s) ++ nWave).length = 12 by simp [leB_length, nRiff, nWave], Nat.sub_self, List.drop_zero,
      List.drop_of_length_le (by simp [leB_length, nRiff, nWave]), List.nil_append]
  have hhead : headB (waveL r s) = true := by
    have e1 : (waveL r s).take 4 = nRiff := by rw [waveL_eq, List.take_append, show nRiff.length = 4 from rfl, Nat.sub_self, List.take_zero, List.append_nil, List.take_of_length_le (by decide)]
    have e2 : ((waveL r s).take 8).drop 4 = leB 4 (36 + 2 * (s.length : Int) * len0 s) := by
      rw [waveL_eq, List.take_append, show nRiff.length = 4 from rfl, List.take_of_length_le (by decide), show 8 - 4 = 4 from rfl, List.take_append, leB_length, Nat.sub_self, List.take_zero, List.append_nil, List.take_of_length_le (by rw [leB_length]; omega)]
      rw [List.drop_append, show nRiff.length = 4 from rfl, Nat.sub_self, List.drop_zero, List.drop_of_length_le (by decide), List.nil_append]
    have e3 : ((waveL r s).take 12).drop 8 = nWave := by
      rw [waveL_eq, ← List.append_assoc, List.take_append, List.length_append, leB_length, show nRiff.length = 4 from rfl, List.take_of_length_le (by simp [leB_length, nRiff]), show 12 - (4 + 4) = 4 from rfl, List.take_append, show nWave.length = 4 from rfl, Nat.sub_self, List.take_zero, List.append_nil, List.take_of_length_le (by decide)]
      rw [List.drop_append, List.length_append, leB_length, show nRiff.length = 4 from rfl, show 8 - (4 + 4) = 0 from rfl, List.drop_zero, List.drop_of_length_le (by simp [leB_length, nRiff]), List.nil_append]
    have hm : (2 * (s.length : Int) * (len0 s : Int)) = ((2 * (len0 s * s.length) : Nat) : Int) := by rw [Int.natCast_mul, Int.natCast_mul, Int.mul_assoc, Int.mul_comm (s.length : Int)]; rfl
    unfold headB
    rw [e1, e2, e3, hm, numB_leB_of (by omega) (by show (36 + ((2 * (len0 s * s.length) : Nat) : Int)) < 4294967296; omega), hlen]
    simp
    omega
  have hch : chunksF (((waveL r s).drop 12).length + 1) ((waveL r s).drop 12) = [(nFmt, fmtB s.length r, false), (nData, leL 2 (weave s), false)] := by
    have hl : ((waveL r s).drop 12).length = 30 + 2 * (len0 s * s.length) + 1 + 1 := by rw [List.length_drop, hlen]; omega
    rw [hl, hd12, chunksF_chunk _ _ _ _ rfl (by rw [fmtB_length]; decide) (by rw [fmtB_length]), chunksF_chunk _ _ _ _ rfl (by rw [hD]; omega) (by rw [hD]; omega), chunksF_end]
  have hf1 := fmtB_ch s.length r ⟨by omega, by omega⟩
  have hf2 := fmtB_rate s.length r ⟨by omega, by omega⟩
  have hfe : formatE fst0 (fmtB s.length r) = 0 := by
    unfold formatE
    rw [if_neg (by rw [fmtB_length]; simp [fst0]), hf1, hf2, if_neg (by rw [fmtL_drop, V.rate]; simp; omega)]
  have hfs : formatS fst0 (fmtB s.length r) = ⟨s.length, r, true, false, []⟩ := by
    unfold formatS
    rw [if_neg (by rw [fmtB_length]; simp [fst0]), hf1, hf2]; rfl
  have hl1 : lookE fst0 (nFmt, fmtB s.length r, false) = 0 := by unfold lookE; simp [hfe]
  have hs1 : lookS fst0 (nFmt, fmtB s.length r, false) = ⟨s.length, r, true, false, []⟩ := by unfold lookS; simp [hfs]
  have hde : dataE ⟨s.length, r, true, false, []⟩ (leL 2 (weave s)) = 0 := by
    have hk : ((leL 2 (weave s)).length : Int) = (len0 s : Int) * (2 * (s.length : Int)) := by rw [hD, Int.natCast_mul, Int.natCast_mul, Int.mul_left_comm]; rfl
    unfold dataE
    simp only [hk]
    rw [if_neg (by simp), if_neg (by rw [Int.mul_ediv_cancel _ (by omega)]; omega)]
  have hds : dataS ⟨s.length, r, true, false, []⟩ (leL 2 (weave s)) = ⟨s.length, r, true, true, weave s⟩ := by
    unfold dataS
    rw [if_pos hde, hD, Nat.mul_div_cancel_left _ (by decide), ← weave_length s, dataL_leL _ fun x hx => by
      obtain ⟨c, hc, hxc⟩ := weave_mem V.same hx
      exact V.smp c hc x hxc]
    rfl
  have hl2 : lookE ⟨s.length, r, true, false, []⟩ (nData, leL 2 (weave s), false) = 0 := by unfold lookE; simp [hde, nData, nFmt]
  have hs2 : lookS ⟨s.length, r, true, false, []⟩ (nData, leL 2 (weave s), false) = ⟨s.length, r, true, true, weave s⟩ := by unfold lookS; simp [hds, nData, nFmt]
  have hrc : readC fst0 (chunksF (((waveL r s).drop 12).length + 1) ((waveL r s).drop 12)) = (0, ⟨s.length, r, true, true, weave s⟩) := by
    rw [hch, readC, if_pos hl1, hs1, readC, if_pos hl2, hs2, readC]
  unfold readS
  rw [if_neg (by rw [hlen]; omega), if_neg (by rw [hhead]; simp), hrc]
  simp only []
  rw [if_neg (by simp), if_neg (by simp)]
  exact back_split hv

/-- How many bytes of the file are spoken for, and which. -/
def wt (s : FileS) : Nat := (if s.known = true then 24 else 0) + (if s.done = true then 8 + 2 * s.l.length else 0)
def txt (s : FileS) : List Int := (if s.known = true then fmtL s.ch s.rate else []) ++ (if s.done = true then chunkL nData (leL 2 s.l) else [])
structure GoodF (s : FileS) : Prop where
  ch : s.known = true → (s.ch = 1 ∨ s.ch = 2) ∧ isRateB s.rate = true
  none : s.done = false → s.l = []
  kn : s.done = true → s.known = true ∧ s.l.length % s.ch.toNat = 0 ∧ s.l.length / s.ch.toNat ≤ 8192
  smp : ∀ x ∈ s.l, -32768 ≤ x ∧ x ≤ 32767
theorem GoodF.start : GoodF fst0 := ⟨fun h => (by cases h), fun _ => rfl, fun h => (by cases h), fun x h => (by cases h)⟩
theorem step_fmt {s : FileS} (G : GoodF s) {body : List Int} (he : formatE s body = 0) :
    GoodF (formatS s body) ∧ wt (formatS s body) = wt s + 24 ∧ body.length = 16 ∧ txt (formatS s body) = txt s ++ chunkL nFmt body := by
  unfold formatE at he
  unfold formatS
  split at he
  · cases he
  · rename_i h1
    rw [if_neg h1]
    have hk : s.known = false := by
      cases h : s.known
      · rfl
      · exact absurd (.inl h) h1
    have hl : body.length = 16 := by
      rcases Nat.lt_trichotomy body.length 16 with h | h | h
      · exact absurd (.inr (by omega)) h1
      · exact h
      · exact absurd (.inr (by omega)) h1
    have hd : s.done = false := by
      cases h : s.done
      · rfl
      · have := (G.kn h).1; rw [hk] at this; cases this
    split at he
    · cases he
    · rename_i h2
      have c1 : fmtCh body = 1 ∨ fmtCh body = 2 := by
        have a1 : ¬ fmtCh body < 1 := fun h => h2 (.inl h)
        have a2 : ¬ 2 < fmtCh body := fun h => h2 (.inr (.inl h))
        omega
      have c2 : isRateB (fmtRate body) = true := by
        cases h : isRateB (fmtRate body)
        · exact absurd (.inr (.inr (.inl h))) h2
        · rfl
      have c3 : (fmtL (fmtCh body) (fmtRate body)).drop 8 = body := by
        by_cases h : (fmtL (fmtCh body) (fmtRate body)).drop 8 = body
        · exact h
        · exact absurd (.inr (.inr (.inr h))) h2
      have hno := G.none hd
      refine ⟨⟨fun _ => ⟨c1, c2⟩, fun _ => hno, fun h => ?_, fun x hx => G.smp x hx⟩, ?_, hl, ?_⟩
      · rw [hd] at h; cases h
      · simp [wt, hk, hd]
      · simp only [txt, hk, hd]
        rw [fmtL_drop] at c3
        simp [fmtL_chunk, c3]
theorem step_data {s : FileS} (G : GoodF s) {body : List Int} (hb : Bytes body) (he : dataE s body = 0) :
    GoodF (dataS s body) ∧ wt (dataS s body) = wt s + 8 + body.length ∧ body.length % 2 = 0 ∧ txt (dataS s body) = txt s ++ chunkL nData body := by
  have he0 := he
  unfold dataE at he
  unfold dataS
  rw [if_pos he0]
  split at he
  · cases he
  · rename_i h1
    split at he
    · cases he
    · rename_i h2
      have hd : s.done = false := by
        cases h : s.done
        · rfl
        · exact absurd (.inl h) h1
      have hk : s.known = true := by
        cases h : s.known
        · exact absurd (.inr (.inl h)) h1
        · rfl
      have hm : (body.length : Int) % (2 * s.ch) = 0 := by
        by_cases h : (body.length : Int) % (2 * s.ch) = 0
        · exact h
        · exact absurd (.inr (.inr h)) h1
      have hno := G.none hd
      obtain ⟨hc, hr⟩ := G.ch hk
      have hev : body.length % 2 = 0 := by
        rcases hc with h | h <;> rw [h] at hm <;> omega
      have hL : (s.l ++ dataL body (body.length / 2)).length = body.length / 2 := by rw [hno, List.nil_append, dataL_length]
      refine ⟨⟨fun _ => ⟨hc, hr⟩, fun h => (by cases h), fun _ => ⟨hk, ?_, ?_⟩, fun x hx => ?_⟩, ?_, hev, ?_⟩
      · show (s.l ++ dataL body (body.length / 2)).length % s.ch.toNat = 0
        rw [hL]
        rcases hc with h | h <;> rw [h] at hm ⊢ <;> simp <;> omega
      · show (s.l ++ dataL body (body.length / 2)).length / s.ch.toNat ≤ 8192
        rw [hL]
        rcases hc with h | h <;> rw [h] at h2 hm ⊢ <;> simp <;> omega
      · rw [hno, List.nil_append] at hx
        exact dataL_range _ _ _ hx
      · simp only [wt, hk, hd, if_true]
        rw [hL]
        simp
        omega
      · simp only [txt, hk, hd, if_true]
        rw [hno, List.nil_append, leL_dataL body hb _ (by omega), List.take_of_length_le (by omega)]
        simp
theorem step_look {s : FileS} (G : GoodF s) {nm body : List Int} (hb : Bytes body) (he : lookE s (nm, body, false) = 0) :
    GoodF (lookS s (nm, body, false)) ∧ wt (lookS s (nm, body, false)) ≤ wt s + (8 + body.length + body.length % 2) ∧
      (wt (lookS s (nm, body, false)) = wt s + (8 + body.length + body.length % 2) → body.length % 2 = 0 ∧ txt (lookS s (nm, body, false)) = txt s ++ chunkL nm body) := by
  unfold lookE at he
  unfold lookS
  simp only [Bool.false_eq_true, if_false] at he ⊢
  by_cases h1 : nm = nFmt
  · subst h1
    simp only [if_true] at he ⊢
    obtain ⟨a, b, c, d⟩ := step_fmt G he
    exact ⟨a, by omega, fun _ => ⟨by omega, d⟩⟩
  · rw [if_neg h1] at he ⊢
    by_cases h2 : nm = nData
    · subst h2
      simp only [if_true] at he ⊢
      obtain ⟨a, b, c, d⟩ := step_data G hb he
      exact ⟨a, by omega, fun _ => ⟨c, d⟩⟩
    · rw [if_neg h2]
      exact ⟨G, by omega, fun h => by omega⟩
theorem Bytes.take {b : List Int} (h : Bytes b) (n : Nat) : Bytes (b.take n) := fun x hx => h x (List.mem_of_mem_take hx)
theorem Bytes.drop {b : List Int} (h : Bytes b) (n : Nat) : Bytes (b.drop n) := fun x hx => h x (List.mem_of_mem_drop hx)
theorem ckN_nonneg {b : List Int} (h : Bytes b) : (numB ((b.take 8).drop 4)) = (ckN b : Int) := by
  unfold ckN
  have := (numB_nonneg _ ((h.take 8).drop 4)).1
  omega
theorem chunks_read : ∀ (f : Nat) (b : List Int) (s s' : FileS), GoodF s → Bytes b → b.length < f → readC s (chunksF f b) = (0, s') →
    GoodF s' ∧ wt s' ≤ wt s + b.length ∧ (wt s' = wt s + b.length → txt s' = txt s ++ b) := by
  intro f
  induction f with
  | zero => intro b s s' _ _ h; omega
  | succ f ih =>
    intro b s s' G hB hl hR
    unfold chunksF at hR
    split at hR
    · rename_i h0
      subst h0
      simp only [readC, Prod.mk.injEq, true_and] at hR
      subst hR
      exact ⟨G, by simp, fun _ => by simp⟩
    · rename_i h0
      split at hR
      · simp [readC, lookE] at hR
      · rename_i h1
        have hn : 8 + ckN b + ckN b % 2 ≤ b.length := by omega
        rw [readC] at hR
        split at hR
        · rename_i hE
          have hbl : ((b.take (8 + ckN b)).drop 8).length = ckN b := by rw [List.length_drop, List.length_take]; omega
          have hS := step_look G ((hB.take _).drop _) hE
          rw [hbl] at hS
          have hI := ih _ _ _ hS.1 (hB.drop _) (by rw [List.length_drop]; omega) hR
          have hrl : (b.drop (8 + ckN b + ckN b % 2)).length = b.length - (8 + ckN b + ckN b % 2) := List.length_drop
          rw [hrl] at hI
          refine ⟨hI.1, by omega, fun he => ?_⟩
          obtain ⟨hev, ht⟩ := hS.2.2 (by omega)
          rw [hI.2.2 (by omega), ht, List.append_assoc]
          congr 1
          have hk : chunkL (b.take 4) ((b.take (8 + ckN b)).drop 8) = b.take (8 + ckN b) := by
            unfold chunkL
            rw [hbl, ← ckN_nonneg hB, leB_numB' ((hB.take 8).drop 4) (by rw [List.length_drop, List.length_take]; omega)]
            conv => rhs; rw [← List.take_append_drop 8 (b.take (8 + ckN b)), List.take_take, show min 8 (8 + ckN b) = 8 by omega]
            rw [← List.append_assoc]
            congr 1
            conv => rhs; rw [← List.take_append_drop 4 (b.take 8), List.take_take]
            rfl
          rw [hk, hev, Nat.add_zero, List.take_append_drop]
        · rename_i hE
          exact absurd (congrArg Prod.fst hR) hE

/-! ### What Split gives -/
theorem splitK_form (l : List Int) (n : Nat) (h1 : 1 ≤ n) (h2 : n ≤ 2) : ∀ m, splitK l n (m * n) = (List.range n).map (fun j => (List.range m).map (fun i => nth 0 l (i * n + j))) := by
  intro m
  induction m with
  | zero =>
    rw [Nat.zero_mul]
    show List.replicate n [] = (List.range n).map (fun _ => [])
    rw [List.map_const', List.length_range]
  | succ m ih =>
    rcases (show n = 1 ∨ n = 2 by omega) with rfl | rfl
    · rw [Nat.mul_one] at ih ⊢
      rw [splitK, ih, Nat.mod_one]
      simp [List.range_succ, nth]
    · rw [show (m + 1) * 2 = m * 2 + 1 + 1 by omega, splitK, splitK, ih, show m * 2 % 2 = 0 by omega, show (m * 2 + 1) % 2 = 1 by omega]
      show [_ , _] = [_ , _]
      simp [List.range_succ, nth]
theorem split_valid {l : List Int} {ch r : Int} (hc : ch = 1 ∨ ch = 2) (hr : isRateB r = true) (hm : l.length % ch.toNat = 0) (hd : l.length / ch.toNat ≤ 8192) (hx : ∀ x ∈ l, -32768 ≤ x ∧ x ≤ 32767) :
    ∃ s, splitS l ch r = (r, s, 0) ∧ validB r s = true ∧ (s.length : Int) = ch ∧ weave s = l := by
  have hn1 : 1 ≤ ch.toNat := by omega
  have hn2 : ch.toNat ≤ 2 := by omega
  have hnc : (ch.toNat : Int) = ch := by omega
  have hS : splitS l ch r = (r, splitK l ch.toNat l.length, 0) := by
    unfold splitS
    rw [if_neg (by rw [hr]; simp; omega), if_neg (by omega), if_neg (by omega), if_pos (List.all_eq_true.2 fun x h => by have := hx x h; simp only [smpB, Bool.and_eq_true, decide_eq_true_eq]; exact this)]
  generalize ch.toNat = n at *
  obtain ⟨k, hk⟩ : ∃ k, l.length = k * n := ⟨l.length / n, by have := Nat.div_add_mod l.length n; rw [hm, Nat.add_zero, Nat.mul_comm] at this; exact this.symm⟩
  have hk8 : k ≤ 8192 := by rw [hk, Nat.mul_div_cancel _ (by omega)] at hd; exact hd
  have hF := splitK_form l n hn1 hn2 k
  rw [← hk] at hF
  refine ⟨splitK l n l.length, hS, ?_, by rw [hF]; simpa using hnc, ?_⟩
  · have h0 : len0 (splitK l n l.length) = k := by
      rw [hF]; unfold len0
      rw [nth_map_range [] _ n 0 hn1]; simp
    refine valid_of ⟨hr, by rw [splitK_length]; exact hn1, by rw [splitK_length]; exact hn2, by rw [h0]; exact hk8, fun c hc => ?_, fun c hc x hxc => ?_⟩
    · rw [h0]; rw [hF] at hc
      obtain ⟨j, _, rfl⟩ := List.mem_map.1 hc
      simp
    · rw [hF] at hc
      obtain ⟨j, hj, rfl⟩ := List.mem_map.1 hc
      obtain ⟨i, hi, rfl⟩ := List.mem_map.1 hxc
      have hj := List.mem_range.1 hj
      have hi := List.mem_range.1 hi
      refine hx _ (nth_mem 0 l _ ?_)
      rw [hk]
      have : (i + 1) * n ≤ k * n := Nat.mul_le_mul_right _ hi
      rw [Nat.succ_mul] at this; omega
  · have h0 : len0 (splitK l n l.length) = k := by
      rw [hF]; unfold len0
      rw [nth_map_range [] _ n 0 hn1]; simp
    have hsl : (splitK l n l.length).length = n := splitK_length _ _ _
    have hwl : (weave (splitK l n l.length)).length = l.length := by rw [weave_length, h0, hsl, hk]
    refine List.ext_getElem hwl fun p hp1 hp2 => ?_
    rw [← nth_eq 0 _ p hp1, ← nth_eq 0 l p hp2]
    have hpd : p = p / n * n + p % n := by have := Nat.div_add_mod p n; rw [Nat.mul_comm] at this; omega
    have hpm : p % n < n := Nat.mod_lt _ (by omega)
    have hpk : p / n < k := by
      rw [Nat.div_lt_iff_lt_mul (by omega)]; omega
    have := weaveN_nth (splitK l n l.length) (p % n) (by rw [hsl]; exact hpm) k (p / n) hpk
    rw [hsl, ← hpd] at this
    unfold weave
    rw [h0, this, hF, nth_map_range [] _ n _ hpm, nth_map_range 0 _ k _ hpk, ← hpd]
theorem splitS_err {l : List Int} {ch r : Int} (h : (splitS l ch r).2.2 ≠ 0) : splitS l ch r = (0, [], (splitS l ch r).2.2) := by
  unfold splitS at h ⊢
  split
  · rfl
  · rename_i h1; rw [if_neg h1] at h
    split
    · rfl
    · rename_i h2; rw [if_neg h2] at h
      split
      · rfl
      · rename_i h3; rw [if_neg h3] at h
        split
        · rename_i h4; rw [if_pos h4] at h; exact absurd rfl h
        · rfl
/-- What Read returns: an error and nothing, or a valid sound whose file is no longer, and is it if as long. -/
theorem back_file (b : List Int) (hB : Bytes b) : ((readS b).2.2 ≠ 0 ∧ (readS b).1 = 0 ∧ (readS b).2.1 = []) ∨
    ((readS b).2.2 = 0 ∧ validB (readS b).1 (readS b).2.1 = true ∧ (waveL (readS b).1 (readS b).2.1).length ≤ b.length ∧ ((waveL (readS b).1 (readS b).2.1).length = b.length → waveL (readS b).1 (readS b).2.1 = b)) := by
  by_cases h0 : b.length < 12
  · have : readS b = (0, [], 3) := by unfold readS; rw [if_pos h0]
    rw [this]; exact .inl ⟨by decide, rfl, rfl⟩
  by_cases h1 : headB b = false
  · have : readS b = (0, [], 4) := by unfold readS; rw [if_neg h0, if_pos h1]
    rw [this]; exact .inl ⟨by decide, rfl, rfl⟩
  obtain ⟨e, st, hR⟩ : ∃ e st, readC fst0 (chunksF ((b.drop 12).length + 1) (b.drop 12)) = (e, st) := ⟨_, _, rfl⟩
  have hr0 : readS b = if e ≠ 0 then (0, [], e) else if st.done = false then (0, [], 4) else splitS st.l st.ch st.rate := by
    unfold readS; rw [if_neg h0, if_neg h1, hR]
  by_cases h2 : e = 0
  · subst h2
    rw [if_neg (by simp)] at hr0
    by_cases h3 : st.done = false
    · rw [if_pos h3] at hr0
      rw [hr0]; exact .inl ⟨by decide, rfl, rfl⟩
    · rw [if_neg h3] at hr0
      have hd : st.done = true := by simpa using h3
      obtain ⟨G, hle, heq⟩ := chunks_read _ _ _ _ GoodF.start (hB.drop 12) (by omega) hR
      obtain ⟨hk, hm, hdv⟩ := G.kn hd
      obtain ⟨hc, hr⟩ := G.ch hk
      obtain ⟨s, hS, hv, hsl, hw⟩ := split_valid hc hr hm hdv G.smp
      rw [hS] at hr0
      right
      rw [hr0]
      have hlw : (waveL st.rate s).length = 44 + 2 * st.l.length := by rw [waveL_length, ← weave_length, hw]
      have hwt : wt st = 32 + 2 * st.l.length := by simp only [wt, hk, hd, if_true]; omega
      have hw0 : wt fst0 = 0 := rfl
      have hdl : (b.drop 12).length = b.length - 12 := List.length_drop
      refine ⟨rfl, hv, by show (waveL st.rate s).length ≤ _; omega, fun hE => ?_⟩
      have hE : (waveL st.rate s).length = b.length := hE
      show waveL st.rate s = b
      have ht := heq (by omega)
      have ht0 : txt fst0 = [] := rfl
      rw [ht0, List.nil_append] at ht
      have hh : headB b = true := by simpa using h1
      simp only [headB, Bool.and_eq_true, decide_eq_true_eq] at hh
      obtain ⟨e1, e2, e3⟩ := hh
      have hsz : leB 4 (36 + 2 * (s.length : Int) * len0 s) = (b.take 8).drop 4 := by
        have : (36 + 2 * (s.length : Int) * (len0 s : Int)) = numB ((b.take 8).drop 4) := by
          rw [e2, ← hE, hlw, ← hw, weave_length, Int.mul_assoc]
          have : (s.length : Int) * (len0 s : Int) = ((len0 s * s.length : Nat) : Int) := by rw [Int.natCast_mul, Int.mul_comm]
          rw [this]; omega
        rw [this, leB_numB' ((hB.take 8).drop 4) (by rw [List.length_drop, List.length_take]; omega)]
      conv => rhs; rw [← List.take_append_drop 12 b, ← ht]
      rw [waveL_eq, hsz, hw, hsl]
      simp only [txt, hk, hd, if_true]
      rw [fmtL_chunk, List.append_nil, ← List.append_assoc, ← List.append_assoc]
      congr 1
      rw [← e1, ← e3]
      have a1 : b.take 12 = b.take 8 ++ (b.take 12).drop 8 := by
        conv => lhs; rw [← List.take_append_drop 8 (b.take 12), List.take_take, show min 8 12 = 8 from rfl]
      have a2 : b.take 8 = b.take 4 ++ (b.take 8).drop 4 := by
        conv => lhs; rw [← List.take_append_drop 4 (b.take 8), List.take_take, show min 4 8 = 4 from rfl]
      rw [← a2]
      exact a1.symm
  · rw [if_pos h2] at hr0
    rw [hr0]; exact .inl ⟨h2, rfl, rfl⟩
/-! ### The file is bytes -/
theorem byteAt_range (n : Int) (i : Nat) : 0 ≤ byteAt n i ∧ byteAt n i < 256 := by
  unfold byteAt
  generalize n / 2 ^ (8 * i) = m
  omega
theorem leB_bytes (m : Nat) (n : Int) : Bytes (leB m n) := fun x hx => by
  obtain ⟨i, _, rfl⟩ := List.mem_map.1 hx
  exact byteAt_range n i
theorem leL_bytes (m : Nat) (l : List Int) : Bytes (leL m l) := fun x hx => by
  obtain ⟨n, _, hx⟩ := List.mem_flatMap.1 hx
  exact leB_bytes m n x hx
theorem Bytes.app {xs ys : List Int} (h : Bytes xs) (k : Bytes ys) : Bytes (xs ++ ys) := fun x hx => by
  rcases List.mem_append.1 hx with hx | hx
  · exact h x hx
  · exact k x hx
theorem waveL_bytes (r : Int) (s : List (List Int)) : Bytes (waveL r s) := by
  have n1 : Bytes nRiff := by unfold Bytes nRiff; decide
  have n2 : Bytes nWave := by unfold Bytes nWave; decide
  have n3 : Bytes nFmt := by unfold Bytes nFmt; decide
  have n4 : Bytes nData := by unfold Bytes nData; decide
  rw [waveL_eq]
  unfold chunkL fmtB
  exact n1.app ((leB_bytes _ _).app (n2.app ((n3.app ((leB_bytes _ _).app ((leB_bytes _ _).app ((leB_bytes _ _).app ((leB_bytes _ _).app ((leB_bytes _ _).app ((leB_bytes _ _).app (leB_bytes _ _)))))))).app ((n4.app ((leB_bytes _ _).app (leL_bytes _ _))).app (fun x hx => by cases hx)))))
theorem waveL_small {r : Int} {s : List (List Int)} (hv : validB r s = true) : (waveL r s).length ≤ 60000 := by
  have V := valid_facts hv
  have := Nat.mul_le_mul V.len V.two
  rw [waveL_length]
  omega
end Go.Proofs.YtijcecakofmhcaaDoor
