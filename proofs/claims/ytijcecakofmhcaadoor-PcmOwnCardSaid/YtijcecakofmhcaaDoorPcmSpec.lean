/- Plain functions on lists: what the functions of pcm compute. No program is named. -/
import Derived.Test.YtijcecakofmhcaaDoorLib
namespace Go.Proofs.YtijcecakofmhcaaDoor

def ratesL : List Int := [8000, 11025, 12000, 16000, 22050, 24000, 32000, 44100, 48000]
def hasB (xs : List Int) (x : Int) : Bool := xs.contains x
def isRateB (n : Int) : Bool := hasB ratesL n
def smpB (n : Int) : Bool := decide (-32768 ≤ n) && decide (n ≤ 32767)
def idx (xs : List Int) (x : Int) : Int := match xs.idxOf? x with | some i => (i : Int) | none => -1
def len0 (s : List (List Int)) : Nat := (nth [] s 0).length
def chanB (n : Nat) (c : List Int) : Bool := c.length == n && c.all smpB
/-- A valid sound. -/
def validB (r : Int) (s : List (List Int)) : Bool := isRateB r && (decide (1 ≤ s.length) && (decide (s.length ≤ 2) && (decide (len0 s ≤ 8192) && s.all (chanB (len0 s)))))
def checkE (r : Int) (s : List (List Int)) : Int := if validB r s then 0 else 1

theorem idx_hit (xs : List Int) (x : Int) (k : Nat) (h : k < xs.length) (he : nth 0 xs k = x) (hn : ∀ j, j < k → nth 0 xs j ≠ x) : idx xs x = k := by
  have : xs.idxOf? x = some k := by
    rw [List.idxOf?_eq_some_iff]
    refine ⟨h, ?_, fun j hj => ?_⟩
    · rw [← nth_eq 0 xs k h]; exact he
    · rw [← nth_eq 0 xs j (by omega)]; exact hn j hj
  simp [idx, this]
theorem idx_miss (xs : List Int) (x : Int) (hn : ∀ j, j < xs.length → nth 0 xs j ≠ x) : idx xs x = -1 := by
  have : xs.idxOf? x = none := by
    rw [List.idxOf?_eq_none_iff]
    intro hm
    obtain ⟨i, hi, he⟩ := List.mem_iff_getElem.1 hm
    exact hn i hi (by rw [nth_eq 0 xs i hi]; exact he)
  simp [idx, this]
theorem idx_contains (xs : List Int) (x : Int) : decide (0 ≤ idx xs x) = hasB xs x := by
  unfold idx hasB
  cases h : xs.idxOf? x with
  | none =>
    rw [List.idxOf?_eq_none_iff] at h
    simp [h]
  | some i =>
    have h1 := List.idxOf?_eq_some_iff.1 h
    obtain ⟨hi, he, _⟩ := h1
    have : x ∈ xs := by rw [← he]; exact List.getElem_mem hi
    simp [this]

/-! ### samples position by position -/
def col (s : List (List Int)) (i : Nat) : List Int := s.map fun c => nth 0 c i
def weaveN (s : List (List Int)) (k : Nat) : List Int := (List.range k).flatMap (col s)
def weave (s : List (List Int)) : List Int := weaveN s (len0 s)
theorem col_length (s : List (List Int)) (i : Nat) : (col s i).length = s.length := by simp [col]
theorem weaveN_succ (s : List (List Int)) (k : Nat) : weaveN s (k + 1) = weaveN s k ++ col s k := by simp [weaveN, List.range_succ]
theorem weaveN_length (s : List (List Int)) (k : Nat) : (weaveN s k).length = k * s.length := by
  induction k with
  | zero => simp [weaveN]
  | succ k ih => rw [weaveN_succ, List.length_append, ih, col_length, Nat.succ_mul]
theorem col_take (s : List (List Int)) (i j : Nat) (h : j < s.length) : (col s i).take (j + 1) = (col s i).take j ++ [nth 0 (nth [] s j) i] := by
  rw [take_succ_nth 0 _ _ (by rw [col_length]; exact h)]
  congr 2
  rw [nth_eq 0 _ _ (by rw [col_length]; exact h), nth_eq [] _ _ h]
  simp [col]
theorem len0_mem {s : List (List Int)} {n : Nat} (h : ∀ c ∈ s, c.length = n) (h1 : 1 ≤ s.length) : len0 s = n := h _ (nth_mem [] s 0 h1)

/-! ### what the functions return -/
structure VFacts (r : Int) (s : List (List Int)) : Prop where
  rate : isRateB r = true
  one : 1 ≤ s.length
  two : s.length ≤ 2
  len : len0 s ≤ 8192
  same : ∀ c ∈ s, c.length = len0 s
  smp : ∀ c ∈ s, ∀ x ∈ c, -32768 ≤ x ∧ x ≤ 32767
theorem valid_facts {r : Int} {s : List (List Int)} (h : validB r s = true) : VFacts r s := by
  simp only [validB, Bool.and_eq_true, decide_eq_true_eq, List.all_eq_true, chanB, beq_iff_eq, smpB] at h
  exact ⟨h.1, h.2.1, h.2.2.1, h.2.2.2.1, fun c hc => (h.2.2.2.2 c hc).1, fun c hc x hx => (h.2.2.2.2 c hc).2 x hx⟩
theorem valid_of {r : Int} {s : List (List Int)} (h : VFacts r s) : validB r s = true := by
  simp only [validB, Bool.and_eq_true, decide_eq_true_eq, List.all_eq_true, chanB, beq_iff_eq, smpB]
  exact ⟨h.rate, h.one, h.two, h.len, fun c hc => ⟨h.same c hc, fun x hx => h.smp c hc x hx⟩⟩
theorem checkE_ok {r : Int} {s : List (List Int)} (h : validB r s = true) : checkE r s = 0 := by simp [checkE, h]
theorem checkE_no {r : Int} {s : List (List Int)} (h : validB r s = false) : checkE r s = 1 := by simp [checkE, h]
def framesN (s : List (List Int)) : Nat := (len0 s + 127) / 128
def framesS (r : Int) (s : List (List Int)) : Int × Int := if validB r s then ((framesN s : Nat), 0) else (0, 1)
def interS (r : Int) (s : List (List Int)) : List Int × Int := if validB r s then (weave s, 0) else ([], 1)
def padMore (s : List (List Int)) : Nat := framesN s * 128 - len0 s
def padS (r : Int) (s : List (List Int)) : Int × List (List Int) × Int := if validB r s then (r, s.map (fun c => c ++ List.replicate (padMore s) 0), 0) else (0, [], 1)
def monoL (s : List (List Int)) : List Int := (List.range (len0 s)).map fun i => if s.length = 2 then (nth 0 (nth [] s 0) i + nth 0 (nth [] s 1) i) / 2 else nth 0 (nth [] s 0) i
def monoS (r : Int) (s : List (List Int)) : Int × List (List Int) × Int := if validB r s then (r, [monoL s], 0) else (0, [], 1)
def wideS (r : Int) (s : List (List Int)) : Int × List (List Int) × Int := if validB r s then (r, [nth [] s 0, nth [] s (s.length - 1)], 0) else (0, [], 1)
def cutOk (s : List (List Int)) (a b : Int) : Bool := decide (0 ≤ a) && (decide (a ≤ b) && decide (b ≤ len0 s))
def cutS (r : Int) (s : List (List Int)) (a b : Int) : Int × List (List Int) × Int := if validB r s then (if cutOk s a b then (r, s.map (fun c => (c.take b.toNat).drop a.toNat), 0) else (0, [], 6)) else (0, [], 1)
def alikeE (r : Int) (s : List (List Int)) (r2 : Int) (s2 : List (List Int)) : Int := if validB r s && validB r2 s2 then (if r = r2 ∧ s.length = s2.length then 0 else 4) else 1
def joinS (r : Int) (s : List (List Int)) (r2 : Int) (s2 : List (List Int)) : Int × List (List Int) × Int :=
  if alikeE r s r2 s2 = 0 then (if len0 s + len0 s2 ≤ 8192 then (r, (List.range s.length).map (fun j => nth [] s j ++ nth [] s2 j), 0) else (0, [], 2)) else (0, [], alikeE r s r2 s2)
def mixV (g h x y : Int) : Int := min (max ((g * x + h * y + 128) / 256) (-32768)) 32767
def mixL (g h : Int) (xs ys : List Int) (n : Nat) : List Int := (List.range n).map fun i => mixV g h (nth 0 xs i) (nth 0 ys i)
def gainOk (g h : Int) : Bool := decide (max g h ≤ 1024) && decide (-1024 ≤ min g h)
def mixS (r : Int) (s : List (List Int)) (r2 : Int) (s2 : List (List Int)) (g h : Int) : Int × List (List Int) × Int :=
  if validB r s && validB r2 s2 && gainOk g h then (if alikeE r s r2 s2 = 0 then (r, (List.range s.length).map (fun j => mixL g h (nth [] s j) (nth [] s2 j) (max (len0 s) (len0 s2))), 0) else (0, [], alikeE r s r2 s2)) else (0, [], 1)
def absMax (m : Int) (x : Int) : Int := max (max m x) (-x)
def peakL (xs : List Int) : Int := xs.foldl absMax 0
def peakS (r : Int) (s : List (List Int)) : Int × Int := if validB r s then (peakL (weave s), 0) else (0, 1)
def sqSum (xs : List Int) : Int := xs.foldl (fun a x => a + x * x) 0
def powerS (r : Int) (s : List (List Int)) : List Int × Int := if validB r s then (s.map sqSum, 0) else ([], 1)
end Go.Proofs.YtijcecakofmhcaaDoor
