/- Rows that grow; pcm: little, number: what each call returns. -/
import Derived.Test.YtijcecakofmhcaaDoorPcmT
import Derived.Laws.BitsAllLaws
import Derived.ArgAppend
namespace Go.Proofs.YtijcecakofmhcaaDoor
open Go.RowKit

/-- From w on the row v has become u, which holds ys: nothing else has changed. -/
structure Grew (e : TypeId) (ik : IntKind) (base : Nat) (w : World) (v : Value) (wr : World) (u : Value) (ys : List Int) : Prop where
  own : OwnI e ik base wr u ys
  grown : w.grownBy wr v.ownBlock
  at_ : u.ownBlock = v.ownBlock ∨ ∃ b, u.ownBlock = some b ∧ w.heap.size ≤ b
  below : Below base w wr
section
variable {e : TypeId} {ik : IntKind} {base : Nat} {w w1 w2 : World} {v u t : Value} {ys zs : List Int}
theorem Grew.refl (h : OwnI e ik base w v ys) : Grew e ik base w v w v ys := ⟨h, World.grownBy.refl _ _, .inl rfl, Below.refl _ _⟩
theorem Grew.trans (h : Grew e ik base w v w1 u ys) (k : Grew e ik base w1 u w2 t zs) : Grew e ik base w v w2 t zs := by
  have hs := h.grown.size
  refine ⟨k.own, ?_, ?_, h.below.trans k.below⟩
  · rcases h.at_ with e | ⟨b, e, hb⟩
    · exact grown_trans h.grown (e ▸ k.grown)
    · exact grown_row h.grown k.grown (fun g hg => by rw [e] at hg; have := Option.some.inj hg; omega)
  · rcases k.at_ with e | ⟨b, e, hb⟩
    · rw [e]; exact h.at_
    · exact .inr ⟨b, e, by omega⟩
theorem Grew.then_ (h : Grew e ik base w v w1 u ys) (k : Below w1.heap.size w1 w2) (hb : base ≤ w.heap.size) : Grew e ik base w v w2 u ys :=
  ⟨h.own.below k, grown_row h.grown (grown_of_below k none) (fun _ e => by cases e), h.at_, below_then h.below (Nat.le_trans hb h.grown.size) k⟩
/-- Another list stands. -/
theorem Grew.sl {α : Type} {k : Kd α} {ok : Nat → Prop} {A : Option Addr} {c : Nat} {xs : List α} (h : Grew e ik base w v w1 u ys) (hs : Sl k ok w A c xs) (hn : ∀ b, b < w.heap.size → ok b → v.ownBlock ≠ some b) :
    Sl k (fun b => ok b ∧ b < w.heap.size) w1 A c xs :=
  (hs.weak (ok' := fun b => (ok b ∧ b < w.heap.size)) (fun _ hb ho => ⟨ho, hb⟩)).keep ((Keep.of_grown h.grown).weak fun b hb => Ne.symm (hn b hb.2 hb.1))
end

def byteAt (n : Int) (i : Nat) : Int := (n / 2 ^ (8 * i)) % 256
def leB (m : Nat) (n : Int) : List Int := (List.range m).map (byteAt n)
theorem leB_succ (m : Nat) (n : Int) : leB (m + 1) n = leB m n ++ [byteAt n m] := by simp [leB, List.range_succ]
theorem leB_length (m : Nat) (n : Int) : (leB m n).length = m := by simp [leB]
def leL (m : Nat) (l : List Int) : List Int := l.flatMap (leB m)
theorem leL_length (m : Nat) (l : List Int) : (leL m l).length = l.length * m := by
  induction l with
  | nil => simp [leL]
  | cons x l ih =>
    have : leL m (x :: l) = leB m x ++ leL m l := rfl
    rw [this, List.length_append, ih, leB_length, List.length_cons, Nat.succ_mul]; omega
theorem leL_take (m : Nat) (l : List Int) (k : Nat) (h : k < l.length) : leL m (l.take (k + 1)) = leL m (l.take k) ++ leB m (nth 0 l k) := by
  rw [take_succ_nth 0 l k h]; simp [leL]
theorem infoY : (Tryd.prog.info? 5).map (fun i => (i.zero, i.size, i.bytes)) = some (some (.int .u8 0), 1, 1) := by kernel_rfl

set_option maxHeartbeats 1000000 in
set_option maxRecDepth 100000 in
theorem little_any (base : Nat) (v : Value) (xs : List Int) (m : Nat) (A : Option Addr) (c : Nat) (l : List Int) (w : World) (ok : Nat → Prop) (hv : OwnI 5 .u8 base w v xs) (hL : Sl (kInt .i64) ok w A c l) (hok : ∀ b, b < w.heap.size → ok b → v.ownBlock ≠ some b)
    (hb : base ≤ w.heap.size) (hm : m ≤ 8) (hl : xs.length + l.length * 8 ≤ 1000000) :
    Calls Tryd.prog 53 #[v, .int .i64 m, .slice A l.length c] w fun e w' => ∃ u, e = .returned u ∧ Grew 5 .u8 base w v w' u (xs ++ leL m l) := by
  have hn := hL.len
  go_enter Tryd.func53, Tryd.ntmps53
  go_wp2
  go_loopw [0, 12] (fun u i wr => ∃ k : Nat, k ≤ l.length ∧ i = .int .i64 k ∧ Grew 5 .u8 base w v wr u (xs ++ leL m (l.take k))) (fun _ i _ => l.length - (intOf i).toNat)
  case atStart => exact ⟨0, Nat.zero_le _, rfl, by simpa [leL] using Grew.refl hv⟩
  case round =>
    obtain ⟨k, hk, rfl, hG⟩ := hrel
    by_cases hlt : k < l.length
    · have hLr := hG.sl hL hok
      obtain ⟨ad, rfl, hc⟩ := rd_int hLr k hlt
      go_wp2_with fail
      go_loopw [0, 17] (fun u i wq => ∃ j : Nat, j ≤ m ∧ i = .int .i64 j ∧ Grew 5 .u8 base w v wq u (xs ++ leL m (l.take k) ++ leB j (nth 0 l k))) (fun _ i _ => m - (intOf i).toNat)
      case atStart => exact ⟨0, Nat.zero_le _, rfl, by simpa [leB] using hG⟩
      case round =>
        obtain ⟨j, hj, rfl, hQ⟩ := hrel
        by_cases hjm : j < m
        · have hlen : (xs ++ leL m (l.take k) ++ leB j (nth 0 l k)).length + 1 ≤ 1000000 := by
            have h5 : k * m ≤ k * 8 := Nat.mul_le_mul (Nat.le_refl _) hm
            rw [List.length_append, List.length_append, leL_length, leB_length, List.length_take, Nat.min_eq_left (by omega)]; omega
          have hO := hQ.own
          have hbs : base ≤ wr.heap.size := Nat.le_trans hb hQ.grown.size
          go_wp2_with (at_builtin; go_loud (refine append_one (w0 := wr) base rfl (.tmp 20) (.tmp 26) 25 5 .u8 1 rfl Tryd.underlying25 infoY (by decide) _ _ (nth 0 l k / 2 ^ (8 * j) % 256) rfl rfl hO (Below.refl _ _) hbs (by omega) ?_); intro v1 w4 hO1 hB1 hg1 ha1)
          have hQ1 := hQ.trans ⟨hO1, hg1, ha1, hB1⟩
          rw [List.append_assoc _ (leB j _), show nth 0 l k / 2 ^ (8 * j) % 256 = byteAt (nth 0 l k) j from rfl, ← leB_succ] at hQ1
          go_roundw
          case rel => exact ⟨j + 1, by omega, by go_num, hQ1⟩
          case measure => simp [intOf]; omega
        · obtain rfl : j = m := by omega
          rw [List.append_assoc, ← leL_take j l k hlt] at hQ
          go_wp2
          go_roundw
          case rel => exact ⟨k + 1, by omega, by go_num, hQ⟩
          case measure => simp [intOf]; omega
    · obtain rfl : k = l.length := by omega
      rw [List.take_length] at hG
      go_wp2
      go_ret
      exact ⟨_, rfl, hG⟩

/-- 'append' of one number to a full slice: a new row. -/
theorem append_full {P : Program} {ops : Array Oper} {rest : List Oper} {o : Oper} {a : Act} {Q : Exit → Act → World → Prop} {W : World} (hgd : o.guard = none) (s x : Operand) (t e : TypeId) (k : IntKind) (bytes : Nat)
    (ho : o.op = .call { callee := .builtin .append, args := #[s, x], argTypes := #[t, t] })
    (ht : P.underlying t = some (.slice e)) (hinfo : (P.info? e).map (fun i => (i.zero, i.size, i.bytes)) = some (some (.int k 0), 1, bytes)) (hb0 : 0 < bytes)
    (ad : Addr) (xs : List Int) (y : Int) {ok : Nat → Prop} (hs : a.eval s = .slice (some ad) xs.length xs.length) (hx : a.eval x = .slice (some ⟨W.heap.size, 0, none⟩) 1 1)
    (HR : Sl (kInt k) ok W (some ad) xs.length xs) (hl : (xs.length + 1) * bytes ≤ 140737488355328)
    (h : ∀ v1 w1, OwnI e k W.heap.size w1 v1 (xs ++ [y]) → Below W.heap.size W w1 → wpList P ops Q rest (a.put o.dst v1) w1) :
    wpList P ops Q (o :: rest) a (W.alloc (.cells #[.int k y] e)) := by
  obtain ⟨i0, hi, hzz⟩ := Option.map_eq_some_iff.1 hinfo
  simp only [Prod.mk.injEq] at hzz
  obtain ⟨hz0, hz1, hz2⟩ := hzz
  have hlen : xs.length + 1 ≤ 140737488355328 := Nat.le_trans (Nat.le_mul_of_pos_right _ hb0) hl
  have hB := below_alloc (Below.refl W.heap.size W) (.cells #[.int k y] e)
  have HR' := HR.below hB
  refine wpList_append_grows _ hgd s x t ho e i0 (.int k 0) 1 bytes ht hi hz0 hz1 hz2 rfl (by decide) (some ad) xs.length xs.length (nums k xs) hs (fun e => by cases e) (by simp [nums]) (fun b hb j u hu => ?_)
    ⟨W.heap.size, 0, none⟩ 1 1 [.int k y] hx rfl (fun j u hu => ?_) (fun u hu => by simp at hu; subst hu; rfl) (by omega) (by simp only [maxLen]; omega) hl (fun v' w' hr hg => ?_)
  · injection hb with hb
    subst hb
    have hj : j < xs.length := by
      rcases Nat.lt_or_ge j xs.length with h | h
      · exact h
      · simp [nums, List.getElem?_eq_none h] at hu
    obtain ⟨ad', h', hc⟩ := rd_int HR' j hj
    injection h' with h'
    subst h'
    rw [nums_get k xs j hj] at hu
    injection hu with hu
    rw [hc, hu]
  · have hj : j = 0 := by
      rcases Nat.eq_zero_or_pos j with h | h
      · exact h
      · rw [List.getElem?_eq_none (by simp; omega)] at hu; cases hu
    subst hj
    injection hu with hu
    subst hu
    rw [add_plain]
    exact (show Blk (W.alloc (.cells #[.int k y] e)) W.heap.size _ _ from heap_alloc_new W _).cell 0 rfl
  · refine h v' w' ?_ (below2 hB ⟨hg.os, hg.tape, hg.output, hg.size, fun i hi => hg.block i hi (by simp)⟩)
    have hh : OwnI e k (W.alloc (.cells #[.int k y] e)).heap.size w' v' (xs ++ [y]) := by
      unfold OwnI
      rw [List.length_append, nums_append]
      exact hr
    exact hh.mono hB.size

set_option maxHeartbeats 1000000 in
set_option maxRecDepth 100000 in
theorem little_full (ad : Addr) (xs : List Int) (m : Nat) (A : Option Addr) (c : Nat) (l : List Int) (w : World) (ok ok2 : Nat → Prop) (hv : Sl (kInt .u8) ok2 w (some ad) xs.length xs) (hL : Sl (kInt .i64) ok w A c l)
    (hm0 : 0 < m) (hl0 : 0 < l.length) (hm : m ≤ 8) (hl : xs.length + l.length * 8 ≤ 1000000) :
    Calls Tryd.prog 53 #[.slice (some ad) xs.length xs.length, .int .i64 m, .slice A l.length c] w fun e w' => ∃ u, e = .returned u ∧ OwnI 5 .u8 w.heap.size w' u (xs ++ leL m l) ∧ Below w.heap.size w w' := by
  have hn := hL.len
  go_enter Tryd.func53, Tryd.ntmps53
  go_wp2
  go_loopw [0, 12] (fun u i wr => ∃ k : Nat, k ≤ l.length ∧ i = .int .i64 k ∧ ((k = 0 ∧ u = .slice (some ad) xs.length xs.length ∧ wr = w) ∨ (0 < k ∧ OwnI 5 .u8 w.heap.size wr u (xs ++ leL m (l.take k)) ∧ Below w.heap.size w wr))) (fun _ i _ => l.length - (intOf i).toNat)
  case atStart => exact ⟨0, Nat.zero_le _, rfl, .inl ⟨rfl, rfl, rfl⟩⟩
  case round =>
    obtain ⟨k, hk, rfl, hG⟩ := hrel
    by_cases hlt : k < l.length
    · have hBr : Below w.heap.size w wr := by
        rcases hG with ⟨_, _, rfl⟩ | ⟨_, _, h⟩
        · exact Below.refl _ _
        · exact h
      have hLr := hL.below hBr
      obtain ⟨ad2, rfl, hc⟩ := rd_int hLr k hlt
      go_wp2_with fail
      go_loopw [0, 17] (fun u i wq => ∃ j : Nat, j ≤ m ∧ i = .int .i64 j ∧ ((k = 0 ∧ j = 0 ∧ u = .slice (some ad) xs.length xs.length ∧ wq = w) ∨ (0 < k + j ∧ OwnI 5 .u8 w.heap.size wq u (xs ++ leL m (l.take k) ++ leB j (nth 0 l k)) ∧ Below w.heap.size w wq))) (fun _ i _ => m - (intOf i).toNat)
      case atStart =>
        refine ⟨0, Nat.zero_le _, rfl, ?_⟩
        rcases hG with ⟨rfl, rfl, rfl⟩ | ⟨h1, h2, h3⟩
        · exact .inl ⟨rfl, rfl, rfl, rfl⟩
        · exact .inr ⟨by omega, by simpa [leB] using h2, h3⟩
      case round =>
        obtain ⟨j, hj, rfl, hQ⟩ := hrel
        by_cases hjm : j < m
        · have hlen : (xs ++ leL m (l.take k) ++ leB j (nth 0 l k)).length + 1 ≤ 1000000 := by
            have h5 : k * m ≤ k * 8 := Nat.mul_le_mul (Nat.le_refl _) hm
            rw [List.length_append, List.length_append, leL_length, leB_length, List.length_take, Nat.min_eq_left (by omega)]; omega
          rcases hQ with ⟨rfl, rfl, rfl, rfl⟩ | ⟨hkj, hO, hB⟩
          · go_wp2_with (at_builtin; go_loud (refine append_full rfl (.tmp 20) (.tmp 26) 25 5 .u8 1 rfl Tryd.underlying25 infoY (by decide) ad xs (nth 0 l 0 % 256) rfl rfl hv (by omega) ?_); intro v1 w4 hO1 hB1)
            go_roundw
            case rel => exact ⟨_, _, _, ⟨1, by omega, rfl, .inr ⟨by omega, by simpa [leL, leB, byteAt] using hO1⟩⟩, rfl, rfl, rfl⟩
            case measure => simp [intOf]; omega
          · go_wp2_with (at_builtin; go_loud (refine append_one (w0 := w) w.heap.size rfl (.tmp 20) (.tmp 26) 25 5 .u8 1 rfl Tryd.underlying25 infoY (by decide) _ _ (nth 0 l k / 2 ^ (8 * j) % 256) rfl rfl hO hB hB.size (by omega) ?_); intro v1 w4 hO1 hB1 _ _)
            rw [List.append_assoc _ (leB j _), show nth 0 l k / 2 ^ (8 * j) % 256 = byteAt (nth 0 l k) j from rfl, ← leB_succ] at hO1
            go_roundw
            case rel => exact ⟨j + 1, by omega, by go_num, .inr ⟨by omega, hO1, hB1⟩⟩
            case measure => simp [intOf]; omega
        · obtain rfl : j = m := by omega
          rcases hQ with ⟨_, h2, _⟩ | ⟨hkj, hO, hB⟩
          · omega
          · rw [List.append_assoc, ← leL_take j l k hlt] at hO
            go_wp2
            go_roundw
            case rel => exact ⟨k + 1, by omega, by go_num, .inr ⟨by omega, hO, hB⟩⟩
            case measure => simp [intOf]; omega
    · obtain rfl : k = l.length := by omega
      rcases hG with ⟨h2, _⟩ | ⟨_, hO, hB⟩
      · omega
      · rw [List.take_length] at hO
        go_wp2
        go_ret
        exact ⟨_, rfl, hO, hB⟩

theorem i64_or_nat (a b : Nat) (ha : a < 9223372036854775808) (hb : b < 9223372036854775808) : bits .or .i64 (a : Int) (b : Int) = ((a ||| b : Nat) : Int) := by
  have hx : a ||| b < 2 ^ 63 := Nat.or_lt_two_pow (by omega) (by omega)
  show IntKind.i64.wrap ((BitVec.ofInt 64 (a : Int) ||| BitVec.ofInt 64 (b : Int)).toNat : Int) = _
  rw [BitVec.toNat_or, ofInt_u64 a (by omega), ofInt_u64 b (by omega)]
  exact IntWalk.i64_in _ (by omega)
/-- A byte is laid above the ones that are there. -/
theorem or_byte (a x : Int) (k : Nat) (hk : k ≤ 6) (a0 : 0 ≤ a) (a1 : a < 256 ^ k) (x0 : 0 ≤ x) (x1 : x < 256) : bits .or .i64 a (wrap64 (x * 2 ^ (8 * k))) = a + x * 256 ^ k := by
  obtain ⟨A, rfl⟩ := Int.eq_ofNat_of_zero_le a0
  obtain ⟨X, rfl⟩ := Int.eq_ofNat_of_zero_le x0
  have hp : (2 : Nat) ^ (8 * k) = 256 ^ k := by rw [Nat.pow_mul]
  have hA : A < 2 ^ (8 * k) := by
    rw [hp]
    have a2 : (A : Int) < ((256 ^ k : Nat) : Int) := by rw [Int.natCast_pow]; exact a1
    exact Int.ofNat_lt.1 a2
  have hP : (2 : Nat) ^ (8 * k) ≤ 2 ^ 48 := Nat.pow_le_pow_right (by decide) (by omega)
  have hX : X * 2 ^ (8 * k) ≤ 255 * 2 ^ 48 := Nat.mul_le_mul (by omega) hP
  have e : ((X : Int) * 2 ^ (8 * k)) = ((X * 2 ^ (8 * k) : Nat) : Int) := by rw [Int.natCast_mul, Int.natCast_pow]; rfl
  have e2 : ((X : Int) * 256 ^ k) = ((X * 2 ^ (8 * k) : Nat) : Int) := by rw [hp, Int.natCast_mul, Int.natCast_pow]; rfl
  rw [e, e2, IntWalk.wrap64_in _ (by omega), i64_or_nat A _ (by omega) (by omega)]
  have := Nat.shiftLeft_add_eq_or_of_lt hA X
  rw [Nat.shiftLeft_eq] at this
  rw [Nat.or_comm, ← this]
  omega
def numB : List Int → Int
  | [] => 0
  | x :: xs => x + 256 * numB xs
theorem numB_nonneg (xs : List Int) (h : ∀ x ∈ xs, 0 ≤ x ∧ x < 256) : 0 ≤ numB xs ∧ numB xs < 256 ^ xs.length := by
  induction xs with
  | nil => exact ⟨Int.le_refl _, by simp [numB]⟩
  | cons x xs ih =>
    have h1 := h x (by simp)
    have h2 := ih fun y hy => h y (by simp [hy])
    have h3 : (256 : Int) ^ (x :: xs).length = 256 * 256 ^ xs.length := by rw [List.length_cons, Int.pow_succ, Int.mul_comm]
    rw [h3]
    unfold numB
    generalize (256 : Int) ^ xs.length = P at *
    exact ⟨by omega, by omega⟩
theorem numB_snoc (xs : List Int) (x : Int) : numB (xs ++ [x]) = numB xs + x * 256 ^ xs.length := by
  induction xs with
  | nil => simp [numB]
  | cons y xs ih =>
    rw [List.cons_append, numB, numB, ih, List.length_cons, Int.pow_succ, Int.mul_add, ← Int.mul_assoc, Int.mul_comm 256 (x : Int), Int.mul_assoc, Int.mul_comm 256 (256 ^ _), Int.add_assoc]

set_option maxHeartbeats 1000000 in
set_option maxRecDepth 100000 in
theorem number_any (A : Option Addr) (c : Nat) (xs : List Int) (w : World) (hR : Sl (kInt .u8) AnyB w A c xs) (hy : ∀ x ∈ xs, 0 ≤ x ∧ x < 256) (hm : xs.length ≤ 7) :
    Calls Tryd.prog 58 #[.slice A xs.length c] w fun e w' => e = .returned (.int .i64 (numB xs)) ∧ w = w' := by
  go_enter Tryd.func58, Tryd.ntmps58
  go_wp2
  go_loop [3, 8] (fun v i => ∃ k : Nat, k ≤ xs.length ∧ i = .int .i64 k ∧ v = .int .i64 (numB (xs.take k))) (fun _ i => xs.length - (intOf i).toNat)
  case atStart => exact ⟨0, Nat.zero_le _, rfl, rfl⟩
  case round =>
    obtain ⟨k, hk, rfl, rfl⟩ := hrel
    by_cases hlt : k < xs.length
    · obtain ⟨ad, rfl, hc⟩ := rd_int hR k hlt
      have hx := hy _ (nth_mem 0 xs k hlt)
      have hnn := numB_nonneg (xs.take k) (fun y hy' => hy y (List.mem_of_mem_take hy'))
      rw [List.length_take, Nat.min_eq_left hk] at hnn
      have HE := Lib.hid (or_byte (numB (xs.take k)) (nth 0 xs k) k (by omega) hnn.1 hnn.2 hx.1 hx.2)
      have HS := Lib.hid (numB_snoc (xs.take k) (nth 0 xs k))
      clear hnn
      go_wp2_with fail
      go_round
      case rel =>
        refine ⟨k + 1, by omega, by go_num, ?_⟩
        rw [HE.out, take_succ_nth 0 xs k hlt, HS.out, List.length_take, Nat.min_eq_left hk]
      case measure => simp [intOf]; omega
    · obtain rfl : k = xs.length := by omega
      rw [List.take_length]
      go_wp2
      go_ret
      exact ⟨rfl, rfl⟩
end Go.Proofs.YtijcecakofmhcaaDoor
