/- The reference's bits: Number, Of, Pack: what each call returns. · The reference's bits: a Writer: put, Append, Len, Bytes; Same: what each call returns, and what the writer has then. · The reference's bits: a Reader: Open, next, Take, At, Left, Seek: what each call returns, and where the reader is then. -/
import Derived.Test.YtlbgkkkcbnagbaaKd
namespace Go.Proofs.Ytlbgkkkcbnagbaa
open Go.RowKit

def bitsI (l : List Bool) : List Int := l.map b2i
theorem bitsI_length (l : List Bool) : (bitsI l).length = l.length := by simp [bitsI]
theorem bitsI_nth (l : List Bool) (k : Nat) (h : k < l.length) : nth 0 (bitsI l) k = b2i (nth false l k) := by
  rw [nth_eq 0 _ k (by rw [bitsI_length]; exact h), nth_eq false _ k h]; simp [bitsI]
theorem bitsI_append (a b : List Bool) : bitsI (a ++ b) = bitsI a ++ bitsI b := by simp [bitsI]
theorem bitsI_take (a : List Bool) (n : Nat) : bitsI (a.take n) = (bitsI a).take n := by simp [bitsI, List.map_take]
theorem bitsI_drop (a : List Bool) (n : Nat) : bitsI (a.drop n) = (bitsI a).drop n := by simp [bitsI, List.map_drop]
theorem bitsI_range (l : List Bool) : ∀ x ∈ bitsI l, 0 ≤ x ∧ x < 256 := by
  intro x hx
  simp only [bitsI, List.mem_map] at hx
  obtain ⟨b, _, rfl⟩ := hx
  have := b2i_bd b
  omega
theorem bitsI_inj {a b : List Bool} (h : bitsI a = bitsI b) : a = b := by
  have hl : a.length = b.length := by rw [← bitsI_length a, h, bitsI_length]
  apply List.ext_getElem hl
  intro i h1 h2
  have := congrArg (fun l => nth 0 l i) h
  rw [bitsI_nth _ _ h1, bitsI_nth _ _ h2, nth_eq false _ i h1, nth_eq false _ i h2] at this
  exact b2i_inj this
/-- The first k of a list, the others 0 yet. -/
def upTo (xs : List Int) (k : Nat) : List Int := xs.take k ++ List.replicate (xs.length - k) 0
theorem upTo_zero (xs : List Int) : upTo xs 0 = List.replicate xs.length 0 := by simp [upTo]
theorem upTo_all (xs : List Int) : upTo xs xs.length = xs := by simp [upTo]
theorem upTo_length (xs : List Int) (k : Nat) : (upTo xs k).length = xs.length := by simp [upTo]; omega
theorem upTo_set (xs : List Int) (k : Nat) (h : k < xs.length) : (upTo xs k).set k (nth 0 xs k) = upTo xs (k + 1) := by
  unfold upTo
  have hl : (xs.take k).length = k := by rw [List.length_take]; omega
  rw [List.set_append_right _ _ (by omega), hl, Nat.sub_self, take_succ_nth 0 xs k h, List.append_assoc]
  congr 1
  rw [show xs.length - k = (xs.length - (k + 1)) + 1 by omega, List.replicate_succ]
  rfl

set_option maxHeartbeats 1000000 in
set_option maxRecDepth 100000 in
theorem number_ref (v n : Nat) (w : World) (hn : n ≤ 64) (hv : v < 4611686018427387904) :
    Calls Try.prog 84 #[.int .i64 (v : Int), .int .i64 (n : Int)] w fun e w' => ∃ x, e = .returned x ∧ OwnI 5 .u8 w.heap.size w' x (bitsI (numB v n)) ∧ Below w.heap.size w w' := by
  have hmk := make_row (P := Try.prog) 34 5 .u8 1 Try.underlying34 infoY (by decide) n (by omega)
  have hlen := numB_length v n
  have hlb : (bitsI (numB v n)).length = n := by rw [bitsI_length, hlen]
  have HL := Lib.hid hlb
  have HB := Lib.hid (fun k (h : k < n) => numB_bit v n k h hv)
  clear hlen hlb
  go_enter Try.func84, Try.ntmps84
  go_wp2
  have hO := own_made w 5 .u8 n (by omega)
  have hB := below_alloc (Below.refl w.heap.size w) (.cells (madeCells #[.int .u8 0] n) 5)
  generalize w.alloc (.cells (madeCells #[.int .u8 0] n) 5) = w1 at hO hB ⊢
  clear hmk
  go_loopw [10] (fun i wr => ∃ k : Nat, k ≤ n ∧ i = .int .i64 k ∧ OwnI 5 .u8 w.heap.size wr (.slice (some ⟨w.heap.size, 0, none⟩) n n) (upTo (bitsI (numB v n)) k) ∧ Below w.heap.size w wr) (fun i _ => n - (intOf i).toNat)
  case atStart => exact ⟨0, Nat.zero_le _, rfl, by rw [upTo_zero, HL.out]; exact hO, hB⟩
  case round =>
    clear hO hB
    obtain ⟨k, hk, rfl, hO, hB⟩ := hrel
    by_cases hlt : k < n
    · obtain ⟨ka, kf⟩ := hO.at_ k (by rw [upTo_length, HL.out]; exact hlt)
      have hbd := b2i_bd (nth false (numB v n) k)
      have hx : Go.bits .and .i64 ((v : Int) / 2 ^ (n - 1 - k)) 1 = b2i (nth false (numB v n) k) := HB.out k hlt
      have hw1 : IntKind.i64.wrap ((n : Int) - 1) = (n : Int) - 1 := IntWalk.i64_in _ (by omega)
      have hw2 : IntKind.i64.wrap ((n : Int) - 1 - k) = (n : Int) - 1 - k := IntWalk.i64_in _ (by omega)
      have htn : ((n : Int) - 1 - k).toNat = n - 1 - k := by omega
      have hle : (0 : Int) ≤ (n : Int) - 1 - k := by omega
      have hw8 : IntKind.u8.wrap (b2i (nth false (numB v n) k)) = b2i (nth false (numB v n) k) := by rw [IntKind.wrap_u8]; omega
      have HO := Lib.hid hO
      clear hO
      go_wp2
      go_roundw
      case rel =>
        have hs := HO.out.set k (b2i (nth false (numB v n) k))
        refine ⟨k + 1, by omega, by go_num, ?_, below_grown hB hB.size hs.2 (fun r e => by have := Option.some.inj e; omega)⟩
        rw [← upTo_set _ _ (by rw [HL.out]; exact hlt), bitsI_nth _ _ (by rw [numB_length]; exact hlt)]
        exact hs.1
      case measure => simp [intOf]; omega
    · obtain rfl : k = n := by omega
      go_wp2
      go_ret
      exact ⟨_, rfl, by have h := HL.out; have h2 : upTo (bitsI (numB v k)) k = bitsI (numB v k) := by { have := upTo_all (bitsI (numB v k)); rwa [h] at this }; rw [← h2]; exact hO, hB⟩

theorem bitB_and8 (b : List Int) (i : Nat) (h0 : 0 ≤ nth 0 b (i / 8)) (h1 : nth 0 b (i / 8) < 256) : Go.bits .and .u8 (nth 0 b (i / 8) / 2 ^ (7 - i % 8)) 1 = b2i (bitB b i) := by
  have hd := div_bd (nth 0 b (i / 8)) (7 - i % 8) h0 h1
  have e1 := bits_mask .u8 8 (by decide) (fun n h0 h1 => wraps_u8 n h0 h1) 1 (by decide) (nth 0 b (i / 8) / 2 ^ (7 - i % 8)) hd.1 (by rw [show (2 : Int) ^ 8 = 256 by decide]; omega)
  have e2 := bitB_and b i h0 h1
  rw [and_one _ hd.1 (by omega)] at e2
  have e3 : (2 : Int) ^ 1 - 1 = 1 := by decide
  rw [e3] at e1
  rw [e1]
  simpa using e2

set_option maxHeartbeats 1000000 in
set_option maxRecDepth 100000 in
theorem of_ref (A : Option Addr) (c : Nat) (b : List Int) (n : Nat) (w : World) (hS : RY w A c b) (hb : ∀ x ∈ b, 0 ≤ x ∧ x < 256) (h8 : n ≤ 8 * b.length) (hn : n ≤ 1000000000000) :
    Calls Try.prog 66 #[.slice A b.length c, .int .i64 (n : Int)] w fun e w' => ∃ x, e = .returned x ∧ OwnI 5 .u8 w.heap.size w' x (bitsI (ofB b n)) ∧ Below w.heap.size w w' := by
  have hmk := make_row (P := Try.prog) 34 5 .u8 1 Try.underlying34 infoY (by decide) n (by omega)
  have hlb : (bitsI (ofB b n)).length = n := by rw [bitsI_length, ofB_length]
  have HL := Lib.hid hlb
  have HX := Lib.hid hb
  clear hlb hb
  go_enter Try.func66, Try.ntmps66
  go_wp2
  have hO := own_made w 5 .u8 n (by omega)
  have hB := below_alloc (Below.refl w.heap.size w) (.cells (madeCells #[.int .u8 0] n) 5)
  generalize w.alloc (.cells (madeCells #[.int .u8 0] n) 5) = w1 at hO hB ⊢
  clear hmk
  go_loopw [10] (fun i wr => ∃ k : Nat, k ≤ n ∧ i = .int .i64 k ∧ OwnI 5 .u8 w.heap.size wr (.slice (some ⟨w.heap.size, 0, none⟩) n n) (upTo (bitsI (ofB b n)) k) ∧ Below w.heap.size w wr) (fun i _ => n - (intOf i).toNat)
  case atStart => exact ⟨0, Nat.zero_le _, rfl, by rw [upTo_zero, HL.out]; exact hO, hB⟩
  case round =>
    clear hO hB
    obtain ⟨k, hk, rfl, hO, hB⟩ := hrel
    by_cases hlt : k < n
    · obtain ⟨ka, kf⟩ := hO.at_ k (by rw [upTo_length, HL.out]; exact hlt)
      obtain ⟨ad, rfl, hc⟩ := rd_int (hS.below hB) (k / 8) (by omega)
      have hxb := HX.out _ (nth_mem 0 b (k / 8) (by omega))
      have hx := bitB_and8 b k hxb.1 hxb.2
      obtain ⟨q, hq⟩ : ∃ q, k / 8 = q := ⟨_, rfl⟩
      obtain ⟨t, ht⟩ : ∃ t, 7 - k % 8 = t := ⟨_, rfl⟩
      rw [hq, ht] at hx
      rw [hq] at hc
      have hql : q < b.length := by omega
      have hqd : (k : Int) / 8 = (q : Int) := by omega
      have htd : 7 - (k : Int) % 8 = (t : Int) := by omega
      have ht7 : t ≤ 7 := by omega
      have HO := Lib.hid hO
      clear hO hxb hq ht
      go_wp2
      go_roundw
      case rel =>
        have hs := HO.out.set k (b2i (bitB b k))
        refine ⟨k + 1, by omega, by go_num, ?_, below_grown hB hB.size hs.2 (fun r e => by have := Option.some.inj e; omega)⟩
        rw [← upTo_set _ _ (by rw [HL.out]; exact hlt), bitsI_nth _ _ (by rw [ofB_length]; exact hlt), ofB_nth _ _ _ hlt]
        exact hs.1
      case measure => simp [intOf]; omega
    · obtain rfl : k = n := by omega
      go_wp2
      go_ret
      exact ⟨_, rfl, by have h := HL.out; have h2 : upTo (bitsI (ofB b k)) k = bitsI (ofB b k) := by { have := upTo_all (bitsI (ofB b k)); rwa [h] at this }; rw [← h2]; exact hO, hB⟩

/-- Bytes of bits, zeros behind them. -/
def padB (bs : List Bool) (L : Nat) : List Int := packB bs ++ List.replicate (L - (packB bs).length) 0
theorem padB_nil (L : Nat) : padB [] L = List.replicate L 0 := by simp [padB, packB]
theorem padB_all (bs : List Bool) : padB bs ((bs.length + 7) / 8) = packB bs := by simp [padB, packB_length]
theorem padB_length (bs : List Bool) (L : Nat) (h : (bs.length + 7) / 8 ≤ L) : (padB bs L).length = L := by simp [padB, packB_length]; omega
theorem padB_room (bs : List Bool) (L : Nat) (h : bs.length / 8 < L) : padB bs L = roomB bs ++ List.replicate (L - (bs.length / 8 + 1)) 0 := by
  unfold padB roomB
  split
  · rename_i h8
    rw [packB_length, List.append_assoc, show L - (bs.length + 7) / 8 = (L - (bs.length / 8 + 1)) + 1 by omega, List.replicate_succ]
    rfl
  · rename_i h8
    rw [packB_length, show (bs.length + 7) / 8 = bs.length / 8 + 1 by omega]
theorem padB_nth (bs : List Bool) (L : Nat) (h : bs.length / 8 < L) : nth 0 (padB bs L) (bs.length / 8) = (byteB bs (bs.length / 8) : Int) := by
  rw [padB_room _ _ h, nth_append_left _ _ _ _ (by rw [roomB_length]; omega), roomB_nth]
theorem padB_snoc (bs : List Bool) (b : Bool) (L : Nat) (h : bs.length / 8 < L) : padB (bs ++ [b]) L = (padB bs L).set (bs.length / 8) ((byteB bs (bs.length / 8) : Int) + b2i b * 2 ^ (7 - bs.length % 8)) := by
  rw [padB_room bs _ h, List.set_append_left _ _ (by rw [roomB_length]; omega), ← packB_snoc]
  unfold padB
  rw [packB_length, List.length_append, List.length_singleton, show (bs.length + 1 + 7) / 8 = bs.length / 8 + 1 by omega]

set_option maxHeartbeats 2000000 in
set_option maxRecDepth 100000 in
theorem pack_ref (A : Option Addr) (c : Nat) (bs : List Bool) (w : World) (hS : RY w A c (bitsI bs)) (hn : bs.length ≤ 1000000000000) :
    Calls Try.prog 74 #[.slice A bs.length c] w fun e w' => ∃ x, e = .returned x ∧ OwnI 5 .u8 w.heap.size w' x (packB bs) ∧ Below w.heap.size w w' := by
  obtain ⟨L, hL⟩ : ∃ L, (bs.length + 7) / 8 = L := ⟨_, rfl⟩
  have hmk := make_row (P := Try.prog) 34 5 .u8 1 Try.underlying34 infoY (by decide) L (by omega)
  have hLi : ((bs.length : Int) + 7) / 8 = (L : Int) := by omega
  have HL := Lib.hid hL
  clear hL
  go_enter Try.func74, Try.ntmps74
  go_wp2
  have hO := own_made w 5 .u8 L (by have := HL.out; omega)
  have hB := below_alloc (Below.refl w.heap.size w) (.cells (madeCells #[.int .u8 0] L) 5)
  generalize w.alloc (.cells (madeCells #[.int .u8 0] L) 5) = w1 at hO hB ⊢
  clear hmk hLi
  go_loopw [13] (fun i wr => ∃ k : Nat, k ≤ bs.length ∧ i = .int .i64 k ∧ OwnI 5 .u8 w.heap.size wr (.slice (some ⟨w.heap.size, 0, none⟩) L L) (padB (bs.take k) L) ∧ Below w.heap.size w wr) (fun i _ => bs.length - (intOf i).toNat)
  case atStart => exact ⟨0, Nat.zero_le _, rfl, by rw [List.take_zero, padB_nil]; exact hO, hB⟩
  case round =>
    clear hO hB
    obtain ⟨k, hk, rfl, hO, hB⟩ := hrel
    by_cases hlt : k < bs.length
    · have hLL := HL.out
      have htl : (bs.take k).length = k := by rw [List.length_take]; omega
      obtain ⟨ka, kf⟩ := hO.at_ (k / 8) (by rw [padB_length _ _ (by omega)]; omega)
      have hkn := padB_nth (bs.take k) L (by omega)
      have hor := or_bit (bs.take k) (nth false bs k)
      have hX := byteB_lt (bs.take k) ((bs.take k).length / 8)
      have hsn := padB_snoc (bs.take k) (nth false bs k) L (by omega)
      rw [← take_succ_nth false bs k hlt] at hsn
      rw [htl] at hkn hor hX hsn
      rw [hkn] at ka
      obtain ⟨ad, rfl, hc⟩ := rd_int (hS.below hB) k (by rw [bitsI_length]; exact hlt)
      rw [bitsI_nth _ _ hlt] at hc
      obtain ⟨X, hXe⟩ : ∃ X, byteB (bs.take k) (k / 8) = X := ⟨_, rfl⟩
      obtain ⟨q, hq⟩ : ∃ q, k / 8 = q := ⟨_, rfl⟩
      obtain ⟨t, ht⟩ : ∃ t, 7 - k % 8 = t := ⟨_, rfl⟩
      rw [hXe, ht] at hor hsn
      rw [hXe] at hX ka
      rw [hq] at ka kf hsn
      have ht7 : t ≤ 7 := by omega
      have w1 : IntKind.i64.wrap ((k : Int) / 8) = (q : Int) := by rw [IntWalk.i64_in _ (by omega)]; omega
      have w2 : ((k : Int)).tmod 8 = 7 - (t : Int) := by rw [Int.tmod_eq_emod_of_nonneg (by omega)]; omega
      have w3 : IntKind.i64.wrap (7 - (7 - (t : Int))) = (t : Int) := by rw [IntWalk.i64_in _ (by omega)]; omega
      have hPp : 0 < 2 ^ t ∧ 2 ^ t ≤ 128 := ⟨Nat.two_pow_pos _, by have := Nat.pow_le_pow_right (n := 2) (by decide) ht7; simpa using this⟩
      have hPc : ((2 : Int) ^ t) = ((2 ^ t : Nat) : Int) := by simp
      have hbd := b2i_bd (nth false bs k)
      have hy : 0 ≤ b2i (nth false bs k) * 2 ^ t ∧ b2i (nth false bs k) * 2 ^ t ≤ 128 := by rw [hPc]; cases nth false bs k <;> simp [b2i] <;> omega
      have w5 : IntKind.u8.wrap (b2i (nth false bs k) * 2 ^ t) = b2i (nth false bs k) * 2 ^ t := by rw [IntKind.wrap_u8]; omega
      have hqL : q < L := by omega
      have HO8 := Lib.hid hor
      have HSN := Lib.hid hsn
      have HO := Lib.hid hO
      clear hor hsn hO hkn htl hXe hq ht hPp hPc hy hLL
      go_wp2
      go_still_tail 12, (by kernel_rfl)
      change wpList _ _ _ _ _ (World.drew _)
      rw [HO8.out]
      clear w1 w2 w3 w5 ht7 hbd hX
      go_wp2
      go_roundw
      case rel =>
        have hs := HO.out.set q ((X : Int) + b2i (nth false bs k) * 2 ^ t)
        refine ⟨k + 1, by omega, by go_num, ?_, (below_grown hB hB.size hs.2 (fun r e => by have := Option.some.inj e; omega)).drew⟩
        rw [HSN.out]
        exact hs.1.below (Below.refl _ _).drew
      case measure => simp [intOf]; omega
    · obtain rfl : k = bs.length := by omega
      go_wp2
      go_ret
      exact ⟨_, rfl, by rw [List.take_length] at hO; have := HL.out; rw [← this, padB_all, this] at hO; exact hO, hB⟩
end Go.Proofs.Ytlbgkkkcbnagbaa

namespace Go.Proofs.Ytlbgkkkcbnagbaa
open Go.RowKit

structure VrF (o : Nat → Prop) (w : World) (g : Nat) (v : Value) (bs : List Bool) : Prop where
  blk : Blk w g #[v] 58
  row : OwnI 5 .u8 0 w v (bitsI bs)
  og : o g
  orow : ∀ b, v.ownBlock = some b → o b ∧ b ≠ g
/-- A writer of the reference that has these bits, in blocks of o. -/
def Vr (o : Nat → Prop) (w : World) (g : Nat) (bs : List Bool) : Prop := ∃ v, VrF o w g v bs
section
variable {o o' : Nat → Prop} {w w' : World} {g : Nat} {v : Value} {bs : List Bool}
theorem VrF.cut (h : VrF o w g v bs) : VrF (fun b => o b ∧ b < w.heap.size) w g v bs := ⟨h.blk, h.row, ⟨h.og, h.blk.lt⟩, fun b e => ⟨⟨(h.orow b e).1, (h.row.lt b e).2⟩, (h.orow b e).2⟩⟩
theorem VrF.weak (h : VrF o w g v bs) (ho : ∀ b, b < w.heap.size → o b → o' b) : VrF o' w g v bs := ⟨h.blk, h.row, ho g h.blk.lt h.og, fun b e => ⟨ho b (h.row.lt b e).2 (h.orow b e).1, (h.orow b e).2⟩⟩
theorem VrF.keep (h : VrF o w g v bs) {ok : Nat → Prop} (hk : Keep ok w w') (ho : ∀ b, o b → ok b) : VrF o w' g v bs :=
  ⟨h.blk.keep hk (ho g h.og), ownI_keep h.row hk (fun b e => ho b (h.orow b e).1), h.og, h.orow⟩
theorem Vr.cut (h : Vr o w g bs) : Vr (fun b => o b ∧ b < w.heap.size) w g bs := let ⟨v, h⟩ := h; ⟨v, h.cut⟩
theorem Vr.weak (h : Vr o w g bs) (ho : ∀ b, b < w.heap.size → o b → o' b) : Vr o' w g bs := let ⟨v, h⟩ := h; ⟨v, h.weak ho⟩
theorem Vr.keep (h : Vr o w g bs) {ok : Nat → Prop} (hk : Keep ok w w') (ho : ∀ b, o b → ok b) : Vr o w' g bs := let ⟨v, h⟩ := h; ⟨v, h.keep hk ho⟩
theorem Vr.lt (h : Vr o w g bs) : g < w.heap.size := let ⟨_, h⟩ := h; h.blk.lt
theorem Vr.upd {o2 : Nat → Prop} (h : Vr o w g bs) (hu : Upd o2 w w') (ho : ∀ b, b < w.heap.size → o b → ¬ o2 b) : Vr o w' g bs := by
  have h1 : Vr (fun b => o b ∧ b < w.heap.size) w' g bs := h.cut.keep (hu.keep (ok := fun b => ¬ o2 b) fun _ hb => hb) (fun b e => ho b e.2 e.1)
  exact h1.weak (fun b _ e => e.1)
theorem Vr.below (h : Vr o w g bs) (hb : Below w.heap.size w w') : Vr o w' g bs := h.upd (o2 := fun _ => False) (Upd.of_below hb _) (fun _ _ _ h => h)
end
theorem Vr.new (w : World) : Vr (fun b => b = w.heap.size) (w.alloc (.cells #[.slice none 0 0] 58)) w.heap.size [] :=
  ⟨.slice none 0 0, ⟨heap_alloc_new w _, OwnI.nil _ _ _ _, rfl, fun b e => by cases e⟩⟩

theorem rput_end {o : Nat → Prop} {w w1 : World} {g : Nat} {v0 v1 : Value} {bs more : List Bool} (h : VrF o w g v0 bs) (hO : OwnI 5 .u8 0 w1 v1 (bitsI bs ++ bitsI more)) (hg : w.grownBy w1 v0.ownBlock)
    (hat : v1.ownBlock = v0.ownBlock ∨ ∃ b, v1.ownBlock = some b ∧ w.heap.size ≤ b) : Vr (fun b => o b ∨ w.heap.size ≤ b) (w1.setCell ⟨g, 0, none⟩ v1) g (bs ++ more) ∧ Upd o w (w1.setCell ⟨g, 0, none⟩ v1) := by
  have hlt := h.blk.lt
  have B1 := (h.blk.keep (Keep.of_grown hg) (fun e => (h.orow g e.symm).2 rfl)).set 0 v1
  have hor : ∀ b, v1.ownBlock = some b → (o b ∨ w.heap.size ≤ b) ∧ b ≠ g := fun b e => by
    rcases hat with hat | ⟨b', hat, hle⟩
    · rw [hat] at e; exact ⟨.inl (h.orow b e).1, (h.orow b e).2⟩
    · rw [hat] at e; have := Option.some.inj e; exact ⟨.inr (by omega), by omega⟩
  have O1 := hO.grown (grown_setCell w1 g 0 v1) (by
    cases hv : v1.ownBlock with
    | none => exact .inl rfl
    | some b => exact .inr fun e => (hor b hv).2 (Option.some.inj e))
  refine ⟨⟨v1, B1, by rw [bitsI_append]; exact O1, .inl h.og, hor⟩, ?_⟩
  exact (Upd.of_grown hg (fun r e => (h.orow r e).1)).trans (Upd.setCell o _ g 0 v1 h.og) fun _ _ h => h

set_option maxHeartbeats 2000000 in
set_option maxRecDepth 100000 in
theorem put_ref (o : Nat → Prop) (g : Nat) (A : Option Addr) (c : Nat) (bs more : List Bool) (w : World) (h : Vr o w g bs) (hS : Sl (kInt .u8) (fun b => ¬ o b) w A c (bitsI more)) (hl : bs.length ≤ 1048576) (hn : more.length ≤ 100000000) :
    Calls Try.prog 72 #[.pointer (some ⟨g, 0, none⟩), .slice A more.length c] w
      fun e w' => e = .returned (.int .i64 (fullE bs.length more.length)) ∧ Vr (fun b => o b ∨ w.heap.size ≤ b) w' g (fullB bs more) ∧ Upd o w w' := by
  obtain ⟨v, h⟩ := h
  obtain ⟨A0, c0, rfl⟩ := h.row.slice
  have k0 := h.blk.cell 0 rfl
  have f0 := h.blk.free 0
  have H := Lib.hid h
  rw [bitsI_length] at k0
  clear h
  by_cases hov : 1048576 < bs.length + more.length
  · have hd : decide ((1048576 : Int) < (bs.length : Int) + (more.length : Int)) = true := decide_eq_true (by omega)
    have HS := Lib.hid (show fullE bs.length more.length = 2 ∧ fullB bs more = bs by unfold fullE fullB; simp [hov])
    clear hov
    go_enter Try.func72, Try.ntmps72
    go_wp2
    go_ret
    exact ⟨ret_int HS.out.1.symm, by rw [HS.out.2]; exact ⟨_, H.out.weak fun b _ h => .inl h⟩, Upd.refl _ _⟩
  · have hd : decide ((1048576 : Int) < (bs.length : Int) + (more.length : Int)) = false := decide_eq_false (by omega)
    have HS := Lib.hid (show fullE bs.length more.length = 0 ∧ fullB bs more = bs ++ more by unfold fullE fullB; simp [hov])
    have hle : bs.length + more.length ≤ 1048576 := by omega
    have HR := Lib.hid hS
    clear hov hS
    go_enter Try.func72, Try.ntmps72
    go_wp2_with (at_builtin; (refine append_row (w0 := w) 0 rfl (.tmp 18) (.tmp 19) 34 5 .u8 1 rfl Try.underlying34 infoY (by decide) (.slice A0 (bitsI bs).length c0) (bitsI bs) (bitsI more) A c (by rw [bitsI_length]; rfl) (by rw [bitsI_length]; rfl) H.out.row HR.out (Below.refl _ _) (Nat.zero_le _) (by rw [bitsI_length, bitsI_length]; omega) ?_); intro v1 w1 hO1 _ hg1 hat1; have B1 := H.out.blk.keep (Keep.of_grown hg1) (fun e => (H.out.orow g e.symm).2 rfl); obtain ⟨A1, c1, hv1⟩ := hO1.slice; subst hv1; clear k0 f0; have k0 := B1.cell 0 rfl; have f0 := B1.free 0)
    go_ret
    refine ⟨ret_int HS.out.1.symm, ?_⟩
    rw [HS.out.2]
    have he := rput_end H.out hO1 hg1 hat1
    simpa using he

set_option maxHeartbeats 1000000 in
set_option maxRecDepth 100000 in
theorem append_ref (o : Nat → Prop) (g n : Nat) (A : Option Addr) (c : Nat) (b : List Int) (bs : List Bool) (w : World) (h : Vr o w g bs) (hS : RY w A c b) (hb : ∀ x ∈ b, 0 ≤ x ∧ x < 256) (hm : b.length ≤ 1000000) (h8 : n ≤ 8 * b.length) (hl : bs.length ≤ 1048576) :
    Calls Try.prog 41 #[.pointer (some ⟨g, 0, none⟩), .slice A b.length c, .int .i64 (n : Int)] w
      fun e w' => e = .returned (.int .i64 (fullE bs.length n)) ∧ Vr (fun b => o b ∨ w.heap.size ≤ b) w' g (fullB bs (ofB b n)) ∧ Upd o w w' := by
  have hw1 : IntKind.i64.wrap (8 * (b.length : Int)) = 8 * (b.length : Int) := IntWalk.i64_in _ (by omega)
  have hd0 : decide ((n : Int) < 0) = false := decide_eq_false (by omega)
  have hd1 : decide (8 * (b.length : Int) < (n : Int)) = false := decide_eq_false (by omega)
  have HO := Lib.hid (of_ref A c b n w hS hb h8 (by omega))
  have H := Lib.hid h
  have HL := Lib.hid (ofB_length b n)
  clear hb h hS
  go_enter Try.func41, Try.ntmps41
  go_wp2_with (first
    | (go_at_call 66; refine HO.out.mono ?_; rintro e w2 ⟨x, rfl, hx, hb2⟩; obtain ⟨A1, c1, hv1, hs1⟩ := hx.rd; rw [bitsI_length, HL.out] at hv1; subst hv1; have HP := Lib.hid (put_ref (fun b => o b ∧ b < w.heap.size) g A1 c1 bs (ofB b n) w2 (H.out.cut.upd (o2 := fun _ => False) (Upd.of_below hb2 _) (fun _ _ _ h => h)) (hs1.weak fun i hi h e => by have := h.1; have := e.2; omega) hl (by rw [HL.out]; omega)); rw [HL.out] at HP; clear hs1 hx)
    | (go_at_call 72; refine HP.out.mono ?_; rintro e w3 ⟨rfl, hv3, hu3⟩))
  go_ret
  refine ⟨rfl, hv3.weak fun b _ h => ?_, (Upd.of_below hb2 o).trans (hu3.weak (o' := o) fun _ _ h => h.1) fun _ _ h => h⟩
  rcases h with h | h
  · exact .inl h.1
  · exact .inr (by have := hb2.size; omega)

set_option maxHeartbeats 400000 in
theorem len_ref (o : Nat → Prop) (g : Nat) (bs : List Bool) (w : World) (h : Vr o w g bs) :
    Calls Try.prog 45 #[.pointer (some ⟨g, 0, none⟩)] w fun e w' => e = .returned (.int .i64 bs.length) ∧ w = w' := by
  obtain ⟨v, h⟩ := h
  obtain ⟨A0, c0, rfl⟩ := h.row.slice
  have k0 := h.blk.cell 0 rfl
  rw [bitsI_length] at k0
  clear h
  go_enter Try.func45, Try.ntmps45
  go_wp2
  go_ret
  exact ⟨rfl, rfl⟩

set_option maxHeartbeats 400000 in
theorem bytes_ref (o : Nat → Prop) (g : Nat) (bs : List Bool) (w : World) (h : Vr o w g bs) (hl : bs.length ≤ 1000000000) :
    Calls Try.prog 47 #[.pointer (some ⟨g, 0, none⟩)] w fun e w' => ∃ x, e = .returned x ∧ OwnI 5 .u8 w.heap.size w' x (packB bs) ∧ Below w.heap.size w w' := by
  obtain ⟨v, h⟩ := h
  obtain ⟨A0, c0, rfl⟩ := h.row.slice
  have k0 := h.blk.cell 0 rfl
  have HP := Lib.hid (pack_ref A0 c0 bs w (own_sl h.row) (by omega))
  rw [bitsI_length] at k0
  clear h
  go_enter Try.func47, Try.ntmps47
  go_wp2_with (go_at_call 74; refine HP.out.mono ?_; rintro e w2 ⟨x, rfl, hx, hb2⟩)
  go_ret
  exact ⟨_, rfl, hx, hb2⟩

def sameL (a b : List Int) : Bool := decide (a = b)
theorem same_end {a b : List Int} (hl : a.length = b.length) (h : ∀ j, j < a.length → nth 0 a j = nth 0 b j) : sameL a b = true := by
  refine decide_eq_true (List.ext_getElem hl fun i h1 h2 => ?_)
  have := h i h1
  rwa [nth_eq 0 a i h1, nth_eq 0 b i h2] at this
set_option maxHeartbeats 1000000 in
set_option maxRecDepth 100000 in
theorem same_ref (A B : Option Addr) (c d : Nat) (a b : List Int) (w : World) (hS : RY w A c a) (hT : RY w B d b) :
    Calls Try.prog 26 #[.slice A a.length c, .slice B b.length d] w fun e w' => e = .returned (.bool (sameL a b)) ∧ Below w.heap.size w w' := by
  have hn := hS.len
  have hm := hT.len
  by_cases hl : a.length = b.length
  · have hb : ((a.length : Int) != (b.length : Int)) = false := by simp [hl]
    have HL := Lib.hid hl
    clear hl
    go_enter Try.func26, Try.ntmps26
    go_wp2
    go_loopw [13] (fun i wr => ∃ k : Nat, k ≤ a.length ∧ i = .int .i64 k ∧ Hid (∀ j, j < k → nth 0 a j = nth 0 b j) ∧ Below w.heap.size w wr) (fun i _ => a.length - (intOf i).toNat)
    case atStart => exact ⟨0, Nat.zero_le _, rfl, fun j hj => absurd hj (by omega), Below.refl _ _⟩
    case round =>
      obtain ⟨k, hk, rfl, hne, hB⟩ := hrel
      by_cases hlt : k < a.length
      · have hkb : k < b.length := by rw [← HL.out]; exact hlt
        obtain ⟨ad, rfl, hc⟩ := rd_int (hS.below hB) k hlt
        obtain ⟨ad', rfl, hc'⟩ := rd_int (hT.below hB) k hkb
        have hk0 : (0 : Int) ≤ (k : Int) := by omega
        have hka : (k : Int) < (a.length : Int) := by omega
        have hkb' : (k : Int) < (b.length : Int) := by omega
        by_cases hx : nth 0 a k = nth 0 b k
        · have hxb : (nth 0 a k != nth 0 b k) = false := by simp [hx]
          have hne' : Hid (∀ j, j < k + 1 → nth 0 a j = nth 0 b j) := fun j hj => by
            rcases Nat.lt_or_ge j k with h | h
            · exact hne.out j h
            · obtain rfl : j = k := by omega
              exact hx
          clear hx
          go_wp2
          go_quiet (fail)
          go_wp2
          go_roundw
          case rel => exact ⟨k + 1, by omega, by go_num, hne', below_drewN hB _⟩
          case measure => simp [intOf]; omega
        · have hxb : (nth 0 a k != nth 0 b k) = true := by simp [hx]
          have HN := Lib.hid (show sameL a b = false from decide_eq_false fun e => hx (by rw [e]))
          clear hx
          go_wp2
          go_quiet (fail)
          go_wp2
          go_ret
          exact ⟨ret_bool HN.out.symm, below_drewN hB _⟩
      · obtain rfl : k = a.length := by omega
        have HN := Lib.hid (same_end HL.out hne.out)
        go_wp2
        go_ret
        exact ⟨ret_bool HN.out.symm, hB⟩
  · have hb : ((a.length : Int) != (b.length : Int)) = true := by simp; omega
    have HN := Lib.hid (show sameL a b = false from decide_eq_false fun e => hl (by rw [e]))
    clear hl
    go_enter Try.func26, Try.ntmps26
    go_wp2
    go_ret
    exact ⟨ret_bool HN.out.symm, Below.refl _ _⟩
end Go.Proofs.Ytlbgkkkcbnagbaa

namespace Go.Proofs.Ytlbgkkkcbnagbaa
open Go.RowKit

/-- A reader of the reference over these bits, at a place; o: its blocks. -/
def Qr (o : Nat → Prop) (w : World) (g : Nat) (l : List Bool) (at_ : Nat) : Prop :=
  ∃ A c, Blk w g #[.slice A l.length c, .int .i64 at_] 96 ∧ Sl (kInt .u8) (fun b => o b ∧ b ≠ g) w A c (bitsI l) ∧ at_ ≤ l.length ∧ l.length ≤ 1048576 ∧ o g
section
variable {o o' : Nat → Prop} {w w' : World} {g : Nat} {l : List Bool} {at_ : Nat}
theorem Qr.lt (h : Qr o w g l at_) : g < w.heap.size := let ⟨_, _, h, _⟩ := h; h.lt
theorem Qr.og (h : Qr o w g l at_) : o g := let ⟨_, _, _, _, _, _, h⟩ := h; h
theorem Qr.le (h : Qr o w g l at_) : at_ ≤ l.length := let ⟨_, _, _, _, h, _⟩ := h; h
theorem Qr.bound (h : Qr o w g l at_) : l.length ≤ 1048576 := let ⟨_, _, _, _, _, h, _⟩ := h; h
theorem Qr.weak (h : Qr o w g l at_) (ho : ∀ b, b < w.heap.size → o b → o' b) : Qr o' w g l at_ := by
  obtain ⟨A, c, h1, h2, h3, h4, h5⟩ := h
  exact ⟨A, c, h1, h2.weak fun b hb h => ⟨ho b hb h.1, h.2⟩, h3, h4, ho g h1.lt h5⟩
theorem Qr.keep (h : Qr o w g l at_) {ok : Nat → Prop} (hk : Keep ok w w') (ho : ∀ b, o b → ok b) : Qr o w' g l at_ := by
  obtain ⟨A, c, h1, h2, h3, h4, h5⟩ := h
  exact ⟨A, c, h1.keep hk (ho g h5), (h2.keep (hk.weak fun b hb => ho b hb.1)), h3, h4, h5⟩
theorem Qr.cut (h : Qr o w g l at_) : Qr (fun b => o b ∧ b < w.heap.size) w g l at_ := h.weak fun _ hb ho => ⟨ho, hb⟩
theorem Qr.upd {o2 : Nat → Prop} (h : Qr o w g l at_) (hu : Upd o2 w w') (ho : ∀ b, b < w.heap.size → o b → ¬ o2 b) : Qr o w' g l at_ := by
  have h1 : Qr (fun b => o b ∧ b < w.heap.size) w' g l at_ := h.cut.keep (hu.keep (ok := fun b => ¬ o2 b) fun _ hb => hb) (fun b e => ho b e.2 e.1)
  exact h1.weak (fun b _ e => e.1)
theorem Qr.below (h : Qr o w g l at_) (hb : Below w.heap.size w w') : Qr o w' g l at_ := h.upd (o2 := fun _ => False) (Upd.of_below hb _) (fun _ _ _ h => h)
theorem Qr.move (h : Qr o w g l at_) (j N : Nat) (hj : j ≤ l.length) : Qr o ((w.setCell ⟨g, 1, none⟩ (.int .i64 (j : Int))).drewN N) g l j ∧ Upd (fun b => b = g) w ((w.setCell ⟨g, 1, none⟩ (.int .i64 (j : Int))).drewN N) := by
  obtain ⟨A, c, h1, h2, h3, h4, h5⟩ := h
  refine ⟨⟨A, c, (h1.set 1 (.int .i64 (j : Int))).below (below_drewN (Below.refl _ _) N), (h2.keep (ok := fun b => o b ∧ b ≠ g) (Keep.of_grown1 (grown_setCell w g 1 _) |>.weak fun b hb => hb.2)).drewN N, hj, h4, h5⟩, ?_⟩
  exact (Upd.setCell (fun b => b = g) w g 1 _ rfl).trans (Upd.drewN _ _ N) fun _ _ h => h
theorem Qr.cells (h : Qr o w g l at_) : ∃ A c, w.cell? ⟨g, 0, none⟩ = some (.slice A l.length c) ∧ w.cell? ⟨g, 1, none⟩ = some (.int .i64 at_) ∧ w.frozen? ⟨g, 1, none⟩ = false ∧ Sl (kInt .u8) (fun b => o b ∧ b ≠ g) w A c (bitsI l) := by
  obtain ⟨A, c, h1, h2, _⟩ := h
  exact ⟨A, c, h1.cell 0 rfl, h1.cell 1 rfl, h1.free 1, h2⟩
end

set_option maxHeartbeats 1000000 in
set_option maxRecDepth 100000 in
theorem qopen_no (A : Option Addr) (c : Nat) (b : List Int) (n : Int) (w : World) (hm : b.length ≤ 1000000000000) (he : openE b.length n ≠ 0) :
    Calls Try.prog 30 #[.slice A b.length c, .int .i64 n] w fun e w' => e = .returned (.tuple #[.pointer none, .int .i64 (openE b.length n)]) ∧ w = w' := by
  have hw1 : IntKind.i64.wrap (8 * (b.length : Int)) = 8 * (b.length : Int) := IntWalk.i64_in _ (by omega)
  by_cases h0 : n < 0
  · have HE := Lib.hid (show openE b.length n = 1 by unfold openE; rw [if_pos (.inl h0)])
    clear he
    go_enter Try.func30, Try.ntmps30
    go_wp2
    go_ret2
    exact ⟨ret_two rfl (by rw [HE.out]; rfl), rfl⟩
  · have hd0 : decide (n < 0) = false := decide_eq_false h0
    by_cases h1 : 8 * (b.length : Int) < n
    · have HE := Lib.hid (show openE b.length n = 1 by unfold openE; rw [if_pos (.inr h1)])
      clear he h0
      go_enter Try.func30, Try.ntmps30
      go_wp2
      go_ret2
      exact ⟨ret_two rfl (by rw [HE.out]; rfl), rfl⟩
    · have h2 : 1048576 < n := by
        unfold openE at he
        rw [if_neg (by omega)] at he
        split at he
        · assumption
        · exact absurd rfl he
      have HE := Lib.hid (show openE b.length n = 2 by unfold openE; rw [if_neg (by omega), if_pos h2])
      have hd1 : decide (8 * (b.length : Int) < n) = false := decide_eq_false h1
      clear he h0 h1
      go_enter Try.func30, Try.ntmps30
      go_wp2
      go_ret2
      exact ⟨ret_two rfl (by rw [HE.out]; rfl), rfl⟩

set_option maxHeartbeats 1000000 in
set_option maxRecDepth 100000 in
theorem qopen_ok (A : Option Addr) (c : Nat) (b : List Int) (n : Nat) (w : World) (hS : RY w A c b) (hb : ∀ x ∈ b, 0 ≤ x ∧ x < 256) (hm : b.length ≤ 1000000000000) (h8 : n ≤ 8 * b.length) (hn : n ≤ 1048576) :
    Calls Try.prog 30 #[.slice A b.length c, .int .i64 (n : Int)] w fun e w' => ∃ g, e = .returned (.tuple #[.pointer (some ⟨g, 0, none⟩), .int .i64 0]) ∧ Qr (fun b => w.heap.size ≤ b) w' g (ofB b n) 0 ∧ Below w.heap.size w w' ∧ w.heap.size ≤ g := by
  have hw1 : IntKind.i64.wrap (8 * (b.length : Int)) = 8 * (b.length : Int) := IntWalk.i64_in _ (by omega)
  have hd0 : decide ((n : Int) < 0) = false := decide_eq_false (by omega)
  have hd1 : decide (8 * (b.length : Int) < (n : Int)) = false := decide_eq_false (by omega)
  have hd2 : decide ((1048576 : Int) < (n : Int)) = false := decide_eq_false (by omega)
  have HO := Lib.hid (of_ref A c b n w hS hb h8 (by omega))
  have HL := Lib.hid (ofB_length b n)
  clear hb hS
  go_enter Try.func30, Try.ntmps30
  go_wp2_with (go_at_call 66; refine HO.out.mono ?_; rintro e w2 ⟨x, rfl, hx, hb2⟩; obtain ⟨A1, c1, hv1, hs1⟩ := hx.rd; rw [bitsI_length, HL.out] at hv1; subst hv1)
  go_ret2
  refine ⟨_, rfl, ⟨A1, c1, ?_, ?_, ?_, ?_, hb2.size⟩, hb2.alloc hb2.size _, hb2.size⟩
  · rw [HL.out]; exact heap_alloc_new w2 _
  · exact ((hs1.weak (ok' := fun i => w.heap.size ≤ i ∧ i < w2.heap.size) fun i hi h => ⟨h.1, hi⟩).below (below_alloc (Below.refl _ _) _)).weak fun i _ h => ⟨h.1, by omega⟩
  · exact Nat.zero_le _
  · rw [HL.out]; exact hn

def cutL (l : List Bool) (i n : Nat) : List Bool := if l.length < i + n then [] else (l.drop i).take n
theorem Sl.part {ok : Nat → Prop} {w : World} {A : Option Addr} {c : Nat} {xs : List Int} {ik : IntKind} (h : Sl (kInt ik) ok w A c xs) (i n : Nat) (hn : i + n ≤ xs.length) : Sl (kInt ik) ok w (A.map fun x => x.add i) (c - i) ((xs.drop i).take n) := by
  have hr := (h.rd.drop i).take n
  rw [show i * (kInt ik).size = i from Nat.mul_one i] at hr
  exact ⟨by rw [List.length_take, List.length_drop]; have := h.le; omega, by have := h.cap; omega, hr⟩
theorem Sl.none {α : Type} {k : Kd α} {ok : Nat → Prop} {w : World} (A : Option Addr) (c : Nat) (hc : c ≤ 9223372036854775807) : Sl k ok w A c [] := ⟨Nat.zero_le _, hc, Kd.Rd.nil _ _ _ _⟩

theorem qnext_end {o : Nat → Prop} {w : World} {g i n : Nat} {l : List Bool} {A : Option Addr} {c : Nat} (H : Qr o w g l i) (hle : i + n ≤ l.length) (hP : Sl (kInt .u8) (fun b => o b ∧ b ≠ g) w A c (bitsI (cutL l i n))) (N : Nat) {X : Int} (hX : X = ((i + n : Nat) : Int)) (hI : getI l i n = i + n) :
    Sl (kInt .u8) (fun b => o b ∧ b ≠ g) ((w.drewN N).setCell ⟨g, 1, Option.none⟩ (.int .i64 X)) A c (bitsI (cutL l i n)) ∧ Qr o ((w.drewN N).setCell ⟨g, 1, Option.none⟩ (.int .i64 X)) g l (getI l i n) ∧ Upd (fun b => b = g) w ((w.drewN N).setCell ⟨g, 1, Option.none⟩ (.int .i64 X)) := by
  subst hX
  rw [hI]
  have H1 := H.upd (Upd.drewN (fun _ => False) w N) (fun _ _ _ h => h)
  obtain ⟨m1, m2⟩ := H1.move (i + n) 0 hle
  refine ⟨(hP.drewN N).keep (Keep.of_grown1 (grown_setCell _ g 1 _) |>.weak fun b hb => hb.2), m1, (Upd.drewN _ w N).trans m2 fun _ _ h => h⟩

set_option maxHeartbeats 2000000 in
set_option maxRecDepth 100000 in
theorem qnext_ref (o : Nat → Prop) (g i n : Nat) (l : List Bool) (w : World) (h : Qr o w g l i) (hm : n ≤ 2000000) :
    Calls Try.prog 83 #[.pointer (some ⟨g, 0, none⟩), .int .i64 (n : Int)] w
      fun e w' => ∃ A c, e = .returned (.tuple #[.slice A (cutL l i n).length c, .int .i64 (getE l i n)]) ∧ Sl (kInt .u8) (fun b => o b ∧ b ≠ g) w' A c (bitsI (cutL l i n)) ∧ Qr o w' g l (getI l i n) ∧ Upd (fun b => b = g) w w' := by
  obtain ⟨A, c, k0, k1, f1, hS⟩ := h.cells
  have hlb := h.bound
  have hi := h.le
  have hw1 : IntKind.i64.wrap ((l.length : Int) - (i : Int)) = (l.length : Int) - (i : Int) := IntWalk.i64_in _ (by omega)
  have H := Lib.hid h
  clear h
  by_cases hs : l.length < i + n
  · have hd2 : decide ((l.length : Int) - (i : Int) < (n : Int)) = true := decide_eq_true (by omega)
    have HS := Lib.hid (show getE l i n = 3 ∧ getI l i n = i ∧ cutL l i n = [] by unfold getE getI cutL; simp [hs])
    clear hs hlb hi hm
    go_enter Try.func83, Try.ntmps83
    go_wp2
    go_quiet (fail)
    go_wp2
    go_ret2
    refine ⟨_, _, ret_two ?_ (by rw [HS.out.1]; rfl), by rw [HS.out.2.2]; exact Sl.none none 0 (by omega), by rw [HS.out.2.1]; exact H.out.upd (Upd.drewN (fun _ => False) _ _) (fun _ _ _ h => h), Upd.drewN _ _ _⟩
    rw [HS.out.2.2]; rfl
  · have hd2 : decide ((l.length : Int) - (i : Int) < (n : Int)) = false := decide_eq_false (by omega)
    have hle : i + n ≤ l.length := by omega
    have HS := Lib.hid (show getE l i n = 0 ∧ getI l i n = i + n ∧ cutL l i n = (l.drop i).take n ∧ (cutL l i n).length = n by unfold getE getI cutL; rw [if_neg hs, if_neg hs, if_neg hs]; exact ⟨rfl, rfl, rfl, by rw [List.length_take, List.length_drop]; omega⟩)
    have hlc : l.length ≤ c := by have := hS.le; rwa [bitsI_length] at this
    have hw2 : IntKind.i64.wrap ((i : Int) + (n : Int)) = (i : Int) + (n : Int) := IntWalk.i64_in _ (by omega)
    have hi0 : (0 : Int) ≤ (i : Int) := by omega
    have hin : (i : Int) ≤ (i : Int) + (n : Int) := by omega
    have hic : (i : Int) + (n : Int) ≤ (c : Int) := by omega
    have hsb : ((i : Int) + (n : Int)).toNat - i = n := by omega
    have hcc := hS.cap
    have HM := Lib.hid (fun N M => (H.out.upd (Upd.drewN (fun _ => False) _ N) (fun _ _ _ h => h)).move (i + n) M hle)
    have e1 : ((i : Int) + (n : Int)) = ((i + n : Nat) : Int) := by omega
    have HE := Lib.hid e1
    have HLE := Lib.hid hle
    by_cases hci : c = i
    · obtain rfl : n = 0 := by omega
      have HC := Lib.hid hci
      have HSS := Lib.hid hS
      clear hs hS e1 hle
      go_enter Try.func83, Try.ntmps83
      go_wp2
      go_quiet (fail)
      go_wp2
      go_quiet (fail)
      go_wp2
      go_ret2
      refine ⟨A, 0, ret_two ?_ (by rw [HS.out.1]; rfl), qnext_end H.out (n := 0) (by omega) (by rw [HS.out.2.2.1]; exact Sl.none A 0 (by omega)) _ (by omega) HS.out.2.1⟩
      rw [HS.out.2.2.2]; rfl
    · have HP := Lib.hid (hS.part i n (by rw [bitsI_length]; exact hle))
      clear hs hS e1 hle
      go_enter Try.func83, Try.ntmps83
      go_wp2
      go_quiet (fail)
      go_wp2
      go_quiet (fail)
      go_wp2
      go_ret2
      refine ⟨_, _, ret_two ?_ (by rw [HS.out.1]; rfl), qnext_end H.out (n := n) HLE.out (by rw [HS.out.2.2.1, bitsI_take, bitsI_drop]; exact HP.out) _ HE.out HS.out.2.1⟩
      rw [HS.out.2.2.2]; rfl

set_option maxHeartbeats 1000000 in
set_option maxRecDepth 100000 in
theorem qtake_ref (o : Nat → Prop) (g i n : Nat) (l : List Bool) (w : World) (h : Qr o w g l i) (hm : n ≤ 2000000) :
    Calls Try.prog 68 #[.pointer (some ⟨g, 0, none⟩), .int .i64 (n : Int)] w
      fun e w' => ∃ v, e = .returned (.tuple #[v, .int .i64 (getE l i n)]) ∧ OwnI 5 .u8 w.heap.size w' v (packB (cutL l i n)) ∧ Qr o w' g l (getI l i n) ∧ Upd (fun b => b = g) w w' := by
  have hd0 : decide ((n : Int) < 0) = false := decide_eq_false (by omega)
  have HC := Lib.hid (qnext_ref o g i n l w h hm)
  have hlb := h.bound
  have hcl : (cutL l i n).length ≤ 1048576 := by unfold cutL; split <;> simp <;> omega
  have H := Lib.hid h
  clear h
  go_enter Try.func68, Try.ntmps68
  go_wp2_with (first
    | (go_at_call 83; refine HC.out.mono ?_; rintro e w2 ⟨A1, c1, rfl, hs1, hq1, hu1⟩; have HP := Lib.hid (pack_ref A1 c1 (cutL l i n) w2 hs1.any (by omega)))
    | (go_at_call 74; refine HP.out.mono ?_; rintro e w3 ⟨x, rfl, hx, hb3⟩))
  go_ret2
  exact ⟨_, ret_two rfl rfl, hx.mono hu1.size, hq1.below hb3, hu1.trans (Upd.of_below hb3 _) fun _ _ h => h⟩

set_option maxHeartbeats 400000 in
theorem qat_any (o : Nat → Prop) (g i : Nat) (l : List Bool) (w : World) (h : Qr o w g l i) :
    Calls Try.prog 36 #[.pointer (some ⟨g, 0, none⟩)] w fun e w' => e = .returned (.int .i64 i) ∧ w = w' := by
  obtain ⟨A, c, k0, k1, f1, hS⟩ := h.cells
  clear h hS
  go_enter Try.func36, Try.ntmps36
  go_wp2
  go_ret
  exact ⟨rfl, rfl⟩

set_option maxHeartbeats 400000 in
theorem qleft_any (o : Nat → Prop) (g i : Nat) (l : List Bool) (w : World) (h : Qr o w g l i) :
    Calls Try.prog 67 #[.pointer (some ⟨g, 0, none⟩)] w fun e w' => e = .returned (.int .i64 ((l.length - i : Nat) : Int)) ∧ Below w.heap.size w w' := by
  obtain ⟨A, c, k0, k1, f1, hS⟩ := h.cells
  have hlb := h.bound
  have hi := h.le
  have hw1 : IntKind.i64.wrap ((l.length : Int) - (i : Int)) = (l.length : Int) - (i : Int) := IntWalk.i64_in _ (by omega)
  have HI := Lib.hid hi
  clear h hi hlb hS
  go_enter Try.func67, Try.ntmps67
  go_wp2
  go_quiet (fail)
  go_wp2
  go_ret
  exact ⟨ret_int (by have := HI.out; omega), below_drewN (Below.refl _ _) _⟩

set_option maxHeartbeats 1000000 in
set_option maxRecDepth 100000 in
theorem qseek_any (o : Nat → Prop) (g i : Nat) (j : Int) (l : List Bool) (w : World) (h : Qr o w g l i) :
    Calls Try.prog 32 #[.pointer (some ⟨g, 0, none⟩), .int .i64 j] w
      fun e w' => e = .returned (.int .i64 (seekE l j)) ∧ Qr o w' g l (seekI l i j) ∧ Upd (fun b => b = g) w w' := by
  obtain ⟨A, c, k0, k1, f1, hS⟩ := h.cells
  have hlb := h.bound
  clear hS
  by_cases hs : j < 0
  · have H := Lib.hid h
    have HS := Lib.hid (show seekE l j = 6 ∧ seekI l i j = i by unfold seekE seekI; simp [hs])
    clear h
    go_enter Try.func32, Try.ntmps32
    go_wp2
    go_ret
    exact ⟨ret_int HS.out.1.symm, by rw [HS.out.2]; exact H.out, Upd.refl _ _⟩
  · obtain ⟨q, rfl⟩ := Int.eq_ofNat_of_zero_le (show 0 ≤ j by omega)
    have hd0 : decide ((q : Int) < 0) = false := decide_eq_false (by omega)
    by_cases hs2 : l.length < q
    · have H := Lib.hid h
      have hd : decide (l.length < q) = true := decide_eq_true hs2
      have HS := Lib.hid (show seekE l (q : Int) = 6 ∧ seekI l i (q : Int) = i by unfold seekE seekI; simp [hs2])
      clear h hs hs2
      go_enter Try.func32, Try.ntmps32
      go_wp2
      go_ret
      exact ⟨ret_int HS.out.1.symm, by rw [HS.out.2]; exact H.out, Upd.refl _ _⟩
    · have H := Lib.hid h
      have hd : decide (l.length < q) = false := decide_eq_false hs2
      have HS := Lib.hid (show seekE l (q : Int) = 0 ∧ seekI l i (q : Int) = q by unfold seekE seekI; rw [if_neg (by omega), if_neg (by omega)]; exact ⟨rfl, by simp⟩)
      have HM := Lib.hid (h.move q 0 (by omega))
      clear h hs hs2
      go_enter Try.func32, Try.ntmps32
      go_wp2
      go_ret
      exact ⟨ret_int HS.out.1.symm, by rw [HS.out.2]; exact HM.out.1, HM.out.2⟩
end Go.Proofs.Ytlbgkkkcbnagbaa
