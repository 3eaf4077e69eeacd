/- Parts of slices and strings of bytes, as rules for the walk and as what they read as. -/
import Derived.Test.YtijcecakofmhcaaDoorLibB
import Derived.Laws.BytesArg
namespace Go.Proofs.YtijcecakofmhcaaDoor
open Go.RowKit
section
variable {P : Program} (t e : TypeId) {i : TypeInfo} (ht : P.underlying t = some (.slice e)) (hi : P.info? e = some i) (A : Option Addr) (n c : Nat)
include ht hi
/-- 'xs[lo:hi]'. -/
theorem cut_mid (lo hi' : Nat) (h1 : lo ≤ hi') (h2 : hi' ≤ n) (hnc : n ≤ c) :
    ∃ A' : Option Addr, (∀ W : World, (Instr.slice t (.slice A n c) (some (.int .i64 (lo : Int))) (some (.int .i64 (hi' : Int))) none).run P W = .ok (.slice A' (hi' - lo) (c - lo)) W) ∧
      ∀ {α : Type} (k : Kd α) (ok : Nat → Prop) (w : World) (xs : List α), k.size = i.size → xs.length = n → Sl k ok w A c xs → Sl k ok w A' (c - lo) ((xs.take hi').drop lo) := by
  refine ⟨if c = lo then A else A.map (·.add (lo * i.size)), fun W => ?_, fun k ok w xs hk hx h => ?_⟩
  · have hel : P.elem t = e := by simp [Program.elem, ht]
    have hu : P.underlying t = some (.slice (P.elem t)) := by rw [hel]; exact ht
    rw [run_slice_lh W t A n c hu .i64 .i64 (lo : Int) (hi' : Int) (Int.natCast_nonneg _) (by omega) (by omega), hel]
    simp [sizeOf, typeInfo, hi, sliced, Result.andThen]
  · refine ⟨by rw [List.length_drop, List.length_take]; have := h.le; omega, by have := h.cap; omega, ?_⟩
    by_cases hc : c = lo
    · have : (xs.take hi').drop lo = [] := List.drop_of_length_le (by rw [List.length_take]; omega)
      rw [this]
      exact Kd.Rd.nil _ _ _ _
    · rw [if_neg hc, ← hk]
      exact (h.rd.take hi').drop lo
/-- 'xs[lo:hi:hi]'. -/
theorem cut_max (lo hi' : Nat) (h1 : lo ≤ hi') (h2 : hi' ≤ n) (hnc : n ≤ c) :
    ∃ A' : Option Addr, (∀ W : World, (Instr.slice t (.slice A n c) (some (.int .i64 (lo : Int))) (some (.int .i64 (hi' : Int))) (some (.int .i64 (hi' : Int)))).run P W = .ok (.slice A' (hi' - lo) (hi' - lo)) W) ∧
      ∀ {α : Type} (k : Kd α) (ok : Nat → Prop) (w : World) (xs : List α), k.size = i.size → xs.length = n → Sl k ok w A c xs → Sl k ok w A' (hi' - lo) ((xs.take hi').drop lo) := by
  refine ⟨if hi' = lo then A else A.map (·.add (lo * i.size)), fun W => ?_, fun k ok w xs hk hx h => ?_⟩
  · have hel : P.elem t = e := by simp [Program.elem, ht]
    have hu : P.underlying t = some (.slice (P.elem t)) := by rw [hel]; exact ht
    rw [run_slice_lhm W t A n c hu .i64 .i64 .i64 (lo : Int) (hi' : Int) (hi' : Int) (Int.natCast_nonneg _) (by omega) (Int.le_refl _) (by omega), hel]
    simp [sizeOf, typeInfo, hi, sliced, Result.andThen]
  · refine ⟨by rw [List.length_drop, List.length_take]; have := h.le; omega, by have := h.cap; omega, ?_⟩
    by_cases hc : hi' = lo
    · have : (xs.take hi').drop lo = [] := List.drop_of_length_le (by rw [List.length_take]; omega)
      rw [this]
      exact Kd.Rd.nil _ _ _ _
    · rw [if_neg hc, ← hk]
      exact (h.rd.take hi').drop lo
/-- 'xs[:hi]'. -/
theorem cut_to (hi' : Nat) (h2 : hi' ≤ n) (hnc : n ≤ c) :
    ∃ A' : Option Addr, (∀ W : World, (Instr.slice t (.slice A n c) none (some (.int .i64 (hi' : Int))) none).run P W = .ok (.slice A' hi' c) W) ∧
      ∀ {α : Type} (k : Kd α) (ok : Nat → Prop) (w : World) (xs : List α), k.size = i.size → xs.length = n → Sl k ok w A c xs → Sl k ok w A' c (xs.take hi') := by
  refine ⟨if c = 0 then A else A.map (·.add (0 * i.size)), fun W => ?_, fun k ok w xs hk hx h => ?_⟩
  · have hel : P.elem t = e := by simp [Program.elem, ht]
    have hu : P.underlying t = some (.slice (P.elem t)) := by rw [hel]; exact ht
    rw [run_slice_h W t A n c hu .i64 (hi' : Int) (Int.natCast_nonneg _) (by omega), hel]
    simp [sizeOf, typeInfo, hi, sliced, Result.andThen]
  · refine ⟨by rw [List.length_take]; have := h.le; omega, h.cap, ?_⟩
    by_cases hc : c = 0
    · have : xs.take hi' = [] := List.eq_nil_of_length_eq_zero (by rw [List.length_take]; omega)
      rw [this]
      exact Kd.Rd.nil _ _ _ _
    · rw [if_neg hc, ← hk]
      have := (h.rd.take hi').drop 0
      rwa [List.drop_zero] at this
end
/-- 'string(xs)'. -/
theorem conv_str {P : Program} {src dst e : TypeId} (hs : P.underlying src = some (.slice e)) (he : P.underlying e = some (.int .u8)) (hd : P.underlying dst = some .string) {ok : Nat → Prop} {W : World} {A : Option Addr} {c c' : Nat} {xs : List Int} (h : Sl (kInt .u8) ok W A c' xs) :
    (convert src dst (.slice A xs.length c)).run P W = .ok (.string (strOfNums xs)) W := by
  rcases A with _ | ad
  · have : xs = [] := by
      cases xs with
      | nil => rfl
      | cons x xs => obtain ⟨ad, h', _⟩ := rd_int h 0 (by simp); cases h'
    subst this
    exact run_convert_bytes_nil W src e hs he _ _ dst hd
  · have hl : (loadCells ad xs.length).run P W = .ok (xs.map (Value.int .u8)).toArray W := by
      have := run_loadCells_list (P := P) W ad (xs.map (Value.int .u8)) (fun j v hj => by
        have hjl : j < xs.length := by
          rcases Nat.lt_or_ge j xs.length with h | h
          · exact h
          · simp [List.getElem?_eq_none (show (xs.map (Value.int .u8)).length ≤ j by simpa using h)] at hj
        obtain ⟨ad', h', hc⟩ := rd_int h j hjl
        injection h' with h'
        subst h'
        rw [hc]
        simp [List.getElem?_eq_getElem hjl] at hj
        rw [← hj, nth_eq 0 xs j hjl])
      simpa using this
    rw [run_convert_bytes_string W src dst e _ xs.length c hs he hd, run_bytesToString W ad _ c xs hl, foldl_push_bytes]
    simp [strOfNums, ByteArray.empty, ByteArray.emptyWithCapacity]
    rfl
def Bytes (xs : List Int) : Prop := ∀ x ∈ xs, 0 ≤ x ∧ x < 256
theorem strOfNums_inj {xs ys : List Int} (hx : Bytes xs) (hy : Bytes ys) : strOfNums xs = strOfNums ys ↔ xs = ys := by
  constructor
  · intro h
    have hd : xs.map (fun n => UInt8.ofNat n.toNat) = ys.map (fun n => UInt8.ofNat n.toNat) := by
      have := congrArg (fun b : ByteArray => b.data.toList) h
      simpa [strOfNums] using this
    have hl : xs.length = ys.length := by simpa using congrArg List.length hd
    refine List.ext_getElem hl fun j h1 h2 => ?_
    have hj : UInt8.ofNat xs[j].toNat = UInt8.ofNat ys[j].toNat := by
      have := congrArg (fun l : List UInt8 => l[j]?) hd
      simpa [h1, h2] using this
    have a := hx _ (List.getElem_mem h1)
    have b := hy _ (List.getElem_mem h2)
    have := congrArg UInt8.toNat hj
    simp at this
    omega
  · rintro rfl; rfl
end Go.Proofs.YtijcecakofmhcaaDoor
