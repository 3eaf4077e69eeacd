/- Plain laws of layer 2: reading chunk by chunk. No program is walked. -/
import Derived.Test.YtijcecakofmhcaaDoorPcmPlainB
import Derived.Test.YtijcecakofmhcaaDoorPcmRefO
namespace Go.Proofs.YtijcecakofmhcaaDoor

theorem chunksF_fuel : ∀ (f g : Nat) (b : List Int), b.length < f → b.length < g → chunksF f b = chunksF g b := by
  intro f
  induction f with
  | zero => intro g b h; omega
  | succ f ih =>
    intro g b h1 h2
    obtain ⟨g, rfl⟩ : ∃ k, g = k + 1 := ⟨g - 1, by omega⟩
    have e : ∀ k, chunksF (k + 1) b = if b = [] then [] else if b.length < 8 ∨ b.length - 8 < ckN b + ckN b % 2 then [([], [], true)] else (b.take 4, (b.take (8 + ckN b)).drop 8, false) :: chunksF k (b.drop (8 + ckN b + ckN b % 2)) := fun _ => rfl
    rw [e, e]
    by_cases h : b = []
    · rw [if_pos h, if_pos h]
    · rw [if_neg h, if_neg h]
      have hp : 0 < b.length := by
        rcases Nat.eq_zero_or_pos b.length with h0 | h0
        · exact absurd (List.eq_nil_of_length_eq_zero h0) h
        · exact h0
      rw [ih g _ (by rw [List.length_drop]; omega) (by rw [List.length_drop]; omega)]
/-- What reading the rest leads to. -/
def rdR (s : FileS) (rest : List Int) : Int × FileS := readC s (chunksF (rest.length + 1) rest)
theorem rdR_nil (s : FileS) : rdR s [] = (0, s) := by unfold rdR; rw [chunksF_end]; rfl
theorem rdR_short (s : FileS) (rest : List Int) (h : rest ≠ []) (h8 : rest.length < 8 ∨ rest.length - 8 < ckN rest + ckN rest % 2) : rdR s rest = (3, s) := by
  unfold rdR chunksF
  rw [if_neg h, if_pos h8]
  rfl
theorem rdR_cons (s : FileS) (rest : List Int) (h : rest ≠ []) (h8 : ¬ (rest.length < 8 ∨ rest.length - 8 < ckN rest + ckN rest % 2)) :
    rdR s rest = if lookE s (rest.take 4, (rest.take (8 + ckN rest)).drop 8, false) = 0 then rdR (lookS s (rest.take 4, (rest.take (8 + ckN rest)).drop 8, false)) (rest.drop (8 + ckN rest + ckN rest % 2)) else (lookE s (rest.take 4, (rest.take (8 + ckN rest)).drop 8, false), s) := by
  unfold rdR
  have e : chunksF (rest.length + 1) rest = (rest.take 4, (rest.take (8 + ckN rest)).drop 8, false) :: chunksF rest.length (rest.drop (8 + ckN rest + ckN rest % 2)) := by
    rw [chunksF, if_neg h, if_neg h8]
  rw [e, readC, chunksF_fuel rest.length ((rest.drop (8 + ckN rest + ckN rest % 2)).length + 1) _ (by rw [List.length_drop]; omega) (by omega)]
/-- What holds of a record between two chunks. -/
structure KnOk (s : FileS) : Prop where
  file : FileOk s
  ch : s.known = false → s.ch = 0
theorem KnOk.start : KnOk fst0 := ⟨⟨fun h => (by cases h), fun _ => rfl, by decide⟩, fun _ => rfl⟩
theorem format_desc (s : FileS) (b : List Int) (h : s.known = false) : formatE s b = (if (descS b).2.2 = true then 0 else 4) ∧
    ((descS b).2.2 = true → formatS s b = ⟨(descS b).1, (descS b).2.1, true, s.done, s.l⟩ ∧ ((descS b).1 = 1 ∨ (descS b).1 = 2)) := by
  unfold formatE formatS descS
  rw [fmtL_drop]
  by_cases h16 : b.length = 16
  · have e1 : ¬ (s.known = true ∨ b.length ≠ 16) := by simp [h, h16]
    have e2 : ¬ b.length ≠ 16 := by simp [h16]
    rw [if_neg e1, if_neg e1, if_neg e2]
    by_cases hc : fmtCh b < 1 ∨ 2 < fmtCh b ∨ isRateB (fmtRate b) = false ∨ fmtB (fmtCh b) (fmtRate b) ≠ b
    · rw [if_pos hc, if_pos hc]
      exact ⟨by simp, fun e => by cases e⟩
    · rw [if_neg hc, if_neg hc]
      exact ⟨by simp, fun _ => ⟨rfl, by show fmtCh b = 1 ∨ fmtCh b = 2; omega⟩⟩
  · rw [if_pos (.inr h16), if_pos h16]
    exact ⟨by simp, fun e => by cases e⟩
theorem take_drop_at (b : List Int) (p j i : Nat) : ((b.drop p).take j).drop i = (b.take (p + j)).drop (p + i) := by
  rw [List.take_drop, List.drop_drop]
theorem take_at (b : List Int) (p j : Nat) : (b.drop p).take j = (b.take (p + j)).drop p := by rw [List.take_drop]
end Go.Proofs.YtijcecakofmhcaaDoor
