/- pcm: the file's record: look. -/
import Derived.Test.YtijcecakofmhcaaDoorPcmZ
import Derived.Test.YtijcecakofmhcaaDoorPcmX
namespace Go.Proofs.YtijcecakofmhcaaDoor
open Go.RowKit

theorem ba_loop (bs : ByteArray) : ∀ (n i : Nat) (r : List UInt8), bs.size - i = n → ByteArray.toList.loop bs i r = r.reverse ++ bs.data.toList.drop i := by
  intro n
  induction n with
  | zero =>
    intro i r h
    rw [ByteArray.toList.loop.eq_def, if_neg (by omega), List.drop_of_length_le (by have : bs.data.toList.length = bs.size := rfl; omega), List.append_nil]
  | succ n ih =>
    intro i r h
    have hi : i < bs.size := by omega
    have hi' : i < bs.data.toList.length := hi
    rw [ByteArray.toList.loop.eq_def, if_pos hi, ih (i + 1) _ (by omega), List.drop_eq_getElem_cons hi', List.reverse_cons, List.append_assoc]
    congr 2
    have hg : bs.get! i = bs.data[i] := by
      show bs.data[i]! = _
      exact getElem!_pos bs.data i hi
    simp [hg]
theorem ba_toList (bs : ByteArray) : bs.toList = bs.data.toList := by
  show ByteArray.toList.loop bs 0 [] = _
  rw [ba_loop bs _ 0 [] rfl]; rfl
theorem ba_ne (bs : ByteArray) (l : List UInt8) (h : ¬ bs = ⟨l.toArray⟩) : (bs.toList == l) = false := by
  rw [ba_toList]
  refine beq_eq_false_iff_ne.2 fun e => h ?_
  subst e
  cases bs
  rfl

def nFmt : List Int := [102, 109, 116, 32]
def nData : List Int := [100, 97, 116, 97]
def lookE (s : FileS) (c : CkD) : Int := if c.2.2 = true then 3 else if c.1 = nFmt then formatE s c.2.1 else if c.1 = nData then dataE s c.2.1 else 0
def lookS (s : FileS) (c : CkD) : FileS := if c.2.2 = true then s else if c.1 = nFmt then formatS s c.2.1 else if c.1 = nData then dataS s c.2.1 else s

set_option maxHeartbeats 1000000 in
set_option maxRecDepth 100000 in
theorem look_any (g n : Nat) (hgn : g < n) (v0 : Value) (s : FileS) (A : Option Addr) (nm b : List Int) (bad : Bool) (w : World) (ok : Nat → Prop) (hG : GR w) (hg : 0 < g) (hF : FileAt g n v0 w s) (hnw : n ≤ w.heap.size) (hR : Sl (kInt .u8) ok w A b.length b) (hok : ∀ i, i < w.heap.size → ok i → i < g) (hn : Bytes nm) (hb : Bytes b)
    (hk : s.known = true → s.ch = 1 ∨ s.ch = 2) (hl : b.length ≤ 1000000) (hsl : s.l.length ≤ 1000000) :
    Calls Tryd.prog 60 #[.pointer (some ⟨g, 0, none⟩), .agg #[.string (strOfNums nm), .slice A b.length b.length, .bool bad]] w fun e w' => e = .returned (.int .i64 (lookE s (nm, b, bad))) ∧ (∃ v', FileAt g n v' w' (lookS s (nm, b, bad))) ∧ Chg g v0 w w' := by
  cases bad with
  | true =>
    go_enter Tryd.func60, Tryd.ntmps60
    go_wp2_with (((with_reducible refine at_dst (N := 3) rfl ?_); refine ev_new #[.string (strOfNums nm), .slice A b.length b.length, .bool true] 72 rfl ?hr ?_; (case hr => first | (go_simp; done) | (go_simp; rfl)); intro g1 w1 eg1 zg1 b1 Bg1; have k0 := Bg1.cell 0 rfl; have k1 := Bg1.cell 1 rfl; have k2 := Bg1.cell 2 rfl))
    go_ret
    exact ⟨rfl, ⟨v0, hF.below b1⟩, (Chg.refl _ _ _).then_ b1⟩
  | false =>
    by_cases h1 : nm = nFmt
    · have hs : strOfNums nm = ⟨#[102, 109, 116, 32]⟩ := by rw [h1]; rfl
      rw [hs]
      have HE := Lib.hid (show lookE s (nm, b, false) = formatE s b ∧ lookS s (nm, b, false) = formatS s b by simp [lookE, lookS, h1])
      clear h1 hs hn
      go_enter Tryd.func60, Tryd.ntmps60
      go_wp2_with (first | ((with_reducible refine at_dst (N := 3) rfl ?_); refine ev_new #[.string ⟨#[102, 109, 116, 32]⟩, .slice A b.length b.length, .bool false] 72 rfl ?hr ?_; (case hr => first | (go_simp; done) | (go_simp; rfl)); intro g1 w1 eg1 zg1 b1 Bg1; have k0 := Bg1.cell 0 rfl; have k1 := Bg1.cell 1 rfl; have k2 := Bg1.cell 2 rfl) | (go_at_call 87; refine (format_any g n hgn v0 s A b.length b w1 _ (hG.below b1) hg (hF.below b1) (Nat.le_trans hnw b1.size) ((hR.weak (ok' := fun i => i < g) (fun i hi ho => hok i hi ho)).below b1) (fun i hi ho => ho) hb hl).mono ?_; rintro e w2 ⟨rfl, hF2, hB2⟩))
      go_ret
      rw [HE.out.1, HE.out.2]
      exact ⟨rfl, ⟨v0, hF2⟩, Chg.pre b1 hB2⟩
    · by_cases h2 : nm = nData
      · have hs : strOfNums nm = ⟨#[100, 97, 116, 97]⟩ := by rw [h2]; rfl
        rw [hs]
        have HE := Lib.hid (show lookE s (nm, b, false) = dataE s b ∧ lookS s (nm, b, false) = dataS s b by rw [h2]; exact ⟨rfl, rfl⟩)
        clear h1 h2 hs hn
        go_enter Tryd.func60, Tryd.ntmps60
        go_wp2_with (first | ((with_reducible refine at_dst (N := 3) rfl ?_); refine ev_new #[.string ⟨#[100, 97, 116, 97]⟩, .slice A b.length b.length, .bool false] 72 rfl ?hr ?_; (case hr => first | (go_simp; done) | (go_simp; rfl)); intro g1 w1 eg1 zg1 b1 Bg1; have k0 := Bg1.cell 0 rfl; have k1 := Bg1.cell 1 rfl; have k2 := Bg1.cell 2 rfl) | (go_at_call 88; refine (data_any g n hgn v0 s A b.length b w1 _ (hF.below b1) (Nat.le_trans hnw b1.size) ((hR.weak (ok' := fun i => i < g) (fun i hi ho => hok i hi ho)).below b1) (fun i hi ho => ho) hb hk hl hsl).mono ?_; rintro e w2 ⟨rfl, hF2, hB2⟩))
        go_ret
        rw [HE.out.1, HE.out.2]
        exact ⟨rfl, hF2, Chg.pre b1 hB2⟩
      · have hs1 : ¬ strOfNums nm = ⟨#[102, 109, 116, 32]⟩ := fun e => h1 ((strOfNums_inj hn (by intro x hx; simp [nFmt] at hx; omega)).1 (e.trans (show _ = strOfNums nFmt from rfl)))
        have hs2 : ¬ strOfNums nm = ⟨#[100, 97, 116, 97]⟩ := fun e => h2 ((strOfNums_inj hn (by intro x hx; simp [nData] at hx; omega)).1 (e.trans (show _ = strOfNums nData from rfl)))
        have HE := Lib.hid (show lookE s (nm, b, false) = 0 ∧ lookS s (nm, b, false) = s by simp [lookE, lookS, h1, h2])
        have he1 := ba_ne (strOfNums nm) [102, 109, 116, 32] hs1
        have he2 := ba_ne (strOfNums nm) [100, 97, 116, 97] hs2
        clear hs1 hs2
        generalize strOfNums nm = st at he1 he2 ⊢
        clear h1 h2 hn
        go_enter Tryd.func60, Tryd.ntmps60
        go_wp2_with (first | ((with_reducible refine at_dst (N := 3) rfl ?_); refine ev_new #[.string st, .slice A b.length b.length, .bool false] 72 rfl ?hr ?_; (case hr => first | (go_simp; done) | (go_simp; rfl)); intro g1 w1 eg1 zg1 b1 Bg1; have k0 := Bg1.cell 0 rfl; have k1 := Bg1.cell 1 rfl; have k2 := Bg1.cell 2 rfl) | (go_at_call 86; refine (pass_any g _ w1).mono ?_; rintro e w2 ⟨rfl, rfl⟩))
        go_ret
        rw [HE.out.1, HE.out.2]
        exact ⟨rfl, ⟨v0, hF.below b1⟩, (Chg.refl _ _ _).then_ b1⟩
end Go.Proofs.YtijcecakofmhcaaDoor
