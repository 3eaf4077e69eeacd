/- Maps whose keys are the words of a book: what they tell, and what an update does. · book: reading: what it returns. · book: a symbol that is read: what it returns, and where the reader is then. · bits: the reader's Gamma: what it returns, and where the reader is then. · book: value: what it returns, and where the reader is then. · Plain laws of layer 17 (book): what a list of groups is read as. No program is named. · book: group: what it returns, and where the reader is then. · book: Read: what it returns, and where the reader is then. · The reference's books: bare: what it returns. -/
import Derived.Test.YtmcdgmiheklbeaaGreatDoorKh
import Derived.Maps.OwnSet
import Derived.Maps.OwnOps
import Derived.DeepKeys4
import Derived.MapViews
import Derived.WideKeyArgs2
import Derived.Test.YtmcdgmiheklbeaaGreatDoorKf
namespace Go.Proofs.YtmcdgmiheklbeaaGreatDoor
open Go Go.RowKit Go.Maps

theorem laidQ : laidOutB Tryz.prog = true := by kernel_rfl
theorem rowQd : (180 : TypeId) < Tryz.prog.types.size := of_decide_eq_true (by kernel_rfl)
theorem wideQd : (match Tryz.prog.underlying 180 with | some (.array _ _) | some (.struct _) => true | _ => false) = true := by kernel_rfl
theorem deepQd : Tryz.prog.keyTypeAt 3 180 = true := by kernel_rfl
set_option maxRecDepth 100000 in
theorem klawQd : WideMaps.KeyLaw Tryz.prog 180 := deep_law_laid laidQ (m := 3) (by omega) rowQd deepQd wideQd
theorem lawQd : Keyed Tryz.prog 180 := Keyed.of_law klawQd
def klQ (k : Nat × Nat) : Lit := .string (keyBytes [.int .i64 (k.1 : Int), .int .i64 (k.2 : Int)])
def QKey (k : Nat × Nat) : Prop := k.1 ≤ 100000000 ∧ k.2 ≤ 100000000
def kvQ (k : Nat × Nat) : Value := .agg #[.int .i64 (k.1 : Int), .int .i64 (k.2 : Int)]
theorem wfQn (n : Nat) (h : n ≤ 100000000) : (Lit.int .i64 (n : Int)).wf = true := by
  have h1 : IntKind.i64.min ≤ (n : Int) := by
    have : IntKind.i64.min = -9223372036854775808 := rfl
    omega
  simp [Lit.wf, h1]
  omega
theorem wfQi (n : Nat) (h : n ≤ 1000000) : (Lit.int .i64 (n : Int)).wf = true := wfQn n (by omega)
theorem keyTypeQd : Tryz.prog.keyType 180 = true := by kernel_rfl
theorem cellsQd : Tryz.prog.cellsOf 180 = 2 := by kernel_rfl
theorem keyQ {k : Nat × Nat} (h : QKey k) : keyOf Tryz.prog 180 (kvQ k) = some (klQ k) := by
  have h1 := wfQn k.1 h.1
  have h2 := wfQn k.2 h.2
  obtain ⟨n, hn⟩ : ∃ n, Tryz.prog.types.size = n + 1 := ⟨Tryz.prog.types.size - 1, by have : 0 < Tryz.prog.types.size := of_decide_eq_true (by kernel_rfl); omega⟩
  unfold keyOf
  have hl : Tryz.prog.keyLits (n + 1 + 1) 180 [.int .i64 (k.1 : Int), .int .i64 (k.2 : Int)] = some [.int .i64 (k.1 : Int), .int .i64 (k.2 : Int)] := by
    have hi : ∀ v, (Lit.int .i64 v).wf = true → Tryz.prog.keyLits (n + 1) 3 [.int .i64 v] = some [.int .i64 v] := fun v hv => by
      unfold Program.keyLits
      rw [Tryz.underlying3]
      simp [hv]
    unfold Program.keyLits
    rw [Tryz.underlying180]
    have hc3 : Tryz.prog.cellsOf 3 = 1 := by kernel_rfl
    simp [cellsQd, hc3, hi _ h1, hi _ h2]
  have hf : (kvQ k).formed Tryz.prog 180 = true := by
    unfold kvQ Value.formed
    rw [Tryz.underlying180]
    simp [cellsQd]
  have hcells : (kvQ k).cells.toList = [.int .i64 (k.1 : Int), .int .i64 (k.2 : Int)] := rfl
  have hsz : Tryz.prog.types.size + 1 = n + 1 + 1 := by rw [hn]
  rw [Tryz.underlying180]
  simp only [keyTypeQd, hf, Bool.and_self, if_true, hcells, hsz, hl]
  rfl
theorem kvQ_inj {k k' : Nat × Nat} (h : kvQ k = kvQ k') : k = k' := by
  unfold kvQ at h
  simp at h
  exact Prod.ext (by omega) (by omega)
theorem klQ_inj {k k' : Nat × Nat} (h : QKey k) (h' : QKey k') (e : klQ k = klQ k') : k = k' :=
  kvQ_inj (lawQd.inj (keyQ h) (e ▸ keyQ h'))
theorem isKeyQ {k : Nat × Nat} (h : QKey k) : WideAt.IsKeyLit (klQ k) := lawQd.key (keyQ h)

/-- A map from words to symbols. -/
def SymQ (n : Nat) (w : World) (b : Nat) (f : Nat × Nat → Option Nat) : Prop :=
  ∃ D : DataW Unit, w.ownsMap Tryz.prog 180 (plainElem Tryz.prog 3) b n D ∧ IsMap D ∧ ∀ k, QKey k → Maps.has D (klQ k) = (f k).isSome ∧ ∀ x, f k = some x → D.atKey (klQ k) (.lit (.int .i64 0)) = .lit (.int .i64 (x : Int))
section
variable {n b : Nat} {w w' : World} {f : Nat × Nat → Option Nat}
theorem SymQ.lt (h : SymQ n w b f) : b < w.heap.size := let ⟨_, h, _⟩ := h; World.ownsMap.lt h
theorem SymQ.grown {row : Option Nat} (h : SymQ n w b f) (hg : w.grownBy w' row) (hne : some b ≠ row) : SymQ n w' b f := let ⟨D, h, r⟩ := h; ⟨D, World.ownsMap.kept h hg hne, r⟩
theorem ownsMap_blkQ {P : Program} {k : TypeId} {R : Value → Option (DataW Unit × List MemPlace)} {D : DataW Unit} (h : w.ownsMap P k R b n D) (hb : w'.heap[b]? = w.heap[b]?) : w'.ownsMap P k R b n D := by
  obtain ⟨es, clock, h1, h2⟩ := h
  exact ⟨es, clock, hb.trans h1, h2⟩
theorem SymQ.keep {ok : Nat → Prop} (h : SymQ n w b f) (hk : Keep ok w w') (ho : ok b) : SymQ n w' b f := let ⟨D, h1, r⟩ := h; ⟨D, ownsMap_blkQ h1 (hk.blk b h.lt ho), r⟩
theorem SymQ.below (h : SymQ n w b f) (hb : Below w.heap.size w w') : SymQ n w' b f := let ⟨D, h1, r⟩ := h; ⟨D, ownsMap_blkQ h1 (hb.block b h.lt), r⟩
theorem SymQ.mono (h : SymQ n w b f) {m : Nat} (hm : n ≤ m) : SymQ m w b f := let ⟨D, h, r⟩ := h; ⟨D, World.ownsMap.mono h hm, r⟩
end
theorem SymQ.new (w : World) : SymQ 0 (w.alloc (.map #[] 0)) w.heap.size (fun _ => none) :=
  ⟨_, World.ownsMap_made _ _ _ _, isMap_empty, fun k _ => ⟨rfl, fun x e => by cases e⟩⟩
theorem zeroIQ (w : World) : (zeroValue 3).run Tryz.prog w = .ok (.int .i64 0) w := by kernel_rfl
theorem underSQ : Tryz.prog.underlying 178 = some (.map 180 3) := by kernel_rfl
set_option maxRecDepth 100000 in
/-- 'm[k] = x'. -/
theorem SymQ.put {n b : Nat} {w : World} {f : Nat × Nat → Option Nat} (h : SymQ n w b f) (hn : n < 9000000000) (k : Nat × Nat) (hk : QKey k) (x : Nat) (hx : x ≤ 1000000) :
    ∃ w', (Instr.mapUpdate 178 (.map (some b)) (kvQ k) (.int .i64 (x : Int))).run Tryz.prog w = .ok () w' ∧ SymQ (n + 1) w' b (fun j => if j = k then some x else f j) ∧ w.grownBy w' (some b) := by
  obtain ⟨D, h1, h2, h3⟩ := h
  obtain ⟨w', hr, ho, hg⟩ := World.ownsMap.update h1 lawQd underSQ (by unfold maxLen; omega) (keyQ hk) (plainElem_int Tryz.underlying3 (wfQi x hx))
  refine ⟨w', hr, ⟨_, ho, h2.put _ _, fun j hj => ?_⟩, hg⟩
  dsimp only
  by_cases e : j = k
  · subst e
    rw [if_pos rfl]
    exact ⟨by rw [has_put_same h2 (isKeyQ hj)]; rfl, fun y hy => by rw [atKey_put_same h2 (isKeyQ hj)]; cases hy; rfl⟩
  · have hne : klQ j ≠ klQ k := fun he => e (klQ_inj hj hk he)
    rw [if_neg e, has_put_other hne, atKey_put_other hne]
    exact h3 j hj
set_option maxRecDepth 100000 in
/-- 'x, ok := m[k]'. -/
theorem SymQ.look {n b : Nat} {w : World} {f : Nat × Nat → Option Nat} (h : SymQ n w b f) (k : Nat × Nat) (hk : QKey k) :
    ∃ c : Int, (Instr.lookup 178 (.map (some b)) (kvQ k) true).run Tryz.prog w = .ok (.tuple #[.int .i64 c, .bool (f k).isSome]) w ∧ ∀ x, f k = some x → c = (x : Int) := by
  obtain ⟨D, h1, h2, h3⟩ := h
  obtain ⟨v, ps, hr, hv⟩ := World.ownsMap.look_ok h1 lawQd underSQ (zeroIQ w) (plainElem_int Tryz.underlying3 (by decide)) (keyQ hk)
  obtain ⟨c, rfl, hc, hw⟩ := plainElem_int_inv Tryz.underlying3 hv
  obtain ⟨h4, h5⟩ := h3 k hk
  refine ⟨c, by rw [hr, h4], fun x hx => ?_⟩
  have e1 := h5 x hx
  have e2 : D.atKey (klQ k) (.lit (.int .i64 0)) = .lit (.int .i64 c) := congrArg Prod.fst hc
  rw [e1] at e2
  injection e2 with e2
  injection e2 with _ e2
  exact e2.symm
end Go.Proofs.YtmcdgmiheklbeaaGreatDoor

namespace Go.Proofs.YtmcdgmiheklbeaaGreatDoor
open Go.RowKit

structure OpQ (T : List Int) (w : World) (g6 b k : Nat) (W : World) : Prop where
  box : Blk W g6 #[.map (some b)] 178
  sym : SymQ k W b (symF T k)
  low : Below w.heap.size w W
theorem tabK_pos (b k : Nat) (h1 : 1 ≤ b) (h8 : b < 8) (h : k < symsB b) : 0 < lenOf (tabKI b) k := by rw [tabK_lenOf b h1 h8 h]; exact (tab_bound b h1 h8 h).1
theorem symsB_le (b : Nat) (h8 : b < 8) : symsB b ≤ 256 := by
  have : b = 0 ∨ b = 1 ∨ b = 2 ∨ b = 3 ∨ b = 4 ∨ b = 5 ∨ b = 6 ∨ b = 7 := by omega
  rcases this with rfl | rfl | rfl | rfl | rfl | rfl | rfl | rfl <;> decide

set_option maxHeartbeats 2000000 in
set_option maxRecDepth 100000 in
theorem breading_any (g bk : Nat) (w : World) (hT : GT w) (h1 : 1 ≤ bk) (h8 : bk < 8) :
    Calls Tryz.prog 112 #[.pointer (some ⟨g, 0, none⟩), .int .i64 (bk : Int)] w fun e w' => ∃ g1 g6 b, e = .returned (.func (.func 129) #[] #[.pointer (some ⟨g1, 0, none⟩), .pointer (some ⟨g6, 0, none⟩)]) ∧ w.heap.size ≤ g1 ∧ g1 < b ∧ b < g6 ∧ g6 < w'.heap.size ∧
      Blk w' g1 #[.pointer (some ⟨g, 0, none⟩)] 53 ∧ Blk w' g6 #[.map (some b)] 178 ∧ SymQ (symsB bk) w' b (symF (tabKI bk) (symsB bk)) ∧ Below w.heap.size w w' := by
  have hmm := @run_makeMap Tryz.prog
  have HCD := Lib.hid (fun Ac cc W (h : RI W Ac cc (tabKI bk)) => codes_any Ac cc (tabKI bk) W h)
  have hcl0 : (codesL (tabKI bk)).length = symsB bk := by rw [codesL_length, tabKI_length bk h1 h8]
  rw [tabK_codes bk h1 h8, tabKI_length bk h1 h8] at HCD
  have HLN := Lib.hid (fun W (hb : Below w.heap.size w W) => lengths17_any bk W (hT.below hb) h8)
  have HHP := Lib.hid (below_alloc (Below.refl w.heap.size w) (.cells #[.pointer (some ⟨g, 0, none⟩)] 53))
  have HT := Lib.hid (And.intro h1 h8)
  have hsb := symsB_le bk h8
  have HTL := Lib.hid (tabKI_length bk h1 h8)
  have HCL := Lib.hid hcl0
  clear hT h1 h8 hcl0
  go_enter Tryz.func112, Tryz.ntmps112
  go_wp2_with (first
    | (go_at_call 60; refine (HLN.out _ HHP.out).mono ?_; rintro e w2 ⟨v2, rfl, hO2, b2⟩; obtain ⟨A2, c2, rfl, hL2⟩ := own_ri hO2; rw [HTL.out]; have HL2 := Lib.hid hL2; clear hO2 hL2)
    | (go_at_call 61; refine (HCD.out _ _ _ HL2.out).mono ?_; rintro e w3 ⟨v3, rfl, hO3, b3⟩; obtain ⟨A3, c3, rfl, hL3⟩ := own_ri hO3; rw [HCL.out]; have HL3 := Lib.hid hL3; clear hO3 hL3))
  have HX2 := Lib.hid (HL2.out.below b3)
  obtain ⟨b, hb⟩ : ∃ b, w3.heap.size = b := ⟨_, rfl⟩
  obtain ⟨g6, hg6⟩ : ∃ g6, b + 1 = g6 := ⟨_, rfl⟩
  obtain ⟨g1, hg1⟩ : ∃ g1, w.heap.size = g1 := ⟨_, rfl⟩
  have hB1 : Blk w3 g1 #[.pointer (some ⟨g, 0, none⟩)] 53 := by
    have h9 : Blk _ _ #[.pointer (some ⟨g, 0, none⟩)] 53 := heap_alloc_new w (.cells #[.pointer (some ⟨g, 0, none⟩)] 53)
    rw [hg1] at h9
    exact (h9.below b2).below b3
  have hbz := below2 (below2 (below_alloc (Below.refl w.heap.size w) (.cells #[.pointer (some ⟨g, 0, none⟩)] 53)) b2) b3
  have hI0 : OpQ (tabKI bk) w3 g6 b 0 ((w3.alloc (.map #[] 0)).alloc (.cells #[.map (some b)] 178)) := by
    have h6 : Blk _ _ #[.map (some b)] 178 := heap_alloc_new (w3.alloc (.map #[] 0)) (.cells #[.map (some b)] 178)
    rw [World.size_alloc, hb, hg6] at h6
    have hs := SymQ.new w3
    rw [hb] at hs
    exact ⟨h6, hs.below (below_alloc (Below.refl _ _) _), below_alloc (below_alloc (Below.refl _ _) _) _⟩
  have hl1 := hB1.lt
  have HG := Lib.hid (show w3.heap.size = b ∧ b + 1 = g6 ∧ w.heap.size = g1 ∧ g1 < b from ⟨hb, hg6, hg1, by omega⟩)
  have HBZ := Lib.hid hbz
  have HB1 := Lib.hid hB1
  simp only [hb, hg6, hg1]
  clear hb hg6 hg1 hl1 hbz hB1 b2 b3 HL2 HCD hmm
  go_loopw [9, 10, 21] (fun _ _ iv wr => ∃ k : Nat, iv = .int .i64 (k : Int) ∧ k ≤ symsB bk ∧ Hid (OpQ (tabKI bk) w3 g6 b k wr)) (fun _ _ iv _ => symsB bk - (intOf iv).toNat)
  case atStart => exact ⟨0, rfl, Nat.zero_le _, Lib.hid hI0⟩
  case round =>
    clear hI0
    obtain ⟨k, rfl, hk, hI⟩ := hrel
    by_cases hlt : k < symsB bk
    · have hki : (k : Int) < (symsB bk : Int) := by omega
      obtain ⟨ad, rfl, hc⟩ := rd_int (HX2.out.below hI.out.low) k (by rw [HTL.out]; exact hlt)
      obtain ⟨ad2, rfl, hc2⟩ := rd_int (HL3.out.below hI.out.low) k (by rw [HCL.out]; exact hlt)
      rw [codesL_nth _ _ (by rw [HTL.out]; exact hlt)] at hc2
      have hlo : nth 0 (tabKI bk) k = ((lenOf (tabKI bk) k : Nat) : Int) := by rw [tabK_lenOf bk HT.out.1 HT.out.2 hlt]; exact tabKI_nth bk k (by rw [tabK_length bk HT.out.1 HT.out.2]; exact hlt)
      rw [hlo] at hc
      have hl16 := tabK_len16 bk HT.out.1 HT.out.2 k
      have hcl : codeN (tabKI bk) k ≤ 65536 := by have h3 := tabK_code_lt bk HT.out.1 HT.out.2 hlt; have h4 : (2 : Nat) ^ lenOf (tabKI bk) k ≤ 2 ^ 16 := Nat.pow_le_pow_right (by decide) hl16; have h5 : (2 : Nat) ^ 16 = 65536 := by decide
                                                  omega
      have k6 := hI.out.box.cell 0 rfl
      have hdr := (Below.refl wr.heap.size wr).drew
      obtain ⟨w1, hr1, hs1, hg1⟩ := (hI.out.sym.below hdr).put (by omega) (lenOf (tabKI bk) k, codeN (tabKI bk) k) ⟨by show lenOf (tabKI bk) k ≤ _; omega, by show codeN (tabKI bk) k ≤ _; omega⟩ k (by omega)
      rw [← symF_yes (tabK_pos bk k HT.out.1 HT.out.2 hlt)] at hs1
      have HN := Lib.hid (show OpQ (tabKI bk) w3 g6 b (k + 1) w1 by
        have hG := HG.out
        have hk1 : Keep (fun x => x ≠ b) _ w1 := Keep.of_grown1 hg1
        exact ⟨(hI.out.box.below hdr).keep hk1 (by omega), hs1, below_grown (below2 hI.out.low hdr) (below2 hI.out.low hdr).size hg1 (fun j e => by have := Option.some.inj e; omega)⟩)
      replace hr1 : (Instr.mapUpdate 178 (.map (some b)) (.agg #[.int .i64 (lenOf (tabKI bk) k : Int), .int .i64 (codeN (tabKI bk) k : Int)]) (.int .i64 (k : Int))).run Tryz.prog wr.drew = .ok () w1 := hr1
      generalize lenOf (tabKI bk) k = L at hc hr1
      generalize codeN (tabKI bk) k = C at hc2 hr1
      clear hlo hl16 hcl hs1 hg1 hdr hlt
      go_wp2
      go_still_tail 8, (by kernel_rfl)
      change wpList _ _ _ _ _ (World.drew _)
      go_wp2
      go_roundw
      case rel => exact ⟨k + 1, by go_num, by omega, HN⟩
      case measure => simp [intOf]; omega
    · obtain rfl : k = symsB bk := by omega
      go_wp2
      go_ret
      have hG := HG.out
      have hI := hI.out
      have hz := hI.box.lt
      exact ⟨g1, g6, b, rfl, by omega, by omega, by omega, hz, HB1.out.below hI.low, hI.box, hI.sym, below2 HBZ.out hI.low⟩
end Go.Proofs.YtmcdgmiheklbeaaGreatDoor

namespace Go.Proofs.YtmcdgmiheklbeaaGreatDoor
open Go.RowKit

/-- A symbol, read from bits: the symbol, the error, and how many bits. -/
def symV (b : Nat) (D : List Bool) : Nat := if (wordR (tabKI b) D).2.1 = 0 then (wordR (tabKI b) D).1 else 0
def symE (b : Nat) (D : List Bool) : Int := (wordR (tabKI b) D).2.1
def symN (b : Nat) (D : List Bool) : Nat := (wordR (tabKI b) D).2.2
theorem symV_lt (b : Nat) (D : List Bool) (h1 : 1 ≤ b) (h8 : b < 8) : symV b D < symsB b := by
  unfold symV
  split
  · rename_i h3
    rcases (wordF_ok (tabKI b) D 16 0).2 with h4 | h4
    · have h5 : (wordR (tabKI b) D).1 < (tabKI b).length := h4.2
      rw [tabKI_length b h1 h8] at h5; exact h5
    · have h5 : (wordR (tabKI b) D).2.1 = 3 := h4.1
      omega
  · unfold symsB; exact Nat.pow_pos (Nat.succ_pos _)
structure RqI (bk : Nat) (o : Nat → Prop) (w : World) (l : List Bool) (g i b g1 g6 g4 n : Nat) (W : World) : Prop where
  rd : Rr o W g l (i + n)
  b1 : Blk W g1 #[.pointer (some ⟨g, 0, none⟩)] 53
  b6 : Blk W g6 #[.map (some b)] 178
  cur : Blk W g4 #[.int .i64 (n : Int), .int .i64 ((valB ((l.drop i).take n) : Nat) : Int)] 180
  sym : SymQ (symsB bk) W b (symF (tabKI bk) (symsB bk))
  upd : Upd (fun x => x = g) w W
  no : NoWord (tabKI bk) (l.drop i) n
  run : wordR (tabKI bk) (l.drop i) = wordF (tabKI bk) (l.drop i) (16 - n) n
  n15 : n ≤ 15

set_option maxHeartbeats 4000000 in
set_option maxRecDepth 100000 in
theorem symRd0 (bk : Nat) (hk1 : 1 ≤ bk) (hk8 : bk < 8) (o : Nat → Prop) (g i b g1 g6 : Nat) (l : List Bool) (w : World) (ho : ∀ x, o x → x < w.heap.size) (h : Rr o w g l i) (h1 : Blk w g1 #[.pointer (some ⟨g, 0, none⟩)] 53) (h6 : Blk w g6 #[.map (some b)] 178)
    (hs : SymQ (symsB bk) w b (symF (tabKI bk) (symsB bk))) (n1 : g1 ≠ g) (n6 : g6 ≠ g) (nb : b ≠ g) :
    Calls Tryz.prog 129 #[.pointer (some ⟨g1, 0, none⟩), .pointer (some ⟨g6, 0, none⟩)] w
      fun e w' => e = .returned (.tuple #[.int .i64 (symV bk (l.drop i)), .int .i64 (symE bk (l.drop i))]) ∧ Rr o w' g l (i + symN bk (l.drop i)) ∧ Upd (fun x => x = g) w w' := by
  have HO := Lib.hid ho
  have HTL := Lib.hid (tabKI_length bk hk1 hk8)
  have HTR := Lib.hid (tabK_right bk hk1 hk8)
  have HTF := Lib.hid (tabK_filled bk hk1 hk8)
  have HSB := Lib.hid (symsB_le bk hk8)
  clear hk1 hk8
  have hI0 : RqI bk o w l g i b g1 g6 w.heap.size 0 (w.alloc (.cells #[.int .i64 0, .int .i64 0] 180)) := by
    have hal := below_alloc (Below.refl w.heap.size w) (.cells #[.int .i64 0, .int .i64 0] 180)
    exact ⟨h.below hal, h1.below hal, h6.below hal, heap_alloc_new w _, hs.below hal, Upd.of_below hal _, fun m h1 h2 => by omega, rfl, by omega⟩
  have HL := Lib.hid (show g < w.heap.size ∧ g1 < w.heap.size ∧ g6 < w.heap.size ∧ b < w.heap.size from ⟨h.lt, h1.lt, h6.lt, hs.lt⟩)
  clear h h1 h6 hs ho
  go_enter Tryz.func129, Tryz.ntmps129
  go_wp2
  obtain ⟨g4, hg4⟩ : ∃ g4, w.heap.size = g4 := ⟨_, rfl⟩
  rw [hg4] at hI0
  simp only [hg4]
  have HG := Lib.hid (show w.heap.size = g4 ∧ g < g4 ∧ g1 < g4 ∧ g6 < g4 ∧ b < g4 from ⟨hg4, by rw [← hg4]; exact HL.out⟩)
  clear hg4 HL
  go_loopw [5, 6, 7, 8] (fun _ _ _ _ wr => ∃ n : Nat, RqI bk o w l g i b g1 g6 g4 n wr) (fun _ _ _ _ wr => match wr.cell? ⟨g4, 0, none⟩ with | some (.int _ n) => 17 - n.toNat | _ => 0)
  case atStart => exact ⟨0, hI0⟩
  case round =>
    clear hI0
    obtain ⟨n, hI⟩ := hrel
    have p0 := hI.b1.cell 0 rfl
    have c0 := hI.cur.cell 0 rfl
    have c1 := hI.cur.cell 1 rfl
    have f0 := hI.cur.free 0
    have f1 := hI.cur.free 1
    have hile := hI.rd.le
    have hn15 := hI.n15
    by_cases hsh : l.length < i + n + 1
    · have hE : getE l (i + n) 1 = 3 ∧ getV l (i + n) 1 = 0 ∧ getI l (i + n) 1 = i + n := by unfold getE getV getI; simp [hsh]
      have hC := rget_any o g (i + n) 1 l wr hI.rd (by decide)
      rw [hE.1, hE.2.1, hE.2.2] at hC
      have hres : wordR (tabKI bk) (l.drop i) = (0, 3, n) := by
        rw [hI.run, show 16 - n = (15 - n) + 1 by omega]
        unfold wordF
        rw [if_pos (by rw [List.length_drop]; omega)]
      have HRS := Lib.hid (show symV bk (l.drop i) = 0 ∧ symE bk (l.drop i) = 3 ∧ symN bk (l.drop i) = n by unfold symV symE symN; rw [hres]; exact ⟨rfl, rfl, rfl⟩)
      have HC := Lib.hid hC
      have HI := Lib.hid hI
      clear hI hE hC hres hsh
      go_wp2_with (go_at_call 109; refine HC.out.mono ?_; rintro e w2 ⟨rfl, hr2, hu2⟩)
      go_ret2
      exact ⟨ret_two (by rw [HRS.out.1]; rfl) (by rw [HRS.out.2.1]; rfl), by rw [HRS.out.2.2]; exact hr2, HI.out.upd.trans hu2 fun _ _ h => h⟩
    · have hE : getE l (i + n) 1 = 0 ∧ (getV l (i + n) 1 : Int) = b2i (nth false l (i + n)) ∧ getI l (i + n) 1 = i + n + 1 := by
        unfold getE getV getI
        rw [if_neg hsh, if_neg hsh, if_neg hsh]
        refine ⟨rfl, ?_, rfl⟩
        rw [drop_nth false l (i + n) (by omega)]
        simp [valB, b2i_nat]
      have hC := rget_any o g (i + n) 1 l wr hI.rd (by decide)
      rw [hE.1, hE.2.1, hE.2.2] at hC
      obtain ⟨x, hx⟩ : ∃ x, valB ((l.drop i).take n) = x := ⟨_, rfl⟩
      obtain ⟨t, ht⟩ : ∃ t, nth false l (i + n) = t := ⟨_, rfl⟩
      have hxl : x < 2 ^ n := by
        have := valB_lt ((l.drop i).take n)
        rw [hx, List.length_take, List.length_drop, Nat.min_eq_left (by omega)] at this
        exact this
      have h2n : 2 ^ n ≤ 65536 := by have := Nat.pow_le_pow_right (n := 2) (by decide) (show n ≤ 16 by omega); simpa using this
      have hV : valB ((l.drop i).take (n + 1)) = 2 * x + t.toNat := by
        rw [take_succ_nth false _ n (by rw [List.length_drop]; omega), valB_snoc, hx, nth_drop, ht]
      obtain ⟨V, hVe⟩ : ∃ V, 2 * x + t.toNat = V := ⟨_, rfl⟩
      rw [hVe] at hV
      have hbt := toNat_le t
      have htn : b2i t = (t.toNat : Int) := b2i_nat t
      rw [ht] at hC
      rw [hx] at c1
      obtain ⟨N, hN⟩ : ∃ N, n + 1 = N := ⟨_, rfl⟩
      have hw1 : IntKind.i64.wrap ((n : Int) + 1) = (N : Int) := by rw [IntWalk.i64_in _ (by omega)]; omega
      have hw2 : IntKind.i64.wrap (2 * (x : Int)) = 2 * (x : Int) := IntWalk.i64_in _ (by omega)
      have hw3 : IntKind.i64.wrap (2 * (x : Int) + b2i t) = (V : Int) := by rw [IntWalk.i64_in _ (by omega)]; omega
      have hrun : wordR (tabKI bk) (l.drop i) = match symF (tabKI bk) (symsB bk) (N, V) with
          | some s => (s, 0, N)
          | none => wordF (tabKI bk) (l.drop i) (16 - N) N := by
        rw [hI.run, show 16 - n = (16 - N) + 1 by omega]
        conv => lhs; unfold wordF
        rw [if_neg (by rw [List.length_drop]; omega), hV, hN, HTL.out]
        try (cases symF (tabKI bk) (symsB bk) (N, V) <;> rfl)
      have hNV : QKey (N, V) := ⟨by show N ≤ _; omega, by show V ≤ _; omega⟩
      have HI := Lib.hid hI
      have HC := Lib.hid hC
      have HRUN := Lib.hid hrun
      have HV := Lib.hid hV
      have HN := Lib.hid hN
      have HNV := Lib.hid hNV
      have HX := Lib.hid hx
      have hgz := HG.out
      have HRES := Lib.hid (show ∀ w2, Upd (fun j => j = g) wr w2 → Upd (fun j => j = g ∨ j = g4) wr ((w2.setCell ⟨g4, 0, none⟩ (.int .i64 (N : Int))).setCell ⟨g4, 1, none⟩ (.int .i64 (V : Int))) from fun w2 hu =>
        (hu.weak (o' := fun j => j = g ∨ j = g4) fun _ _ h => .inl h).trans (set_two w2 g4 (.int .i64 (N : Int)) (.int .i64 (V : Int))) fun _ _ h => .inr h)
      have HNW := Lib.hid (show symF (tabKI bk) (symsB bk) (N, V) = none → NoWord (tabKI bk) (l.drop i) N from fun h => by rw [← hN]; exact hI.no.succ (by rw [HTL.out, hN, ← hN, hV, hN]; exact h))
      have hNl : N ≤ (l.drop i).length := by rw [List.length_drop]; omega
      have HNL := Lib.hid hNl
      cases hsy : symF (tabKI bk) (symsB bk) (N, V) with
      | some s =>
        have HSY := Lib.hid hsy
        have hs191 := (symF_lt hsy).1
        clear hI hE hC hrun hV hN hNV hsh hx ht hxl h2n hVe hbt htn hsy hile hNl
        go_wp2_with fail
        refine HC.out.mono ?_
        rintro e w2 ⟨rfl, hr2, hu2⟩
        have hu3 := HRES.out w2 hu2
        have hk2 := hu3.keep (ok := fun j => j ≠ g ∧ j ≠ g4) fun _ h h2 => by omega
        obtain ⟨c, hlk, hlc⟩ := (HI.out.sym.keep hk2 (by omega)).look (N, V) HNV.out
        rw [HSY.out] at hlk
        rw [hlc s HSY.out] at hlk
        replace hlk : (Instr.lookup 178 (.map (some b)) (.agg #[.int .i64 (N : Int), .int .i64 (V : Int)]) true).run Tryz.prog ((w2.setCell ⟨g4, 0, none⟩ (.int .i64 (N : Int))).setCell ⟨g4, 1, none⟩ (.int .i64 (V : Int))) = .ok (.tuple #[.int .i64 (s : Int), .bool true]) _ := hlk
        have kk := hu2.keep (ok := fun j => j ≠ g) fun _ h => h
        have d0 := (HI.out.cur.keep kk (by omega)).cell 0 rfl
        have d1 := (HI.out.cur.keep kk (by omega)).cell 1 rfl
        rw [HX.out] at d1
        have e0 := (HI.out.cur.keep kk (by omega)).free 0
        have e1 := (HI.out.cur.keep kk (by omega)).free 1
        have q0 := (HI.out.b6.keep kk (by omega)).cell 0 rfl
        have n64 : g6 ≠ g4 := by omega
        clear kk hk2 hlc c0 c1 f0 f1 p0
        have HU3 := Lib.hid hu3
        clear hu3
        go_wp2
        go_ret2
        have hR : wordR (tabKI bk) (l.drop i) = (s, 0, N) := by rw [HRUN.out, HSY.out]
        have hR2 : symV bk (l.drop i) = s ∧ symE bk (l.drop i) = 0 ∧ symN bk (l.drop i) = N := by unfold symV symE symN; rw [hR]; exact ⟨rfl, rfl, rfl⟩
        refine ⟨ret_two (by rw [hR2.1]; rfl) (by rw [hR2.2.1]; rfl), ?_, ?_⟩
        · rw [hR2.2.2]
          have hNN := HN.out
          have hr3 := hr2.upd (set_two w2 g4 (.int .i64 (N : Int)) (.int .i64 (V : Int))) (fun b _ h1 h2 => by have := HO.out b h1; omega)
          rw [show i + N = i + n + 1 by omega]
          exact hr3
        · exact (HI.out.upd.weak (o' := fun b => b = g) fun _ _ h => h).trans HU3.out (fun b hb e => by rcases e with e | e <;> omega)
      | none =>
        have HSY := Lib.hid hsy
        have hN15 := begs_16 HTR.out HTF.out (show N ≤ 16 by omega) hNl (HNW.out hsy)
        clear hI hE hC hrun hV hN hNV hsh hx ht hxl h2n hVe hbt htn hsy hile hNl
        go_wp2_with fail
        refine HC.out.mono ?_
        rintro e w2 ⟨rfl, hr2, hu2⟩
        have hu3 := HRES.out w2 hu2
        have hk2 := hu3.keep (ok := fun j => j ≠ g ∧ j ≠ g4) fun _ h h2 => by omega
        obtain ⟨c, hlk, hlc⟩ := (HI.out.sym.keep hk2 (by omega)).look (N, V) HNV.out
        rw [HSY.out] at hlk
        replace hlk : (Instr.lookup 178 (.map (some b)) (.agg #[.int .i64 (N : Int), .int .i64 (V : Int)]) true).run Tryz.prog ((w2.setCell ⟨g4, 0, none⟩ (.int .i64 (N : Int))).setCell ⟨g4, 1, none⟩ (.int .i64 (V : Int))) = .ok (.tuple #[.int .i64 c, .bool false]) _ := hlk
        have kk := hu2.keep (ok := fun j => j ≠ g) fun _ h => h
        have HCUR := Lib.hid (HI.out.cur.keep kk (by omega))
        have d0 := (HI.out.cur.keep kk (by omega)).cell 0 rfl
        have d1 := (HI.out.cur.keep kk (by omega)).cell 1 rfl
        rw [HX.out] at d1
        have e0 := (HI.out.cur.keep kk (by omega)).free 0
        have e1 := (HI.out.cur.keep kk (by omega)).free 1
        have q0 := (HI.out.b6.keep kk (by omega)).cell 0 rfl
        have n64 : g6 ≠ g4 := by omega
        clear kk hlc f0 f1 p0
        have HU3 := Lib.hid hu3
        have HK2 := Lib.hid hk2
        have HC0 := Lib.hid c0
        clear hu3 hk2 c0 c1
        go_wp2
        go_roundw
        case rel =>
          have hNN := HN.out
          have hk2 := HK2.out
          have hVV := HV.out
          rw [hNN] at hVV
          refine ⟨N, ⟨?_, HI.out.b1.keep hk2 ⟨by omega, by omega⟩, HI.out.b6.keep hk2 ⟨by omega, by omega⟩, ?_, HI.out.sym.keep hk2 ⟨by omega, by omega⟩, ?_, HNW.out HSY.out, ?_, hN15⟩⟩
          · rw [show i + N = i + n + 1 by omega]
            exact hr2.upd (set_two w2 g4 (.int .i64 (N : Int)) (.int .i64 (V : Int))) (fun b _ h1 h2 => by have := HO.out b h1; omega)
          · rw [hVV]
            exact (HCUR.out.set 0 (.int .i64 (N : Int))).set 1 (.int .i64 (V : Int))
          · exact (HI.out.upd.weak (o' := fun b => b = g) fun _ _ h => h).trans HU3.out (fun b hb e => by rcases e with e | e <;> omega)
          · rw [HRUN.out, HSY.out]
        case measure =>
          have hNN := HN.out
          have hc := ((HCUR.out.set 0 (.int .i64 (N : Int))).set 1 (.int .i64 (V : Int))).cell 0 (v := .int .i64 (N : Int)) rfl
          have hc2 : wr.cell? ⟨g4, 0, none⟩ = some (.int .i64 (n : Int)) := HC0.out
          rw [hc, hc2]
          show 17 - ((N : Int)).toNat < 17 - ((n : Int)).toNat
          omega
theorem symRd_any (bk : Nat) (hk1 : 1 ≤ bk) (hk8 : bk < 8) (o : Nat → Prop) (g i b g1 g6 : Nat) (l : List Bool) (w : World) (h : Rr o w g l i) (h1 : Blk w g1 #[.pointer (some ⟨g, 0, none⟩)] 53) (h6 : Blk w g6 #[.map (some b)] 178)
    (hs : SymQ (symsB bk) w b (symF (tabKI bk) (symsB bk))) (n1 : g1 ≠ g) (n6 : g6 ≠ g) (nb : b ≠ g) :
    Calls Tryz.prog 129 #[.pointer (some ⟨g1, 0, none⟩), .pointer (some ⟨g6, 0, none⟩)] w
      fun e w' => e = .returned (.tuple #[.int .i64 (symV bk (l.drop i)), .int .i64 (symE bk (l.drop i))]) ∧ Rr o w' g l (i + symN bk (l.drop i)) ∧ Upd (fun x => x = g) w w' :=
  (symRd0 bk hk1 hk8 (fun x => o x ∧ x < w.heap.size) g i b g1 g6 l w (fun _ h => h.2) h.cut h1 h6 hs n1 n6 nb).mono fun _ _ ⟨h1, h2, h3⟩ => ⟨h1, h2.weak fun _ _ h => h.1, h3⟩
end Go.Proofs.YtmcdgmiheklbeaaGreatDoor

namespace Go.Proofs.YtmcdgmiheklbeaaGreatDoor
open Go.RowKit

theorem ofInt_64 (a : Nat) (h : a < 18446744073709551616) : (BitVec.ofInt 64 (a : Int)).toNat = a := by
  rw [BitVec.toNat_ofInt]; omega
theorem or_pow (k v : Nat) (hk : k ≤ 20) (hv : v < 2 ^ k) : Go.bits .or .i64 ((2 ^ k : Nat) : Int) (v : Int) = ((2 ^ k + v : Nat) : Int) := by
  have h20 : (2 : Nat) ^ k ≤ 2 ^ 20 := Nat.pow_le_pow_right (by decide) hk
  have h21 : (2 : Nat) ^ 20 = 1048576 := by decide
  have hor : 2 ^ k ||| v = 2 ^ k + v := by have h := Nat.two_pow_add_eq_or_of_lt hv 1; rw [Nat.mul_one] at h; exact h.symm
  show IntKind.i64.wrap ((BitVec.ofInt 64 ((2 ^ k : Nat) : Int) ||| BitVec.ofInt 64 (v : Int)).toNat : Int) = _
  rw [BitVec.toNat_or, ofInt_64 _ (by omega), ofInt_64 v (by omega), hor]
  exact IntWalk.i64_in _ (by omega)
theorem zerF_ok (D : List Bool) : ∀ n, (zerF D n).2 = 0 → n ≤ (zerF D n).1 ∧ (zerF D n).1 - n + 1 ≤ D.length := by
  induction D with
  | nil => intro n h; cases h
  | cons x D ih =>
    intro n h
    cases x
    · have e : zerF (false :: D) n = if 20 < n + 1 then ((0, 4) : Nat × Int) else zerF D (n + 1) := rfl
      rw [e] at h ⊢
      split at h
      · cases h
      · rename_i h2
        rw [if_neg h2]
        have := ih (n + 1) h
        rw [List.length_cons]; omega
    · show n ≤ n ∧ n - n + 1 ≤ D.length + 1
      omega
set_option maxHeartbeats 2000000 in
set_option maxRecDepth 100000 in
theorem rdgamma_any (o : Nat → Prop) (g i : Nat) (l : List Bool) (w : World) (h : Rr o w g l i) :
    Calls Tryz.prog 110 #[.pointer (some ⟨g, 0, none⟩)] w
      fun e w' => e = .returned (.tuple #[.int .i64 ((gamF (l.drop i)).1 : Nat), .int .i64 (gamF (l.drop i)).2.1]) ∧ Rr o w' g l (i + (gamF (l.drop i)).2.2) ∧ Upd (fun b => b = g) w w' := by
  obtain ⟨⟨_, _, _, k0⟩, k1, k2, f2⟩ := h.cells
  have HC := Lib.hid (rdzeros_any o g i l w h)
  have hle := h.le
  have hbd := h.bound
  have hz20 := zerF_le (l.drop i) 0 (by omega)
  have hzok := zerF_ok (l.drop i) 0
  rw [List.length_drop] at hzok
  have HX := Lib.hid (show gamF (l.drop i) = if (zerF (l.drop i) 0).2 ≠ 0 then ((0 : Nat), (zerF (l.drop i) 0).2, (0 : Nat)) else if (l.drop i).length < 2 * (zerF (l.drop i) 0).1 + 1 then (0, 3, 0) else (2 ^ (zerF (l.drop i) 0).1 + valB (((l.drop i).drop ((zerF (l.drop i) 0).1 + 1)).take (zerF (l.drop i) 0).1), 0, 2 * (zerF (l.drop i) 0).1 + 1) from rfl)
  generalize gamF (l.drop i) = G at HX
  obtain ⟨Z, hZ⟩ : ∃ Z, zerF (l.drop i) 0 = Z := ⟨_, rfl⟩
  rw [hZ] at HC HX hz20 hzok
  obtain ⟨k, E⟩ := Z
  simp only at HC HX hz20 hzok
  clear hZ
  by_cases hE : E = 0
  · subst hE
    have hk := hzok rfl
    have hzi : zerI i (k, 0) = i + k + 1 := rfl
    rw [hzi] at HC
    have hwa : IntKind.i64.wrap ((l.length : Int) - ((i + k + 1 : Nat) : Int)) = ((l.length - (i + k + 1) : Nat) : Int) := by rw [Int.ofNat_sub (by omega)]; exact IntWalk.i64_in _ (by omega)
    by_cases hs : (l.drop i).length < 2 * k + 1
    · have HG := Lib.hid (HX.out.trans (by rw [if_neg (by simp), if_pos hs]))
      rw [List.length_drop] at hs
      have hd : decide (((l.length - (i + k + 1) : Nat) : Int) < (k : Int)) = true := decide_eq_true (by omega)
      have hdn : decide (l.length - (i + k + 1) < k) = true := decide_eq_true (by omega)
      generalize l.length - (i + k + 1) = q at hwa hd hdn
      obtain ⟨j, hj⟩ : ∃ j, i + k + 1 = j := ⟨_, rfl⟩
      rw [hj] at HC hwa
      have HLE := Lib.hid hle
      clear hk hs hj hzok hle
      go_enter Tryz.func110, Tryz.ntmps110
      go_wp2_with (go_at_call 128; refine HC.out.mono ?_; rintro e w2 ⟨rfl, hr, hu⟩; obtain ⟨⟨_, _, _, q0⟩, q1, q2, g2⟩ := hr.cells; have HR := Lib.hid hr; have HU := Lib.hid hu; clear hr hu)
      go_quiet (fail)
      go_wp2
      go_ret2
      have hm := (HR.out.upd (Upd.drewN (fun _ => False) _ nq) (fun _ _ _ h => h)).move i 0 HLE.out
      refine ⟨by rw [HG.out]; rfl, ?_, ?_⟩
      · rw [HG.out]; exact hm.1
      · exact (HU.out.trans (Upd.drewN (fun b => b = g) _ nq) fun _ _ h => h).trans hm.2 fun _ _ h => h
    · have HG := Lib.hid (HX.out.trans (by rw [if_neg (by simp), if_neg hs]))
      rw [List.length_drop] at hs
      have hd : decide (((l.length - (i + k + 1) : Nat) : Int) < (k : Int)) = false := decide_eq_false (by omega)
      have hdn : decide (l.length - (i + k + 1) < k) = false := decide_eq_false (by omega)
      have hlk : i + k + 1 + k ≤ l.length := by omega
      generalize l.length - (i + k + 1) = q at hwa hd hdn
      have HN := Lib.hid (fun W (hr : Rr o W g l (i + k + 1)) => rnext_any o g (i + k + 1) k l W hr hlk (by omega))
      rw [show (l.drop (i + k + 1)) = (l.drop i).drop (k + 1) by rw [List.drop_drop, Nat.add_assoc]] at HN
      have hvl : valB (((l.drop i).drop (k + 1)).take k) < 2 ^ k := by
        have h := valB_lt (((l.drop i).drop (k + 1)).take k)
        exact Nat.lt_of_lt_of_le h (Nat.pow_le_pow_right (by decide) (by rw [List.length_take]; omega))
      generalize valB (((l.drop i).drop (k + 1)).take k) = v at HG HN hvl
      have hor := or_pow k v hz20 hvl
      have hp20 : (2 : Nat) ^ k ≤ 2 ^ 20 := Nat.pow_le_pow_right (by decide) hz20
      have hp21 : (2 : Nat) ^ 20 = 1048576 := by decide
      obtain ⟨P, hP⟩ : ∃ P : Nat, 2 ^ k = P := ⟨_, rfl⟩
      rw [hP] at HG hor hp20
      have hPi : (2 : Int) ^ k = (P : Int) := by rw [← hP]; simp
      have hwp : IntKind.i64.wrap (P : Int) = (P : Int) := IntWalk.i64_in _ (by omega)
      have hk64 : k ≤ 64 := by omega
      obtain ⟨j, hj⟩ : ∃ j, i + k + 1 = j := ⟨_, rfl⟩
      have HJ := Lib.hid hj
      rw [hj] at HC hwa HN
      clear hk hs hj hzok hle hlk hvl hP hp20 hp21 hz20 hzi
      go_enter Tryz.func110, Tryz.ntmps110
      go_upto_region 10 with (first | (go_at_call 128; refine HC.out.mono ?_; rintro e w2 ⟨rfl, hr, hu⟩; obtain ⟨⟨_, _, _, q0⟩, q1, q2, g2⟩ := hr.cells; have HR := Lib.hid hr; have HU := Lib.hid hu; clear hr hu) | go_quiet (fail))
      have hu3 := (HU.out.trans (Upd.drewN (fun b => b = g) _ nq) fun _ _ h => h).trans (Upd.drew (fun b => b = g) _) fun _ _ h => h
      have hr3 := (HR.out.upd (Upd.drewN (fun _ => False) _ nq) (fun _ _ _ h => h)).upd (Upd.drew (fun _ => False) _) (fun _ _ _ h => h)
      refine wp_region_G 7 (fun _ => True) (by kernel_rfl) trivial (fun hHeld => ?_)
      refine wpAnyG_takeL (i := 0) (.int .i64 (k : Int)) [7] rfl (by kernel_rfl) (fun _ _ _ h => h) hHeld (by rfl) ?_ ?_
      · (intro W' hSw; (try dsimp only at hSw); go_simp)
      try simp only [Act.put, List.setIfInBounds_toArray, List.set_cons_zero, List.set_cons_succ]
      refine wpAnyG_takeL (i := 1) (.int .i64 (P : Int)) [7] rfl (by kernel_rfl) (fun _ _ _ h => h) hHeld (by rfl) ?_ ?_
      · (intro W' hSw; (try dsimp only at hSw); go_simp)
      try simp only [Act.put, List.setIfInBounds_toArray, List.set_cons_zero, List.set_cons_succ]
      refine wpAnyG_takeL (i := 2) (.pointer (some ⟨g, 0, none⟩)) [7] rfl (by kernel_rfl) (fun _ _ _ h => h) hHeld (by rfl) ?_ ?_
      · (intro W' hSw; (try dsimp only at hSw); go_simp)
      try simp only [Act.put, List.setIfInBounds_toArray, List.set_cons_zero, List.set_cons_succ]
      refine wpAnyG_takeL (i := 3) (.int .i64 (k : Int)) [7] rfl (by kernel_rfl) (fun _ _ _ h => h) hHeld (by rfl) ?_ ?_
      · (intro W' hSw; (try dsimp only at hSw); go_simp)
      try simp only [Act.put, List.setIfInBounds_toArray, List.set_cons_zero, List.set_cons_succ]
      clear hHeld
      refine wpAnyG_oneL (i := 4) (by kernel_rfl) rfl (fun K hK => ?_)
      (go_simp; go_at_call 127; refine (HN.out _ hr3).mono ?_; rintro e w4 ⟨rfl, hr4, hu4⟩)
      refine hK.out _ _ (fun _ => trivial) ?_
      clear hK K
      try simp only [Act.put, List.setIfInBounds_toArray, List.set_cons_zero, List.set_cons_succ]
      refine wpAnyG_oneL (i := 5) (by kernel_rfl) rfl (fun K hK => ?_)
      go_simp
      refine hK.out _ _ (fun _ => trivial) ?_
      clear hK K
      try simp only [Act.put, List.setIfInBounds_toArray, List.set_cons_zero, List.set_cons_succ]
      refine wpAnyG_oneL (i := 6) (by kernel_rfl) rfl (fun K hK => ?_)
      go_simp
      refine hK.out _ _ (fun _ => trivial) ?_
      clear hK K
      try simp only [Act.put, List.setIfInBounds_toArray, List.set_cons_zero, List.set_cons_succ]
      refine wpAnyG_oneL (i := 7) (by kernel_rfl) rfl (fun K hK => ?_)
      go_simp
      refine hK.out _ _ (fun h => Bool.noConfusion (show true = false from h)) ?_
      clear hK K
      refine wpAnyG_done (by kernel_rfl) ?_ _
      go_wp2
      go_ret2
      refine ⟨by rw [HG.out]; rfl, ?_, hu3.trans hu4 fun _ _ h => h⟩
      rw [HG.out]
      have hjj := HJ.out
      rw [show i + (2 * k + 1) = j + k by omega]
      exact hr4
  · have HG := Lib.hid (HX.out.trans (by rw [if_pos hE]))
    have hzi : zerI i (k, E) = i := by unfold zerI; rw [if_neg hE]
    rw [hzi] at HC
    have hEb : (E != 0) = true := by simp [hE]
    clear hE hzok hzi
    go_enter Tryz.func110, Tryz.ntmps110
    go_wp2_with (go_at_call 128; refine HC.out.mono ?_; rintro e w2 ⟨rfl, hr, hu⟩)
    go_ret2
    exact ⟨by rw [HG.out]; rfl, by rw [HG.out]; exact hr, hu⟩
end Go.Proofs.YtmcdgmiheklbeaaGreatDoor

namespace Go.Proofs.YtmcdgmiheklbeaaGreatDoor
open Go.RowKit

theorem gamF_ok (D : List Bool) (h : (gamF D).2.1 = 0) : 1 ≤ (gamF D).1 ∧ (gamF D).1 < 2097152 := by
  have h20 := zerF_le D 0 (by omega)
  have hp : (2 : Nat) ^ (zerF D 0).1 ≤ 2 ^ 20 := Nat.pow_le_pow_right (by decide) h20
  have hp0 := Nat.two_pow_pos (zerF D 0).1
  have e20 : (2 : Nat) ^ 20 = 1048576 := by decide
  unfold gamF at h ⊢
  by_cases h1 : (zerF D 0).2 ≠ 0
  · rw [if_pos h1] at h; exact absurd h h1
  · rw [if_neg h1] at h ⊢
    by_cases h2 : D.length < 2 * (zerF D 0).1 + 1
    · rw [if_pos h2] at h; cases h
    · rw [if_neg h2]
      have hv := valB_lt ((D.drop ((zerF D 0).1 + 1)).take (zerF D 0).1)
      have hv2 : (2 : Nat) ^ ((D.drop ((zerF D 0).1 + 1)).take (zerF D 0).1).length ≤ 2 ^ (zerF D 0).1 := Nat.pow_le_pow_right (by decide) (by rw [List.length_take]; omega)
      show 1 ≤ 2 ^ (zerF D 0).1 + valB _ ∧ 2 ^ (zerF D 0).1 + valB _ < 2097152
      omega
/-- The reader after a value: behind it, if there is no error. -/
def AftV (o : Nat → Prop) (w' : World) (g i : Nat) (l : List Bool) (E : Int) (n : Nat) : Prop := ∃ j, Rr o w' g l j ∧ (E = 0 → j = i + n)

set_option maxHeartbeats 4000000 in
set_option maxRecDepth 100000 in
theorem value_any (o : Nat → Prop) (g i b d : Nat) (l : List Bool) (w : World) (h : Rr o w g l i) (ho : ∀ x, o x → x < w.heap.size) (hdm : d ≤ mostB b) :
    Calls Tryz.prog 130 #[.agg (formC b), .pointer (some ⟨g, 0, none⟩), .int .i64 (d : Int)] w
      fun e w' => e = .returned (.tuple #[.int .i64 (valF b d (l.drop i)).1, .int .i64 (valF b d (l.drop i)).2.1]) ∧ AftV o w' g i l (valF b d (l.drop i)).2.1 (valF b d (l.drop i)).2.2 ∧ Upd (fun b => b = g) w w' := by
  have hm31 := mostB_le b
  have hba := below_alloc (Below.refl w.heap.size w) (.cells (formC b) 113)
  have HH := Lib.hid (h.below hba)
  have HB := Lib.hid hba
  have hle := h.le
  have hg := h.lt
  obtain ⟨g3, hg3⟩ : ∃ g3, w.heap.size = g3 := ⟨_, rfl⟩
  have B3 : Blk (w.alloc (.cells (formC b) 113)) g3 (formC b) 113 := by rw [← hg3]; exact heap_alloc_new w _
  have HV := Lib.hid (show valF b d (l.drop i) = if d = 0 then ((0 : Int), (0 : Int), (0 : Nat)) else if (l.drop i).length = 0 then (0, 3, 0) else if (escB b && decide (d = mostB b)) = true then
      if (gamF ((l.drop i).drop 1)).2.1 ≠ 0 then (0, (gamF ((l.drop i).drop 1)).2.1, 0) else if 1023 < mostB b + (gamF ((l.drop i).drop 1)).1 - 1 then (0, 6, 0)
      else ((if nth false (l.drop i) 0 = true then -1 else 1) * ((mostB b + (gamF ((l.drop i).drop 1)).1 - 1 : Nat) : Int), 0, 1 + (gamF ((l.drop i).drop 1)).2.2)
    else ((if nth false (l.drop i) 0 = true then -1 else 1) * (d : Int), 0, 1) from rfl)
  rw [List.length_drop, nth_drop, List.drop_drop, Nat.add_zero] at HV
  generalize valF b d (l.drop i) = V at HV
  by_cases hd0 : d = 0
  · have HX := Lib.hid (HV.out.trans (if_pos hd0))
    subst hd0
    clear h hba hle hg ho B3
    go_enter Tryz.func130, Tryz.ntmps130
    go_wp2
    go_ret2
    exact ⟨by rw [HX.out]; rfl, ⟨i, HH.out, fun _ => by rw [HX.out]; rfl⟩, Upd.of_below HB.out _⟩
  · have hdb : ((d : Int) == 0) = false := by simp [hd0]
    have HV1 := Lib.hid (HV.out.trans (if_neg hd0))
    have HG := Lib.hid (rget_any o g i 1 l _ HH.out (by decide))
    rw [show ((1 : Nat) : Int) = 1 from rfl] at HG
    by_cases hs : l.length - i = 0
    · have hE : getE l i 1 = 3 ∧ getV l i 1 = 0 ∧ getI l i 1 = i := by unfold getE getV getI; rw [if_pos (by omega), if_pos (by omega), if_pos (by omega)]; exact ⟨rfl, rfl, rfl⟩
      rw [hE.1, hE.2.1, hE.2.2] at HG
      have HX := Lib.hid (HV1.out.trans (if_pos hs))
      clear h hba hle hg ho B3 hE hs hd0
      go_enter Tryz.func130, Tryz.ntmps130
      go_wp2_with (go_at_call 109; refine HG.out.mono ?_; rintro e w2 ⟨rfl, hr2, hu2⟩)
      go_ret2
      exact ⟨by rw [HX.out]; rfl, ⟨i, hr2, fun h => by rw [HX.out] at h; cases h⟩, (Upd.of_below HB.out _).trans hu2 fun _ _ h => h⟩
    · have hE : getE l i 1 = 0 ∧ getV l i 1 = (nth false l i).toNat ∧ getI l i 1 = i + 1 := by
        unfold getE getV getI
        rw [if_neg (by omega), if_neg (by omega), if_neg (by omega)]
        refine ⟨rfl, ?_, rfl⟩
        rw [drop_nth false l i (by omega)]
        simp [valB]
      rw [hE.1, hE.2.1, hE.2.2] at HG
      have HV2 := Lib.hid (HV1.out.trans (if_neg hs))
      have hst := toNat_le (nth false l i)
      have HSG := Lib.hid (show ∀ m : Nat, ((if nth false l i = true then -1 else 1) * (m : Int) : Int) = (m : Int) * (1 - 2 * ((nth false l i).toNat : Int)) by
        intro m
        cases nth false l i
        · show (1 : Int) * m = m * (1 - 2 * 0); omega
        · show (-1 : Int) * m = m * (1 - 2 * 1); omega)
      generalize (if nth false l i = true then (-1 : Int) else 1) = sg at HV2 HSG
      have hslt : nth false l i = true ∨ nth false l i = false := by cases nth false l i <;> simp
      generalize (nth false l i).toNat = s at HG HSG hst
      have hw1 : IntKind.i64.wrap (2 * (s : Int)) = 2 * (s : Int) := IntWalk.i64_in _ (by omega)
      have hw2 : IntKind.i64.wrap (1 - 2 * (s : Int)) = 1 - 2 * (s : Int) := IntWalk.i64_in _ (by omega)
      have HD3 := Lib.hid (show g3 = w.heap.size ∧ g < g3 ∧ ¬ o g3 from ⟨hg3.symm, by omega, fun h => by have := ho g3 h; omega⟩)
      have HBK := Lib.hid (show ∀ W, Upd (fun b => b = g) (w.alloc (.cells (formC b) 113)) W → W.cell? ⟨g3, 1, none⟩ = some (.int .i64 (mostB b)) ∧ W.cell? ⟨g3, 2, none⟩ = some (.bool (escB b)) from fun W hu => have hk := B3.keep (hu.keep (ok := fun x => x ≠ g) fun _ h => h) (by have := HD3.out; omega); ⟨hk.cell 1 rfl, hk.cell 2 rfl⟩)
      have hwd : ∀ m : Nat, m ≤ 1023 → IntKind.i64.wrap ((m : Int) * (1 - 2 * (s : Int))) = (m : Int) * (1 - 2 * (s : Int)) := fun m hm => by
        have : s = 0 ∨ s = 1 := by omega
        rcases this with rfl | rfl <;> exact IntWalk.i64_in _ (by omega)
      by_cases hesc : (escB b && decide (d = mostB b)) = true
      · rw [Bool.and_eq_true] at hesc
        obtain ⟨he1, he2⟩ := hesc
        have he2 := of_decide_eq_true he2
        have HV3 := Lib.hid (HV2.out.trans (if_pos (by rw [he1, decide_eq_true he2]; rfl)))
        rw [← he2] at HV3
        have hdm2 : ((d : Int) == (mostB b : Int)) = true := by simp [he2]
        have hge := gamF_ok (l.drop (i + 1))
        have HGA := Lib.hid (fun W (hr : Rr o W g l (i + 1)) => rdgamma_any o g (i + 1) l W hr)
        generalize gamF (l.drop (i + 1)) = M at HV3 hge HGA
        obtain ⟨m, E, n⟩ := M
        simp only at HV3 hge HGA
        generalize hee : escB b = ee at *
        subst he1
        by_cases hE0 : E = 0
        · subst hE0
          have hge := hge rfl
          have HV4 := Lib.hid (HV3.out.trans (if_neg (by simp)))
          have hw3 : IntKind.i64.wrap ((m : Int) - 1) = (m : Int) - 1 := IntWalk.i64_in _ (by omega)
          have hw4 : IntKind.i64.wrap ((d : Int) + ((m : Int) - 1)) = ((d + m - 1 : Nat) : Int) := by rw [IntWalk.i64_in _ (by omega)]; omega
          have hwm := hwd (d + m - 1)
          generalize d + m - 1 = q at hw4 HV4 hwm
          by_cases hq : 1023 < q
          · have HX := Lib.hid (HV4.out.trans (if_pos hq))
            have hqb : decide ((1023 : Int) < (q : Int)) = true := decide_eq_true (by omega)
            have hqi : (1023 : Int) < (q : Int) := by omega
            clear h hba hle hg ho B3 hE hs hd0 hslt hst hm31 he2 hdm hge hwd hwm hq hee
            go_enter Tryz.func130, Tryz.ntmps130
            go_wp2_with (first
              | (go_at_call 110; refine (HGA.out _ HR2.out).mono ?_; rintro e w3 ⟨rfl, hr3, hu3⟩)
              | (go_at_call 109; refine HG.out.mono ?_; rintro e w2 ⟨rfl, hr2, hu2⟩; obtain ⟨k1, k2⟩ := HBK.out _ hu2; have HR2 := Lib.hid hr2; clear hr2))
            go_ret2
            exact ⟨by rw [HX.out]; rfl, ⟨_, hr3, fun h => by rw [HX.out] at h; cases h⟩, ((Upd.of_below HB.out _).trans hu2 fun _ _ h => h).trans hu3 fun _ _ h => h⟩
          · have HX := Lib.hid (HV4.out.trans (if_neg hq))
            have hqb : decide ((1023 : Int) < (q : Int)) = false := decide_eq_false (by omega)
            have hqi : ¬ (1023 : Int) < (q : Int) := by omega
            have hwq := hwm (by omega)
            have HS2 := Lib.hid (HSG.out q)
            clear h hba hle hg ho B3 hE hs hd0 hslt hst hm31 he2 hdm hge hwd hwm hq hee
            go_enter Tryz.func130, Tryz.ntmps130
            go_wp2_with (first
              | (go_at_call 110; refine (HGA.out _ HR2.out).mono ?_; rintro e w3 ⟨rfl, hr3, hu3⟩)
              | (go_at_call 109; refine HG.out.mono ?_; rintro e w2 ⟨rfl, hr2, hu2⟩; obtain ⟨k1, k2⟩ := HBK.out _ hu2; have HR2 := Lib.hid hr2; clear hr2))
            go_ret2
            exact ⟨by rw [HX.out, HS2.out]; rfl, ⟨_, hr3, fun _ => by rw [HX.out]; show i + 1 + n = i + (1 + n); omega⟩, ((Upd.of_below HB.out _).trans hu2 fun _ _ h => h).trans hu3 fun _ _ h => h⟩
        · have HX := Lib.hid (HV3.out.trans (if_pos hE0))
          have hEb : (E != 0) = true := by simp [hE0]
          have HEN := Lib.hid hE0
          clear h hba hle hg ho B3 hE hs hd0 hslt hst hm31 he2 hdm hge hwd hE0 hee
          go_enter Tryz.func130, Tryz.ntmps130
          go_wp2_with (first
            | (go_at_call 110; refine (HGA.out _ HR2.out).mono ?_; rintro e w3 ⟨rfl, hr3, hu3⟩)
            | (go_at_call 109; refine HG.out.mono ?_; rintro e w2 ⟨rfl, hr2, hu2⟩; obtain ⟨k1, k2⟩ := HBK.out _ hu2; have HR2 := Lib.hid hr2; clear hr2))
          go_ret2
          exact ⟨by rw [HX.out]; rfl, ⟨_, hr3, fun h => by rw [HX.out] at h; exact absurd h HEN.out⟩, ((Upd.of_below HB.out _).trans hu2 fun _ _ h => h).trans hu3 fun _ _ h => h⟩
      · have HX := Lib.hid (HV2.out.trans (if_neg hesc))
        have hqb : decide ((1023 : Int) < (d : Int)) = false := decide_eq_false (by omega)
        have hqi : ¬ (1023 : Int) < (d : Int) := by omega
        have hwq := hwd d (by omega)
        have HS2 := Lib.hid (HSG.out d)
        generalize hee : escB b = ee at *
        cases ee
        · clear h hba hle hg ho B3 hE hs hd0 hslt hst hm31 hdm hwd hesc hee
          go_enter Tryz.func130, Tryz.ntmps130
          go_wp2_with (first
            | (go_at_call 109; refine HG.out.mono ?_; rintro e w2 ⟨rfl, hr2, hu2⟩; obtain ⟨k1, k2⟩ := HBK.out _ hu2))
          go_ret2
          exact ⟨by rw [HX.out, HS2.out]; rfl, ⟨_, hr2, fun _ => by rw [HX.out]⟩, (Upd.of_below HB.out _).trans hu2 fun _ _ h => h⟩
        · have hne : ¬ d = mostB b := fun h9 => hesc (by rw [decide_eq_true h9]; rfl)
          have hdm2 : ((d : Int) == (mostB b : Int)) = false := by simp; omega
          clear h hba hle hg ho B3 hE hs hd0 hslt hst hm31 hdm hwd hesc hee hne
          go_enter Tryz.func130, Tryz.ntmps130
          go_wp2_with (first
            | (go_at_call 109; refine HG.out.mono ?_; rintro e w2 ⟨rfl, hr2, hu2⟩; obtain ⟨k1, k2⟩ := HBK.out _ hu2))
          go_ret2
          exact ⟨by rw [HX.out, HS2.out]; rfl, ⟨_, hr2, fun _ => by rw [HX.out]⟩, (Upd.of_below HB.out _).trans hu2 fun _ _ h => h⟩
end Go.Proofs.YtmcdgmiheklbeaaGreatDoor

namespace Go.Proofs.YtmcdgmiheklbeaaGreatDoor
open Go.RowKit

/-- The digits of a symbol. -/
def digN (m : Nat) : Nat → Nat → List Nat
  | 0, _ => []
  | k + 1, s => digN m k (s / (m + 1)) ++ [s % (m + 1)]
theorem digN_length (m : Nat) : ∀ k s, (digN m k s).length = k
  | 0, _ => rfl
  | k + 1, s => by show (digN m k (s / (m + 1)) ++ [s % (m + 1)]).length = k + 1; rw [List.length_append, digN_length]; rfl
theorem digN_le (m : Nat) : ∀ k s, ∀ d ∈ digN m k s, d ≤ m
  | 0, _, _, h => by cases h
  | k + 1, s, d, h => by
    rcases List.mem_append.1 (show d ∈ digN m k (s / (m + 1)) ++ [s % (m + 1)] from h) with h | h
    · exact digN_le m k _ d h
    · rw [List.mem_singleton.1 h]
      have := Nat.mod_lt s (show 0 < m + 1 by omega)
      omega
/-- One more value of a group is read: the values, the error, and how many bits. -/
def valS (b : Nat) (D : List Bool) (st : List Int × Int × Nat) (d : Nat) : List Int × Int × Nat :=
  if st.2.1 ≠ 0 then st
  else if (valF b d (D.drop st.2.2)).2.1 ≠ 0 then (st.1, (valF b d (D.drop st.2.2)).2.1, st.2.2)
  else (st.1 ++ [(valF b d (D.drop st.2.2)).1], 0, st.2.2 + (valF b d (D.drop st.2.2)).2.2)
def valP (b : Nat) (D : List Bool) (ds : List Nat) : List Int × Int × Nat := ds.foldl (valS b D) ([], 0, 0)
theorem valP_snoc (b : Nat) (D : List Bool) (ds : List Nat) (d : Nat) : valP b D (ds ++ [d]) = valS b D (valP b D ds) d := by simp [valP]
theorem valP_err (b : Nat) (D : List Bool) (ds es : List Nat) (h : (valP b D ds).2.1 ≠ 0) : valP b D (ds ++ es) = valP b D ds := by
  induction es generalizing ds with
  | nil => rw [List.append_nil]
  | cons e es ih =>
    have h1 : valP b D (ds ++ [e]) = valP b D ds := by rw [valP_snoc]; unfold valS; rw [if_pos h]
    rw [show ds ++ e :: es = (ds ++ [e]) ++ es by simp, ih _ (by rw [h1]; exact h), h1]
theorem valS_stay (b : Nat) (D : List Bool) : ∀ (ds : List Nat) (st : List Int × Int × Nat), st.2.1 ≠ 0 → ds.foldl (valS b D) st = st
  | [], _, _ => rfl
  | d :: ds, st, h => by
    have h1 : valS b D st d = st := by unfold valS; rw [if_pos h]
    rw [List.foldl_cons, h1, valS_stay b D ds st h]
theorem valS_len (b : Nat) (D : List Bool) : ∀ (ds : List Nat) (st : List Int × Int × Nat), (ds.foldl (valS b D) st).2.1 = 0 → (ds.foldl (valS b D) st).1.length = st.1.length + ds.length
  | [], _, _ => rfl
  | d :: ds, st, h => by
    rw [List.foldl_cons] at h ⊢
    have ih := valS_len b D ds (valS b D st d) h
    have h0 : (valS b D st d).2.1 = 0 := Decidable.byContradiction fun hn => by rw [valS_stay b D ds _ hn] at h; exact hn h
    have h1 : (valS b D st d).1.length = st.1.length + 1 := by
      unfold valS at h0 ⊢
      by_cases e1 : st.2.1 ≠ 0
      · rw [if_pos e1] at h0; exact absurd h0 e1
      · rw [if_neg e1] at h0 ⊢
        by_cases e2 : (valF b d (D.drop st.2.2)).2.1 ≠ 0
        · rw [if_pos e2] at h0; exact absurd h0 e2
        · rw [if_neg e2]; simp
    rw [ih, h1, List.length_cons]; omega
theorem valP_len (b : Nat) (D : List Bool) (ds : List Nat) (h : (valP b D ds).2.1 = 0) : (valP b D ds).1.length = ds.length := by
  have := valS_len b D ds ([], 0, 0) h
  simp only [List.length_nil, Nat.zero_add] at this
  exact this
/-- A symbol, or none: the symbol, the error, and how many bits. -/
def symR (b : Nat) (D : List Bool) : Nat × Int × Nat := if b = 0 then (0, 0, 0) else (symV b D, symE b D, symN b D)
/-- A group: the values, the error, and how many bits. -/
def grpR (b : Nat) (D : List Bool) : List Int × Int × Nat :=
  if (symR b D).2.1 ≠ 0 then ([], (symR b D).2.1, 0)
  else ((valP b (D.drop (symR b D).2.2) (digN (mostB b) (dimB b) (symR b D).1)).1, (valP b (D.drop (symR b D).2.2) (digN (mostB b) (dimB b) (symR b D).1)).2.1, (symR b D).2.2 + (valP b (D.drop (symR b D).2.2) (digN (mostB b) (dimB b) (symR b D).1)).2.2)
/-- One more group is read. -/
def grpS (b : Nat) (D : List Bool) (st : List Int × Int × Nat) : List Int × Int × Nat :=
  if st.2.1 ≠ 0 then st else (st.1 ++ (grpR b (D.drop st.2.2)).1, (grpR b (D.drop st.2.2)).2.1, st.2.2 + (grpR b (D.drop st.2.2)).2.2)
def grpP (b : Nat) (D : List Bool) : Nat → List Int × Int × Nat
  | 0 => ([], 0, 0)
  | k + 1 => grpS b D (grpP b D k)
theorem grpP_err (b : Nat) (D : List Bool) (k : Nat) (h : (grpP b D k).2.1 ≠ 0) : ∀ m, k ≤ m → grpP b D m = grpP b D k
  | 0, hm => by
    obtain rfl : k = 0 := by omega
    rfl
  | m + 1, hm => by
    rcases Nat.lt_or_ge m k with h1 | h1
    · obtain rfl : k = m + 1 := by omega
      rfl
    · have ih := grpP_err b D k h m h1
      show grpS b D (grpP b D m) = grpP b D k
      rw [ih]; unfold grpS; rw [if_pos h]
theorem grpR_len (b : Nat) (D : List Bool) (h : (grpR b D).2.1 = 0) : (grpR b D).1.length = dimB b := by
  unfold grpR at h ⊢
  by_cases e : (symR b D).2.1 ≠ 0
  · rw [if_pos e] at h; exact absurd h e
  · rw [if_neg e] at h ⊢
    exact (valP_len _ _ _ h).trans (digN_length _ _ _)
theorem grpP_len (b : Nat) (D : List Bool) : ∀ k, (grpP b D k).2.1 = 0 → (grpP b D k).1.length = k * dimB b
  | 0, _ => by simp [grpP]
  | k + 1, h => by
    have h0 : (grpP b D k).2.1 = 0 := Decidable.byContradiction fun hn => by rw [grpP_err b D k hn (k + 1) (Nat.le_succ _)] at h; exact hn h
    have ih := grpP_len b D k h0
    have e : grpP b D (k + 1) = grpS b D (grpP b D k) := rfl
    rw [e] at h ⊢
    unfold grpS at h ⊢
    rw [if_neg (by rw [h0]; simp)] at h ⊢
    have h2 := grpR_len b _ h
    rw [List.length_append, ih, h2, Nat.add_mul, Nat.one_mul]
theorem symR_0 (D : List Bool) : symR 0 D = (0, 0, 0) := rfl
theorem grpR_0 (D : List Bool) : grpR 0 D = ([0], 0, 0) := by
  unfold grpR
  rw [symR_0, if_neg (by simp)]
  have e : digN (mostB 0) (dimB 0) 0 = [0] := rfl
  rw [e]
  rfl
theorem grpP_0 (D : List Bool) : ∀ k, grpP 0 D k = (List.replicate k 0, 0, 0)
  | 0 => rfl
  | k + 1 => by
    have ih := grpP_0 D k
    show grpS 0 D (grpP 0 D k) = _
    rw [ih]
    unfold grpS
    rw [if_neg (by simp), grpR_0, List.replicate_succ']; rfl
/-- What n values are read as: the error, and the list. -/
def bkRE (b n : Nat) (D : List Bool) : Int := (grpP b D (n / dimB b)).2.1
def bkRL (b n : Nat) (D : List Bool) : List Int := if bkRE b n D ≠ 0 then [] else (grpP b D (n / dimB b)).1
def bkRN (b n : Nat) (D : List Bool) : Nat := if bkRE b n D ≠ 0 then 0 else (grpP b D (n / dimB b)).2.2
end Go.Proofs.YtmcdgmiheklbeaaGreatDoor

namespace Go.Proofs.YtmcdgmiheklbeaaGreatDoor
open Go.RowKit

def castN (ds : List Nat) : List Int := ds.map fun (d : Nat) => (d : Int)
theorem castN_length (ds : List Nat) : (castN ds).length = ds.length := by simp [castN]
theorem castN_nth (ds : List Nat) (k : Nat) (h : k < ds.length) : nth 0 (castN ds) k = ((nth 0 ds k : Nat) : Int) := by
  rw [nth_eq 0 _ k (by rw [castN_length]; exact h), nth_eq 0 _ k h]; simp [castN]
theorem set_midK {α : Type} (_ : α) (A B : List α) (x : α) (k : Nat) (hA : A.length = k) (hB : 0 < B.length) : (A ++ B).set k x = (A ++ [x]) ++ B.drop 1 := by
  subst hA
  rw [List.set_append_right _ _ (Nat.le_refl _), Nat.sub_self]
  cases B with
  | nil => simp at hB
  | cons y B => simp
theorem drop_one {α : Type} (L : List α) (k : Nat) : (L.drop k).drop 1 = L.drop (k + 1) := by rw [List.drop_drop]

/-- The list of what was read, if there is no error. -/
def okL (R : List Int × Int × Nat) : List Int := if R.2.1 = 0 then R.1 else []

set_option maxHeartbeats 4000000 in
set_option maxRecDepth 100000 in
theorem group_any (o : Nat → Prop) (g i b bb g1 g6 : Nat) (l : List Bool) (w : World) (h : Rr o w g l i) (ho : ∀ x, o x → x < w.heap.size) (b1 : Blk w g1 #[.pointer (some ⟨g, 0, none⟩)] 53) (b6 : Blk w g6 #[.map (some bb)] 178)
    (hs : SymQ (symsB b) w bb (symF (tabKI b) (symsB b))) (n1 : g1 ≠ g) (n6 : g6 ≠ g) (nb : bb ≠ g) (h1 : 1 ≤ b) (h8 : b < 8) :
    Calls Tryz.prog 113 #[.agg (formC b), .pointer (some ⟨g, 0, none⟩), .func (.func 129) #[] #[.pointer (some ⟨g1, 0, none⟩), .pointer (some ⟨g6, 0, none⟩)]] w
      fun e w' => ∃ v, e = .returned (.tuple #[v, .int .i64 (grpR b (l.drop i)).2.1]) ∧ OwnI 3 .i64 w.heap.size w' v (okL (grpR b (l.drop i))) ∧ AftV o w' g i l (grpR b (l.drop i)).2.1 (grpR b (l.drop i)).2.2 ∧ Upd (fun x => x = g) w w' := by
  have hba := below_alloc (Below.refl w.heap.size w) (.cells (formC b) 113)
  have HB := Lib.hid hba
  have HH := Lib.hid (h.below hba)
  have hg := h.lt
  obtain ⟨g3, hg3⟩ : ∃ g3, w.heap.size = g3 := ⟨_, rfl⟩
  have B3 : Blk (w.alloc (.cells (formC b) 113)) g3 (formC b) 113 := by rw [← hg3]; exact heap_alloc_new w _
  have HSY := Lib.hid (symRd_any b h1 h8 o g i bb g1 g6 l _ HH.out (b1.below hba) (b6.below hba) (hs.below hba) n1 n6 nb)
  have hsr : symR b (l.drop i) = (symV b (l.drop i), symE b (l.drop i), symN b (l.drop i)) := by unfold symR; rw [if_neg (by omega)]
  have hsv := symV_lt b (l.drop i) h1 h8
  have hsb := symsB_le b h8
  have HX := Lib.hid (show grpR b (l.drop i) = if symE b (l.drop i) ≠ 0 then (([] : List Int), symE b (l.drop i), (0 : Nat)) else ((valP b ((l.drop i).drop (symN b (l.drop i))) (digN (mostB b) (dimB b) (symV b (l.drop i)))).1, (valP b ((l.drop i).drop (symN b (l.drop i))) (digN (mostB b) (dimB b) (symV b (l.drop i)))).2.1, symN b (l.drop i) + (valP b ((l.drop i).drop (symN b (l.drop i))) (digN (mostB b) (dimB b) (symV b (l.drop i)))).2.2) by unfold grpR; rw [hsr])
  generalize grpR b (l.drop i) = R at HX
  rw [List.drop_drop] at HX
  clear hsr
  obtain ⟨s, hs0⟩ : ∃ s, symV b (l.drop i) = s := ⟨_, rfl⟩
  obtain ⟨E, hE0⟩ : ∃ E, symE b (l.drop i) = E := ⟨_, rfl⟩
  obtain ⟨N, hN0⟩ : ∃ N, symN b (l.drop i) = N := ⟨_, rfl⟩
  rw [hs0, hE0, hN0] at HX
  rw [hs0, hE0, hN0] at HSY
  rw [hs0] at hsv
  have HO := Lib.hid (show ∀ x, o x → x < g3 from fun x hx => by have := ho x hx; omega)
  have hg3g : g < g3 := by omega
  clear hs0 hE0 hN0 h b1 b6 hs n1 n6 nb ho hba
  by_cases hE : E = 0
  · subst hE
    have HX2 := Lib.hid (HX.out.trans (if_neg (by simp)))
    have hd := dimB_pos b
    have hm := mostB_le b
    have HDL := Lib.hid (digN_length (mostB b) (dimB b) s)
    have HDM := Lib.hid (digN_le (mostB b) (dimB b) s)
    obtain ⟨DS, hDS⟩ : ∃ DS, digN (mostB b) (dimB b) s = DS := ⟨_, rfl⟩
    rw [hDS] at HX2 HDL HDM
    have HV := Lib.hid (fun (d j : Nat) W (hr : Rr o W g l j) (hsz : g3 ≤ W.heap.size) (hd : d ≤ mostB b) => value_any o g j b d l W hr (fun x hx => by have := HO.out x hx; omega) hd)
    have HDS := Lib.hid hDS
    clear hDS
    have HF := Lib.hid (show ∀ W, Upd (fun x => x = g) (w.alloc (.cells (formC b) 113)) W → Blk W g3 (formC b) 113 from fun W hu => B3.keep (hu.keep (ok := fun x => x ≠ g) fun _ h => h) (by omega))
    have hmk := make_row (P := Tryz.prog) 22 3 .i64 8 Tryz.underlying22 infoI (by decide) (dimB b) (by omega)
    have hdw : IntKind.i64.wrap ((dimB b : Int) - 1) = (dimB b : Int) - 1 := IntWalk.i64_in _ (by omega)
    have hd0 : (0 : Int) ≤ (dimB b : Int) := by omega
    have HDP := Lib.hid hd
    clear B3
    go_enter Tryz.func113, Tryz.ntmps113
    go_wp2_with (go_at_call 129; refine HSY.out.mono ?_; rintro e w2 ⟨rfl, hr2, hu2⟩; have HF2 := Lib.hid (HF.out _ hu2); have k30 := HF2.out.cell 0 rfl; have HBA := Lib.hid (below_alloc (Below.refl w2.heap.size w2) (.cells (madeCells #[.int .i64 0] (dimB b)) 3)); have q30 := (HF2.out.below HBA.out).cell 0 rfl; have HR2 := Lib.hid hr2; have HU2 := Lib.hid hu2; clear hr2 hu2)
    obtain ⟨gr, hgr⟩ : ∃ gr, w2.heap.size = gr := ⟨_, rfl⟩
    have hO0 := own_made w2 3 .i64 (dimB b) (by omega)
    obtain ⟨W1, hW1⟩ : ∃ W1, w2.alloc (.cells (madeCells #[.int .i64 0] (dimB b)) 3) = W1 := ⟨_, rfl⟩
    rw [hgr, hW1] at hO0
    have B3 := HF2.out.below HBA.out
    rw [hW1] at B3
    have HR1 := Lib.hid (show Rr o W1 g l (i + N) by rw [← hW1]; exact HR2.out.below HBA.out)
    have HU1 := Lib.hid (show Upd (fun x => x = g) w W1 from (Upd.of_below HB.out _).trans (HU2.out.trans (by rw [← hW1]; exact Upd.of_below HBA.out _) fun _ _ h => h) fun _ _ h => h)
    have HN := Lib.hid (show g < g3 ∧ g3 < gr ∧ gr < W1.heap.size ∧ w.heap.size = g3 from ⟨hg3g, by have := HF2.out.lt; omega, by rw [← hW1, World.size_alloc]; omega, hg3⟩)
    simp only [hgr, hW1]
    have HB3 := Lib.hid B3
    clear B3 HF2 HBA HR2 HU2 HSY HF hmk k30 q30 hgr hW1
    go_loopw [8, 11] (fun sv iv wr => ∃ (j x : Nat) (z : Int) (tl : List Nat), iv = .int .i64 z ∧ z = (dimB b : Int) - 1 - (j : Int) ∧ j ≤ dimB b ∧ sv = .int .i64 (x : Int) ∧ x ≤ 256 ∧ Hid (DS = digN (mostB b) (dimB b - j) x ++ tl ∧ tl.length = j) ∧ Hid (OwnI 3 .i64 gr wr (.slice (some ⟨gr, 0, none⟩) (dimB b) (dimB b)) (List.replicate (dimB b - j) 0 ++ castN tl)) ∧ Hid (Upd (fun x => x = gr) W1 wr)) (fun _ iv _ => (intOf iv + 1).toNat)
    case atStart => exact ⟨0, s, _, [], rfl, by omega, Nat.zero_le _, rfl, by omega, Lib.hid ⟨by rw [HDS.out.symm]; simp, rfl⟩, Lib.hid (by simpa [castN] using hO0), Lib.hid (Upd.refl _ _)⟩
    case round =>
      clear hO0
      obtain ⟨j, x, z, tl, rfl, hz, hj, rfl, hx, hT, hO, hU⟩ := hrel
      have B3 := HB3.out.keep (hU.out.keep (ok := fun x => x ≠ gr) fun _ h => h) (by have := HN.out; omega)
      have k31 := B3.cell 1 rfl
      have k30 := B3.cell 0 rfl
      by_cases hlt : j < dimB b
      · obtain ⟨q, hq⟩ : ∃ q : Nat, dimB b - 1 - j = q := ⟨_, rfl⟩
        obtain rfl : z = (q : Int) := by omega
        have hqd : (q : Int) < (dimB b : Int) := by omega
        have hge : decide ((0 : Int) ≤ (q : Int)) = true := decide_eq_true (by omega)
        have hge2 : (0 : Int) ≤ (q : Int) := by omega
        obtain ⟨_, hfr⟩ := hO.out.at_ q (by rw [List.length_append, List.length_replicate, castN_length, hT.out.2]; omega)
        obtain ⟨hcq, _⟩ := hO.out.at_ q (by rw [List.length_append, List.length_replicate, castN_length, hT.out.2]; omega)
        obtain ⟨P, hP⟩ : ∃ P, mostB b + 1 = P := ⟨_, rfl⟩
        have hwP : IntKind.i64.wrap ((mostB b : Int) + 1) = (P : Int) := by rw [← hP, Int.natCast_succ]; exact IntWalk.i64_in _ (by omega)
        have hPn : ¬ P = 0 := by omega
        have hP0 : ((P : Int) == 0) = false := by simp [hPn]
        have hmq : x % P < P := Nat.mod_lt _ (by omega)
        have hxq : x / P ≤ x := Nat.div_le_self _ _
        have HTT := Lib.hid (show DS = digN (mostB b) (dimB b - (j + 1)) (x / P) ++ ((x % P) :: tl) by
          rw [hT.out.1, show dimB b - j = (dimB b - (j + 1)) + 1 by omega]
          show (digN (mostB b) (dimB b - (j + 1)) (x / (mostB b + 1)) ++ [x % (mostB b + 1)]) ++ tl = _
          rw [hP]; simp)
        have hrr0 : (x : Int).tmod (P : Int) = ((x % P : Nat) : Int) := by rw [Int.tmod_eq_emod_of_nonneg (by omega), ← Int.natCast_emod]
        have hmm : ((x : Int) % (P : Int)) = ((x % P : Nat) : Int) := by rw [← Int.natCast_emod]
        have hqq : ((x : Int).tdiv (P : Int)) = ((x / P : Nat) : Int) := by rw [Int.tdiv_eq_ediv_of_nonneg (by omega), ← Int.natCast_ediv]
        generalize x % P = xr at hmq HTT hrr0 hmm
        generalize x / P = xq at hxq HTT hqq
        have hrr : IntKind.i64.wrap ((x : Int).tmod (P : Int)) = (xr : Int) := by rw [hrr0]; exact IntWalk.i64_in _ (by omega)
        have hwq : IntKind.i64.wrap (xq : Int) = (xq : Int) := IntWalk.i64_in _ (by omega)
        have hwr : IntKind.i64.wrap (xr : Int) = (xr : Int) := IntWalk.i64_in _ (by omega)
        have hw1 : IntKind.i64.wrap ((q : Int) - 1) = (q : Int) - 1 := IntWalk.i64_in _ (by omega)
        obtain ⟨hset, hgs⟩ := hO.out.set q (xr : Int)
        have HST := Lib.hid (show OwnI 3 .i64 gr (wr.setCell ⟨gr, q, none⟩ (.int .i64 (xr : Int))) (.slice (some ⟨gr, 0, none⟩) (dimB b) (dimB b)) (List.replicate (dimB b - (j + 1)) 0 ++ castN (xr :: tl)) by
          have e : List.replicate (dimB b - j) (0 : Int) ++ castN tl = List.replicate (dimB b - (j + 1)) 0 ++ (0 :: castN tl) := by
            rw [show dimB b - j = (dimB b - (j + 1)) + 1 by omega, List.replicate_succ', List.append_assoc]; rfl
          rw [e, set_midK 0 _ _ _ _ (by rw [List.length_replicate]; omega) (by simp)] at hset
          rw [show castN (xr :: tl) = [(xr : Int)] ++ castN tl from rfl, ← List.append_assoc]
          exact hset)
        have HGS := Lib.hid (hU.out.trans (Upd.of_grown (o := fun x => x = gr) hgs (fun r e => by cases e; rfl)) fun _ _ h => h)
        have HZ := Lib.hid (show (q : Int) - 1 = (dimB b : Int) - 1 - ((j + 1 : Nat) : Int) by omega)
        have n3r : g3 ≠ gr := by have := HN.out; omega
        have hj1 : j + 1 ≤ dimB b := hlt
        clear hset hgs hz hq hP hlt hPn
        go_wp2
        go_roundw
        case rel => exact ⟨j + 1, xq, _, xr :: tl, rfl, HZ.out, by omega, rfl, by omega, Lib.hid ⟨HTT.out, by rw [List.length_cons, hT.out.2]⟩, HST, HGS⟩
        case measure => simp [intOf] <;> omega
      · obtain rfl : j = dimB b := by omega
        have hz0 : z = -1 := by omega
        subst hz0
        have hTL : tl = DS := by
          have h9 := hT.out.1
          rw [Nat.sub_self] at h9
          exact h9.symm
        subst hTL
        rw [Nat.sub_self] at hO
        have HO2 := Lib.hid (show OwnI 3 .i64 gr wr (.slice (some ⟨gr, 0, none⟩) (dimB b) (dimB b)) (castN tl) from hO.out)
        have HRW := Lib.hid (show Rr o wr g l (i + N) from HR1.out.upd hU.out (fun x hx h9 e => by have := HO.out x h9; have := HN.out; omega))
        obtain ⟨W2, hW2⟩ : ∃ W2, wr = W2 := ⟨_, rfl⟩
        have HU2 := Lib.hid (hU.out)
        simp only [hW2] at HO2 HRW HU2 B3 ⊢
        have HB4 := Lib.hid B3
        clear hO hU B3 k30 k31 hlt hz hx hT hW2
        go_wp2_with fail
        go_loopw [9, 12, 13, 47] (fun ev iv dv nv wr => ∃ (k m : Nat) (st : List Int), nv = .int .i64 (k : Int) ∧ k ≤ dimB b ∧ Hid (valP b (l.drop (i + N)) (tl.take k) = (st, 0, m)) ∧ Hid (st.length = k) ∧ Hid (OwnI 3 .i64 gr wr (.slice (some ⟨gr, 0, none⟩) (dimB b) (dimB b)) (st ++ (castN tl).drop k)) ∧ Hid (Rr o wr g l (i + N + m)) ∧ Hid (Upd (fun x => x = g ∨ x = gr) W2 wr)) (fun _ _ _ nv _ => dimB b - (intOf nv).toNat)
        case atStart => exact ⟨0, 0, [], rfl, Nat.zero_le _, Lib.hid rfl, Lib.hid rfl, Lib.hid (by simpa using HO2.out), HRW, Lib.hid (Upd.refl _ _)⟩
        case round =>
          clear HO2 HRW
          obtain ⟨k, m, st, rfl, hk, hV, hL, hO, hR, hU⟩ := hrel
          have B3 := HB4.out.keep (hU.out.keep (ok := fun x => x ≠ g ∧ x ≠ gr) fun _ h h2 => by rcases h2 with h2 | h2; exact h.1 h2; exact h.2 h2) (by have := HN.out; omega)
          have k30 := B3.cell 0 rfl
          have k31 := B3.cell 1 rfl
          have k32 := B3.cell 2 rfl
          by_cases hlt : k < dimB b
          · have hkl : k < tl.length := by rw [HDL.out]; exact hlt
            have hki : (k : Int) < (dimB b : Int) := by omega
            have hwk : IntKind.i64.wrap ((k : Int) + 1) = (k : Int) + 1 := IntWalk.i64_in _ (by omega)
            have hlen : k < (st ++ (castN tl).drop k).length := by rw [List.length_append, List.length_drop, castN_length, hL.out]; omega
            obtain ⟨hck, hfk⟩ := hO.out.at_ k hlen
            have hnth : nth 0 (st ++ (castN tl).drop k) k = ((nth 0 tl k : Nat) : Int) := by
              rw [nth_append_right 0 _ _ _ (by rw [hL.out]; exact Nat.le_refl _), hL.out, Nat.sub_self, nth_drop, Nat.add_zero, castN_nth _ _ hkl]
            rw [hnth] at hck
            have HD := Lib.hid (show nth 0 tl k ≤ mostB b from HDM.out _ (nth_mem 0 tl k hkl))
            have hsz : g3 ≤ wr.heap.size := by have := hU.out.size; have := HU2.out.size; have := HN.out; omega
            have HVC := Lib.hid (HV.out (nth 0 tl k) (i + N + m) wr hR.out hsz HD.out)
            have HVS := Lib.hid (show valP b (l.drop (i + N)) (tl.take (k + 1)) = valS b (l.drop (i + N)) (st, 0, m) (nth 0 tl k) by rw [take_succ_nth 0 tl k hkl, valP_snoc, hV.out])
            have HVS2 := Lib.hid (show ∀ d, valS b (l.drop (i + N)) (st, 0, m) d = if (valF b d (l.drop (i + N + m))).2.1 ≠ 0 then (st, (valF b d (l.drop (i + N + m))).2.1, m) else (st ++ [(valF b d (l.drop (i + N + m))).1], 0, m + (valF b d (l.drop (i + N + m))).2.2) from fun d => by unfold valS; rw [if_neg (by simp), List.drop_drop])
            generalize nth 0 tl k = d at hck HD HVC HVS
            have HVS3 := Lib.hid (HVS.out.trans (HVS2.out d))
            obtain ⟨V, hVV⟩ : ∃ V, valF b d (l.drop (i + N + m)) = V := ⟨_, rfl⟩
            rw [hVV] at HVC HVS3
            obtain ⟨x, Ex, nx⟩ := V
            simp only at HVC HVS3
            obtain ⟨hset, hgs⟩ := hO.out.set k x
            have HOK := Lib.hid hO.out
            have hgr := HN.out
            have ngr : gr ≠ g := by omega
            clear hVV hnth hlen hset hgs HVS HVS2 hsz
            by_cases hEx : Ex = 0
            · subst hEx
              have HVS4 := Lib.hid (HVS3.out.trans (if_neg (by simp)))
              go_wp2_with (go_at_call 130; refine HVC.out.mono ?_; rintro e w3 ⟨rfl, ha3, hu3⟩; have HO3 := Lib.hid (ownI_keep HOK.out (hu3.keep (ok := fun x => x ≠ g) fun _ h => h) (fun x e => by have h9 : gr = x := Option.some.inj e; omega)); obtain ⟨q3, f3⟩ := HO3.out.at_ k (by rw [List.length_append, List.length_drop, castN_length, hL.out]; omega); have HA3 := Lib.hid ha3; have HU3 := Lib.hid hu3; clear ha3 hu3)
              obtain ⟨j3, hr3, he3⟩ := HA3.out
              obtain rfl : j3 = i + N + m + nx := he3 rfl
              obtain ⟨hset, hgs⟩ := HO3.out.set k x
              have hu4 := (HU3.out.weak (o' := fun x => x = g ∨ x = gr) fun _ _ h => .inl h).trans (Upd.of_grown (o := fun x => x = gr) hgs (fun r e => by cases e; rfl)) fun _ _ h => .inr h
              go_roundw
              case rel =>
                refine ⟨k + 1, m + nx, st ++ [x], by go_num, by omega, HVS4, Lib.hid (by rw [List.length_append, hL.out]; rfl), Lib.hid ?_, Lib.hid ?_, Lib.hid (hU.out.trans hu4 fun _ _ h => h)⟩
                · rw [set_midK 0 _ _ _ _ hL.out (by rw [List.length_drop, castN_length]; omega), drop_one] at hset
                  exact hset
                · rw [← Nat.add_assoc]
                  exact hr3.upd (Upd.of_grown (o := fun x => x = gr) hgs (fun r e => by cases e; rfl)) (fun x _ h9 e => by have := HO.out x h9; omega)
              case measure => simp [intOf]; omega
            · have hEb : (Ex != 0) = true := by simp [hEx]
              have HR9 := Lib.hid (show valP b (l.drop (i + N)) tl = (st, Ex, m) by
                have h9 := HVS3.out.trans (if_pos hEx)
                have h8 := valP_err b (l.drop (i + N)) (tl.take (k + 1)) (tl.drop (k + 1)) (by rw [h9]; exact hEx)
                rw [List.take_append_drop] at h8
                rw [h8, h9])
              have HEX := Lib.hid hEx
              clear hEx
              go_wp2_with (go_at_call 130; refine HVC.out.mono ?_; rintro e w3 ⟨rfl, ha3, hu3⟩; have HO3 := Lib.hid (ownI_keep HOK.out (hu3.keep (ok := fun x => x ≠ g) fun _ h => h) (fun x e => by have h9 : gr = x := Option.some.inj e; omega)); obtain ⟨q3, f3⟩ := HO3.out.at_ k (by rw [List.length_append, List.length_drop, castN_length, hL.out]; omega); have HA3 := Lib.hid ha3; have HU3 := Lib.hid hu3; clear ha3 hu3)
              go_ret2
              obtain ⟨j3, hr3, he3⟩ := HA3.out
              obtain ⟨hset, hgs⟩ := HO3.out.set k x
              have hu4 := (HU3.out.weak (o' := fun x => x = g ∨ x = gr) fun _ _ h => .inl h).trans (Upd.of_grown (o := fun x => x = gr) hgs (fun r e => by cases e; rfl)) fun _ _ h => .inr h
              refine ⟨_, by rw [HX2.out, HR9.out]; rfl, by rw [HX2.out, HR9.out]; unfold okL; rw [if_neg HEX.out]; exact OwnI.nil _ _ _ _, ⟨j3, hr3.upd (Upd.of_grown (o := fun x => x = gr) hgs (fun r e => by cases e; rfl)) (fun x _ h9 e => by have := HO.out x h9; omega), fun h => by rw [HX2.out, HR9.out] at h; exact absurd h HEX.out⟩, ?_⟩
              exact HU1.out.trans ((HU2.out.weak (o' := fun x => x = g ∨ x = gr) fun _ _ h => .inr h).trans (hU.out.trans hu4 fun _ _ h => h) fun _ _ h => h) (fun x hx e => by rcases e with e | e; exact e; omega)
          · obtain rfl : k = dimB b := by omega
            have HR9 := Lib.hid (show valP b (l.drop (i + N)) tl = (st, 0, m) by
              have h9 := hV.out
              rw [List.take_of_length_le (by rw [HDL.out]; exact Nat.le_refl _)] at h9
              exact h9)
            have hgr := HN.out
            go_wp2
            go_ret2
            refine ⟨_, by rw [HX2.out, HR9.out]; rfl, ?_, ⟨_, hR.out, fun _ => by rw [HX2.out, HR9.out]; exact Nat.add_assoc i N m⟩, ?_⟩
            · rw [HX2.out, HR9.out]
              have h9 := hO.out
              rw [List.drop_of_length_le (by rw [castN_length, HDL.out]; exact Nat.le_refl _), List.append_nil] at h9
              exact h9.mono (by omega)
            · exact HU1.out.trans ((HU2.out.weak (o' := fun x => x = g ∨ x = gr) fun _ _ h => .inr h).trans hU.out fun _ _ h => h) (fun x hx e => by rcases e with e | e; exact e; omega)
  · have HX2 := Lib.hid (HX.out.trans (if_pos hE))
    have hEb : (E != 0) = true := by simp [hE]
    have HEN := Lib.hid hE
    clear hE B3 hsv hsb
    go_enter Tryz.func113, Tryz.ntmps113
    go_wp2_with (go_at_call 129; refine HSY.out.mono ?_; rintro e w2 ⟨rfl, hr2, hu2⟩)
    go_ret2
    refine ⟨_, by rw [HX2.out]; rfl, by rw [HX2.out]; unfold okL; rw [if_neg HEN.out]; exact OwnI.nil _ _ _ _, ⟨_, hr2, fun h => by rw [HX2.out] at h; exact absurd h HEN.out⟩, (Upd.of_below HB.out _).trans hu2 fun _ _ h => h⟩
end Go.Proofs.YtmcdgmiheklbeaaGreatDoor

namespace Go.Proofs.YtmcdgmiheklbeaaGreatDoor
open Go.RowKit

theorem GF.keep {w w' : World} {ok : Nat → Prop} (h : GF w) (hk : Keep ok w w') (ho : ok 0) : GF w' :=
  ⟨fun b h8 => hk.cell ho (h.dim b h8), fun b h8 => hk.cell ho (h.most b h8), fun b h8 => hk.cell ho (h.esc b h8)⟩
theorem GT.keep {w w' : World} {ok : Nat → Prop} (h : GT w) (hk : Keep ok w w') (ho : ok 1) : GT w' := ⟨fun b h8 => hk.cell ho (h.txt b h8)⟩
/-- What Read of n values returns: the list, the error, and how many bits it reads. -/
def brdE (n m : Int) (D : List Bool) : Int := if n < 0 ∨ 8 ≤ n then 5 else if m < 0 ∨ 4096 < m ∨ m.toNat % dimB n.toNat ≠ 0 then 4 else bkRE n.toNat m.toNat D
def brdL (n m : Int) (D : List Bool) : List Int := if brdE n m D ≠ 0 then [] else bkRL n.toNat m.toNat D
def brdN (n m : Int) (D : List Bool) : Nat := if brdE n m D ≠ 0 then 0 else bkRN n.toNat m.toNat D

set_option maxHeartbeats 1000000 in
theorem bRead_5 (g : Nat) (n m : Int) (w : World) (h : n < 0 ∨ 8 ≤ n) :
    Calls Tryz.prog 81 #[.pointer (some ⟨g, 0, none⟩), .int .i64 n, .int .i64 m] w fun e w' => e = .returned (.tuple #[.slice none 0 0, .int .i64 5]) ∧ w = w' := by
  have hT : thereB n = false := by simp [thereB]; omega
  have HT := Lib.hid (there_any n w)
  rw [hT] at HT
  clear hT h
  go_enter Tryz.func81, Tryz.ntmps81
  go_wp2_with (go_at_call 111; refine HT.out.mono ?_; rintro e w2 ⟨rfl, rfl⟩)
  go_ret2
  exact ⟨rfl, rfl⟩
set_option maxHeartbeats 1000000 in
theorem bRead_4 (g b : Nat) (m : Int) (w : World) (hG : GF w) (h8 : b < 8) (h : m < 0 ∨ 4096 < m ∨ m.toNat % dimB b ≠ 0) :
    Calls Tryz.prog 81 #[.pointer (some ⟨g, 0, none⟩), .int .i64 (b : Int), .int .i64 m] w fun e w' => e = .returned (.tuple #[.slice none 0 0, .int .i64 4]) ∧ w = w' := by
  have hT : thereB b = true := by simp [thereB]; omega
  have HT := Lib.hid (there_any b w)
  rw [hT] at HT
  have c0 := hG.dim b h8
  have hb8 : (b : Int) < 8 := by omega
  have hd := dimB_pos b
  clear hT hG
  by_cases h1 : m < 0
  · have d1 : decide (m < 0) = true := decide_eq_true h1
    clear h
    go_enter Tryz.func81, Tryz.ntmps81
    go_wp2_with (go_at_call 111; refine HT.out.mono ?_; rintro e w2 ⟨rfl, rfl⟩)
    go_ret2
    exact ⟨rfl, rfl⟩
  · have d1 : decide (m < 0) = false := decide_eq_false h1
    by_cases h2 : 4096 < m
    · have d2 : decide (4096 < m) = true := decide_eq_true h2
      clear h
      go_enter Tryz.func81, Tryz.ntmps81
      go_wp2_with (go_at_call 111; refine HT.out.mono ?_; rintro e w2 ⟨rfl, rfl⟩)
      go_ret2
      exact ⟨rfl, rfl⟩
    · have d2 : decide (4096 < m) = false := decide_eq_false h2
      obtain ⟨n, rfl⟩ : ∃ n : Nat, m = (n : Int) := ⟨m.toNat, by omega⟩
      have h3 : n % dimB b ≠ 0 := by rcases h with h | h | h <;> first | omega | simpa using h
      have hn4 : ¬ 4096 < n := by omega
      generalize dimB b = D at *
      have hlt : n % D < D := Nat.mod_lt _ (by omega)
      have ht : (n : Int).tmod (D : Int) = ((n % D : Nat) : Int) := by rw [Int.tmod_eq_emod_of_nonneg (by omega), ← Int.natCast_emod]
      have hm : (n : Int) % (D : Int) = ((n % D : Nat) : Int) := by rw [← Int.natCast_emod]
      generalize n % D = r at *
      have hw : IntKind.i64.wrap ((n : Int).tmod (D : Int)) = (r : Int) := by rw [ht]; exact IntWalk.i64_in _ (by omega)
      have hwr : IntKind.i64.wrap (r : Int) = (r : Int) := IntWalk.i64_in _ (by omega)
      have hD0 : ((D : Int) == 0) = false := by simp; omega
      have hDn : ¬ D = 0 := by omega
      have hr0 : ((r : Int) != 0) = true := by simp [h3]
      clear h h1 h2
      go_enter Tryz.func81, Tryz.ntmps81
      go_wp2_with (go_at_call 111; refine HT.out.mono ?_; rintro e w2 ⟨rfl, rfl⟩)
      go_ret2
      exact ⟨rfl, rfl⟩
set_option maxHeartbeats 1000000 in
theorem bRead_0 (g n : Nat) (w : World) (hG : GF w) (hn : n ≤ 4096) :
    Calls Tryz.prog 81 #[.pointer (some ⟨g, 0, none⟩), .int .i64 0, .int .i64 (n : Int)] w fun e w' => ∃ v, e = .returned (.tuple #[v, .int .i64 0]) ∧ OwnI 3 .i64 w.heap.size w' v (List.replicate n 0) ∧ Below w.heap.size w w' := by
  have HT := Lib.hid (there_any 0 w)
  rw [show thereB 0 = true from rfl] at HT
  have c0 := hG.dim 0 (by omega)
  rw [show dimB 0 = 1 from rfl] at c0
  have hn4 : ¬ 4096 < n := by omega
  have hni : ¬ (4096 : Int) < (n : Int) := by omega
  have hmk := make_row (P := Tryz.prog) 22 3 .i64 8 Tryz.underlying22 infoI (by decide) n (by omega)
  have hO0 := Lib.hid (own_made w 3 .i64 n (by omega))
  have ht : (n : Int).tmod 1 = 0 := Int.tmod_one _
  have hn0 : (0 : Int) ≤ (n : Int) := by omega
  clear hG hn
  go_enter Tryz.func81, Tryz.ntmps81
  go_wp2_with (go_at_call 111; refine HT.out.mono ?_; rintro e w2 ⟨rfl, rfl⟩)
  go_ret2
  exact ⟨_, rfl, hO0.out, below_alloc (Below.refl _ _) _⟩
theorem grpP_next (b : Nat) (D : List Bool) (k : Nat) {st : List Int} {m : Nat} (h : grpP b D k = (st, 0, m)) : grpP b D (k + 1) = (st ++ (grpR b (D.drop m)).1, (grpR b (D.drop m)).2.1, m + (grpR b (D.drop m)).2.2) := by
  show grpS b D (grpP b D k) = _
  rw [h]; unfold grpS; rw [if_neg (by simp)]
set_option maxHeartbeats 4000000 in
set_option maxRecDepth 100000 in
theorem bRead_k (o : Nat → Prop) (g i b n : Nat) (l : List Bool) (w : World) (h : Rr o w g l i) (ho : ∀ x, o x → x < w.heap.size) (hG : GF w) (hT : GT w) (ng : g ≠ 0) (h1 : 1 ≤ b) (h8 : b < 8) (hn : n ≤ 4096) (hd : n % dimB b = 0) :
    Calls Tryz.prog 81 #[.pointer (some ⟨g, 0, none⟩), .int .i64 (b : Int), .int .i64 (n : Int)] w
      fun e w' => ∃ v, e = .returned (.tuple #[v, .int .i64 (bkRE b n (l.drop i))]) ∧ OwnI 3 .i64 w.heap.size w' v (bkRL b n (l.drop i)) ∧ Rr o w' g l (i + bkRN b n (l.drop i)) ∧ Upd (fun x => x = g) w w' := by
  have HT := Lib.hid (there_any b w)
  rw [show thereB (b : Int) = true by simp [thereB]; omega] at HT
  have c0 := hG.dim b h8
  have hb8 : (b : Int) < 8 := by omega
  have hb0 : ((b : Int) == 0) = false := by simp; omega
  have hdp := dimB_pos b
  have HRD := Lib.hid (breading_any g b w hT h1 h8)
  have HAT := Lib.hid (rat_any o g i l w h)
  have hlt := h.lt
  have hile := h.le
  obtain ⟨q, hq⟩ : ∃ q, n / dimB b = q := ⟨_, rfl⟩
  have hnq : n = q * dimB b := by rw [← hq]; have := Nat.div_add_mod n (dimB b); rw [hd, Nat.mul_comm] at this; omega
  have HQ := Lib.hid hnq
  have HX := Lib.hid (show bkRE b n (l.drop i) = (grpP b (l.drop i) q).2.1 ∧ (bkRL b n (l.drop i) = if (grpP b (l.drop i) q).2.1 ≠ 0 then [] else (grpP b (l.drop i) q).1) ∧ (bkRN b n (l.drop i) = if (grpP b (l.drop i) q).2.1 ≠ 0 then 0 else (grpP b (l.drop i) q).2.2) by
    unfold bkRL bkRN bkRE; rw [hq]; exact ⟨rfl, rfl, rfl⟩)
  generalize bkRE b n (l.drop i) = RE at HX
  generalize bkRL b n (l.drop i) = RL at HX
  generalize bkRN b n (l.drop i) = RN at HX
  have hn4 : ¬ 4096 < n := by omega
  have hni : ¬ (4096 : Int) < (n : Int) := by omega
  have hn0 : (0 : Int) ≤ (n : Int) := by omega
  have ht : (n : Int).tmod (dimB b : Int) = 0 := by rw [Int.tmod_eq_emod_of_nonneg (by omega), ← Int.natCast_emod, hd]; rfl
  have hm : (n : Int) % (dimB b : Int) = 0 := by rw [← Int.natCast_emod, hd]; rfl
  have hw : IntKind.i64.wrap ((n : Int).tmod (dimB b : Int)) = 0 := by rw [ht]; rfl
  have hD0 : ((dimB b : Int) == 0) = false := by simp; omega
  have hDn : ¬ dimB b = 0 := by omega
  have HH := Lib.hid h
  have HG := Lib.hid (fun W (hk : Keep (fun x => x ≠ g) w W) => hG.keep hk (Ne.symm ng))
  have HB := Lib.hid (And.intro h1 h8)
  have HO := Lib.hid ho
  have HK := Lib.hid (grpP_len b (l.drop i))
  have HER := Lib.hid (grpP_err b (l.drop i))
  have HNX := Lib.hid (fun k (st : List Int) m (h9 : grpP b (l.drop i) k = (st, 0, m)) => grpP_next b (l.drop i) k h9)
  have HILE := Lib.hid hile
  clear h hG hT ng h1 h8 hn hd hq hnq ho hile
  go_enter Tryz.func81, Tryz.ntmps81
  go_wp2_with (first
    | (go_at_call 111; refine HT.out.mono ?_; rintro e w2 ⟨rfl, rfl⟩)
    | (go_at_call 50; refine HAT.out.mono ?_; rintro e w2 ⟨rfl, rfl⟩)
    | (go_at_call 112; refine HRD.out.mono ?_; rintro e W1 ⟨g1, g6, bb, rfl, l1, l2, l3, l4, B1, B6, hsy, hb1⟩))
  have HB1 := Lib.hid hb1
  have HN := Lib.hid (show w.heap.size ≤ g1 ∧ g1 < bb ∧ bb < g6 ∧ g6 < W1.heap.size ∧ g < w.heap.size from ⟨l1, l2, l3, l4, hlt⟩)
  have HBK := Lib.hid (And.intro B1 (And.intro B6 hsy))
  have HR1 := Lib.hid (HH.out.below hb1)
  have hsz0 := hb1.size
  have HGA := Lib.hid (fun (j : Nat) W (hr : Rr o W g l j) (hu : Upd (fun x => x = g) W1 W) => group_any o g j b bb g1 g6 l W hr (fun x hx => by have := HO.out x hx; have := hu.size; omega)
    (B1.keep (hu.keep (ok := fun x => x ≠ g) fun _ h => h) (by omega)) (B6.keep (hu.keep (ok := fun x => x ≠ g) fun _ h => h) (by omega)) (hsy.keep (hu.keep (ok := fun x => x ≠ g) fun _ h => h) (by omega)) (by omega) (by omega) (by omega) HB.out.1 HB.out.2)
  clear l1 l2 l3 l4 B1 B6 hsy hb1 HRD HAT HT hlt c0 hn4 hni hn0 ht hm hw hD0 hDn hsz0
  go_loopw [10, 11, 12] (fun ov gv ev wr => ∃ (k m : Nat) (st : List Int), k ≤ q ∧ Hid (grpP b (l.drop i) k = (st, 0, m)) ∧ Hid (OwnI 3 .i64 W1.heap.size wr ov st) ∧ Hid (Rr o wr g l (i + m)) ∧ Hid (Upd (fun x => x = g) W1 wr)) (fun ov _ _ _ => match ov with | .slice _ n2 _ => n - n2 | _ => 0)
  case atStart => exact ⟨0, 0, [], Nat.zero_le _, Lib.hid rfl, Lib.hid (OwnI.nil _ _ _ _), HR1, Lib.hid (Upd.refl _ _)⟩
  case round =>
    obtain ⟨k, m, st, hk, hP, hO, hR, hU⟩ := hrel
    obtain ⟨A10, c10, rfl⟩ := hO.out.slice
    have hlen : st.length = k * dimB b := by have h9 := HK.out k (by rw [hP.out]); rw [hP.out] at h9; exact h9
    by_cases hlt : k < q
    · have hin := grp_in (d := dimB b) (k := k) (n := n) (by rw [HQ.out, Nat.mul_div_cancel _ (by omega)]; exact hlt)
      have hli : (st.length : Int) < (n : Int) := by omega
      have hG := HG.out wr ((Upd.of_below HB1.out (fun x => x = g)).trans hU.out (fun _ _ h => h) |>.keep fun _ h => h)
      have c0 := hG.dim b HB.out.2
      have c1 := hG.most b HB.out.2
      have c2 := hG.esc b HB.out.2
      have HGC := Lib.hid (HGA.out (i + m) wr hR.out hU.out)
      have HNK := Lib.hid (HNX.out k st m hP.out)
      rw [List.drop_drop] at HNK
      have hgl := grpR_len b (l.drop (i + m))
      generalize grpR b (l.drop (i + m)) = R at HGC HNK hgl
      obtain ⟨gl, E, cn⟩ := R
      simp only at HGC HNK hgl
      clear hG
      by_cases hE : E = 0
      · subst hE
        replace hgl := hgl rfl
        have HLG := Lib.hid (show okL (gl, (0 : Int), cn) = gl from rfl)
        rw [HLG.out] at HGC
        have HLN := Lib.hid (show st.length + dimB b ≤ n ∧ n ≤ 4096 ∧ st.length + gl.length ≤ 5000 from ⟨by omega, by omega, by omega⟩)
        have HOB := Lib.hid hO.out.base_le
        have HKQ := Lib.hid hlt
        have HGLN := Lib.hid hgl
        clear hlt hin hlen hgl
        go_wp2_with (first
          | (go_at_call 113; refine HGC.out.mono ?_; rintro e w3 ⟨v3, rfl, hO3, ha3, hu3⟩; obtain ⟨A3, c3, rfl, hs3⟩ := hO3.rd; have HS3 := Lib.hid hs3.any; have HO3 := Lib.hid (ownI_keep hO.out (hu3.keep (ok := fun x => x ≠ g) fun _ h => h) (fun x e => by have := HOB.out x e; have := HN.out; omega)); have HA3 := Lib.hid ha3; have HU3 := Lib.hid hu3; clear hO3 hs3 ha3 hu3)
          | (at_builtin; (refine append_row (w0 := w3) W1.heap.size rfl (.tmp 65) (.tmp 66) 22 3 .i64 8 rfl Tryz.underlying22 infoI (by decide) _ st gl A3 c3 rfl rfl HO3.out HS3.out (Below.refl _ _) (by have := HU3.out.size; have := hU.out.size; omega) (by have := HLN.out; omega) ?_); intro v1 w4 hO4 _ hg4 ha4; have HO4 := Lib.hid hO4; have HG4 := Lib.hid hg4; clear hO4 hg4 ha4))
        obtain ⟨j3, hr3, he3⟩ := HA3.out
        obtain rfl : j3 = i + m + cn := he3 rfl
        obtain ⟨A4, c4, rfl⟩ := HO4.out.slice
        have hgu := Upd.of_grown (o := fun x => W1.heap.size ≤ x) HG4.out (fun r e => HO3.out.base_le r e)
        go_roundw
        case rel =>
          refine ⟨k + 1, m + cn, st ++ gl, HKQ.out, HNK, HO4, Lib.hid ?_, Lib.hid ((hU.out.trans HU3.out fun _ _ h => h).trans hgu fun x hx h9 => by omega)⟩
          rw [← Nat.add_assoc]
          exact hr3.upd hgu (fun x _ h9 h8 => by have := HO.out x h9; have := HB1.out.size; omega)
        case measure => have := HLN.out; have := HGLN.out; have := (dimB_pos b).1; show n - (st ++ gl).length < n - st.length; rw [List.length_append]; omega
      · have hEb : (E != 0) = true := by simp [hE]
        have HPQ := Lib.hid (show grpP b (l.drop i) q = (st ++ gl, E, m + cn) by rw [HER.out (k + 1) (by rw [HNK.out]; exact hE) q (by omega), HNK.out])
        have HEX := Lib.hid hE
        clear hE hlt hin hlen hgl
        go_wp2_with (first
          | (go_at_call 113; refine HGC.out.mono ?_; rintro e w3 ⟨v3, rfl, hO3, ⟨j3, hr3, _⟩, hu3⟩; have HSK := Lib.hid (rseek_any o g j3 (i : Int) l w3 hr3); have HU3 := Lib.hid hu3; clear hO3 hr3 hu3)
          | (go_at_call 52; refine HSK.out.mono ?_; rintro e w4 ⟨rfl, hr4, hu4⟩))
        go_ret2
        have hsk : seekI l j3 (i : Int) = i := by unfold seekI; rw [if_neg (by have := HILE.out; omega)]; simp
        rw [hsk] at hr4
        refine ⟨_, by rw [HX.out.1, HPQ.out]; rfl, by rw [HX.out.2.1, HPQ.out, if_pos HEX.out]; exact OwnI.nil _ _ _ _, by rw [HX.out.2.2, HPQ.out, if_pos HEX.out]; exact hr4, ?_⟩
        exact ((Upd.of_below HB1.out (fun x => x = g)).trans hU.out fun _ _ h => h).trans (HU3.out.trans hu4 fun _ _ h => h) fun _ _ h => h
    · obtain rfl : k = q := by omega
      have hli : ¬ (st.length : Int) < (n : Int) := by rw [hlen, HQ.out]; omega
      have HPQ := Lib.hid hP.out
      clear hlt hlen
      go_wp2
      go_ret2
      refine ⟨_, by rw [HX.out.1, HPQ.out]; rfl, by rw [HX.out.2.1, HPQ.out, if_neg (by simp)]; exact hO.out.mono HB1.out.size, by rw [HX.out.2.2, HPQ.out, if_neg (by simp)]; exact hR.out, ?_⟩
      exact (Upd.of_below HB1.out (fun x => x = g)).trans hU.out fun _ _ h => h
theorem bRead_any (o : Nat → Prop) (g i : Nat) (n m : Int) (l : List Bool) (w : World) (h : Rr o w g l i) (hG : GF w) (hT : GT w) (ng : g ≠ 0) :
    Calls Tryz.prog 81 #[.pointer (some ⟨g, 0, none⟩), .int .i64 n, .int .i64 m] w
      fun e w' => ∃ v, e = .returned (.tuple #[v, .int .i64 (brdE n m (l.drop i))]) ∧ OwnI 3 .i64 w.heap.size w' v (brdL n m (l.drop i)) ∧ Rr o w' g l (i + brdN n m (l.drop i)) ∧ Upd (fun x => x = g) w w' := by
  by_cases h5 : n < 0 ∨ 8 ≤ n
  · have hE : brdE n m (l.drop i) = 5 := by unfold brdE; rw [if_pos h5]
    have hL : brdL n m (l.drop i) = [] := by unfold brdL; rw [hE, if_pos (by decide)]
    have hN : brdN n m (l.drop i) = 0 := by unfold brdN; rw [hE, if_pos (by decide)]
    refine (bRead_5 g n m w h5).mono ?_
    rintro e w' ⟨rfl, rfl⟩
    rw [hE, hL, hN]
    exact ⟨_, rfl, OwnI.nil _ _ _ _, h, Upd.refl _ _⟩
  · obtain ⟨b, rfl⟩ : ∃ b : Nat, n = (b : Int) := ⟨n.toNat, by omega⟩
    have h8 : b < 8 := by omega
    by_cases h4 : m < 0 ∨ 4096 < m ∨ m.toNat % dimB b ≠ 0
    · have hE : brdE (b : Int) m (l.drop i) = 4 := by unfold brdE; rw [if_neg h5, if_pos (by rw [Int.toNat_natCast]; exact h4)]
      have hL : brdL (b : Int) m (l.drop i) = [] := by unfold brdL; rw [hE, if_pos (by decide)]
      have hN : brdN (b : Int) m (l.drop i) = 0 := by unfold brdN; rw [hE, if_pos (by decide)]
      refine (bRead_4 g b m w hG h8 h4).mono ?_
      rintro e w' ⟨rfl, rfl⟩
      rw [hE, hL, hN]
      exact ⟨_, rfl, OwnI.nil _ _ _ _, h, Upd.refl _ _⟩
    · obtain ⟨k, rfl⟩ : ∃ k : Nat, m = (k : Int) := ⟨m.toNat, by omega⟩
      rw [Int.toNat_natCast] at h4
      have hE : brdE (b : Int) (k : Int) (l.drop i) = bkRE b k (l.drop i) := by unfold brdE; rw [if_neg h5, if_neg (by rw [Int.toNat_natCast, Int.toNat_natCast]; exact h4), Int.toNat_natCast, Int.toNat_natCast]
      have hk : k ≤ 4096 := by omega
      have hd : k % dimB b = 0 := by omega
      have hL : brdL (b : Int) (k : Int) (l.drop i) = bkRL b k (l.drop i) := by
        unfold brdL; rw [hE, Int.toNat_natCast, Int.toNat_natCast]
        split
        · rename_i h9; unfold bkRL; rw [if_pos h9]
        · rfl
      have hN : brdN (b : Int) (k : Int) (l.drop i) = bkRN b k (l.drop i) := by
        unfold brdN; rw [hE, Int.toNat_natCast, Int.toNat_natCast]
        split
        · rename_i h9; unfold bkRN; rw [if_pos h9]
        · rfl
      rw [hE, hL, hN]
      rcases Nat.eq_zero_or_pos b with rfl | h1
      · refine (bRead_0 g k w hG hk).mono ?_
        rintro e w' ⟨v, rfl, hO, hb⟩
        have e1 : bkRE 0 k (l.drop i) = 0 := by unfold bkRE; rw [grpP_0]
        have e2 : bkRL 0 k (l.drop i) = List.replicate k 0 := by unfold bkRL; rw [e1, if_neg (by simp), grpP_0, show k / dimB 0 = k from Nat.div_one k]
        have e3 : bkRN 0 k (l.drop i) = 0 := by unfold bkRN; rw [e1, if_neg (by simp), grpP_0]
        rw [e1, e2, e3]
        exact ⟨v, rfl, hO, h.below hb, Upd.of_below hb _⟩
      · refine (bRead_k (fun x => o x ∧ x < w.heap.size) g i b k l w h.cut (fun _ h => h.2) hG hT ng h1 h8 hk hd).mono ?_
        rintro e w' ⟨v, rfl, hO, hR, hu⟩
        exact ⟨v, rfl, hO, hR.weak fun _ _ h => h.1, hu⟩
end Go.Proofs.YtmcdgmiheklbeaaGreatDoor

namespace Go.Proofs.YtmcdgmiheklbeaaGreatDoor
open Go.RowKit

/-- A book with its lengths and words, as cells. -/
abbrev bookM (b : Nat) (A1 : Option Addr) (c1 : Nat) (A2 : Option Addr) (c2 : Nat) : Array Value := bookC b A1 (tabKI b).length c1 A2 (tabKI b).length c2
/-- Books as they lie: with lengths and words, or bare. -/
def BkK (ok : Nat → Prop) (w : World) (x : Nat × Bool) (cs : List Value) : Prop :=
  (x.2 = true ∧ ∃ A1 c1 A2 c2, cs = (bookM x.1 A1 c1 A2 c2).toList ∧ Sl (kInt .i64) ok w A1 c1 (tabKI x.1) ∧ Sl (kInt .i64) ok w A2 c2 (codesL (tabKI x.1))) ∨ (x.2 = false ∧ cs = (bookC x.1 none 0 0 none 0 0).toList)
def kBk : Kd (Nat × Bool) where
  size := 6
  dflt := (0, false)
  K := BkK
  len := fun h => by
    rcases h with ⟨_, A1, c1, A2, c2, rfl, _⟩ | ⟨_, rfl⟩ <;> rfl
  keep := fun hk h => by
    rcases h with ⟨e, A1, c1, A2, c2, e2, h1, h2⟩ | ⟨e, e2⟩
    · exact .inl ⟨e, A1, c1, A2, c2, e2, h1.keep hk, h2.keep hk⟩
    · exact .inr ⟨e, e2⟩
  weak := fun hk h => by
    rcases h with ⟨e, A1, c1, A2, c2, e2, h1, h2⟩ | ⟨e, e2⟩
    · exact .inl ⟨e, A1, c1, A2, c2, e2, h1.weak hk, h2.weak hk⟩
    · exact .inr ⟨e, e2⟩
def bareL : List (Nat × Bool) := (List.range 8).map fun b => (b, false)
def allK : List (Nat × Bool) := (List.range 8).map fun b => (b, true)
def bareC : List Value := (List.range 8).flatMap fun b => (bookC b none 0 0 none 0 0).toList
theorem bare_any (w : World) :
    Calls Tryz.prog 70 #[] w fun e w' => e = .returned (.slice (some ⟨w.heap.size, 0, none⟩) 8 8) ∧ w' = w.alloc (.cells bareC.toArray 127) := by
  go_enter Tryz.func70, Tryz.ntmps70
  go_wp2
  go_ret
  exact ⟨rfl, rfl⟩
theorem bare_reps (ok : Nat → Prop) (w : World) : Reps kBk ok w bareL bareC := by
  refine ⟨rfl, fun j hj => ?_⟩
  have : j < 8 := hj
  have : j = 0 ∨ j = 1 ∨ j = 2 ∨ j = 3 ∨ j = 4 ∨ j = 5 ∨ j = 6 ∨ j = 7 := by omega
  rcases this with rfl | rfl | rfl | rfl | rfl | rfl | rfl | rfl <;> exact .inr ⟨rfl, rfl⟩
theorem bare_own (w : World) : OwnK kBk 127 w.heap.size (fun b => b < w.heap.size) (w.alloc (.cells bareC.toArray 127)) (.slice (some ⟨w.heap.size, 0, none⟩) 8 8) bareL := by
  have h := World.ownsRow_lit (base := w.heap.size) (e := 127) (size := 6) w bareC.toArray 8 (Nat.le_refl _) (by simp [maxLen]) rfl
  exact ⟨bareC, h, bare_reps _ _⟩
/-- The cells of a bare book. -/
theorem bare_at (w : World) (b : Nat) (h8 : b < 8) (j : Nat) (v : Value) (hv : (bookC b none 0 0 none 0 0)[j]? = some v) : (w.alloc (.cells bareC.toArray 127)).cell? ⟨w.heap.size, b * 6 + j, none⟩ = some v := by
  have hB : Blk (w.alloc (.cells bareC.toArray 127)) w.heap.size bareC.toArray 127 := heap_alloc_new w _
  refine hB.cell _ ?_
  have hbb : b = 0 ∨ b = 1 ∨ b = 2 ∨ b = 3 ∨ b = 4 ∨ b = 5 ∨ b = 6 ∨ b = 7 := by omega
  have hj : j < 6 := (Array.getElem?_eq_some_iff.1 hv).1
  have hjj : j = 0 ∨ j = 1 ∨ j = 2 ∨ j = 3 ∨ j = 4 ∨ j = 5 := by omega
  rcases hbb with rfl | rfl | rfl | rfl | rfl | rfl | rfl | rfl <;> rcases hjj with rfl | rfl | rfl | rfl | rfl | rfl <;> exact hv
end Go.Proofs.YtmcdgmiheklbeaaGreatDoor
