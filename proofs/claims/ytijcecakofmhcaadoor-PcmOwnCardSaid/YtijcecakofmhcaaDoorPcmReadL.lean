/- pcm: Read: the loop over the chunks. -/
import Derived.Test.YtijcecakofmhcaaDoorPcmLook
namespace Go.Proofs.YtijcecakofmhcaaDoor
open Go.RowKit Go.Shelf
attribute [local go_sem] Oper.semAt_some

def readC : FileS → List CkD → Int × FileS
  | s, [] => (0, s)
  | s, c :: cs => if lookE s c = 0 then readC (lookS s c) cs else (lookE s c, s)
theorem readC_ok {s s' : FileS} {xs : List CkD} (h : readC s xs = (0, s')) (c : CkD) : readC s (xs ++ [c]) = if lookE s' c = 0 then (0, lookS s' c) else (lookE s' c, s') := by
  induction xs generalizing s with
  | nil => simp only [readC, Prod.mk.injEq, true_and] at h; subst h; simp [readC]
  | cons x xs ih =>
    simp only [readC, List.cons_append] at h ⊢
    by_cases hx : lookE s x = 0
    · rw [if_pos hx] at h ⊢; exact ih h
    · rw [if_neg hx] at h; exact absurd (congrArg Prod.fst h) hx
theorem readC_stop {s : FileS} {xs ys : List CkD} (h : (readC s xs).1 ≠ 0) : (readC s (xs ++ ys)).1 = (readC s xs).1 := by
  induction xs generalizing s with
  | nil => exact absurd rfl h
  | cons x xs ih =>
    simp only [readC, List.cons_append] at h ⊢
    by_cases hx : lookE s x = 0
    · rw [if_pos hx] at h ⊢; rw [if_pos hx]; exact ih h
    · rw [if_neg hx, if_neg hx]
/-- What holds of a record between two chunks. -/
structure FileOk (s : FileS) : Prop where
  ch : s.known = true → s.ch = 1 ∨ s.ch = 2
  none : s.done = false → s.l = []
  len : s.l.length ≤ 1000000
theorem FileOk.look {s : FileS} (h : FileOk s) {nm b : List Int} {bad : Bool} (hb : b.length ≤ 1000000) (he : lookE s (nm, b, bad) = 0) : FileOk (lookS s (nm, b, bad)) := by
  unfold lookE at he
  unfold lookS
  simp only at he ⊢
  split
  · exact h
  · rename_i h0
    rw [if_neg h0] at he
    split
    · rename_i h1
      rw [if_pos h1] at he
      unfold formatE at he
      unfold formatS
      split
      · exact h
      · rename_i h2
        rw [if_neg h2] at he
        have h3 : ¬ (fmtCh b < 1 ∨ 2 < fmtCh b ∨ isRateB (fmtRate b) = false ∨ (fmtL (fmtCh b) (fmtRate b)).drop 8 ≠ b) := fun e => by rw [if_pos e] at he; cases he
        exact ⟨fun _ => by show fmtCh b = 1 ∨ fmtCh b = 2; omega, h.none, h.len⟩
    · rename_i h1
      rw [if_neg h1] at he
      split
      · rename_i h2
        rw [if_pos h2] at he
        unfold dataS
        rw [if_pos he]
        have h3 : s.done = false := by
          cases hd : s.done
          · rfl
          · unfold dataE at he; rw [if_pos (.inl hd)] at he; cases he
        refine ⟨h.ch, (fun e => (by cases e)), ?_⟩
        show (s.l ++ dataL b (b.length / 2)).length ≤ 1000000
        rw [h.none h3, List.nil_append, dataL_length]
        omega
      · exact h

/-- What lies in memory between two chunks. -/
structure RdI (w0 : World) (g2 g3 g4 g n : Nat) (s : FileS) (W : World) : Prop where
  file : ∃ v, FileAt g n v W s
  snd : Blk W g2 #[.int .i64 0, .slice none 0 0] 24
  err : Blk W g3 #[.int .i64 0] 28
  ptr : Blk W g4 #[.pointer (some ⟨g, 0, none⟩)] 65
  low : Below w0.heap.size w0 W
  siz : n ≤ W.heap.size
theorem blk_firm {W W' : World} {row : Option Nat} {gb B g : Nat} {cs : Array Value} {t : TypeId} (h : Blk W g cs t) (hg : W.grownBy W' row) (hr : ∀ r, row = some r → r = gb ∨ (B ≤ r ∧ ∃ o : Obj, W.heap[r]? = some o ∧ o.isCells = false)) (hne : g ≠ gb) : Blk W' g cs t :=
  (hg.block g h.lt (fun e => by
    rcases hr g e.symm with a | ⟨_, o, ho, hc⟩
    · exact hne a
    · rw [show W.heap[g]? = _ from h] at ho; cases ho; cases hc)).trans h
theorem own_firm {W W' : World} {row : Option Nat} {gb B n : Nat} {e : TypeId} {k : IntKind} {v : Value} {xs : List Int} (h : OwnI e k n W v xs) (hg : W.grownBy W' row) (hr : ∀ r, row = some r → r = gb ∨ (B ≤ r ∧ ∃ o : Obj, W.heap[r]? = some o ∧ o.isCells = false)) (hne : gb < n) : OwnI e k n W' v xs := by
  refine h.grown hg ?_
  rcases h.2 with ⟨rfl, _⟩ | ⟨g, cap, cur, rfl, hb, hgb, _⟩
  · exact .inl rfl
  · refine .inr fun e' => ?_
    rcases hr g (by simpa [Value.ownBlock] using e'.symm) with a | ⟨_, o, ho, hc⟩
    · omega
    · rw [hgb] at ho; cases ho; cases hc
theorem low_firm {w0 W W' : World} {row : Option Nat} {gb B : Nat} (h : Below w0.heap.size w0 W) (hg : W.grownBy W' row) (hr : ∀ r, row = some r → r = gb ∨ (B ≤ r ∧ ∃ o : Obj, W.heap[r]? = some o ∧ o.isCells = false)) (h1 : w0.heap.size ≤ gb) (h2 : w0.heap.size ≤ B) : Below w0.heap.size w0 W' :=
  below_grown h h.size hg (fun k e => by rcases hr k e with a | ⟨a, _⟩ <;> omega)
theorem RdI.firm {w0 W W' : World} {g2 g3 g4 g n gb B : Nat} {s : FileS} {row : Option Nat} (h : RdI w0 g2 g3 g4 g n s W) (hg : W.grownBy W' row) (hr : ∀ r, row = some r → r = gb ∨ (B ≤ r ∧ ∃ o : Obj, W.heap[r]? = some o ∧ o.isCells = false))
    (e2 : g2 ≠ gb) (e3 : g3 ≠ gb) (e4 : g4 ≠ gb) (e5 : g ≠ gb) (en : gb < n) (h1 : w0.heap.size ≤ gb) (h2 : w0.heap.size ≤ B) : RdI w0 g2 g3 g4 g n s W' :=
  ⟨let ⟨v, a, b⟩ := h.file; ⟨v, blk_firm a hg hr e5, own_firm b hg hr en⟩, blk_firm h.snd hg hr e2, blk_firm h.err hg hr e3, blk_firm h.ptr hg hr e4, low_firm h.low hg hr h1 h2, Nat.le_trans h.siz hg.size⟩
theorem RdI.below {w0 W W' : World} {g2 g3 g4 g n : Nat} {s : FileS} (h : RdI w0 g2 g3 g4 g n s W) (hb : Below W.heap.size W W') : RdI w0 g2 g3 g4 g n s W' :=
  ⟨let ⟨v, a⟩ := h.file; ⟨v, a.below hb⟩, h.snd.below hb, h.err.below hb, h.ptr.below hb, below2 h.low hb, Nat.le_trans h.siz hb.size⟩
theorem Chg.others {g n : Nat} {v : Value} {W W' : World} {s : FileS} (h : Chg g v W W') (hF : FileAt g n v W s) : KeepsOthers W W' :=
  ⟨h.size, fun k o ho hc => (h.blk k (Array.getElem?_eq_some_iff.1 ho).1 (fun e => by
      subst e; rw [show W.heap[k]? = _ from hF.1] at ho; cases ho; cases hc) (fun e => by
      rcases hF.2.2 with ⟨rfl, _⟩ | ⟨k', cap, cur, rfl, hb, hgb, _⟩
      · cases e
      · have := Option.some.inj e; simp only at this; subst this; rw [hgb] at ho; cases ho; cases hc)).trans ho⟩
theorem Chg.keep {g : Nat} {v : Value} {W W' : World} {ok : Nat → Prop} (h : Chg g v W W') (hk : ∀ i, ok i → i ≠ g ∧ v.ownBlock ≠ some i) : Keep ok W W' := ⟨h.size, fun i hi ho => h.blk i hi (hk i ho).1 (hk i ho).2⟩
/-- What lies in memory where a chunk was not right. -/
structure RdX (w0 : World) (g2 g3 : Nat) (er : Int) (W : World) : Prop where
  snd : Blk W g2 #[.int .i64 0, .slice none 0 0] 24
  err : Blk W g3 #[.int .i64 er] 28
  low : Below w0.heap.size w0 W

set_option maxHeartbeats 2000000 in
set_option maxRecDepth 100000 in
theorem read_loop (w0 w6 : World) (g2 g3 g4 g gb : Nat) (A4 : Option Addr) (c4 : Nat) (b4 : List Int) (s0 : FileS) (Q : Exit → Act → World → Prop) (v0 v1 v5 v6 v7 v8 v9 v10 v11 v12 v13 v14 v15 v16 v17 v18 v19 v20 v21 v22 v23 v24 v25 v26 v27 v28 v29 v30 v31 v32 v33 v34 v35 v36 v38 v39 v40 v41 v42 v43 v44 v45 v46 v47 v48 v49 v50 v51 v52 v53 v54 v55 v56 v57 v58 v59 v60 v61 v62 v63 v64 v65 v66 : Value)
    (hG : GR w0) (hg0 : 0 < w0.heap.size) (l2 : w0.heap.size ≤ g2) (l23 : g2 < g3) (l3g : g3 < g) (lg4 : g < g4) (l4b : g4 < gb) (hz : w6.heap.size = gb + 1)
    (hI0 : RdI w0 g2 g3 g4 g (gb + 1) s0 w6) (hF0 : FileOk s0) (hb : Bytes b4) (hl : b4.length ≤ 1000000) (hR : Sl (kInt .u8) (fun i => i < w0.heap.size) w6 A4 c4 b4) (hB : Blk w6 gb #[.slice A4 b4.length c4] 25)
    (hdone : ∀ (D : Nat) (W : World) (s : FileS), w6.heap.size ≤ D → RdI w0 g2 g3 g4 g (gb + 1) s W → readC s0 (chunksF (b4.length + 1) b4) = (0, s) → FileOk s → W.heap[D]? = some (.deferred (some [])) →
      Q .normal { tmps := (v0 :: v1 :: .pointer (some ⟨g2, 0, none⟩) :: .pointer (some ⟨g3, 0, none⟩) :: .pointer (some ⟨g4, 0, none⟩) :: v5 :: v6 :: v7 :: v8 :: v9 :: v10 :: v11 :: v12 :: v13 :: v14 :: v15 :: v16 :: v17 :: v18 :: v19 :: v20 :: v21 :: v22 :: v23 :: v24 :: v25 :: v26 :: v27 :: v28 :: v29 :: v30 :: v31 :: v32 :: v33 :: v34 :: v35 :: v36 :: .func (.func 85) #[] #[.pointer (some ⟨gb, 0, none⟩)] :: v38 :: v39 :: v40 :: v41 :: v42 :: v43 :: v44 :: v45 :: v46 :: v47 :: v48 :: v49 :: v50 :: v51 :: v52 :: v53 :: v54 :: v55 :: v56 :: v57 :: v58 :: v59 :: v60 :: v61 :: v62 :: v63 :: v64 :: v65 :: v66 :: []).toArray, defers := [{ target := .collected D, args := #[] }] } W)
    (hstop : ∀ (D : Nat) (W : World) (er : Int), w6.heap.size ≤ D → RdX w0 g2 g3 er W → er ≠ 0 → (readC s0 (chunksF (b4.length + 1) b4)).1 = er → W.heap[D]? = some (.deferred (some [])) →
      Q .ret { tmps := (v0 :: v1 :: .pointer (some ⟨g2, 0, none⟩) :: .pointer (some ⟨g3, 0, none⟩) :: .pointer (some ⟨g4, 0, none⟩) :: v5 :: v6 :: v7 :: v8 :: v9 :: v10 :: v11 :: v12 :: v13 :: v14 :: v15 :: v16 :: v17 :: v18 :: v19 :: v20 :: v21 :: v22 :: v23 :: v24 :: v25 :: v26 :: v27 :: v28 :: v29 :: v30 :: v31 :: v32 :: v33 :: v34 :: v35 :: v36 :: .func (.func 85) #[] #[.pointer (some ⟨gb, 0, none⟩)] :: v38 :: v39 :: v40 :: v41 :: v42 :: v43 :: v44 :: v45 :: v46 :: v47 :: v48 :: v49 :: v50 :: v51 :: v52 :: v53 :: v54 :: v55 :: v56 :: v57 :: v58 :: v59 :: v60 :: v61 :: v62 :: v63 :: v64 :: v65 :: v66 :: []).toArray, defers := [{ target := .collected D, args := #[] }] } W) :
    Code.wpIn Fence.wide 9 Tryd.prog (Code.rangeFunc (Operand.tmp 37) #[38]
      (Code.region 7
        #[{ dst := some 5, op := Op.alloc 72, type := 0, pos := "pcm.go:364", after := #[], guard := none },
          { dst := none, op := Op.store 72 (Operand.tmp 5) (Operand.tmp 38), type := 0, pos := "pcm.go:364",
            after := #[{ on := 0, ground := Ground.data }, { on := 0, ground := Ground.phase }], guard := none }]
        false)
      (Code.block 2
        ((Code.region 8
              #[{ dst := some 39, op := Op.load 65 (Operand.tmp 4), type := 65, pos := "pcm.go:365", after := #[],
                  guard := none },
                { dst := some 40, op := Op.load 72 (Operand.tmp 5), type := 72, pos := "pcm.go:365", after := #[],
                  guard := none },
                { dst := some 41,
                  op :=
                    Op.call
                      { callee := Callee.value (Operand.func 60), args := #[Operand.tmp 39, Operand.tmp 40],
                        argTypes := #[65, 72] },
                  type := 28, pos := "pcm.go:365",
                  after := #[{ on := 0, ground := Ground.data }, { on := 1, ground := Ground.data }], guard := none },
                { dst := some 6, op := Op.assign (Operand.tmp 41), type := 28, pos := "pcm.go:365",
                  after :=
                    #[{ on := 2, ground := Ground.data }, { on := 2, ground := Ground.chain },
                      { on := 0, ground := Ground.phase }, { on := 1, ground := Ground.phase },
                      { on := 2, ground := Ground.phase }],
                  guard := none }]
              false).seq
          ((Code.region 9
                #[{ dst := some 42, op := Op.move (Operand.tmp 6), type := 28, pos := "pcm.go:365", after := #[],
                    guard := none },
                  { dst := some 43,
                    op := Op.binOp BinOp.neq 28 (Operand.tmp 42) (Operand.const (Value.int IntKind.i64 0)) 28,
                    type := 4, pos := "pcm.go:365", after := #[{ on := 0, ground := Ground.data }], guard := none }]
                false).seq
            (Code.cond (Operand.tmp 43)
              ((Code.region 10
                    #[{ dst := some 44, op := Op.build 24 #[], type := 24, pos := "pcm.go:366", after := #[],
                        guard := none },
                      { dst := some 45, op := Op.move (Operand.tmp 6), type := 28, pos := "pcm.go:366",
                        after := #[{ on := 2, ground := Ground.gcOnly Departure.lateStores }], guard := none },
                      { dst := none, op := Op.store 24 (Operand.tmp 2) (Operand.tmp 44), type := 0, pos := "pcm.go:366",
                        after :=
                          #[{ on := 0, ground := Ground.data }, { on := 0, ground := Ground.phase },
                            { on := 1, ground := Ground.textOnly Departure.lateStores }],
                        guard := none },
                      { dst := none, op := Op.store 28 (Operand.tmp 3) (Operand.tmp 45), type := 0, pos := "pcm.go:366",
                        after :=
                          #[{ on := 1, ground := Ground.data }, { on := 2, ground := Ground.chain },
                            { on := 0, ground := Ground.phase }, { on := 1, ground := Ground.phase },
                            { on := 2, ground := Ground.phase }],
                        guard := none }]
                    false).seq
                Code.ret)
              Code.skip)))))
      Q { tmps := (v0 :: v1 :: .pointer (some ⟨g2, 0, none⟩) :: .pointer (some ⟨g3, 0, none⟩) :: .pointer (some ⟨g4, 0, none⟩) :: v5 :: v6 :: v7 :: v8 :: v9 :: v10 :: v11 :: v12 :: v13 :: v14 :: v15 :: v16 :: v17 :: v18 :: v19 :: v20 :: v21 :: v22 :: v23 :: v24 :: v25 :: v26 :: v27 :: v28 :: v29 :: v30 :: v31 :: v32 :: v33 :: v34 :: v35 :: v36 :: .func (.func 85) #[] #[.pointer (some ⟨gb, 0, none⟩)] :: v38 :: v39 :: v40 :: v41 :: v42 :: v43 :: v44 :: v45 :: v46 :: v47 :: v48 :: v49 :: v50 :: v51 :: v52 :: v53 :: v54 :: v55 :: v56 :: v57 :: v58 :: v59 :: v60 :: v61 :: v62 :: v63 :: v64 :: v65 :: v66 :: []).toArray, defers := [] } w6 := by
  have hYs := chunks1_yields gb A4 c4 b4 w6 (fun i => i < w0.heap.size) hb hR hB (fun i _ h2 => by omega) hl 8 (by decide)
  refine range_mine rfl (by decide) (gf := 85) (lb := #[.pointer (some ⟨gb, 0, none⟩)]) rfl trivial (enters_of Tryd.func85 (by kernel_rfl) rfl) hYs (fun r h => by subst h; omega) (fun r h => h.1) (Below.refl _ _) (fun _ => rfl)
    (fun pre W => ∃ s, RdI w0 g2 g3 g4 g (gb + 1) s W ∧ readC s0 (pre.map (·.1.2)) = (0, s) ∧ FileOk s)
    (fun c pre W => c = .ret ∧ ∃ er, RdX w0 g2 g3 er W ∧ er ≠ 0 ∧ (readC s0 (pre.map (·.1.2))).1 = er)
    ?hI ?hIx ⟨s0, hI0, rfl, hF0⟩
    (fun x a' W => ∃ gc, gb < gc ∧ Blk W gc #[.string (strOfNums x.1.2.1), .slice x.1.1 x.1.2.2.1.length x.1.2.2.1.length, .bool x.1.2.2.2] 72 ∧ a' = { tmps := (v0 :: v1 :: .pointer (some ⟨g2, 0, none⟩) :: .pointer (some ⟨g3, 0, none⟩) :: .pointer (some ⟨g4, 0, none⟩) :: .pointer (some ⟨gc, 0, none⟩) :: v6 :: v7 :: v8 :: v9 :: v10 :: v11 :: v12 :: v13 :: v14 :: v15 :: v16 :: v17 :: v18 :: v19 :: v20 :: v21 :: v22 :: v23 :: v24 :: v25 :: v26 :: v27 :: v28 :: v29 :: v30 :: v31 :: v32 :: v33 :: v34 :: v35 :: v36 :: .func (.func 85) #[] #[.pointer (some ⟨gb, 0, none⟩)] :: ckV x.1 :: v39 :: v40 :: v41 :: v42 :: v43 :: v44 :: v45 :: v46 :: v47 :: v48 :: v49 :: v50 :: v51 :: v52 :: v53 :: v54 :: v55 :: v56 :: v57 :: v58 :: v59 :: v60 :: v61 :: v62 :: v63 :: v64 :: v65 :: v66 :: []).toArray, defers := [] })
    ?hAx ?assign ?body ?done ?stop
  case hI =>
    rintro s X Y row ⟨s, h1, h2, h3⟩ hg hr
    exact ⟨s, h1.firm hg hr (by omega) (by omega) (by omega) (by omega) (by omega) (by omega) (by omega), h2, h3⟩
  case hIx =>
    rintro c s X Y row ⟨h1, er, h2, h3, h4⟩ hg hr
    exact ⟨h1, er, ⟨blk_firm h2.snd hg hr (by omega), blk_firm h2.err hg hr (by omega), low_firm h2.low hg hr (by omega) (by omega)⟩, h3, h4⟩
  case hAx =>
    rintro x a' s X Y row ⟨gc, h1, h2, h3⟩ hg hr
    exact ⟨gc, h1, blk_firm h2 hg hr (by omega), h3⟩
  case assign =>
    rintro l pre x W K ⟨s, h1, h2, h3⟩ hK
    have H1 := Lib.hid h1
    have H2 := Lib.hid h2
    have H3 := Lib.hid h3
    have HK := Lib.hid hK
    clear h1 h2 h3 hK hdone hstop hYs
    simp only [ckV]
    gi_wp2
    have hW : w6.heap.size ≤ W.heap.size := by have := H1.out.siz; omega
    have hbl := below_alloc (Below.refl W.heap.size W) (.cells #[.string (strOfNums x.1.2.1), .slice x.1.1 x.1.2.2.1.length x.1.2.2.1.length, .bool x.1.2.2.2] 72)
    exact HK.out _ _ ((KeepsOthers.alloc _ _).from _) ((Keep.of_below hbl).weak fun i hi => by have := hi.1; omega) ⟨s, H1.out.below hbl, H2.out, H3.out⟩ ⟨W.heap.size, by have := H1.out.siz; omega, heap_alloc_new W _, rfl⟩
  case body =>
    rintro l pre x a' W ⟨s, h1, h2, h3⟩ ⟨gc, hgc, hBc, rfl⟩ hlen
    obtain ⟨v, hF⟩ := h1.file
    have hv := hF.2.base_le
    have k0 := hBc.cell 0 rfl
    have k1 := hBc.cell 1 rfl
    have k2 := hBc.cell 2 rfl
    have q4 := h1.ptr.cell 0 rfl
    have hs6 : Sl (kInt .u8) (fun i => i < w0.heap.size) W x.1.1 x.1.2.2.1.length x.1.2.2.1 := x.2.1.keep ⟨by have := h1.siz; omega, fun i _ hi => (h1.low.block i hi).trans (hI0.low.block i hi).symm⟩
    have HL := Lib.hid (look_any g (gb + 1) (by omega) v s x.1.1 x.1.2.1 x.1.2.2.1 x.1.2.2.2 W _ (hG.low h1.low hg0) (by omega) hF h1.siz hs6 (fun i _ hi => by omega) x.2.2.1 x.2.2.2.1 h3.ch x.2.2.2.2 h3.len)
    have HRC := Lib.hid (readC_ok h2 x.1.2)
    have HFO := Lib.hid (fun he => h3.look (nm := x.1.2.1) (b := x.1.2.2.1) (bad := x.1.2.2.2) x.2.2.2.2 he)
    obtain ⟨nm, hnm⟩ : ∃ nm, strOfNums x.1.2.1 = nm := ⟨_, rfl⟩
    obtain ⟨nb, hnb⟩ : ∃ nb, x.1.2.2.1.length = nb := ⟨_, rfl⟩
    obtain ⟨bad, hbad⟩ : ∃ bad, x.1.2.2.2 = bad := ⟨_, rfl⟩
    obtain ⟨Ax, hAx⟩ : ∃ Ax, x.1.1 = Ax := ⟨_, rfl⟩
    obtain ⟨E, hE⟩ : ∃ E, lookE s x.1.2 = E := ⟨_, rfl⟩
    replace HL : Hid (Calls Tryd.prog 60 #[.pointer (some ⟨g, 0, none⟩), .agg #[.string nm, .slice Ax nb nb, .bool bad]] W fun e w' => e = .returned (.int .i64 E) ∧ (∃ v', FileAt g (gb + 1) v' w' (lookS s x.1.2)) ∧ Chg g v W w') := by
      rw [hnm, hnb, hAx, hbad, show lookE s (x.1.2.1, x.1.2.2.1, bad) = E by rw [← hbad]; exact hE, show lookS s (x.1.2.1, x.1.2.2.1, bad) = lookS s x.1.2 by rw [← hbad]] at HL
      exact HL
    have HHE := Lib.hid hE
    rw [hnm, hnb, hAx, hbad] at k0 k1 k2
    have HH1 := Lib.hid h1
    have HH2 := Lib.hid h2
    have HH3 := Lib.hid h3
    have HFF := Lib.hid hF
    have ck : ckV x.1 = .agg #[.string nm, .slice Ax nb nb, .bool bad] := by unfold ckV; rw [hnm, hnb, hAx, hbad]
    have HBc := Lib.hid hBc
    have HI0 := Lib.hid hI0
    rw [ck]
    clear h1 h2 h3 hF hE hnm hnb hbad hAx hs6 hBc hdone hstop hYs hI0 ck hR hB
    by_cases h0 : E = 0
    · subst h0
      gi_wp2_with (refine ⟨trivial, ?_⟩; gi_at_call 60; refine (CallsIn.inRound l (callsIn_wide.2 HL.out)).mono ?_; rintro e W3 ⟨rfl, ⟨v', hF'⟩, hC'⟩)
      have hkp := hC'.keep (ok := fun i => i < g ∨ (g < i ∧ i ≤ gb)) (fun i hi => ⟨by omega, fun e => by have := hv i e; omega⟩)
      refine ⟨(hC'.others HFF.out).from _, hkp.weak fun i hi => by omega, lookS s x.1.2, ⟨⟨v', hF'⟩, HH1.out.snd.keep hkp (.inl (by omega)), HH1.out.err.keep hkp (.inl (by omega)), HH1.out.ptr.keep hkp (.inr (by omega)), HH1.out.low.trans (hC'.low (by have := HFF.out.1.lt; omega) (fun k e => by have := hv k e; omega) |>.mono (by omega)), Nat.le_trans HH1.out.siz hC'.size⟩, ?_, HFO.out HHE.out⟩
      rw [List.map_append, List.map_singleton, HRC.out, if_pos HHE.out]
    · gi_wp2_with (refine ⟨trivial, ?_⟩; gi_at_call 60; refine (CallsIn.inRound l (callsIn_wide.2 HL.out)).mono ?_; rintro e W3 ⟨rfl, ⟨v', hF'⟩, hC'⟩; have hkp := hC'.keep (ok := fun i => i < g ∨ (g < i ∧ i ≤ gb)) (fun i hi => ⟨by omega, fun e => by have := hv i e; omega⟩); have S2 := HH1.out.snd.keep hkp (.inl (by omega)); have S3 := HH1.out.err.keep hkp (.inl (by omega)); have a0 := S2.cell 0 rfl; have a1 := S2.cell 1 rfl; have f0 := S2.free 0; have f1 := S2.free 1; have e0 := S3.cell 0 rfl; have ef := S3.free 0)
      have hlow : Below w0.heap.size w0 W3 := HH1.out.low.trans (hC'.low (by have := HFF.out.1.lt; omega) (fun k e => by have := hv k e; omega) |>.mono (by omega))
      have l3 := S3.lt
      refine ⟨((((hC'.others HFF.out).trans (KeepsOthers.setCell _ _ _)).trans (KeepsOthers.setCell _ _ _)).trans (KeepsOthers.setCell _ _ _)).from _, rfl, E, ⟨?_, ?_, ?_⟩, h0, ?_⟩
      · exact ((S2.set 0 (.int .i64 0)).set 1 (.slice none 0 0)).keep (Keep.of_grown1 (grown_setCell _ g3 0 (.int .i64 E))) (by omega)
      · exact ((S3.keep (Keep.of_grown1 (grown_setCell W3 g2 0 (.int .i64 0))) (by omega)).keep (Keep.of_grown1 (grown_setCell _ g2 1 (.slice none 0 0))) (by omega)).set 0 (.int .i64 E)
      · exact below_grown (below_grown (below_grown hlow hlow.size (grown_setCell W3 g2 0 (.int .i64 0)) (fun k e => by have := Option.some.inj e; omega)) (by have := hlow.size; have := (grown_setCell W3 g2 0 (.int .i64 0)).size; omega) (grown_setCell _ g2 1 (.slice none 0 0)) (fun k e => by have := Option.some.inj e; omega)) (by have := hlow.size; have := (grown_setCell W3 g2 0 (.int .i64 0)).size; have := (grown_setCell (W3.setCell ⟨g2, 0, Option.none⟩ (.int .i64 0)) g2 1 (.slice none 0 0)).size; omega) (grown_setCell _ g3 0 (.int .i64 E)) (fun k e => by have := Option.some.inj e; omega)
      · rw [List.map_append, List.map_singleton, HRC.out, if_neg (by rw [HHE.out]; exact h0)]
        exact HHE.out
  case done =>
    rintro D xs W hD hS ⟨s, h1, h2, h3⟩ hK
    rw [hS] at h2
    exact hdone D W s hD h1 h2 h3 hK
  case stop =>
    rintro D c pre W hD ⟨ys, hp⟩ ⟨rfl, er, h1, h2, h3⟩ hK
    refine wpIn_ret (hstop D W er hD h1 h2 ?_ hK)
    rw [← hp, readC_stop (by rw [h3]; exact h2)]
    exact h3
end Go.Proofs.YtijcecakofmhcaaDoor
