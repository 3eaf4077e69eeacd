/- A drawn region whose last operation writes a cell that it has read: loads are taken first while that operation is still to come. -/
import Derived.Deep.RegionHeld
import Derived.StillTail
import Derived.Test.YtijcecakofmhcaaDoorLibB
namespace Go.Proofs.YtijcecakofmhcaaDoor
open Go Go.RowKit

section
variable {P : Program} {ops : Array Oper} {Q : Exit → Act → World → Prop} {md : Region.Mode} {S : World → Prop} {N : Nat}

/-- What is listed has all listed that it waits for. -/
structure Shutdown (md : Region.Mode) (ops : Array Oper) (listed : Array Bool) : Prop where
  size : listed.size = ops.size
  closed : ∀ j oj, ops[j]? = some oj → listed.getD j false = true → ∀ e ∈ oj.after, Region.binds md e = true → listed.getD e.on false = true

theorem Shutdown.start : Shutdown md ops (Array.replicate ops.size false) := ⟨by simp, fun j oj _ hl => by rw [getD_replicate_false] at hl; cases hl⟩

theorem Shutdown.set {i : Nat} {listed : Array Bool} (inv : Shutdown md ops listed) (hi : i ∈ Region.ready md ops listed) : Shutdown md ops (listed.setIfInBounds i true) := by
  obtain ⟨_, oi, hoi, hall⟩ := mem_ready.1 hi
  refine ⟨by simp [inv.size], fun j oj hj hl e he hb => ?_⟩
  by_cases hij : i = j
  · subst hij
    have : oj = oi := Option.some.inj (hj.symm.trans hoi)
    subst this
    exact getD_set_true (hall e he hb)
  · rw [getD_set_ne false hij] at hl
    exact getD_set_true (inv.closed j oj hj hl e he hb)

/-- Each of these waits for the one ahead of it. -/
def pathB (md : Region.Mode) (ops : Array Oper) : Nat → List Nat → Bool
  | _, [] => true
  | i, j :: l => Region.waitsFor md ops j i && pathB md ops j l

theorem path_waits {listed : Array Bool} (inv : Shutdown md ops listed) : ∀ (l : List Nat) (i : Nat), pathB md ops i l = true → listed.getD i true = false → l.getLast? = some N → N ∉ Region.ready md ops listed := by
  intro l
  induction l with
  | nil => intro i _ _ h; cases h
  | cons j l ih =>
    intro i hp hu hl hr
    simp only [pathB, Bool.and_eq_true] at hp
    obtain ⟨oj, hoj, e, he, hb, hon⟩ := Region.waitsFor_spec hp.1
    cases l with
    | nil =>
      obtain rfl : j = N := by simpa using hl
      obtain ⟨_, ot, hot, hall⟩ := mem_ready.1 hr
      obtain rfl : oj = ot := Option.some.inj (hoj.symm.trans hot)
      have h2 := hall e he hb
      rw [hon, getD_both hu] at h2
      cases h2
    | cons k l =>
      refine ih j hp.2 ?_ (by simpa using hl) hr
      cases hlj : listed.getD j false with
      | true =>
        have h2 := inv.closed j oj hoj hlj e he hb
        rw [hon, getD_both hu] at h2
        cases h2
      | false =>
        have hjs : j < ops.size := (Array.getElem?_eq_some_iff.1 hoj).1
        exact getD_in (by rw [inv.size]; exact hjs) hlj

/-- Whatever order is picked from here on, and S holds behind every operation while number N is still to come. -/
def wpAnyG (P : Program) (md : Region.Mode) (ops : Array Oper) (Q : Exit → Act → World → Prop) (S : World → Prop) (N : Nat) : Nat → Array Bool → Act → World → Prop
  | 0, listed, a, w => Region.ready md ops listed = [] ∧ Q .normal a w
  | fuel + 1, listed, a, w =>
    (Region.ready md ops listed = [] → Q .normal a w) ∧
    ∀ i ∈ Region.ready md ops listed, wpOp P ops Q i (fun a' w' => ((listed.setIfInBounds i true).getD N true = false → S w') ∧ wpAnyG P md ops Q S N fuel (listed.setIfInBounds i true) a' w') a w

theorem wpAny_of_G : ∀ (fuel : Nat) (listed : Array Bool) (a : Act) (w : World), wpAnyG P md ops Q S N fuel listed a w → wpAny P md ops Q fuel listed a w
  | 0, _, _, _, h => h
  | fuel + 1, _, _, _, h => ⟨h.1, fun i hi => wpOp_mono (fun a' w' h' => wpAny_of_G fuel _ a' w' h'.2) (h.2 i hi)⟩

theorem wpAnyG_first {i : Nat} {oi : Oper} {v : Value} (path : List Nat) (hp : pathB md ops i path = true) (hlast : path.getLast? = some N)
    (hi : ops[i]? = some oi) (hsel : ∀ (j : Nat) (o : Oper) cs b, ops[j]? = some o → o.op ≠ .select cs b)
    (hQ : ∀ c a w, Q (.panic c) (a.put oi.dst v) w → Q (.panic c) a w) :
    ∀ (fuel : Nat) (listed : Array Bool) (a : Act) (w : World), Shutdown md ops listed → listed.getD N true = false → i ≠ N →
      (∀ j oj, ops[j]? = some oj → j ≠ i → listed.getD j true = false → (∀ e ∈ oj.after, Region.binds md e = true → e.on ≠ i) → oi.apart ops oj = true) →
      i ∈ Region.ready md ops listed → YieldsIf P ops S oi v a → S w →
      wpAnyG P md ops Q S N fuel (listed.setIfInBounds i true) (a.put oi.dst v) w → wpAnyG P md ops Q S N (fuel + 1) listed a w := by
  intro fuel
  induction fuel with
  | zero =>
    intro listed a w inv hN hiN _ hr hy hS H
    refine ⟨fun h => (by rw [h] at hr; cases hr), fun j hj => ?_⟩
    by_cases hji : j = i
    · subst hji; exact hy.wpOp hi hS ⟨fun _ => hS, H⟩
    · have := ready_mono hj hji
      rw [H.1] at this
      cases this
  | succ fuel ih =>
    intro listed a w inv hN hiN hfree hr hy hS H
    refine ⟨fun h => (by rw [h] at hr; cases hr), fun j hj => ?_⟩
    by_cases hji : j = i
    · subst hji; exact hy.wpOp hi hS ⟨fun _ => hS, H⟩
    · have hjN : j ≠ N := fun e => by subst e; exact path_waits inv path i hp (mem_ready.1 hr).1 hlast hj
      have h1 := H.2 j (ready_mono hj hji)
      obtain ⟨hjun, oj, hoj, hall⟩ := mem_ready.1 hj
      have hnot : ∀ e ∈ oj.after, Region.binds md e = true → e.on ≠ i := fun e he hb heq => by
        have h1 := hall e he hb
        rw [heq, getD_both (mem_ready.1 hr).1] at h1
        cases h1
      have h2 := wpOp_putIf hoj (hfree j oj hoj hji hjun hnot) (fun cs b => hsel i oi cs b hi) (fun cs b => hsel j oj cs b hoj) hQ hy h1
      have hfree' : ∀ k ok, ops[k]? = some ok → k ≠ i → (listed.setIfInBounds j true).getD k true = false →
          (∀ e ∈ ok.after, Region.binds md e = true → e.on ≠ i) → oi.apart ops ok = true := fun k ok hk hki hun hno => by
        refine hfree k ok hk hki ?_ hno
        by_cases hjk : j = k
        · subst hjk; exact hjun
        · rw [getD_set_ne true hjk] at hun; exact hun
      have hNj : (listed.setIfInBounds j true).getD N true = false := by rw [getD_set_ne true hjN]; exact hN
      have hNij : ((listed.setIfInBounds i true).setIfInBounds j true).getD N true = false := by rw [getD_set_ne true hjN, getD_set_ne true hiN]; exact hN
      refine wpOp_mono (fun a' w' h3 => ⟨fun _ => h3.2.1 hNij, ih (listed.setIfInBounds j true) a' w' (inv.set hj) hNj hiN hfree' (ready_mono hr (Ne.symm hji)) h3.1 (h3.2.1 hNij) ?_⟩) h2
      rw [Array.setIfInBounds_comm _ _ hji]
      exact h3.2.2

/-- Whether an operation can be carried out already, a Bool for the walk. -/
def shutB (md : Region.Mode) (ops : Array Oper) (listed : Array Bool) : Bool :=
  decide (listed.size = ops.size) && (List.range ops.size).all fun j => !listed.getD j false || ((ops[j]?).map fun oj => oj.after.all fun e => !Region.binds md e || listed.getD e.on false).getD true

theorem shutB_spec {listed : Array Bool} (h : shutB md ops listed = true) : Shutdown md ops listed := by
  simp only [shutB, Bool.and_eq_true, decide_eq_true_eq] at h
  refine ⟨h.1, fun j oj hj hl e he hb => ?_⟩
  have h1 := List.all_eq_true.1 h.2 j (List.mem_range.2 (Array.getElem?_eq_some_iff.1 hj).1)
  simp only [hl, hj, Option.map_some, Option.getD_some, Bool.not_true, Bool.false_or, Array.all_eq_true_iff_forall_mem, Bool.or_eq_true, Bool.not_eq_true'] at h1
  rcases h1 e he with h | h
  · rw [hb] at h; cases h
  · exact h

/-- All side conditions of a take, as one Bool. -/
def takeB (md : Region.Mode) (ops : Array Oper) (listed : Array Bool) (i N : Nat) (path : List Nat) : Bool :=
  pathB md ops i path && path.getLast? == some N && Region.noSelect ops && Region.free md ops listed i && (Region.ready md ops listed).contains i && shutB md ops listed && !listed.getD N true && decide (i ≠ N)

/-- Number i is taken first. -/
theorem wpAnyG_take {i : Nat} {oi : Oper} {v : Value} (path : List Nat) {fuel : Nat} {listed : Array Bool} {a : Act} {w : World} (hi : ops[i]? = some oi)
    (hB : takeB md ops listed i N path = true)
    (hQ : ∀ c a w, Q (.panic c) (a.put oi.dst v) w → Q (.panic c) a w) (hS : S w) (hw : Region.wanted oi (yielded ops a.tmps) = true) (hy : ∀ w, S w → (execOp a.eval oi).run P w = .ok (.value v) w)
    (h : wpAnyG P md ops Q S N fuel (listed.setIfInBounds i true) (a.put oi.dst v) w) : wpAnyG P md ops Q S N (fuel + 1) listed a w := by
  simp only [takeB, Bool.and_eq_true, Bool.not_eq_true', decide_eq_true_eq, beq_iff_eq] at hB
  obtain ⟨⟨⟨⟨⟨⟨⟨h1, h2⟩, h3⟩, h4⟩, h5⟩, h6⟩, h7⟩, h8⟩ := hB
  exact wpAnyG_first path h1 h2 hi (Region.noSelect_spec h3) hQ fuel listed a w (shutB_spec h6) h7 h8 (Region.free_spec hi h4) (by simpa using h5) (Or.inl ⟨hw, hy⟩) hS h

/-- Number i alone may come up. -/
theorem wpAnyG_one {i : Nat} {o : Oper} {fuel : Nat} {listed : Array Bool} {a : Act} {w : World} (hr : Region.ready md ops listed = [i]) (ho : ops[i]? = some o)
    (h : ∀ K' : Act → World → Prop, Shut (∀ a w, ((listed.setIfInBounds i true).getD N true = false → S w) → wpAnyG P md ops Q S N fuel (listed.setIfInBounds i true) a w → K' a w) → if Region.wanted o (yielded ops a.tmps) = true then Oper.wp P o a w K' Q else K' (a.put o.dst undef) w) :
    wpAnyG P md ops Q S N (fuel + 1) listed a w := by
  refine ⟨fun h0 => (by rw [hr] at h0; cases h0), fun j hj => ?_⟩
  rw [hr] at hj
  obtain rfl : j = i := by simpa using hj
  exact wpOp_step ho (fun K' hK => h K' (fun a w hS hW => hK a w ⟨hS, hW⟩))

theorem wpAnyG_done {listed : Array Bool} {a : Act} {w : World} (hr : Region.ready md ops listed = []) (h : Q .normal a w) : ∀ fuel, wpAnyG P md ops Q S N fuel listed a w
  | 0 => ⟨hr, h⟩
  | _ + 1 => ⟨fun _ => h, by rw [hr]; simp⟩

theorem ops_at {i : Nat} {oi : Oper} {l : List Oper} (hi : ops.toList.drop i = oi :: l) : ops[i]? = some oi := by
  have h := congrArg (fun x : List Oper => x[0]?) hi
  simpa using h
/-- Number i is taken first, the operations written out. -/
theorem wpAnyG_takeL {i : Nat} {oi : Oper} {l : List Oper} (v : Value) (path : List Nat) {fuel : Nat} {listed : Array Bool} {a : Act} {w : World} (hi : ops.toList.drop i = oi :: l)
    (hB : takeB md ops listed i N path = true)
    (hQ : ∀ c a w, Q (.panic c) (a.put oi.dst v) w → Q (.panic c) a w) (hS : S w) (hw : Region.wanted oi (yielded ops a.tmps) = true) (hy : ∀ w, S w → (execOp a.eval oi).run P w = .ok (.value v) w)
    (h : wpAnyG P md ops Q S N fuel (listed.setIfInBounds i true) (a.put oi.dst v) w) : wpAnyG P md ops Q S N (fuel + 1) listed a w :=
  wpAnyG_take path (ops_at hi) hB hQ hS hw hy h
/-- Number i is guarded off: it is passed first. -/
theorem wpAnyG_dropL {i : Nat} {oi : Oper} {l : List Oper} (path : List Nat) {fuel : Nat} {listed : Array Bool} {a : Act} {w : World} (hi : ops.toList.drop i = oi :: l)
    (hB : takeB md ops listed i N path = true)
    (hQ : ∀ c a w, Q (.panic c) (a.put oi.dst undef) w → Q (.panic c) a w) (hS : S w) (hw : Region.wanted oi (yielded ops a.tmps) = false)
    (h : wpAnyG P md ops Q S N fuel (listed.setIfInBounds i true) (a.put oi.dst undef) w) : wpAnyG P md ops Q S N (fuel + 1) listed a w := by
  simp only [takeB, Bool.and_eq_true, Bool.not_eq_true', decide_eq_true_eq, beq_iff_eq] at hB
  obtain ⟨⟨⟨⟨⟨⟨⟨h1, h2⟩, h3⟩, h4⟩, h5⟩, h6⟩, h7⟩, h8⟩ := hB
  exact wpAnyG_first path h1 h2 (ops_at hi) (Region.noSelect_spec h3) hQ fuel listed a w (shutB_spec h6) h7 h8 (Region.free_spec (ops_at hi) h4) (by simpa using h5) (Or.inr ⟨hw, rfl⟩) hS h
/-- Number i alone may come up, the operations written out. -/
theorem wpAnyG_oneL {i : Nat} {o : Oper} {l : List Oper} {fuel : Nat} {listed : Array Bool} {a : Act} {w : World} (hr : Region.ready md ops listed = [i]) (hi : ops.toList.drop i = o :: l)
    (h : ∀ K' : Act → World → Prop, Shut (∀ a w, ((listed.setIfInBounds i true).getD N true = false → S w) → wpAnyG P md ops Q S N fuel (listed.setIfInBounds i true) a w → K' a w) → if Region.wanted o (yielded ops a.tmps) = true then Oper.wp P o a w K' Q else K' (a.put o.dst undef) w) :
    wpAnyG P md ops Q S N (fuel + 1) listed a w := wpAnyG_one hr (ops_at hi) h

/-- Each of these may come up. -/
def AllG (P : Program) (md : Region.Mode) (ops : Array Oper) (Q : Exit → Act → World → Prop) (S : World → Prop) (N : Nat) (fuel : Nat) (listed : Array Bool) (a : Act) (w : World) (rs : List Nat) : Prop :=
  ∀ i ∈ rs, wpOp P ops Q i (fun a' w' => ((listed.setIfInBounds i true).getD N true = false → S w') ∧ wpAnyG P md ops Q S N fuel (listed.setIfInBounds i true) a' w') a w
theorem AllG.nil {fuel : Nat} {listed : Array Bool} {a : Act} {w : World} : AllG P md ops Q S N fuel listed a w [] := fun _ h => by cases h
theorem AllG.cons {fuel : Nat} {listed : Array Bool} {a : Act} {w : World} {i : Nat} {o : Oper} {l : List Oper} {rs : List Nat} (hi : ops.toList.drop i = o :: l)
    (h : ∀ K' : Act → World → Prop, Shut (∀ a w, ((listed.setIfInBounds i true).getD N true = false → S w) → wpAnyG P md ops Q S N fuel (listed.setIfInBounds i true) a w → K' a w) → if Region.wanted o (yielded ops a.tmps) = true then Oper.wp P o a w K' Q else K' (a.put o.dst undef) w)
    (hs : AllG P md ops Q S N fuel listed a w rs) : AllG P md ops Q S N fuel listed a w (i :: rs) := fun j hj => by
  rcases List.mem_cons.1 hj with rfl | hj
  · exact wpOp_step (ops_at hi) (fun K' hK => h K' (fun a w hS hW => hK a w ⟨hS, hW⟩))
  · exact hs j hj
theorem wpAnyG_br {rs : List Nat} {fuel : Nat} {listed : Array Bool} {a : Act} {w : World} (hr : Region.ready md ops listed = rs) (hne : rs ≠ []) (h : AllG P md ops Q S N fuel listed a w rs) : wpAnyG P md ops Q S N (fuel + 1) listed a w :=
  ⟨fun h0 => absurd (hr ▸ h0) hne, hr ▸ h⟩
/-- A new variable, as one step of a drawn region. -/
theorem step_new {E : Prop} {K : Act → World → Prop} {o : Oper} {a : Act} {W : World} (cs : Array Value) (t : TypeId) (hgd : o.guard = none)
    (hrun : (execOp a.eval o).run P W = .ok (.value (.pointer (some ⟨W.heap.size, 0, none⟩))) (W.alloc (.cells cs t (0, 0))))
    (h : ∀ (g : Nat) (w1 : World), Hid (g = W.heap.size) → Hid (w1.heap.size = g + 1) → Below W.heap.size W w1 → Blk w1 g cs t → K (a.put o.dst (.pointer (some ⟨g, 0, none⟩))) w1) :
    if Region.wanted o (yielded ops a.tmps) = true then Oper.wp P o a W K Q else E := by
  rw [if_pos (by simp [Region.wanted, hgd])]
  unfold Oper.wp
  rw [hrun]
  exact h _ _ (Lib.hid rfl) (Lib.hid (World.size_alloc _ _)) (((Below.refl _ _).alloc (Nat.le_refl _) _)) (heap_alloc_new W _)
/-- A variable of two cells is written, as one step of a drawn region. -/
theorem step_put2 {E : Prop} {K : Act → World → Prop} {o : Oper} {a : Act} {W : World} (u v : Value) (hgd : o.guard = none) (ty : TypeId) (x y : Operand) (ho : o.op = .store ty x y) (g : Nat) (t : TypeId) (old : Array Value)
    (hx : a.eval x = .pointer (some ⟨g, 0, none⟩)) (hy : a.eval y = .agg #[u, v]) (hk : Blk W g old t) (hi : (P.info? ty).map (·.size) = some 2) (hold : old.size = 2) (h1 : u.oneCell' = true) (h2 : v.oneCell' = true)
    (h : ∀ w1, Blk w1 g #[u, v] t → W.grownBy w1 (some g) → Hid (w1.heap.size = W.heap.size) → K (a.put o.dst undef) w1) :
    if Region.wanted o (yielded ops a.tmps) = true then Oper.wp P o a W K Q else E := by
  rw [if_pos (by simp [Region.wanted, hgd])]
  exact wp_store_row ty x y ho g #[u, v] hx hy t old hk hi hold (by simp [h1, h2]) (h _ (setRow_heap W g old _ t _ hk) (grown_setRow W g _) (Lib.hid (by simp)))

/-- The beginning. -/
theorem wp_region_G {id : Nat} {a : Act} {w : World} (N : Nat) (S : World → Prop) (hm : P.follows .mixedOrders = true) (hS : S w.drew)
    (h : S w.drew → wpAnyG P .any ops Q S N ops.size (Array.replicate ops.size false) a w.drew) : (Code.region id ops true).wp P Q a w :=
  wp_region_any hm (wpAny_of_G _ _ _ _ (h hS))
end
end Go.Proofs.YtijcecakofmhcaaDoor
