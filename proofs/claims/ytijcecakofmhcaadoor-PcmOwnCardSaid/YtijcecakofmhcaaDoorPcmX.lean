/- pcm: chunks and the iterator that it returns, for any bytes. -/
import Derived.Test.YtijcecakofmhcaaDoorPcmX6
import Derived.Test.YtijcecakofmhcaaDoorPcmN
import Derived.Test.YtijcecakofmhcaaDoorIter
import Derived.Test.YtijcecakofmhcaaDoorCut
import Derived.RangeFuncLeaves
import Derived.RangeFuncCalls
import Derived.RangeFuncBound
import Derived.Shelf.Abstract
import Derived.Shelf.RegionOpen
import Derived.WalkKit
import Derived.OwnWalkIn
import Derived.TacticsInMore
import Derived.LoopNIn
import Derived.LoopIn
namespace Go.Proofs.YtijcecakofmhcaaDoor
open Go.RowKit Go.Shelf
attribute [local go_sem] Oper.semAt_some

/-- What a file's bytes say of its chunks: name, bytes, cut off. -/
abbrev CkD := List Int × List Int × Bool
def ckN (b : List Int) : Nat := (numB ((b.take 8).drop 4)).toNat
def chunksF : Nat → List Int → List CkD
  | 0, _ => []
  | f + 1, b => if b = [] then [] else if b.length < 8 ∨ b.length - 8 < ckN b + ckN b % 2 then [([], [], true)]
    else (b.take 4, (b.take (8 + ckN b)).drop 8, false) :: chunksF f (b.drop (8 + ckN b + ckN b % 2))
/-- A chunk as a value: its bytes lie where they are read. -/
abbrev CkA (ok : Nat → Prop) (w0 : World) := { x : Option Addr × CkD // Sl (kInt .u8) ok w0 x.1 x.2.2.1.length x.2.2.1 ∧ Bytes x.2.1 ∧ Bytes x.2.2.1 ∧ x.2.2.1.length ≤ 1000000 }
def ckV (x : Option Addr × CkD) : Value := .agg #[.string (strOfNums x.2.1), .slice x.1 x.2.2.1.length x.2.2.1.length, .bool x.2.2.2]
def lenAt (bn : Nat) (w : World) : Nat := match w.cell? ⟨bn, 0, none⟩ with | some (.slice _ n _) => n | _ => 0

set_option maxHeartbeats 1000000 in
theorem chunks_any (A : Option Addr) (c : Nat) (b : List Int) (w : World) :
    Calls Tryd.prog 59 #[.slice A b.length c] w fun e w' => ∃ g, e = .returned (.func (.func 85) #[] #[.pointer (some ⟨g, 0, none⟩)]) ∧ Hid (g = w.heap.size) ∧ Blk w' g #[.slice A b.length c] 25 ∧ Hid (w'.heap.size = g + 1) ∧ Below w.heap.size w w' := by
  go_enter Tryd.func59, Tryd.ntmps59
  go_wp2_with (first | ((with_reducible refine at_dst (N := 1) rfl ?_); refine ev_new #[.slice A b.length c] 25 rfl ?hr ?_; (case hr => first | (go_simp; done) | (go_simp; rfl)); intro g1 w1 eg1 zg1 b1 Bg1; skip))
  go_ret
  exact ⟨_, rfl, eg1, Bg1, zg1, b1⟩

set_option maxHeartbeats 700000 in
set_option maxRecDepth 100000 in
theorem chunks1_yields (bn : Nat) (A : Option Addr) (c : Nat) (b : List Int) (w0 : World) (ok : Nat → Prop) (hb : Bytes b) (hR : Sl (kInt .u8) ok w0 A c b) (hB : Blk w0 bn #[.slice A b.length c] 25) (hne : ∀ i, i < w0.heap.size → ok i → i ≠ bn) (hlen : b.length ≤ 1000000) (n : Nat) (hn : 1 ≤ n) :
    Yields Fence.wide n Tryd.prog 85 #[.pointer (some ⟨bn, 0, none⟩)] (fun x : CkA ok w0 => #[ckV x.1]) (fun i => i < w0.heap.size ∧ (ok i ∨ i = bn)) (fun i => i = bn)
      (fun xs => xs.map (·.1.2) = chunksF (b.length + 1) b) (fun xs => xs.map (·.1.2) <+: chunksF (b.length + 1) b) (b.length + 1) w0 := by
  intro l J Jx W hW hJ hJx hY h0
  refine callsIn_of_wp Tryd.func85 rfl trivial ?_ rfl
  simp only [Tryd.ntmps85, List.size_toArray, List.length_cons, List.length_nil, Nat.reduceAdd, Nat.reduceSub, Array.replicate_succ, Array.replicate_zero, List.push_toArray, List.append_toArray, List.nil_append, List.cons_append]
  gi_wp2
  gi_loopw [3] (fun _ wr => ∃ (p : Nat) (pre : List (CkA ok w0)) (A' : Option Addr) (c' : Nat), p ≤ b.length ∧ pre.length ≤ p ∧ Blk wr bn #[.slice A' (b.drop p).length c'] 25 ∧ Sl (kInt .u8) ok w0 A' c' (b.drop p) ∧ Keep (fun i => i < w0.heap.size ∧ ok i) w0 wr ∧ J pre wr
      ∧ Hid (∃ f, b.length - p < f ∧ chunksF (b.length + 1) b = pre.map (·.1.2) ++ chunksF f (b.drop p))) (fun _ wr => lenAt bn wr)
  case atStart =>
    have hk : Blk W bn #[.slice A b.length c] 25 := hB.below hW
    exact ⟨0, [], A, c, Nat.zero_le _, Nat.le_refl _, by simpa using hk, by simpa using hR, (Keep.of_below hW).weak fun i hi => hi.1, h0, Lib.hid ⟨b.length + 1, by omega, by simp⟩⟩
  case round =>
    obtain ⟨p, pre, A', c', hp, hpre, hk, hs, hkp, hj, hE⟩ := hrel
    obtain ⟨d, hd⟩ : ∃ d, b.drop p = d := ⟨_, rfl⟩
    have hdl : Hid (d.length = b.length - p) := Lib.hid (by rw [← hd, List.length_drop])
    have hdb : Bytes d := fun x hx => hb x (List.mem_of_mem_drop (hd ▸ hx))
    rw [hd] at hk hs hE
    have HD := Lib.hid hd
    clear hd
    have k0 := hk.cell 0 rfl
    have f0 := hk.free 0
    have hle := hs.le
    have hcap := hs.cap
    have hd1 : d.length ≤ b.length := by have := hdl.out; omega
    by_cases hz : d.length = 0
    · have hdn : d = [] := List.eq_nil_of_length_eq_zero hz
      gi_wp2
      go_end0
      refine ⟨⟨_, rfl⟩, .inl ⟨pre, ?_, hj⟩⟩
      obtain ⟨f, hf, he⟩ := hE.out
      cases f with
      | zero => omega
      | succ f => rw [he, hdn]; simp [chunksF]
    · by_cases h8 : d.length < 8
      · obtain ⟨fn, tmps, assign, body, hy, hRd⟩ := hY pre ⟨(none, [], [], true), ⟨Nat.le_refl _, Nat.zero_le _, Kd.Rd.nil _ _ _ _⟩, (fun x hx => by cases hx), (fun x hx => by cases hx), (by decide)⟩ wr hj (by omega)
        have hfin : chunksF (b.length + 1) b = pre.map (·.1.2) ++ [([], [], true)] := by
          obtain ⟨f, hf, he⟩ := hE.out
          cases f with
          | zero => omega
          | succ f => rw [he, chunksF, if_neg (fun e => hz (by rw [e]; rfl)), if_pos (.inl h8)]
        have HF := Lib.hid hfin
        clear hfin
        replace hy : (Instr.yield l #[.agg #[.string ⟨#[]⟩, .slice none 0 0, .bool true]]).run Tryd.prog wr = .ok (.round l fn tmps assign body) wr := hy
        gi_wp2
        refine hRd.mono ?_
        rintro e W3 (⟨rfl, hJ3, hk3⟩ | ⟨rfl, hJx3⟩)
        · gi_wp2
          refine bodyPost_ret (results_none rfl _ _ _) rfl ?_
          exact ⟨⟨_, rfl⟩, .inl ⟨_, by simpa using HF.out.symm, hJ3⟩⟩
        · gi_wp2
          refine bodyPost_ret (results_none rfl _ _ _) rfl ?_
          exact ⟨⟨_, rfl⟩, .inr ⟨_, by rw [HF.out]; simp, hJx3⟩⟩
      · have hc8 : 8 ≤ c' := by omega
        obtain ⟨i0, hi0, hz0, hz1, hz2⟩ := info_parts infoY
        obtain ⟨A4, hcut4, hsl4⟩ := cut_mid (P := Tryd.prog) 25 5 Tryd.underlying25 hi0 A' d.length c' 4 8 (by decide) (by omega) hle
        replace hcut4 : ∀ W : World, (Instr.slice 25 (.slice A' d.length c') (some (.int .i64 4)) (some (.int .i64 8)) none).run Tryd.prog W = .ok (.slice A4 4 (c' - 4)) W := hcut4
        have hs4 := hsl4 (kInt .u8) ok w0 d hz1.symm rfl hs
        have hl4 : ((d.take 8).drop 4).length = 4 := by rw [List.length_drop, List.length_take]; omega
        have hb4 : Bytes ((d.take 8).drop 4) := fun x hx => hdb x (List.mem_of_mem_take (List.mem_of_mem_drop hx))
        have hnn := numB_nonneg _ hb4
        rw [hl4] at hnn
        obtain ⟨m, hm⟩ : ∃ m, ckN d = m := ⟨_, rfl⟩
        have hnum : numB ((d.take 8).drop 4) = (m : Int) := by rw [← hm]; unfold ckN; omega
        have hmu : m < 4294967296 := by omega
        have HN := Lib.hid (number_any A4 (c' - 4) ((d.take 8).drop 4) wr ((hs4.weak (fun b hb ho => (⟨hb, ho⟩ : b < w0.heap.size ∧ ok b))).keep hkp).any hb4 (by omega))
        rw [hl4, hnum] at HN
        have HM := Lib.hid hm
        clear hsl4 hs4 hl4 hb4 hnn hm hnum
        have mod_cast_ : (m : Int) % 2 = ((m % 2 : Nat) : Int) := by omega
        by_cases hbig : d.length - 8 < m + m % 2
        · have hbi : (d.length : Int) - 8 < (m : Int) + (m : Int) % 2 := by omega
          obtain ⟨fn, tmps, assign, body, hy, hRd⟩ := hY pre ⟨(none, [], [], true), ⟨Nat.le_refl _, Nat.zero_le _, Kd.Rd.nil _ _ _ _⟩, (fun x hx => by cases hx), (fun x hx => by cases hx), (by decide)⟩ wr hj (by omega)
          have hfin : chunksF (b.length + 1) b = pre.map (·.1.2) ++ [([], [], true)] := by
            obtain ⟨f, hf, he⟩ := hE.out
            cases f with
            | zero => omega
            | succ f => rw [he, chunksF, if_neg (fun e => hz (by rw [e]; rfl)), if_pos (.inr (by rw [HM.out]; exact hbig))]
          have HF := Lib.hid hfin
          clear hfin mod_cast_
          replace hy : (Instr.yield l #[.agg #[.string ⟨#[]⟩, .slice none 0 0, .bool true]]).run Tryd.prog wr = .ok (.round l fn tmps assign body) wr := hy
          gi_wp2_with (refine ⟨trivial, ?_⟩; gi_at_call 58; refine (callsIn_wide.2 HN.out).mono ?_; rintro e w' ⟨rfl, rfl⟩)
          refine hRd.mono ?_
          rintro e W3 (⟨rfl, hJ3, hk3⟩ | ⟨rfl, hJx3⟩)
          · gi_wp2
            refine bodyPost_ret (results_none rfl _ _ _) rfl ?_
            exact ⟨⟨_, rfl⟩, .inl ⟨_, by simpa using HF.out.symm, hJ3⟩⟩
          · gi_wp2
            refine bodyPost_ret (results_none rfl _ _ _) rfl ?_
            exact ⟨⟨_, rfl⟩, .inr ⟨_, by rw [HF.out]; simp, hJx3⟩⟩
        · have hbi : ¬ (d.length : Int) - 8 < (m : Int) + (m : Int) % 2 := by omega
          clear mod_cast_
          gi_wp2_with (refine ⟨trivial, ?_⟩; gi_at_call 58; refine (callsIn_wide.2 HN.out).mono ?_; rintro e w' ⟨rfl, rfl⟩)
          have hq6 : 8 + m + m % 2 ≤ d.length := by omega
          obtain ⟨nm, A1, A5, hnm, hcut1, hcut5, hcd, hSl5⟩ : ∃ (nm : ByteArray) (A1 A5 : Option Addr), Hid (strOfNums (d.take 4) = nm) ∧ (∀ W : World, (Instr.slice 25 (.slice A' d.length c') none (some (.int .i64 4)) none).run Tryd.prog W = .ok (.slice A1 4 c') W)
              ∧ (∀ W : World, (Instr.slice 25 (.slice A' d.length c') (some (.int .i64 8)) (some (.int .i64 (8 + (m : Int)))) (some (.int .i64 (8 + (m : Int))))).run Tryd.prog W = .ok (.slice A5 m m) W)
              ∧ (convert 25 9 (.slice A1 4 c')).run Tryd.prog wr.drew = .ok (.string nm) wr.drew ∧ Hid (Sl (kInt .u8) ok w0 A5 m ((d.take (8 + m)).drop 8) ∧ ((d.take (8 + m)).drop 8).length = m) := by
            obtain ⟨A1, hcut1, hsl1⟩ := cut_to (P := Tryd.prog) 25 5 Tryd.underlying25 hi0 A' d.length c' 4 (by omega) hle
            have hs1 := hsl1 (kInt .u8) ok w0 d hz1.symm rfl hs
            have hl1 : (d.take 4).length = 4 := by rw [List.length_take]; omega
            have hcd := conv_str (P := Tryd.prog) Tryd.underlying25 Tryd.underlying5 Tryd.underlying9 (c := c') (((hs1.weak (fun b hb ho => (⟨hb, ho⟩ : b < w0.heap.size ∧ ok b))).keep hkp).below (Below.refl _ _).drew)
            rw [hl1] at hcd
            obtain ⟨A5, hcut5, hsl5⟩ := cut_max (P := Tryd.prog) 25 5 Tryd.underlying25 hi0 A' d.length c' 8 (8 + m) (by omega) (by omega) hle
            have e8 : 8 + m - 8 = m := by omega
            have e8c : ((8 + m : Nat) : Int) = 8 + (m : Int) := by omega
            have hs5 := hsl5 (kInt .u8) ok w0 d hz1.symm rfl hs
            rw [e8, e8c] at hcut5
            rw [e8] at hs5
            exact ⟨_, A1, A5, Lib.hid rfl, hcut1, hcut5, hcd, Lib.hid ⟨hs5, by rw [List.length_drop, List.length_take]; omega⟩⟩
          have HB1 : Hid (Bytes (d.take 4)) := Lib.hid fun x hx => hdb x (List.mem_of_mem_take hx)
          have HBD : Hid (Bytes ((d.take (8 + m)).drop 8)) := Lib.hid fun x hx => hdb x (List.mem_of_mem_take (List.mem_of_mem_drop hx))
          obtain ⟨x0, hx0⟩ : ∃ x0 : CkA ok w0, x0.1 = (A5, d.take 4, (d.take (8 + m)).drop 8, false) := ⟨⟨(A5, d.take 4, (d.take (8 + m)).drop 8, false), by rw [hSl5.out.2]; exact hSl5.out.1, HB1.out, HBD.out, by show ((d.take (8 + m)).drop 8).length ≤ 1000000; rw [hSl5.out.2]; omega⟩, rfl⟩
          obtain ⟨fn, tmps, assign, body, hy, hRd⟩ := hY pre x0 wr.drew (hJ pre wr wr.drew none hj ⟨rfl, rfl, rfl, Nat.le_refl _, fun _ _ _ => rfl⟩ (fun r e => by cases e)) (by omega)
          replace hy : (Instr.yield l #[.agg #[.string nm, .slice A5 m m, .bool false]]).run Tryd.prog wr.drew = .ok (.round l fn tmps assign body) wr.drew := by
            rw [← hnm.out]
            have := hy
            simp only [ckV, hx0] at this
            rw [hSl5.out.2] at this
            exact this
          have HX0 := Lib.hid hx0
          clear hx0
          have hmo : Tryd.prog.follows .mixedOrders = true := by kernel_rfl
          have HS := Lib.hid hs
          have HJ := Lib.hid hj
          have HDB := Lib.hid hdb
          have HYY := Lib.hid hY
          clear hs hj hdb hY
          obtain ⟨Q3, hQ3, hR3⟩ : ∃ Q3 : Bool → World → Prop, Hid (∀ r W', Q3 r W' → (r = true ∧ J (pre ++ [x0]) W' ∧ Keep (fun i => i < w0.heap.size ∧ (ok i ∨ i = bn)) wr.drew W') ∨ (r = false ∧ Jx (pre ++ [x0]) W')) ∧ RoundIn Fence.wide (n - 1) Tryd.prog l fn tmps assign body wr.drew (fun e W' => ∃ r, e = .returned (.bool r) ∧ Q3 r W') := by
            refine ⟨fun r W' => (r = true ∧ J (pre ++ [x0]) W' ∧ Keep (fun i => i < w0.heap.size ∧ (ok i ∨ i = bn)) wr.drew W') ∨ (r = false ∧ Jx (pre ++ [x0]) W'), Lib.hid fun r W' q => q, hRd.mono ?_⟩
            rintro e W3 (⟨rfl, hJ3, hk3⟩ | ⟨rfl, hJx3⟩)
            · exact ⟨true, rfl, .inl ⟨rfl, hJ3, hk3⟩⟩
            · exact ⟨false, rfl, .inr ⟨rfl, hJx3⟩⟩
          clear hRd
          refine chunk_region n l bn m d.length c' nm A' A1 A5 wr Q3 fn tmps assign body _ _ _ _ _ _ _ _ _ _ _ _ _ _ _ _ _ _ _ _ _ _ _ _ _ _ _ _ _ _ _ _ _ _ _ _ _ _ _ _ _ _ _ _ _ _ k0 hmu hn hcut1 hcut5 hcd hy hR3 ?_
          intro r W3 x27 x28 x29 x30 x31 x32 x33 x34 x35 x36 x37 x38 hq3
          have hx3 := hQ3.out r W3 hq3
          clear hq3 hR3 hcut1 hcut5 hcd hy
          rcases hx3 with ⟨rfl, hJ3, hk3⟩ | ⟨rfl, hJx3⟩
          · have HJ3 := Lib.hid hJ3
            clear hJ3
            have hB3 := (hk.below (Below.refl _ _).drew).keep hk3 ⟨hB.lt, .inr rfl⟩
            have k3 := hB3.cell 0 rfl
            have f3 := hB3.free 0
            have HK3 := Lib.hid hk3
            clear hk3
            obtain ⟨A6, hcut6, hsl6⟩ := cut_from (P := Tryd.prog) 25 5 Tryd.underlying25 hi0 A' d.length c' (8 + m + m % 2) hq6
            have e6 : ((8 + m + m % 2 : Nat) : Int) = 8 + (m : Int) + (m : Int) % 2 := by omega
            rw [e6] at hcut6
            replace hcut6 : ∀ W : World, (Instr.slice 25 (.slice A' d.length c') (some (.int .i64 (8 + (m : Int) + (m : Int) % 2))) none none).run Tryd.prog W = .ok (.slice A6 (d.length - (8 + m + m % 2)) (c' - (8 + m + m % 2))) W := hcut6
            have HS6 := Lib.hid (hsl6 (kInt .u8) ok w0 d hz1.symm rfl HS.out)
            clear e6 hsl6 k0 f0
            simp only [Bool.not_true]
            gi_wp2
            have hdl' := hdl.out
            have HD' := HD.out
            have hlen6 : (b.drop (p + (8 + m + m % 2))).length = d.length - (8 + m + m % 2) := by rw [List.length_drop]; omega
            have hd6 : b.drop (p + (8 + m + m % 2)) = d.drop (8 + m + m % 2) := by rw [← HD', List.drop_drop]
            have hst := hB3.set 0 (.slice A6 (d.length - (8 + m + m % 2)) (c' - (8 + m + m % 2)))
            refine ⟨⟨p + (8 + m + m % 2), pre ++ [x0], A6, c' - (8 + m + m % 2), by omega, by rw [List.length_append, List.length_singleton]; omega, by rw [hlen6]; exact hst, by rw [hd6]; exact HS6.out, ?_, ?_, ?_⟩, ?_⟩
            · exact ((hkp.trans (⟨Nat.le_refl _, fun _ _ _ => rfl⟩ : Keep (fun i => i < w0.heap.size ∧ ok i) wr wr.drew)).trans (HK3.out.weak fun i hi => ⟨hi.1, .inl hi.2⟩)).trans ((Keep.of_grown1 (grown_setCell W3 bn 0 _)).weak fun i hi => hne i hi.1 hi.2)
            · exact hJ _ _ _ (some bn) HJ3.out (grown_setCell W3 bn 0 _) (fun r e => .inl (Option.some.inj e).symm)
            · obtain ⟨f, hf, he⟩ := hE.out
              cases f with
              | zero => omega
              | succ f =>
                refine Lib.hid ⟨f, by omega, ?_⟩
                rw [he, chunksF, if_neg (fun e => hz (by rw [e]; rfl)), if_neg (by rw [HM.out]; omega), HM.out, hd6, List.map_append, List.append_assoc]
                congr 1
                simp [HX0.out]
            · have h1 : lenAt bn (W3.setCell ⟨bn, 0, none⟩ (.slice A6 (d.length - (8 + m + m % 2)) (c' - (8 + m + m % 2)))) = d.length - (8 + m + m % 2) := by
                unfold lenAt; rw [hst.cell 0 rfl]; rfl
              have h2 : lenAt bn wr = d.length := by unfold lenAt; rw [hk.cell 0 rfl]; rfl
              rw [h1, h2]
              omega
          · have HJ3 := Lib.hid hJx3
            clear hJx3
            have HF : Hid (pre.map (·.1.2) ++ [x0.1.2] <+: chunksF (b.length + 1) b) := by
              obtain ⟨f, hf, he⟩ := hE.out
              cases f with
              | zero => omega
              | succ f =>
                refine Lib.hid ?_
                rw [he, chunksF, if_neg (fun e => hz (by rw [e]; rfl)), if_neg (by rw [HM.out]; omega), HM.out, HX0.out]
                exact ⟨chunksF f (d.drop (8 + m + m % 2)), by simp⟩
            gi_wp2
            refine bodyPost_ret (results_none rfl _ _ _) rfl ?_
            exact ⟨⟨_, rfl⟩, .inr ⟨_, by simpa using HF.out, HJ3.out⟩⟩
end Go.Proofs.YtijcecakofmhcaaDoor
