/- pcm: Wave: what the call returns, for any sound. -/
import Derived.Test.YtijcecakofmhcaaDoorPcmV
import Derived.Lib.AppendStr
namespace Go.Proofs.YtijcecakofmhcaaDoor
open Go.RowKit

/-- append(v, "text"...). -/
theorem append_str {P : Program} {ops : Array Oper} {rest : List Oper} {o : Oper} {a : Act} {Q : Exit → Act → World → Prop} {w0 W : World} (base : Nat) (hgd : o.guard = none) (s x : Operand) (t u e : TypeId)
    (ho : o.op = .call { callee := .builtin .append, args := #[s, x], argTypes := #[t, u] })
    (ht : P.underlying t = some (.slice e)) (hu : P.underlying u = some .string) (hinfo : (P.info? e).map (fun i => (i.zero, i.size, i.bytes)) = some (some (.int .u8 0), 1, 1))
    (v : Value) (xs ys : List Int) (str : ByteArray) (hs : a.eval s = v) (hx : a.eval x = .string str) (hstr : Lib.strCells str = nums .u8 ys)
    (HO : OwnI e .u8 base W v xs) (HB : Below base w0 W) (hbase : base ≤ W.heap.size) (hl : xs.length + ys.length ≤ 140737488355328)
    (h : ∀ v1 w1, OwnI e .u8 base w1 v1 (xs ++ ys) → Below base w0 w1 → wpList P ops Q rest (a.put o.dst v1) w1) :
    wpList P ops Q (o :: rest) a W := by
  obtain ⟨i0, hi, hzz⟩ := Option.map_eq_some_iff.1 hinfo
  simp only [Prod.mk.injEq] at hzz
  obtain ⟨hz0, hz1, hz2⟩ := hzz
  have hsl : str.size = ys.length := by
    rw [← Lib.strCells_length, hstr]; simp [nums]
  refine Lib.wpList_append_own_string W hgd s x t u ho base e i0 ht hu hi hz0 hz1 hz2 v xs.length (nums .u8 xs) hs HO str hx (by simp only [maxLen]; omega) (by omega) hbase fun v1 w1 hr hg _ => ?_
  refine h v1 w1 ?_ (HB.grown hg hbase HO.base_le)
  unfold OwnI
  rw [List.length_append, nums_append, ← hstr, ← hsl]
  exact hr

theorem Grew.ne {e : TypeId} {ik : IntKind} {base : Nat} {w w1 : World} {v u : Value} {ys : List Int} (G : Grew e ik base w v w1 u ys) {n0 : Nat} (hv : ∀ b, v.ownBlock = some b → b < n0) (b : Nat) (h1 : n0 ≤ b) (h2 : b < w.heap.size) : u.ownBlock ≠ some b := by
  intro h
  rcases G.at_ with e | ⟨b', e, hb⟩
  · have := hv b (e ▸ h); omega
  · rw [e] at h; have := Option.some.inj h; omega

def waveL (r : Int) (s : List (List Int)) : List Int :=
  [82, 73, 70, 70] ++ leL 4 [36 + 2 * s.length * len0 s] ++ [87, 65, 86, 69] ++ fmtL s.length r ++ [100, 97, 116, 97] ++ leL 4 [2 * s.length * len0 s] ++ leL 2 (weave s)
def waveS (r : Int) (s : List (List Int)) : List Int × Int := if validB r s then (waveL r s, 0) else ([], 1)
theorem rate_range {r : Int} (h : isRateB r = true) : 8000 ≤ r ∧ r ≤ 48000 := by
  simp only [isRateB, hasB, ratesL, List.contains_eq_mem, List.mem_cons, List.not_mem_nil, or_false, decide_eq_true_eq] at h
  omega

set_option maxHeartbeats 2000000 in
set_option maxRecDepth 100000 in
theorem wave_any (r : Int) (A : Option Addr) (c : Nat) (s : List (List Int)) (w : World) (hG : GR w) (hS : R2 w A c s) :
    Calls Tryd.prog 14 #[.agg #[.int .i64 r, .slice A s.length c]] w fun e w' => (∃ v, e = .returned (.tuple #[v, .int .i64 (waveS r s).2]) ∧ OwnI 5 .u8 w.heap.size w' v (waveS r s).1) ∧ Below w.heap.size w w' := by
  have hn := hS.len
  cases hv : validB r s
  · have HP := Lib.hid (show waveS r s = ([], 1) by simp [waveS, hv])
    have H1 := Lib.hid (checkE_no hv)
    clear hv
    go_enter Tryd.func14, Tryd.ntmps14
    go_wp2_with (first | ((with_reducible refine at_dst (N := 1) rfl ?_); refine ev_new #[.int .i64 r, .slice A s.length c] 24 rfl ?hr ?_; (case hr => first | (go_simp; done) | (go_simp; rfl)); intro g1 w1 eg1 zg1 b1 Bg1; have k0 := Bg1.cell 0 rfl; have k1 := Bg1.cell 1 rfl) | (go_at_call 48; refine (check_any _ _ _ _ _ (hG.below b1) (hS.below b1)).mono ?_; rintro e w4 ⟨rfl, b4⟩; rw [H1.out]))
    go_ret2
    rw [HP.out]
    exact ⟨⟨_, rfl, OwnI.nil _ _ _ _⟩, below2 b1 b4⟩
  · have V := valid_facts hv
    have HP := Lib.hid (show waveS r s = (waveL r s, 0) by simp [waveS, hv])
    have H1 := Lib.hid (checkE_ok hv)
    have h1 := V.one
    have h2 := V.two
    have h3 := V.len
    have hr := rate_range V.rate
    have hm : (s.length : Int) * (len0 s : Int) ≤ 16384 ∧ 0 ≤ (s.length : Int) * (len0 s : Int) := by
      have := Nat.mul_le_mul h2 h3
      rw [← Int.natCast_mul]
      omega
    obtain ⟨d, hd⟩ : ∃ d : Int, 2 * (s.length : Int) * (len0 s : Int) = d := ⟨_, rfl⟩
    have hdd : 0 ≤ d ∧ d ≤ 32768 := by rw [← hd, Int.mul_assoc]; omega
    have hwd : wrap64 (2 * (s.length : Int) * (len0 s : Int)) = d := by rw [hd, IntWalk.wrap64_in _ (by omega)]
    have HD := Lib.hid hd
    clear hv hm hd
    have kc := fun (w : World) (C : Array Value) (n c : Nat) => Lib.run_convert_bytes_const (P := Tryd.prog) w 25 5 C n c Tryd.underlying25 Tryd.underlying5
    go_enter Tryd.func14, Tryd.ntmps14
    go_wp2_with (first | ((with_reducible refine at_dst (N := 1) rfl ?_); refine ev_new #[.int .i64 r, .slice A s.length c] 24 rfl ?hr ?_; (case hr => first | (go_simp; done) | (go_simp; rfl)); intro g1 w1 eg1 zg1 b1 Bg1; have k0 := Bg1.cell 0 rfl; have k1 := Bg1.cell 1 rfl) | (go_at_call 48; refine (check_any _ _ _ _ _ (hG.below b1) (hS.below b1)).mono ?_; rintro e w4 ⟨rfl, b4⟩; rw [H1.out]; replace b1 := below2 b1 b4; replace Bg1 := Bg1.below b4; clear k0 k1; have k0 : w4.cell? ⟨g1, 0, none⟩ = some (.int .i64 r) := Bg1.cell 0 rfl; have k1 : w4.cell? ⟨g1, 1, none⟩ = some (.slice A s.length c) := Bg1.cell 1 rfl) | (go_at_call 52; refine (size_any r A c s _ (hS.below b1) h1).mono ?_; rintro e w5 ⟨rfl, b5⟩; replace b1 := below2 b1 b5; replace Bg1 := Bg1.below b5; have k0 : w5.cell? ⟨g1, 0, none⟩ = some (.int .i64 r) := Bg1.cell 0 rfl; have k1 : w5.cell? ⟨g1, 1, none⟩ = some (.slice A s.length c) := Bg1.cell 1 rfl; have tl := trivial; have ts := trivial) | (go_at_call 53; have _t := tl; refine (little_lit (w5.alloc (.cells (nums .u8 [82, 73, 70, 70]).toArray 5 (4, 5))) w5 _ (World.size_alloc _ _).symm [82, 73, 70, 70] 4 [36 + d] (4, 5) rfl (by decide) (by simp) (by decide) (by simp)).mono ?_; clear tl; rintro e w6 ⟨u6, rfl, hO6, hB6⟩) | (at_builtin; have _t := ts; refine append_str (w0 := w5) w5.heap.size rfl (.tmp 26) (.const (.string ⟨#[87, 65, 86, 69]⟩)) 25 9 5 rfl Tryd.underlying25 Tryd.underlying9 infoY _ _ [87, 65, 86, 69] _ rfl rfl rfl hO6 hB6 hB6.size (by simp [leL_length]) ?_; clear ts; intro u7 w7 hO7 hB7; clear k0 k1; have k0 : w7.cell? ⟨g1, 0, none⟩ = some (.int .i64 r) := (Bg1.below hB7).cell 0 rfl) | (go_at_call 54; refine (fmtChunk_any s.length r _ (by omega) (by omega) (by omega) hr.2).mono ?_; rintro e w8 ⟨v8, rfl, hO8, b8⟩; replace hO7 := hO7.below b8; replace hB7 := below2 hB7 b8; obtain ⟨A8, c8, rfl, hs8⟩ := hO8.rd; have ta := trivial) | (at_builtin; have _t := ta; refine append_row (w0 := w5) w5.heap.size rfl (.tmp 28) (.tmp 32) 25 5 .u8 1 rfl Tryd.underlying25 infoY (by decide) u7 _ (fmtL s.length r) A8 c8 rfl rfl hO7 hs8 hB7 hB7.size (by simp [leL_length, fmtL]) ?_; clear ta; intro u9 w9 hO9 hB9 _ _) | (at_builtin; go_loud (refine append_str (w0 := w5) w5.heap.size rfl (.tmp 33) (.const (.string ⟨#[100, 97, 116, 97]⟩)) 25 9 5 rfl Tryd.underlying25 Tryd.underlying9 infoY u9 _ [100, 97, 116, 97] _ rfl rfl rfl hO9 hB9 hB9.size (by simp [leL_length, fmtL]) ?_); intro u10 w10 hO10 hB10))
    have k0 := (Bg1.below hB10).cell 0 rfl
    have k1 := (Bg1.below hB10).cell 1 rfl
    have lO : ∀ b, u10.ownBlock = some b → b < w10.heap.size := fun b h => (hO10.lt b h).2
    have hsame := V.same
    have hwl : (weave s).length ≤ 16384 := by
      rw [weave, weaveN_length]
      exact Nat.mul_le_mul h3 h2
    have L0 := lit_sl w10 3 .i64 [d] (by simp)
    have C0 := below_alloc (Below.refl w10.heap.size w10) (.cells (nums .i64 [d]).toArray 3)
    have D0 := (hB10.alloc hB10.size (.cells (nums .i64 [d]).toArray 3)).drew
    go_region_held3 (fun W => W.cell? ⟨g1, 0, none⟩ = some (.int .i64 r) ∧ W.cell? ⟨g1, 1, none⟩ = some (.slice A s.length c)) (go_keep) (first | (go_at_call 53; (with_reducible change Calls _ _ _ (World.drew (World.alloc w10 _)) _); refine (little_any w5.heap.size u10 _ 4 _ _ [d] (w10.alloc (.cells (nums .i64 [d]).toArray 3)).drew _ ((hO10.below C0).below (Below.refl _ _).drew) (L0.below (Below.refl _ _).drew) (fun b _ hb h => by have := lO b h; omega) (Nat.le_trans hB10.size C0.size) (by decide) (by simp [leL_length, fmtL])).mono ?_; rintro e w11 ⟨u12, rfl, G⟩; have BY := D0.trans G.below; have q0 := (Bg1.below BY).cell 0 rfl; have q1 := (Bg1.below BY).cell 1 rfl) | (go_at_call 55; (with_reducible change Calls _ _ _ w11 _); refine (woven_any r A c s w11 (hS.below (below2 b1 BY)) h1 h2 h3 hsame).mono ?_; rintro e w12 ⟨v12, rfl, hO12, b12⟩; have U := G.own.below b12; have BZ := below2 BY b12; have q0 := (Bg1.below BZ).cell 0 rfl; have q1 := (Bg1.below BZ).cell 1 rfl; obtain ⟨Av, cv, rfl, Lv⟩ := hO12.rd; have Lw := Lv.weak (ok' := fun b => w11.heap.size ≤ b) (fun b _ hb => hb.1); have hne : ∀ b, b < w12.heap.size → w11.heap.size ≤ b → u12.ownBlock ≠ some b := (fun b _ hb h => by have := (G.own.lt b h).2; omega)) | (go_at_call 55; (with_reducible change Calls _ _ _ (World.drew w10) _); refine (woven_any r A c s w10.drew (hS.below (below2 b1 hB10.drew)) h1 h2 h3 hsame).mono ?_; rintro e w11 ⟨v11, rfl, hO11, b11⟩; have BY := below2 hB10.drew b11; have U := (hO10.below (Below.refl _ _).drew).below b11; have q0 := (Bg1.below BY).cell 0 rfl; have q1 := (Bg1.below BY).cell 1 rfl; obtain ⟨Av, cv, rfl, Lv0⟩ := hO11.rd; have Lv := Lv0.weak (ok' := fun b => w10.heap.size ≤ b) (fun b _ hb => hb.1)) | (go_at_call 55; (with_reducible change Calls _ _ _ (World.drew (World.alloc w10 _)) _); refine (woven_any r A c s (w10.alloc (.cells (nums .i64 [d]).toArray 3)).drew (hS.below (below2 b1 D0)) h1 h2 h3 hsame).mono ?_; rintro e w11 ⟨v11, rfl, hO11, b11⟩; have BY := below2 D0 b11; have U := ((hO10.below C0).below (Below.refl _ _).drew).below b11; have Ll := (L0.below (Below.refl _ _).drew).below b11; have q0 := (Bg1.below BY).cell 0 rfl; have q1 := (Bg1.below BY).cell 1 rfl; obtain ⟨Av, cv, rfl, Lv0⟩ := hO11.rd; have Lv := Lv0.weak (ok' := fun b => w10.heap.size ≤ b) (fun b _ hb => Nat.le_trans C0.size hb.1)) | (go_at_call 53; (with_reducible change Calls _ _ _ w11 _); refine (little_any w5.heap.size u10 _ 4 _ _ [d] w11 _ U Ll (fun b _ hb h => by have := lO b h; omega) BY.size (by decide) (by simp [leL_length, fmtL])).mono ?_; rintro e w12 ⟨u12, rfl, G⟩; have BZ := BY.trans G.below; have q0 := (Bg1.below BZ).cell 0 rfl; have q1 := (Bg1.below BZ).cell 1 rfl; have Lw := G.sl Lv (fun b _ hb h => by have := lO b h; omega); have U' := G.own; have hne := (fun b (_ : b < w12.heap.size) (hb : w10.heap.size ≤ b ∧ b < w11.heap.size) => G.ne lO b hb.1 hb.2)) | (go_at_call 53; (with_reducible change Calls _ _ _ (World.alloc w11 _) _); refine (little_new w5.heap.size u10 _ 4 [d] w11 U BY.size (by decide) (by simp [leL_length, fmtL])).mono ?_; rintro e w12 ⟨u12, rfl, G⟩; have BZ := BY.trans G.below; have q0 := (Bg1.below BZ).cell 0 rfl; have q1 := (Bg1.below BZ).cell 1 rfl; have Lw := G.sl Lv (fun b _ hb h => by have := lO b h; omega); have U' := G.own; have hne := (fun b (_ : b < w12.heap.size) (hb : w10.heap.size ≤ b ∧ b < w11.heap.size) => G.ne lO b hb.1 hb.2)) | (go_at_call 53; (with_reducible change Calls _ _ _ w12 _); refine (little_any w5.heap.size u12 ?xs 2 _ _ (weave s) w12 _ ?hv Lw hne BZ.size (by decide) ?hl).mono ?_; (case hv => first | exact U' | exact U); (case hl => simp [leL_length, fmtL]; omega); rintro e wf ⟨uf, rfl, GF⟩; have BF := BZ.trans GF.below; have q0 := (Bg1.below BF).cell 0 rfl; have q1 := (Bg1.below BF).cell 1 rfl))
    all_goals
      go_wp2_with fail
      go_ret2
      rw [HP.out]
      refine ⟨⟨uf, rfl, ?_⟩, below2 b1 BF⟩
      have hO := GF.own.mono b1.size
      rw [← HD.out] at hO
      exact hO
end Go.Proofs.YtijcecakofmhcaaDoor
