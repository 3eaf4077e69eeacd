/- The laws of pcm: awake: the chapter's examples hold. -/
import Derived.Test.YtijcecakofmhcaaDoorPcmLawA
import Derived.Test.YtijcecakofmhcaaDoorPcmS
namespace Go.Proofs.YtijcecakofmhcaaDoor
open Go.RowKit

theorem lit_snd (W : World) (xs : List Int) (hm : xs.length ≤ 9223372036854775807) :
    R2 ((W.alloc (.cells (nums .i64 xs).toArray 3)).alloc (.cells #[.slice (some ⟨W.heap.size, 0, none⟩) xs.length xs.length] 36)) (some ⟨W.heap.size + 1, 0, none⟩) 1 [xs] := by
  have := lit_sl1 (W.alloc (.cells (nums .i64 xs).toArray 3)) 36 (lit_sl W 3 .i64 xs hm)
  rwa [World.size_alloc] at this

theorem lit_snd2 (W : World) (xs ys : List Int) (hm : xs.length ≤ 9223372036854775807) (hn : ys.length ≤ 9223372036854775807) :
    R2 (((W.alloc (.cells (nums .i64 xs).toArray 3)).alloc (.cells (nums .i64 ys).toArray 3)).alloc (.cells #[.slice (some ⟨W.heap.size, 0, none⟩) xs.length xs.length, .slice (some ⟨W.heap.size + 1, 0, none⟩) ys.length ys.length] 36)) (some ⟨W.heap.size + 1 + 1, 0, none⟩) 2 [xs, ys] := by
  have h2 := lit_sl (W.alloc (.cells (nums .i64 xs).toArray 3)) 3 .i64 ys hn
  rw [World.size_alloc] at h2
  have := lit_sl2 ((W.alloc (.cells (nums .i64 xs).toArray 3)).alloc (.cells (nums .i64 ys).toArray 3)) 36 ((lit_sl W 3 .i64 xs hm).below (below_alloc (Below.refl _ _) _)) h2
  rwa [World.size_alloc, World.size_alloc] at this

theorem same1_b (A : Option Addr) (c : Nat) (xs : List Int) (B : Option Addr) (d : Nat) (ys : List Int) (w : World) (h : Sl (kInt .u8) AnyB w A c xs) (h2 : Sl (kInt .u8) AnyB w B d ys) :
    Calls Tryd.prog 18 #[.slice A xs.length c, .slice B ys.length d] w fun e w' => e = .returned (.bool (decide (xs = ys))) ∧ Below w.heap.size w w' :=
  (same1_any A c xs B d ys w h h2).mono fun _ _ h => ⟨h.1, let ⟨m, hm⟩ := h.2; hm ▸ below_drewN (Below.refl _ _) m⟩

set_option maxHeartbeats 2000000 in
set_option maxRecDepth 100000 in
theorem awake_any (w : World) (hG : GR w) :
    Calls Tryd.prog 13 #[] w fun e w' => e = .returned (.bool true) ∧ Below w.heap.size w w' := by
  go_enter Tryd.func13, Tryd.ntmps13
  go_wp2_with fail
  have L1 := lit_snd w [1, -2] (by decide)
  have B1 := below_alloc (below_alloc (Below.refl w.heap.size w) (.cells (nums .i64 [1, -2]).toArray 3)) (.cells #[.slice (some ⟨w.heap.size, 0, none⟩) 2 2] 36)
  refine (sound_any _ _ _ _ _).mono ?_
  rintro e w1 ⟨rfl, b1⟩
  replace L1 := L1.below b1
  replace B1 := below2 B1 b1
  clear b1
  go_wp2_with fail
  refine (wave_any 8000 _ _ [[1, -2]] w1 (hG.below B1) L1).mono ?_
  rw [ex_wave]
  rintro e w2 ⟨⟨v, rfl, hO⟩, b2⟩
  obtain ⟨Ab, cb, rfl, hb⟩ := hO.rd
  replace B1 := below2 B1 b2
  have hle := hb.le
  have hcap := hb.cap
  have hl : exFile.length = 48 := rfl
  rw [hl] at hle ⊢
  clear b2 hO L1
  go_wp2_with fail
  refine (read_any Ab cb exFile w2 (hG.below B1) hb.any ex_bytes (by decide)).mono ?_
  rw [ex_read]
  rintro e w3 ⟨⟨A3, c3, rfl, S3⟩, b3⟩
  replace B1 := below2 B1 b3
  replace hb := hb.below b3
  clear b3
  go_wp2_with fail
  have P3 : Blk (w3.alloc (.cells #[.int .i64 8000, .slice A3 1 c3] 24)) w3.heap.size #[.int .i64 8000, .slice A3 1 c3] 24 := heap_alloc_new w3 _
  have S3' := S3.below (below_alloc (Below.refl w3.heap.size w3) (.cells #[.int .i64 8000, .slice A3 1 c3] 24))
  have hb' := hb.below (below_alloc (Below.refl w3.heap.size w3) (.cells #[.int .i64 8000, .slice A3 1 c3] 24))
  have L1 := lit_snd (w3.alloc (.cells #[.int .i64 8000, .slice A3 1 c3] 24)) [100] (by decide)
  have C1 := below_alloc (below_alloc (Below.refl (w3.alloc (.cells #[.int .i64 8000, .slice A3 1 c3] 24)).heap.size (w3.alloc (.cells #[.int .i64 8000, .slice A3 1 c3] 24))) (.cells (nums .i64 [100]).toArray 3)) (.cells #[.slice (some ⟨(w3.alloc (.cells #[.int .i64 8000, .slice A3 1 c3] 24)).heap.size, 0, none⟩) 1 1] 36)
  replace B1 := below2 (below_alloc B1 (.cells #[.int .i64 8000, .slice A3 1 c3] 24)) C1
  replace P3 := P3.below C1
  replace S3' := S3'.below C1
  replace hb' := hb'.below C1
  simp only [World.size_alloc] at L1 B1 P3 S3' hb'
  clear C1 S3 hb
  refine (sound_any _ _ _ _ _).mono ?_
  rintro e w4 ⟨rfl, b4⟩
  replace B1 := below2 B1 b4
  replace P3 := P3.below b4
  replace S3' := S3'.below b4
  replace hb' := hb'.below b4
  replace L1 := L1.below b4
  clear b4
  go_wp2_with fail
  have L2 := lit_snd w4 [50] (by decide)
  have C1 := below_alloc (below_alloc (Below.refl w4.heap.size w4) (.cells (nums .i64 [50]).toArray 3)) (.cells #[.slice (some ⟨w4.heap.size, 0, none⟩) 1 1] 36)
  refine (sound_any _ _ _ _ _).mono ?_
  rintro e w5 ⟨rfl, b5⟩
  replace C1 := below2 C1 b5
  replace L2 := L2.below b5
  replace B1 := below2 B1 C1
  replace P3 := P3.below C1
  replace S3' := S3'.below C1
  replace hb' := hb'.below C1
  replace L1 := L1.below C1
  clear b5 C1
  go_wp2_with fail
  refine (mix_any 8000 _ _ [[100]] 8000 _ _ [[50]] 128 256 w5 (hG.below B1) L1 L2).mono ?_
  rw [ex_mix]
  rintro e w6 ⟨⟨A6, c6, rfl, S6⟩, b6⟩
  replace B1 := below2 B1 b6
  replace P3 := P3.below b6
  replace S3' := S3'.below b6
  replace hb' := hb'.below b6
  clear b6 L1 L2
  go_wp2_with fail
  have P6 : Blk (w6.alloc (.cells #[.int .i64 8000, .slice A6 1 c6] 24)) w6.heap.size #[.int .i64 8000, .slice A6 1 c6] 24 := heap_alloc_new w6 _
  have C0 := below_alloc (Below.refl w6.heap.size w6) (.cells #[.int .i64 8000, .slice A6 1 c6] 24)
  have L1 := lit_snd2 (w6.alloc (.cells #[.int .i64 8000, .slice A6 1 c6] 24)) [3] [-4] (by decide) (by decide)
  have C1 := below_alloc (below_alloc (below_alloc (Below.refl (w6.alloc (.cells #[.int .i64 8000, .slice A6 1 c6] 24)).heap.size (w6.alloc (.cells #[.int .i64 8000, .slice A6 1 c6] 24))) (.cells (nums .i64 [3]).toArray 3)) (.cells (nums .i64 [-4]).toArray 3)) (.cells #[.slice (some ⟨(w6.alloc (.cells #[.int .i64 8000, .slice A6 1 c6] 24)).heap.size, 0, none⟩) 1 1, .slice (some ⟨(w6.alloc (.cells #[.int .i64 8000, .slice A6 1 c6] 24)).heap.size + 1, 0, none⟩) 1 1] 36)
  have C2 := below2 C0 C1
  replace P6 := P6.below C1
  have S6' := S6.below C2
  replace B1 := below2 B1 C2
  replace P3 := P3.below C2
  replace S3' := S3'.below C2
  replace hb' := hb'.below C2
  simp only [World.size_alloc] at L1 B1 P3 S3' hb' P6 S6'
  clear C0 C1 C2 S6
  refine (sound_any _ _ _ _ _).mono ?_
  rintro e w7 ⟨rfl, b7⟩
  replace B1 := below2 B1 b7
  replace P3 := P3.below b7
  replace S3' := S3'.below b7
  replace hb' := hb'.below b7
  replace P6 := P6.below b7
  replace S6' := S6'.below b7
  replace L1 := L1.below b7
  clear b7
  go_wp2_with fail
  refine (mono_any 8000 _ _ [[3], [-4]] w7 (hG.below B1) L1).mono ?_
  rw [ex_mono]
  rintro e w8 ⟨⟨A8, c8, rfl, S8⟩, b8⟩
  replace B1 := below2 B1 b8
  replace P3 := P3.below b8
  replace S3' := S3'.below b8
  replace hb' := hb'.below b8
  replace P6 := P6.below b8
  replace S6' := S6'.below b8
  clear b8 L1
  have hmk : ∀ W : World, (Instr.makeSlice 36 (.int .i64 300) (.int .i64 300)).run Tryd.prog W = .ok (.slice (some ⟨W.heap.size, 0, none⟩) 300 300) (W.alloc (.cells (madeCells #[.int .i64 0] 300) 3)) := make_row (P := Tryd.prog) 36 3 .i64 8 Tryd.underlying36 infoI (by decide) 300 (by decide)
  go_wp2_with fail
  have P8 : Blk (w8.alloc (.cells #[.int .i64 8000, .slice A8 1 c8] 24)) w8.heap.size #[.int .i64 8000, .slice A8 1 c8] 24 := heap_alloc_new w8 _
  have C0 := below_alloc (Below.refl w8.heap.size w8) (.cells #[.int .i64 8000, .slice A8 1 c8] 24)
  have O9 := own_sl (own_made (w8.alloc (.cells #[.int .i64 8000, .slice A8 1 c8] 24)) 3 .i64 300 (by decide))
  have L1 := lit_sl1 ((w8.alloc (.cells #[.int .i64 8000, .slice A8 1 c8] 24)).alloc (.cells (madeCells #[.int .i64 0] 300) 3)) 36 O9
  have C1 := below_alloc (below_alloc (Below.refl (w8.alloc (.cells #[.int .i64 8000, .slice A8 1 c8] 24)).heap.size (w8.alloc (.cells #[.int .i64 8000, .slice A8 1 c8] 24))) (.cells (madeCells #[.int .i64 0] 300) 3)) (.cells #[.slice (some ⟨(w8.alloc (.cells #[.int .i64 8000, .slice A8 1 c8] 24)).heap.size, 0, none⟩) 300 300] 36)
  rw [List.length_replicate] at L1
  have C2 := below2 C0 C1
  replace P8 := P8.below C1
  have S8' := S8.below C2
  replace B1 := below2 B1 C2
  replace P3 := P3.below C2
  replace S3' := S3'.below C2
  replace hb' := hb'.below C2
  replace P6 := P6.below C2
  replace S6' := S6'.below C2
  simp only [World.size_alloc] at L1 B1 P3 S3' hb' P6 S6' P8 S8'
  clear C0 C1 C2 S8 O9 hmk
  refine (sound_any _ _ _ _ _).mono ?_
  rintro e w9 ⟨rfl, b9⟩
  replace B1 := below2 B1 b9
  replace P3 := P3.below b9
  replace S3' := S3'.below b9
  replace hb' := hb'.below b9
  replace P6 := P6.below b9
  replace S6' := S6'.below b9
  replace P8 := P8.below b9
  replace S8' := S8'.below b9
  replace L1 := L1.below b9
  clear b9
  go_wp2_with fail
  refine (frames_any 44100 _ _ [List.replicate 300 0] w9 (hG.below B1) L1).mono ?_
  rw [ex_frames]
  rintro e w10 ⟨rfl, b10⟩
  replace B1 := below2 B1 b10
  replace P3 := P3.below b10
  replace S3' := S3'.below b10
  replace hb' := hb'.below b10
  replace P6 := P6.below b10
  replace S6' := S6'.below b10
  replace P8 := P8.below b10
  replace S8' := S8'.below b10
  clear b10 L1
  go_wp2_with fail
  have p30 := P3.cell 0 rfl
  generalize w3.heap.size = g3 at P3 ⊢
  generalize w6.heap.size = g6 at P6 ⊢
  generalize w8.heap.size = g8 at P8 ⊢
  clear p30
  obtain ⟨i0, hi0, hz0, hz1, hz2⟩ := info_parts infoY
  obtain ⟨A44, hcut44, hsl44⟩ := cut_from (P := Tryd.prog) 25 5 Tryd.underlying25 hi0 Ab 48 cb 44 (by decide)
  replace hcut44 : ∀ W : World, (Instr.slice 25 (.slice Ab 48 cb) (some (.int .i64 44)) none none).run Tryd.prog W = .ok (.slice A44 4 (cb - 44)) W := hcut44
  have s44 := hsl44 (kInt .u8) _ w10 exFile hz1.symm hl hb'
  have hS1 : ∀ W : World, W = (w10.drew.alloc (.cells (nums .u8 [1, 0, 254, 255]).toArray 5)) → Calls Tryd.prog 18 #[.slice A44 4 (cb - 44), .slice (some ⟨w10.heap.size, 0, none⟩) 4 4] W fun e w' => e = .returned (.bool true) ∧ Below W.heap.size W w' := by
    rintro W rfl
    have hd := same1_b A44 (cb - 44) (exFile.drop 44) (some ⟨w10.heap.size, 0, none⟩) 4 [1, 0, 254, 255] (w10.drew.alloc (.cells (nums .u8 [1, 0, 254, 255]).toArray 5)) (s44.below (below_alloc (Below.refl w10.heap.size w10).drew _)).any (lit_sl w10.drew 5 .u8 [1, 0, 254, 255] (by decide)).any
    rwa [show decide (exFile.drop 44 = [1, 0, 254, 255]) = true by decide] at hd
  have a0 := P3.cell 0 rfl
  have a1 := P3.cell 1 rfl
  have a2 := P6.cell 0 rfl
  have a3 := P6.cell 1 rfl
  have a4 := P8.cell 0 rfl
  have a5 := P8.cell 1 rfl
  have t0 := trivial
  clear hle hsl44 s44 hb'
  go_region_held3 (fun W => W.cell? ⟨g3, 0, none⟩ = some (.int .i64 8000) ∧ W.cell? ⟨g3, 1, none⟩ = some (.slice A3 1 c3) ∧ W.cell? ⟨g6, 0, none⟩ = some (.int .i64 8000) ∧ W.cell? ⟨g6, 1, none⟩ = some (.slice A6 1 c6) ∧ W.cell? ⟨g8, 0, none⟩ = some (.int .i64 8000) ∧ W.cell? ⟨g8, 1, none⟩ = some (.slice A8 1 c8)) (go_keep) (first | (go_at_call 18; have _t := t0; clear t0; refine (hS1 _ rfl).mono ?_; rintro e w11 ⟨rfl, b11⟩; have D : Below w10.heap.size w10 w11 := below2 (below_alloc (Below.refl w10.heap.size w10).drew (.cells (nums .u8 [1, 0, 254, 255]).toArray 5)) b11; clear b11 hS1; have a0 := (P3.below D).cell 0 rfl; have a1 := (P3.below D).cell 1 rfl; have a2 := (P6.below D).cell 0 rfl; have a3 := (P6.below D).cell 1 rfl; have a4 := (P8.below D).cell 0 rfl; have a5 := (P8.below D).cell 1 rfl; have t1 := trivial) | (go_at_call 51; have _t := t1; clear t1; refine (sound_any _ _ _ _ _).mono ?_; rintro e w12 ⟨rfl, b⟩; have L := (lit_snd w11 [1, -2] (by decide)).below b; replace D : Below w10.heap.size w10 w12 := below2 (below_alloc (below_alloc D (.cells (nums .i64 [1, -2]).toArray 3)) (.cells #[.slice (some ⟨w11.heap.size, 0, none⟩) 2 2] 36)) b; clear b a0 a1 a2 a3 a4 a5; have a0 := (P3.below D).cell 0 rfl; have a1 := (P3.below D).cell 1 rfl; have a2 := (P6.below D).cell 0 rfl; have a3 := (P6.below D).cell 1 rfl; have a4 := (P8.below D).cell 0 rfl; have a5 := (P8.below D).cell 1 rfl; have t2 := trivial) | (go_at_call 19; have _t := t2; clear t2; refine (refSame_any 8000 A3 c3 [[1, -2]] 8000 _ _ [[1, -2]] w12 (S3'.below D).any L).mono ?_; rw [show sameB 8000 [[1, -2]] 8000 [[1, -2]] = true by decide]; rintro e w13 ⟨rfl, b⟩; replace D := below2 D b; clear b L a0 a1 a2 a3 a4 a5; have a0 := (P3.below D).cell 0 rfl; have a1 := (P3.below D).cell 1 rfl; have a2 := (P6.below D).cell 0 rfl; have a3 := (P6.below D).cell 1 rfl; have a4 := (P8.below D).cell 0 rfl; have a5 := (P8.below D).cell 1 rfl; have t3 := trivial) | (go_at_call 51; have _t := t3; clear t3; refine (sound_any _ _ _ _ _).mono ?_; rintro e w14 ⟨rfl, b⟩; have L := (lit_snd w13 [100] (by decide)).below b; replace D : Below w10.heap.size w10 w14 := below2 (below_alloc (below_alloc D (.cells (nums .i64 [100]).toArray 3)) (.cells #[.slice (some ⟨w13.heap.size, 0, none⟩) 1 1] 36)) b; clear b a0 a1 a2 a3 a4 a5; have a0 := (P3.below D).cell 0 rfl; have a1 := (P3.below D).cell 1 rfl; have a2 := (P6.below D).cell 0 rfl; have a3 := (P6.below D).cell 1 rfl; have a4 := (P8.below D).cell 0 rfl; have a5 := (P8.below D).cell 1 rfl; have t4 := trivial) | (go_at_call 19; have _t := t4; clear t4; refine (refSame_any 8000 A6 c6 [[100]] 8000 _ _ [[100]] w14 (S6'.below D).any L).mono ?_; rw [show sameB 8000 [[100]] 8000 [[100]] = true by decide]; rintro e w15 ⟨rfl, b⟩; replace D := below2 D b; clear b L a0 a1 a2 a3 a4 a5; have a0 := (P3.below D).cell 0 rfl; have a1 := (P3.below D).cell 1 rfl; have a2 := (P6.below D).cell 0 rfl; have a3 := (P6.below D).cell 1 rfl; have a4 := (P8.below D).cell 0 rfl; have a5 := (P8.below D).cell 1 rfl; have t5 := trivial) | (go_at_call 51; have _t := t5; clear t5; refine (sound_any _ _ _ _ _).mono ?_; rintro e w16 ⟨rfl, b⟩; have L := (lit_snd w15 [-1] (by decide)).below b; replace D : Below w10.heap.size w10 w16 := below2 (below_alloc (below_alloc D (.cells (nums .i64 [-1]).toArray 3)) (.cells #[.slice (some ⟨w15.heap.size, 0, none⟩) 1 1] 36)) b; clear b a0 a1 a2 a3 a4 a5; have a0 := (P3.below D).cell 0 rfl; have a1 := (P3.below D).cell 1 rfl; have a2 := (P6.below D).cell 0 rfl; have a3 := (P6.below D).cell 1 rfl; have a4 := (P8.below D).cell 0 rfl; have a5 := (P8.below D).cell 1 rfl; have t6 := trivial) | (go_at_call 19; have _t := t6; clear t6; refine (refSame_any 8000 A8 c8 [[-1]] 8000 _ _ [[-1]] w16 (S8'.below D).any L).mono ?_; rw [show sameB 8000 [[-1]] 8000 [[-1]] = true by decide]; rintro e w17 ⟨rfl, b⟩; replace D := below2 D b; clear b L a0 a1 a2 a3 a4 a5; have a0 := (P3.below D).cell 0 rfl; have a1 := (P3.below D).cell 1 rfl; have a2 := (P6.below D).cell 0 rfl; have a3 := (P6.below D).cell 1 rfl; have a4 := (P8.below D).cell 0 rfl; have a5 := (P8.below D).cell 1 rfl; have t7 := trivial) | (go_at_call 48; have _t := t7; clear t7; refine (check_any 0 none 0 [] w17 (hG.below (below2 B1 D)) ⟨Nat.le_refl _, by decide, Kd.Rd.nil _ _ _ _⟩).mono ?_; rw [ex_check]; rintro e w18 ⟨rfl, b⟩; replace D := below2 D b; clear b a0 a1 a2 a3 a4 a5; have a0 := (P3.below D).cell 0 rfl; have a1 := (P3.below D).cell 1 rfl; have a2 := (P6.below D).cell 0 rfl; have a3 := (P6.below D).cell 1 rfl; have a4 := (P8.below D).cell 0 rfl; have a5 := (P8.below D).cell 1 rfl; have t8 := trivial))
  go_wp2
  go_ret
  exact ⟨rfl, below2 B1 D⟩
end Go.Proofs.YtijcecakofmhcaaDoor
