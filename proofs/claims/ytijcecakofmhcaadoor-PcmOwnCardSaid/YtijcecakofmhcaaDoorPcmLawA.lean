/- The laws of pcm: sound, the chapter's examples. -/
import Derived.Test.YtijcecakofmhcaaDoorPcmRead
import Derived.Test.YtijcecakofmhcaaDoorPcmQ
import Derived.Test.YtijcecakofmhcaaDoorPcmN
namespace Go.Proofs.YtijcecakofmhcaaDoor
open Go.RowKit

set_option maxHeartbeats 400000 in
theorem sound_any (r : Int) (A : Option Addr) (n c : Nat) (w : World) :
    Calls Tryd.prog 51 #[.int .i64 r, .slice A n c] w fun e w' => e = .returned (.agg #[.int .i64 r, .slice A n c]) ∧ Below w.heap.size w w' := by
  go_enter Tryd.func51, Tryd.ntmps51
  go_wp2_with (first | ((with_reducible refine at_dst (N := 4) rfl ?_); refine ev_new #[.int .i64 0, .slice none 0 0] 24 rfl ?hr ?_; (case hr => first | (go_simp; done) | (go_simp; rfl)); intro g1 w1 eg1 zg1 b1 Bg1; have k0 := Bg1.cell 0 rfl; have k1 := Bg1.cell 1 rfl) | ((with_reducible refine at_store (p := 4) rfl ?_); (refine ev_put #[.int .i64 r, .slice A n c] rfl 24 (.tmp 4) (.tmp 7) rfl g1 24 _ rfl rfl Bg1 sizeS rfl rfl ?_); intro wf Bq hqf hzf; have z0 := Bq.cell 0 rfl; have z1 := Bq.cell 1 rfl))
  have h1 := eg1.out
  refine bodyPost_ret (v := .agg #[.int .i64 r, .slice A n c]) (by simp [results, Tryd.results51, go_sem, z0, z1]) rfl ⟨rfl, below_grown b1 b1.size hqf (fun k e => by have := Option.some.inj e; omega)⟩

/-- The file of the chapter's example. -/
def exFile : List Int := [82, 73, 70, 70, 40, 0, 0, 0, 87, 65, 86, 69, 102, 109, 116, 32, 16, 0, 0, 0, 1, 0, 1, 0, 64, 31, 0, 0, 128, 62, 0, 0, 2, 0, 16, 0, 100, 97, 116, 97, 4, 0, 0, 0, 1, 0, 254, 255]
theorem ex_wave : waveS 8000 [[1, -2]] = (exFile, 0) := by decide +kernel
theorem ex_read : readS exFile = (8000, [[1, -2]], 0) := by decide +kernel
theorem ex_mix : mixS 8000 [[100]] 8000 [[50]] 128 256 = (8000, [[100]], 0) := by decide +kernel
theorem ex_mono : monoS 8000 [[3], [-4]] = (8000, [[-1]], 0) := by decide +kernel
theorem ex_frames : framesS 44100 [List.replicate 300 0] = (3, 0) := by decide +kernel
theorem ex_check : checkE 0 [] = 1 := by decide +kernel
theorem ex_bytes : Bytes exFile := by unfold Bytes; decide +kernel
#print axioms ex_read
end Go.Proofs.YtijcecakofmhcaaDoor
