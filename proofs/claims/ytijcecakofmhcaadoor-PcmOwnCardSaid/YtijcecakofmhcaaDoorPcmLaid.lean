/- The laws of pcm: the variable that the rows list. -/
import Derived.Test.YtijcecakofmhcaaDoorPcmIn
import Derived.Test.YtijcecakofmhcaaDoorRows
namespace Go.Proofs.YtijcecakofmhcaaDoor
open Go.ChangeShapes Go.WideShapes Go.ChangeAt Go.WideMaps Go.WideElems Go.RowKit Go.Deep

theorem own : ownKnob Tryd.prog.godebug = none := by kernel_rfl
theorem gRates : Tryd.prog.globalNamed "shawm/pcm.rates" = some 0 := by kernel_rfl
theorem tRates : (Tryd.prog.globals[0]?).map (·.type) = some 91 := by kernel_rfl
theorem door_met (os : Os) (args : Array Value) : laidMetH Tryd.prog [("shawm/pcm.rates", Rows.laid_shawm_pcm_rates)] ((World.doorLaid Tryd.prog 400 os).forCall (fun _ _ => 0) ⟨#[], args, []⟩).memory :=
  laidMetH_of_parts3 (fuel := 8) (laidMet_of_run' 8 (by kernel_rfl) (by kernel_rfl)) (by kernel_rfl) (by kernel_rfl)
theorem gr_of_laid {W : World} (h : laidMetH Tryd.prog [("shawm/pcm.rates", Rows.laid_shawm_pcm_rates)] W) : GR W := by
  rw [MakeChecks.laidMetH_plain _ _ _ (by kernel_rfl)] at h
  obtain ⟨ps, ⟨g0, t0, cs0, f0, p0, q0, hg0, ht0, hv0, hd0, _⟩, _, _⟩ := h
  obtain rfl := Option.some.inj (gRates.symm.trans hg0)
  obtain rfl := Option.some.inj (tRates.symm.trans ht0)
  obtain ⟨xs, m1, rfl, hx1, hlen, hn3, hel⟩ := DataW.trod_array Tryd.underlying91 hd0
  have hx2 : xs.map (·.1) = ratesL.map fun n => (.lit (.int .i64 n)) := by
    have := congrArg Prod.fst hx1
    simp only [Rows.laid_shawm_pcm_rates, DataW.agg.injEq] at this
    exact this.symm
  have c3 : Tryd.prog.cellsOf 3 = 1 := by kernel_rfl
  have key : ∀ i, i < 9 → W.cell? ⟨0, i, none⟩ = some (.int .i64 (nth 0 ratesL i)) := fun i hi => by
    have hi' : i < xs.length := by omega
    have h1 := hel i hi
    rw [c3, Nat.mul_one, List.getElem?_eq_getElem hi'] at h1
    obtain ⟨k, e1, e2, _⟩ := DataW.trod_int (P := Tryd.prog) Tryd.underlying3 h1
    have h2 : (xs.map (·.1))[i]? = some (.lit (.int .i64 k)) := by
      rw [List.getElem?_map, List.getElem?_eq_getElem hi', e2]; rfl
    rw [hx2, List.getElem?_map, nth_some 0 ratesL i hi] at h2
    have hk : nth 0 ratesL i = k := by simpa using h2
    have := World.var?_cell hg0 hv0 i
    rw [this, hk]
    have h3 : (cs0.toList.drop i).take 1 = [.int .i64 k] := e1
    cases h4 : cs0.toList.drop i with
    | nil => rw [h4] at h3; cases h3
    | cons z zs =>
      rw [h4] at h3
      injection h3 with h3 _
      have h5 : cs0.toList[i]? = some z := by
        have := congrArg (fun l : List Value => l[0]?) h4
        simpa [List.getElem?_drop] using this
      rw [← Array.getElem?_toList, h5, h3]
  exact sl_cells (kInt .i64) rfl (fun i => .int .i64 (nth 0 ratesL i)) (by decide) (by decide) (fun i hi => by rw [add_plain]; exact key i hi) (fun i hi => rfl)
end Go.Proofs.YtijcecakofmhcaaDoor
