/-
  No cell of these rows narrows 'for every input' (looked for: loops, veiled, ifaces, maps, wideKeys, modest, calm, conditions, laid).
  DERIVED. THE GIVEN ROWS OF THIS SEAT. 8 by the template 'for every input the law returns true; each argument reads behind the call as it read before'; 0 by the template 'total and deterministic' (their statements: YtkfgomhhenmmeaaTotals.lean).
  GIVEN WITH THE SEED: the statements are not yours to turn. If you find one false, say at which input.
  Laid BY PROGRAM, IN A SANDBOX (cutbox-rows.mjs): the forced cells as the released guide's own fill.sh prints them over the translation 78ea3fdc3a7529b6… (all of the seat's roots in one cut). By AI agents, Wed Nov 11 2026. No macro, syntax, notation, axiom, sorry.
-/
import Derived.Test.YtkfgomhhenmmeaaChecked
import GoSem.Claim
import GoSem.ClaimJoined
import GoSem.ClaimMapViews
import Derived.JoinedTies
import Derived.KernelRfl
namespace Go.Proofs.Ytkfgomhhenmmeaa
/- THE CELL 'sum', in the pinned program and in every row, IS THE sha256 OF THE DUMP (.gsa) THAT YtkfgomhhenmmeaaProg.lean LOADS. Nothing in Lean hashes anything: it is a label: what it is worth is what the hold of that sum in a sandbox is worth. -/
noncomputable def Try.pinned : Pinned := { name := "ytkfgomhhenmmeaa", sum := "78ea3fdc3a7529b607ed7093ed46264d5e8055a9ed3c6be721fd029edb517b0e", checked := Try.checked }
namespace Rows
def none {H : Type} : Left H := { results := [], args := [] }

/-- 'shawmlaw19.ScaleCosts': WHATEVER THE INPUT: true; the input reads as it did. -/
def scaleCostsSpec : ChangeSpec := { name := "scaleCosts", fn := fun _ => fun
  | [d1, d2] => { results := [.lit (.bool true)], args := [d1, d2] }
  | _ => none }
def scaleCostsRow : OpenClaim := { program := "ytkfgomhhenmmeaa", sum := "78ea3fdc3a7529b607ed7093ed46264d5e8055a9ed3c6be721fd029edb517b0e", func := "shawm/shawmlaw19.ScaleCosts", spec := "scaleCosts", unfollowed := true, recurses := true, plainKeys := false, apart := false }
def ScaleCostsSaid : Prop := scaleCostsRow.holds Try.pinned (OpenSpec.ofChange scaleCostsSpec)

/-- ITS FALSE NEIGHBOUR: 'it returns false'. Refute it at one input. -/
def scaleCostsWrong : ChangeSpec := { name := "scaleCosts", fn := fun _ => fun
  | [d1, d2] => { results := [.lit (.bool false)], args := [d1, d2] }
  | _ => none }
def ScaleCostsWrongFalsely : Prop := scaleCostsRow.holds Try.pinned (OpenSpec.ofChange scaleCostsWrong)

/-- 'shawmlaw19.ScaleReads': WHATEVER THE INPUT: true; the input reads as it did. -/
def scaleReadsSpec : ChangeSpec := { name := "scaleReads", fn := fun _ => fun
  | [d1, d2] => { results := [.lit (.bool true)], args := [d1, d2] }
  | _ => none }
def scaleReadsRow : OpenClaim := { program := "ytkfgomhhenmmeaa", sum := "78ea3fdc3a7529b607ed7093ed46264d5e8055a9ed3c6be721fd029edb517b0e", func := "shawm/shawmlaw19.ScaleReads", spec := "scaleReads", unfollowed := true, recurses := true, plainKeys := false, apart := false }
def ScaleReadsSaid : Prop := scaleReadsRow.holds Try.pinned (OpenSpec.ofChange scaleReadsSpec)

/-- ITS FALSE NEIGHBOUR: 'it returns false'. Refute it at one input. -/
def scaleReadsWrong : ChangeSpec := { name := "scaleReads", fn := fun _ => fun
  | [d1, d2] => { results := [.lit (.bool false)], args := [d1, d2] }
  | _ => none }
def ScaleReadsWrongFalsely : Prop := scaleReadsRow.holds Try.pinned (OpenSpec.ofChange scaleReadsWrong)

/-- 'shawmlaw19.ScaleChooses': WHATEVER THE INPUT: true; the input reads as it did. -/
def scaleChoosesSpec : ChangeSpec := { name := "scaleChooses", fn := fun _ => fun
  | [d1, d2, d3] => { results := [.lit (.bool true)], args := [d1, d2, d3] }
  | _ => none }
def scaleChoosesRow : OpenClaim := { program := "ytkfgomhhenmmeaa", sum := "78ea3fdc3a7529b607ed7093ed46264d5e8055a9ed3c6be721fd029edb517b0e", func := "shawm/shawmlaw19.ScaleChooses", spec := "scaleChooses", unfollowed := true, recurses := true, plainKeys := false, apart := false }
def ScaleChoosesSaid : Prop := scaleChoosesRow.holds Try.pinned (OpenSpec.ofChange scaleChoosesSpec)

/-- ITS FALSE NEIGHBOUR: 'it returns false'. Refute it at one input. -/
def scaleChoosesWrong : ChangeSpec := { name := "scaleChooses", fn := fun _ => fun
  | [d1, d2, d3] => { results := [.lit (.bool false)], args := [d1, d2, d3] }
  | _ => none }
def ScaleChoosesWrongFalsely : Prop := scaleChoosesRow.holds Try.pinned (OpenSpec.ofChange scaleChoosesWrong)

/-- 'shawmlaw19.ScaleUsed': WHATEVER THE INPUT: true; the input reads as it did. -/
def scaleUsedSpec : ChangeSpec := { name := "scaleUsed", fn := fun _ => fun
  | [d1, d2] => { results := [.lit (.bool true)], args := [d1, d2] }
  | _ => none }
def scaleUsedRow : OpenClaim := { program := "ytkfgomhhenmmeaa", sum := "78ea3fdc3a7529b607ed7093ed46264d5e8055a9ed3c6be721fd029edb517b0e", func := "shawm/shawmlaw19.ScaleUsed", spec := "scaleUsed", unfollowed := true, recurses := true, plainKeys := false, apart := false }
def ScaleUsedSaid : Prop := scaleUsedRow.holds Try.pinned (OpenSpec.ofChange scaleUsedSpec)

/-- ITS FALSE NEIGHBOUR: 'it returns false'. Refute it at one input. -/
def scaleUsedWrong : ChangeSpec := { name := "scaleUsed", fn := fun _ => fun
  | [d1, d2] => { results := [.lit (.bool false)], args := [d1, d2] }
  | _ => none }
def ScaleUsedWrongFalsely : Prop := scaleUsedRow.holds Try.pinned (OpenSpec.ofChange scaleUsedWrong)

/-- 'shawmlaw19.ScaleLeast': WHATEVER THE INPUT: true; the input reads as it did. -/
def scaleLeastSpec : ChangeSpec := { name := "scaleLeast", fn := fun _ => fun
  | [d1, d2, d3] => { results := [.lit (.bool true)], args := [d1, d2, d3] }
  | _ => none }
def scaleLeastRow : OpenClaim := { program := "ytkfgomhhenmmeaa", sum := "78ea3fdc3a7529b607ed7093ed46264d5e8055a9ed3c6be721fd029edb517b0e", func := "shawm/shawmlaw19.ScaleLeast", spec := "scaleLeast", unfollowed := true, recurses := true, plainKeys := false, apart := false }
def ScaleLeastSaid : Prop := scaleLeastRow.holds Try.pinned (OpenSpec.ofChange scaleLeastSpec)

/-- ITS FALSE NEIGHBOUR: 'it returns false'. Refute it at one input. -/
def scaleLeastWrong : ChangeSpec := { name := "scaleLeast", fn := fun _ => fun
  | [d1, d2, d3] => { results := [.lit (.bool false)], args := [d1, d2, d3] }
  | _ => none }
def ScaleLeastWrongFalsely : Prop := scaleLeastRow.holds Try.pinned (OpenSpec.ofChange scaleLeastWrong)

/-- 'shawmlaw19.ScaleFar': WHATEVER THE INPUT: true; the input reads as it did. -/
def scaleFarSpec : ChangeSpec := { name := "scaleFar", fn := fun _ => fun
  | [d1, d2, d3] => { results := [.lit (.bool true)], args := [d1, d2, d3] }
  | _ => none }
def scaleFarRow : OpenClaim := { program := "ytkfgomhhenmmeaa", sum := "78ea3fdc3a7529b607ed7093ed46264d5e8055a9ed3c6be721fd029edb517b0e", func := "shawm/shawmlaw19.ScaleFar", spec := "scaleFar", unfollowed := true, recurses := true, plainKeys := false, apart := false }
def ScaleFarSaid : Prop := scaleFarRow.holds Try.pinned (OpenSpec.ofChange scaleFarSpec)

/-- ITS FALSE NEIGHBOUR: 'it returns false'. Refute it at one input. -/
def scaleFarWrong : ChangeSpec := { name := "scaleFar", fn := fun _ => fun
  | [d1, d2, d3] => { results := [.lit (.bool false)], args := [d1, d2, d3] }
  | _ => none }
def ScaleFarWrongFalsely : Prop := scaleFarRow.holds Try.pinned (OpenSpec.ofChange scaleFarWrong)

/-- 'shawmlaw19.ScaleBack': WHATEVER THE INPUT: true; the input reads as it did. -/
def scaleBackSpec : ChangeSpec := { name := "scaleBack", fn := fun _ => fun
  | [d1, d2] => { results := [.lit (.bool true)], args := [d1, d2] }
  | _ => none }
def scaleBackRow : OpenClaim := { program := "ytkfgomhhenmmeaa", sum := "78ea3fdc3a7529b607ed7093ed46264d5e8055a9ed3c6be721fd029edb517b0e", func := "shawm/shawmlaw19.ScaleBack", spec := "scaleBack", unfollowed := true, recurses := true, plainKeys := false, apart := false }
def ScaleBackSaid : Prop := scaleBackRow.holds Try.pinned (OpenSpec.ofChange scaleBackSpec)

/-- ITS FALSE NEIGHBOUR: 'it returns false'. Refute it at one input. -/
def scaleBackWrong : ChangeSpec := { name := "scaleBack", fn := fun _ => fun
  | [d1, d2] => { results := [.lit (.bool false)], args := [d1, d2] }
  | _ => none }
def ScaleBackWrongFalsely : Prop := scaleBackRow.holds Try.pinned (OpenSpec.ofChange scaleBackWrong)

/-- 'shawmlaw19.ScaleWrites': WHATEVER THE INPUT: true; the input reads as it did. -/
def scaleWritesSpec : ChangeSpec := { name := "scaleWrites", fn := fun _ => fun
  | [d1, d2, d3] => { results := [.lit (.bool true)], args := [d1, d2, d3] }
  | _ => none }
def scaleWritesRow : OpenClaim := { program := "ytkfgomhhenmmeaa", sum := "78ea3fdc3a7529b607ed7093ed46264d5e8055a9ed3c6be721fd029edb517b0e", func := "shawm/shawmlaw19.ScaleWrites", spec := "scaleWrites", unfollowed := true, recurses := true, plainKeys := false, apart := false }
def ScaleWritesSaid : Prop := scaleWritesRow.holds Try.pinned (OpenSpec.ofChange scaleWritesSpec)

/-- ITS FALSE NEIGHBOUR: 'it returns false'. Refute it at one input. -/
def scaleWritesWrong : ChangeSpec := { name := "scaleWrites", fn := fun _ => fun
  | [d1, d2, d3] => { results := [.lit (.bool false)], args := [d1, d2, d3] }
  | _ => none }
def ScaleWritesWrongFalsely : Prop := scaleWritesRow.holds Try.pinned (OpenSpec.ofChange scaleWritesWrong)

/- THE SECOND FORM. 'bulk': how many values and letters a reading holds, each counted each time it is reached (what is shared counts as often as it is met; a slice's spare places count too). A statement '..UptoSaid' is the law's where the arguments, and the package variables that the reading takes, are together of bulk at most 1048576: NARROWER than '..Said'. Prove '..Said' where nothing that the law and all that it calls make is longer than what came in: it says more and counts as full. Else prove '..UptoSaid'. A law counts once. -/
mutual
def uptoBulk {H : Type} : DataW H → Nat
  | .lit (.string bytes) => bytes.length + 1
  | .lit _ => 1
  | .nil => 1
  | .ptr d => uptoBulk d + 1
  | .slice elems spare => uptoBulkAll elems + uptoBulkAll spare + 1
  | .agg parts => uptoBulkAll parts + 1
  | .iface _ d => uptoBulk d + 1
  | .map entries => uptoBulkEntries entries + 1
  | .held _ => 1
def uptoBulkAll {H : Type} : List (DataW H) → Nat
  | [] => 0
  | d :: r => uptoBulk d + uptoBulkAll r
def uptoBulkEntries {H : Type} : List (Lit × DataW H) → Nat
  | [] => 0
  | x :: r => uptoBulkEntry x + uptoBulkEntries r
def uptoBulkEntry {H : Type} : Lit × DataW H → Nat
  | (.string bytes, d) => bytes.length + uptoBulk d + 1
  | (_, d) => uptoBulk d + 1
 end
def uptoSmall : (H : Type) → List (DataW H) → Bool := fun _ ds => decide (uptoBulkAll ds ≤ 1048576)
def OpenSpec.upto (s : _root_.Go.ChangeSpec) : _root_.Go.OpenSpec := { _root_.Go.OpenSpec.ofChange s with cond := some uptoSmall }

/-- 'shawmlaw19.ScaleCosts', WHERE WHAT IT READS IS OF BULK AT MOST 1048576: true; the input reads as it did. -/
def scaleCostsUptoRow : OpenClaim := { program := "ytkfgomhhenmmeaa", sum := "78ea3fdc3a7529b607ed7093ed46264d5e8055a9ed3c6be721fd029edb517b0e", func := "shawm/shawmlaw19.ScaleCosts", spec := "scaleCosts", unfollowed := true, recurses := true, plainKeys := false, apart := false, narrowed := true }
def ScaleCostsUptoSaid : Prop := scaleCostsUptoRow.holds Try.pinned (OpenSpec.upto scaleCostsSpec)

/-- 'shawmlaw19.ScaleReads', WHERE WHAT IT READS IS OF BULK AT MOST 1048576: true; the input reads as it did. -/
def scaleReadsUptoRow : OpenClaim := { program := "ytkfgomhhenmmeaa", sum := "78ea3fdc3a7529b607ed7093ed46264d5e8055a9ed3c6be721fd029edb517b0e", func := "shawm/shawmlaw19.ScaleReads", spec := "scaleReads", unfollowed := true, recurses := true, plainKeys := false, apart := false, narrowed := true }
def ScaleReadsUptoSaid : Prop := scaleReadsUptoRow.holds Try.pinned (OpenSpec.upto scaleReadsSpec)

/-- 'shawmlaw19.ScaleChooses', WHERE WHAT IT READS IS OF BULK AT MOST 1048576: true; the input reads as it did. -/
def scaleChoosesUptoRow : OpenClaim := { program := "ytkfgomhhenmmeaa", sum := "78ea3fdc3a7529b607ed7093ed46264d5e8055a9ed3c6be721fd029edb517b0e", func := "shawm/shawmlaw19.ScaleChooses", spec := "scaleChooses", unfollowed := true, recurses := true, plainKeys := false, apart := false, narrowed := true }
def ScaleChoosesUptoSaid : Prop := scaleChoosesUptoRow.holds Try.pinned (OpenSpec.upto scaleChoosesSpec)

/-- 'shawmlaw19.ScaleUsed', WHERE WHAT IT READS IS OF BULK AT MOST 1048576: true; the input reads as it did. -/
def scaleUsedUptoRow : OpenClaim := { program := "ytkfgomhhenmmeaa", sum := "78ea3fdc3a7529b607ed7093ed46264d5e8055a9ed3c6be721fd029edb517b0e", func := "shawm/shawmlaw19.ScaleUsed", spec := "scaleUsed", unfollowed := true, recurses := true, plainKeys := false, apart := false, narrowed := true }
def ScaleUsedUptoSaid : Prop := scaleUsedUptoRow.holds Try.pinned (OpenSpec.upto scaleUsedSpec)

/-- 'shawmlaw19.ScaleLeast', WHERE WHAT IT READS IS OF BULK AT MOST 1048576: true; the input reads as it did. -/
def scaleLeastUptoRow : OpenClaim := { program := "ytkfgomhhenmmeaa", sum := "78ea3fdc3a7529b607ed7093ed46264d5e8055a9ed3c6be721fd029edb517b0e", func := "shawm/shawmlaw19.ScaleLeast", spec := "scaleLeast", unfollowed := true, recurses := true, plainKeys := false, apart := false, narrowed := true }
def ScaleLeastUptoSaid : Prop := scaleLeastUptoRow.holds Try.pinned (OpenSpec.upto scaleLeastSpec)

/-- 'shawmlaw19.ScaleFar', WHERE WHAT IT READS IS OF BULK AT MOST 1048576: true; the input reads as it did. -/
def scaleFarUptoRow : OpenClaim := { program := "ytkfgomhhenmmeaa", sum := "78ea3fdc3a7529b607ed7093ed46264d5e8055a9ed3c6be721fd029edb517b0e", func := "shawm/shawmlaw19.ScaleFar", spec := "scaleFar", unfollowed := true, recurses := true, plainKeys := false, apart := false, narrowed := true }
def ScaleFarUptoSaid : Prop := scaleFarUptoRow.holds Try.pinned (OpenSpec.upto scaleFarSpec)

/-- 'shawmlaw19.ScaleBack', WHERE WHAT IT READS IS OF BULK AT MOST 1048576: true; the input reads as it did. -/
def scaleBackUptoRow : OpenClaim := { program := "ytkfgomhhenmmeaa", sum := "78ea3fdc3a7529b607ed7093ed46264d5e8055a9ed3c6be721fd029edb517b0e", func := "shawm/shawmlaw19.ScaleBack", spec := "scaleBack", unfollowed := true, recurses := true, plainKeys := false, apart := false, narrowed := true }
def ScaleBackUptoSaid : Prop := scaleBackUptoRow.holds Try.pinned (OpenSpec.upto scaleBackSpec)

/-- 'shawmlaw19.ScaleWrites', WHERE WHAT IT READS IS OF BULK AT MOST 1048576: true; the input reads as it did. -/
def scaleWritesUptoRow : OpenClaim := { program := "ytkfgomhhenmmeaa", sum := "78ea3fdc3a7529b607ed7093ed46264d5e8055a9ed3c6be721fd029edb517b0e", func := "shawm/shawmlaw19.ScaleWrites", spec := "scaleWrites", unfollowed := true, recurses := true, plainKeys := false, apart := false, narrowed := true }
def ScaleWritesUptoSaid : Prop := scaleWritesUptoRow.holds Try.pinned (OpenSpec.upto scaleWritesSpec)

end Rows
end Go.Proofs.Ytkfgomhhenmmeaa
