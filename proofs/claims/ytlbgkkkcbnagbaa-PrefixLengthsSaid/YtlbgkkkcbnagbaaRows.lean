/-
  No cell of these rows narrows 'for every input' (looked for: loops, veiled, ifaces, maps, wideKeys, modest, calm, conditions, laid).
  DERIVED. THE GIVEN ROWS OF THIS SEAT. 11 by the template 'for every input the law returns true; each argument reads behind the call as it read before'; 0 by the template 'total and deterministic' (their statements: YtlbgkkkcbnagbaaTotals.lean).
  GIVEN WITH THE SEED: the statements are not yours to turn. If you find one false, say at which input.
  Laid BY PROGRAM, IN A SANDBOX (cutbox-rows.mjs): the forced cells as the released guide's own fill.sh prints them over the translation cb97de367d3e1e23… (all of the seat's roots in one cut). By AI agents, Wed Nov 11 2026. No macro, syntax, notation, axiom, sorry.
-/
import Derived.Test.YtlbgkkkcbnagbaaChecked
import GoSem.Claim
import GoSem.ClaimJoined
import GoSem.ClaimMapViews
import Derived.JoinedTies
import Derived.KernelRfl
namespace Go.Proofs.Ytlbgkkkcbnagbaa
/- THE CELL 'sum', in the pinned program and in every row, IS THE sha256 OF THE DUMP (.gsa) THAT YtlbgkkkcbnagbaaProg.lean LOADS. Nothing in Lean hashes anything: it is a label: what it is worth is what the hold of that sum in a sandbox is worth. -/
noncomputable def Try.pinned : Pinned := { name := "ytlbgkkkcbnagbaa", sum := "cb97de367d3e1e23046128345b448580cb2495a230a3a2892312fea51d05f178", checked := Try.checked }
namespace Rows
def none {H : Type} : Left H := { results := [], args := [] }

/-- 'shawmlaw04.PrefixCodes': WHATEVER THE INPUT: true; the input reads as it did. -/
def prefixCodesSpec : ChangeSpec := { name := "prefixCodes", fn := fun _ => fun
  | [d] => { results := [.lit (.bool true)], args := [d] }
  | _ => none }
def prefixCodesRow : OpenClaim := { program := "ytlbgkkkcbnagbaa", sum := "cb97de367d3e1e23046128345b448580cb2495a230a3a2892312fea51d05f178", func := "shawm/shawmlaw04.PrefixCodes", spec := "prefixCodes", unfollowed := true, recurses := true, plainKeys := false, apart := false }
def PrefixCodesSaid : Prop := prefixCodesRow.holds Try.pinned (OpenSpec.ofChange prefixCodesSpec)

/-- ITS FALSE NEIGHBOUR: 'it returns false'. Refute it at one input. -/
def prefixCodesWrong : ChangeSpec := { name := "prefixCodes", fn := fun _ => fun
  | [d] => { results := [.lit (.bool false)], args := [d] }
  | _ => none }
def PrefixCodesWrongFalsely : Prop := prefixCodesRow.holds Try.pinned (OpenSpec.ofChange prefixCodesWrong)

/-- 'shawmlaw04.PrefixLengths': WHATEVER THE INPUT: true; the input reads as it did. -/
def prefixLengthsSpec : ChangeSpec := { name := "prefixLengths", fn := fun _ => fun
  | [d1, d2] => { results := [.lit (.bool true)], args := [d1, d2] }
  | _ => none }
def prefixLengthsRow : OpenClaim := { program := "ytlbgkkkcbnagbaa", sum := "cb97de367d3e1e23046128345b448580cb2495a230a3a2892312fea51d05f178", func := "shawm/shawmlaw04.PrefixLengths", spec := "prefixLengths", unfollowed := true, recurses := true, plainKeys := false, apart := false }
def PrefixLengthsSaid : Prop := prefixLengthsRow.holds Try.pinned (OpenSpec.ofChange prefixLengthsSpec)

/-- ITS FALSE NEIGHBOUR: 'it returns false'. Refute it at one input. -/
def prefixLengthsWrong : ChangeSpec := { name := "prefixLengths", fn := fun _ => fun
  | [d1, d2] => { results := [.lit (.bool false)], args := [d1, d2] }
  | _ => none }
def PrefixLengthsWrongFalsely : Prop := prefixLengthsRow.holds Try.pinned (OpenSpec.ofChange prefixLengthsWrong)

/-- 'shawmlaw04.PrefixEncodes': WHATEVER THE INPUT: true; the input reads as it did. -/
def prefixEncodesSpec : ChangeSpec := { name := "prefixEncodes", fn := fun _ => fun
  | [d1, d2] => { results := [.lit (.bool true)], args := [d1, d2] }
  | _ => none }
def prefixEncodesRow : OpenClaim := { program := "ytlbgkkkcbnagbaa", sum := "cb97de367d3e1e23046128345b448580cb2495a230a3a2892312fea51d05f178", func := "shawm/shawmlaw04.PrefixEncodes", spec := "prefixEncodes", unfollowed := true, recurses := true, plainKeys := false, apart := false }
def PrefixEncodesSaid : Prop := prefixEncodesRow.holds Try.pinned (OpenSpec.ofChange prefixEncodesSpec)

/-- ITS FALSE NEIGHBOUR: 'it returns false'. Refute it at one input. -/
def prefixEncodesWrong : ChangeSpec := { name := "prefixEncodes", fn := fun _ => fun
  | [d1, d2] => { results := [.lit (.bool false)], args := [d1, d2] }
  | _ => none }
def PrefixEncodesWrongFalsely : Prop := prefixEncodesRow.holds Try.pinned (OpenSpec.ofChange prefixEncodesWrong)

/-- 'shawmlaw04.PrefixDecodes': WHATEVER THE INPUT: true; the input reads as it did. -/
def prefixDecodesSpec : ChangeSpec := { name := "prefixDecodes", fn := fun _ => fun
  | [d1, d2, d3] => { results := [.lit (.bool true)], args := [d1, d2, d3] }
  | _ => none }
def prefixDecodesRow : OpenClaim := { program := "ytlbgkkkcbnagbaa", sum := "cb97de367d3e1e23046128345b448580cb2495a230a3a2892312fea51d05f178", func := "shawm/shawmlaw04.PrefixDecodes", spec := "prefixDecodes", unfollowed := true, recurses := true, plainKeys := false, apart := false }
def PrefixDecodesSaid : Prop := prefixDecodesRow.holds Try.pinned (OpenSpec.ofChange prefixDecodesSpec)

/-- ITS FALSE NEIGHBOUR: 'it returns false'. Refute it at one input. -/
def prefixDecodesWrong : ChangeSpec := { name := "prefixDecodes", fn := fun _ => fun
  | [d1, d2, d3] => { results := [.lit (.bool false)], args := [d1, d2, d3] }
  | _ => none }
def PrefixDecodesWrongFalsely : Prop := prefixDecodesRow.holds Try.pinned (OpenSpec.ofChange prefixDecodesWrong)

/-- 'shawmlaw04.PrefixFree': WHATEVER THE INPUT: true; the input reads as it did. -/
def prefixFreeSpec : ChangeSpec := { name := "prefixFree", fn := fun _ => fun
  | [d] => { results := [.lit (.bool true)], args := [d] }
  | _ => none }
def prefixFreeRow : OpenClaim := { program := "ytlbgkkkcbnagbaa", sum := "cb97de367d3e1e23046128345b448580cb2495a230a3a2892312fea51d05f178", func := "shawm/shawmlaw04.PrefixFree", spec := "prefixFree", unfollowed := true, recurses := true, plainKeys := false, apart := false }
def PrefixFreeSaid : Prop := prefixFreeRow.holds Try.pinned (OpenSpec.ofChange prefixFreeSpec)

/-- ITS FALSE NEIGHBOUR: 'it returns false'. Refute it at one input. -/
def prefixFreeWrong : ChangeSpec := { name := "prefixFree", fn := fun _ => fun
  | [d] => { results := [.lit (.bool false)], args := [d] }
  | _ => none }
def PrefixFreeWrongFalsely : Prop := prefixFreeRow.holds Try.pinned (OpenSpec.ofChange prefixFreeWrong)

/-- 'shawmlaw04.PrefixOrder': WHATEVER THE INPUT: true; the input reads as it did. -/
def prefixOrderSpec : ChangeSpec := { name := "prefixOrder", fn := fun _ => fun
  | [d1, d2] => { results := [.lit (.bool true)], args := [d1, d2] }
  | _ => none }
def prefixOrderRow : OpenClaim := { program := "ytlbgkkkcbnagbaa", sum := "cb97de367d3e1e23046128345b448580cb2495a230a3a2892312fea51d05f178", func := "shawm/shawmlaw04.PrefixOrder", spec := "prefixOrder", unfollowed := true, recurses := true, plainKeys := false, apart := false }
def PrefixOrderSaid : Prop := prefixOrderRow.holds Try.pinned (OpenSpec.ofChange prefixOrderSpec)

/-- ITS FALSE NEIGHBOUR: 'it returns false'. Refute it at one input. -/
def prefixOrderWrong : ChangeSpec := { name := "prefixOrder", fn := fun _ => fun
  | [d1, d2] => { results := [.lit (.bool false)], args := [d1, d2] }
  | _ => none }
def PrefixOrderWrongFalsely : Prop := prefixOrderRow.holds Try.pinned (OpenSpec.ofChange prefixOrderWrong)

/-- 'shawmlaw04.PrefixReads': WHATEVER THE INPUT: true; the input reads as it did. -/
def prefixReadsSpec : ChangeSpec := { name := "prefixReads", fn := fun _ => fun
  | [d1, d2, d3] => { results := [.lit (.bool true)], args := [d1, d2, d3] }
  | _ => none }
def prefixReadsRow : OpenClaim := { program := "ytlbgkkkcbnagbaa", sum := "cb97de367d3e1e23046128345b448580cb2495a230a3a2892312fea51d05f178", func := "shawm/shawmlaw04.PrefixReads", spec := "prefixReads", unfollowed := true, recurses := true, plainKeys := false, apart := false }
def PrefixReadsSaid : Prop := prefixReadsRow.holds Try.pinned (OpenSpec.ofChange prefixReadsSpec)

/-- ITS FALSE NEIGHBOUR: 'it returns false'. Refute it at one input. -/
def prefixReadsWrong : ChangeSpec := { name := "prefixReads", fn := fun _ => fun
  | [d1, d2, d3] => { results := [.lit (.bool false)], args := [d1, d2, d3] }
  | _ => none }
def PrefixReadsWrongFalsely : Prop := prefixReadsRow.holds Try.pinned (OpenSpec.ofChange prefixReadsWrong)

/-- 'shawmlaw04.PrefixCosts': WHATEVER THE INPUT: true; the input reads as it did. -/
def prefixCostsSpec : ChangeSpec := { name := "prefixCosts", fn := fun _ => fun
  | [d1, d2] => { results := [.lit (.bool true)], args := [d1, d2] }
  | _ => none }
def prefixCostsRow : OpenClaim := { program := "ytlbgkkkcbnagbaa", sum := "cb97de367d3e1e23046128345b448580cb2495a230a3a2892312fea51d05f178", func := "shawm/shawmlaw04.PrefixCosts", spec := "prefixCosts", unfollowed := true, recurses := true, plainKeys := false, apart := false }
def PrefixCostsSaid : Prop := prefixCostsRow.holds Try.pinned (OpenSpec.ofChange prefixCostsSpec)

/-- ITS FALSE NEIGHBOUR: 'it returns false'. Refute it at one input. -/
def prefixCostsWrong : ChangeSpec := { name := "prefixCosts", fn := fun _ => fun
  | [d1, d2] => { results := [.lit (.bool false)], args := [d1, d2] }
  | _ => none }
def PrefixCostsWrongFalsely : Prop := prefixCostsRow.holds Try.pinned (OpenSpec.ofChange prefixCostsWrong)

/-- 'shawmlaw04.PrefixLeast': WHATEVER THE INPUT: true; the input reads as it did. -/
def prefixLeastSpec : ChangeSpec := { name := "prefixLeast", fn := fun _ => fun
  | [d1, d2, d3] => { results := [.lit (.bool true)], args := [d1, d2, d3] }
  | _ => none }
def prefixLeastRow : OpenClaim := { program := "ytlbgkkkcbnagbaa", sum := "cb97de367d3e1e23046128345b448580cb2495a230a3a2892312fea51d05f178", func := "shawm/shawmlaw04.PrefixLeast", spec := "prefixLeast", unfollowed := true, recurses := true, plainKeys := false, apart := false }
def PrefixLeastSaid : Prop := prefixLeastRow.holds Try.pinned (OpenSpec.ofChange prefixLeastSpec)

/-- ITS FALSE NEIGHBOUR: 'it returns false'. Refute it at one input. -/
def prefixLeastWrong : ChangeSpec := { name := "prefixLeast", fn := fun _ => fun
  | [d1, d2, d3] => { results := [.lit (.bool false)], args := [d1, d2, d3] }
  | _ => none }
def PrefixLeastWrongFalsely : Prop := prefixLeastRow.holds Try.pinned (OpenSpec.ofChange prefixLeastWrong)

/-- 'shawmlaw04.PrefixWrites': WHATEVER THE INPUT: true; the input reads as it did. -/
def prefixWritesSpec : ChangeSpec := { name := "prefixWrites", fn := fun _ => fun
  | [d1, d2, d3] => { results := [.lit (.bool true)], args := [d1, d2, d3] }
  | _ => none }
def prefixWritesRow : OpenClaim := { program := "ytlbgkkkcbnagbaa", sum := "cb97de367d3e1e23046128345b448580cb2495a230a3a2892312fea51d05f178", func := "shawm/shawmlaw04.PrefixWrites", spec := "prefixWrites", unfollowed := true, recurses := true, plainKeys := false, apart := false }
def PrefixWritesSaid : Prop := prefixWritesRow.holds Try.pinned (OpenSpec.ofChange prefixWritesSpec)

/-- ITS FALSE NEIGHBOUR: 'it returns false'. Refute it at one input. -/
def prefixWritesWrong : ChangeSpec := { name := "prefixWrites", fn := fun _ => fun
  | [d1, d2, d3] => { results := [.lit (.bool false)], args := [d1, d2, d3] }
  | _ => none }
def PrefixWritesWrongFalsely : Prop := prefixWritesRow.holds Try.pinned (OpenSpec.ofChange prefixWritesWrong)

/-- 'shawmlaw04.PrefixBack': WHATEVER THE INPUT: true; the input reads as it did. -/
def prefixBackSpec : ChangeSpec := { name := "prefixBack", fn := fun _ => fun
  | [d1, d2] => { results := [.lit (.bool true)], args := [d1, d2] }
  | _ => none }
def prefixBackRow : OpenClaim := { program := "ytlbgkkkcbnagbaa", sum := "cb97de367d3e1e23046128345b448580cb2495a230a3a2892312fea51d05f178", func := "shawm/shawmlaw04.PrefixBack", spec := "prefixBack", unfollowed := true, recurses := true, plainKeys := false, apart := false }
def PrefixBackSaid : Prop := prefixBackRow.holds Try.pinned (OpenSpec.ofChange prefixBackSpec)

/-- ITS FALSE NEIGHBOUR: 'it returns false'. Refute it at one input. -/
def prefixBackWrong : ChangeSpec := { name := "prefixBack", fn := fun _ => fun
  | [d1, d2] => { results := [.lit (.bool false)], args := [d1, d2] }
  | _ => none }
def PrefixBackWrongFalsely : Prop := prefixBackRow.holds Try.pinned (OpenSpec.ofChange prefixBackWrong)

/- THE SECOND FORM. 'bulk': how many values and letters a reading holds, each counted each time it is reached (what is shared counts as often as it is met; a slice's spare places count too). A statement '..UptoSaid' is the law's where the arguments, and the package variables that the reading takes, are together of bulk at most 1048576: NARROWER than '..Said'. Prove '..Said' where nothing that the law and all that it calls make is longer than what came in: it says more and counts as full. Else prove '..UptoSaid'. A law counts once. -/
mutual
def uptoBulk {H : Type} : DataW H → Nat
  | .lit (.string bytes) => bytes.length + 1
  | .lit _ => 1
  | .nil => 1
  | .ptr d => uptoBulk d + 1
  | .slice elems spare => uptoBulkAll elems + uptoBulkAll spare + 1
  | .agg parts => uptoBulkAll parts + 1
  | .iface _ d => uptoBulk d + 1
  | .map entries => uptoBulkEntries entries + 1
  | .held _ => 1
def uptoBulkAll {H : Type} : List (DataW H) → Nat
  | [] => 0
  | d :: r => uptoBulk d + uptoBulkAll r
def uptoBulkEntries {H : Type} : List (Lit × DataW H) → Nat
  | [] => 0
  | x :: r => uptoBulkEntry x + uptoBulkEntries r
def uptoBulkEntry {H : Type} : Lit × DataW H → Nat
  | (.string bytes, d) => bytes.length + uptoBulk d + 1
  | (_, d) => uptoBulk d + 1
 end
def uptoSmall : (H : Type) → List (DataW H) → Bool := fun _ ds => decide (uptoBulkAll ds ≤ 1048576)
def OpenSpec.upto (s : _root_.Go.ChangeSpec) : _root_.Go.OpenSpec := { _root_.Go.OpenSpec.ofChange s with cond := some uptoSmall }

/-- 'shawmlaw04.PrefixCodes', WHERE WHAT IT READS IS OF BULK AT MOST 1048576: true; the input reads as it did. -/
def prefixCodesUptoRow : OpenClaim := { program := "ytlbgkkkcbnagbaa", sum := "cb97de367d3e1e23046128345b448580cb2495a230a3a2892312fea51d05f178", func := "shawm/shawmlaw04.PrefixCodes", spec := "prefixCodes", unfollowed := true, recurses := true, plainKeys := false, apart := false, narrowed := true }
def PrefixCodesUptoSaid : Prop := prefixCodesUptoRow.holds Try.pinned (OpenSpec.upto prefixCodesSpec)

/-- 'shawmlaw04.PrefixLengths', WHERE WHAT IT READS IS OF BULK AT MOST 1048576: true; the input reads as it did. -/
def prefixLengthsUptoRow : OpenClaim := { program := "ytlbgkkkcbnagbaa", sum := "cb97de367d3e1e23046128345b448580cb2495a230a3a2892312fea51d05f178", func := "shawm/shawmlaw04.PrefixLengths", spec := "prefixLengths", unfollowed := true, recurses := true, plainKeys := false, apart := false, narrowed := true }
def PrefixLengthsUptoSaid : Prop := prefixLengthsUptoRow.holds Try.pinned (OpenSpec.upto prefixLengthsSpec)

/-- 'shawmlaw04.PrefixEncodes', WHERE WHAT IT READS IS OF BULK AT MOST 1048576: true; the input reads as it did. -/
def prefixEncodesUptoRow : OpenClaim := { program := "ytlbgkkkcbnagbaa", sum := "cb97de367d3e1e23046128345b448580cb2495a230a3a2892312fea51d05f178", func := "shawm/shawmlaw04.PrefixEncodes", spec := "prefixEncodes", unfollowed := true, recurses := true, plainKeys := false, apart := false, narrowed := true }
def PrefixEncodesUptoSaid : Prop := prefixEncodesUptoRow.holds Try.pinned (OpenSpec.upto prefixEncodesSpec)

/-- 'shawmlaw04.PrefixDecodes', WHERE WHAT IT READS IS OF BULK AT MOST 1048576: true; the input reads as it did. -/
def prefixDecodesUptoRow : OpenClaim := { program := "ytlbgkkkcbnagbaa", sum := "cb97de367d3e1e23046128345b448580cb2495a230a3a2892312fea51d05f178", func := "shawm/shawmlaw04.PrefixDecodes", spec := "prefixDecodes", unfollowed := true, recurses := true, plainKeys := false, apart := false, narrowed := true }
def PrefixDecodesUptoSaid : Prop := prefixDecodesUptoRow.holds Try.pinned (OpenSpec.upto prefixDecodesSpec)

/-- 'shawmlaw04.PrefixFree', WHERE WHAT IT READS IS OF BULK AT MOST 1048576: true; the input reads as it did. -/
def prefixFreeUptoRow : OpenClaim := { program := "ytlbgkkkcbnagbaa", sum := "cb97de367d3e1e23046128345b448580cb2495a230a3a2892312fea51d05f178", func := "shawm/shawmlaw04.PrefixFree", spec := "prefixFree", unfollowed := true, recurses := true, plainKeys := false, apart := false, narrowed := true }
def PrefixFreeUptoSaid : Prop := prefixFreeUptoRow.holds Try.pinned (OpenSpec.upto prefixFreeSpec)

/-- 'shawmlaw04.PrefixOrder', WHERE WHAT IT READS IS OF BULK AT MOST 1048576: true; the input reads as it did. -/
def prefixOrderUptoRow : OpenClaim := { program := "ytlbgkkkcbnagbaa", sum := "cb97de367d3e1e23046128345b448580cb2495a230a3a2892312fea51d05f178", func := "shawm/shawmlaw04.PrefixOrder", spec := "prefixOrder", unfollowed := true, recurses := true, plainKeys := false, apart := false, narrowed := true }
def PrefixOrderUptoSaid : Prop := prefixOrderUptoRow.holds Try.pinned (OpenSpec.upto prefixOrderSpec)

/-- 'shawmlaw04.PrefixReads', WHERE WHAT IT READS IS OF BULK AT MOST 1048576: true; the input reads as it did. -/
def prefixReadsUptoRow : OpenClaim := { program := "ytlbgkkkcbnagbaa", sum := "cb97de367d3e1e23046128345b448580cb2495a230a3a2892312fea51d05f178", func := "shawm/shawmlaw04.PrefixReads", spec := "prefixReads", unfollowed := true, recurses := true, plainKeys := false, apart := false, narrowed := true }
def PrefixReadsUptoSaid : Prop := prefixReadsUptoRow.holds Try.pinned (OpenSpec.upto prefixReadsSpec)

/-- 'shawmlaw04.PrefixCosts', WHERE WHAT IT READS IS OF BULK AT MOST 1048576: true; the input reads as it did. -/
def prefixCostsUptoRow : OpenClaim := { program := "ytlbgkkkcbnagbaa", sum := "cb97de367d3e1e23046128345b448580cb2495a230a3a2892312fea51d05f178", func := "shawm/shawmlaw04.PrefixCosts", spec := "prefixCosts", unfollowed := true, recurses := true, plainKeys := false, apart := false, narrowed := true }
def PrefixCostsUptoSaid : Prop := prefixCostsUptoRow.holds Try.pinned (OpenSpec.upto prefixCostsSpec)

/-- 'shawmlaw04.PrefixLeast', WHERE WHAT IT READS IS OF BULK AT MOST 1048576: true; the input reads as it did. -/
def prefixLeastUptoRow : OpenClaim := { program := "ytlbgkkkcbnagbaa", sum := "cb97de367d3e1e23046128345b448580cb2495a230a3a2892312fea51d05f178", func := "shawm/shawmlaw04.PrefixLeast", spec := "prefixLeast", unfollowed := true, recurses := true, plainKeys := false, apart := false, narrowed := true }
def PrefixLeastUptoSaid : Prop := prefixLeastUptoRow.holds Try.pinned (OpenSpec.upto prefixLeastSpec)

/-- 'shawmlaw04.PrefixWrites', WHERE WHAT IT READS IS OF BULK AT MOST 1048576: true; the input reads as it did. -/
def prefixWritesUptoRow : OpenClaim := { program := "ytlbgkkkcbnagbaa", sum := "cb97de367d3e1e23046128345b448580cb2495a230a3a2892312fea51d05f178", func := "shawm/shawmlaw04.PrefixWrites", spec := "prefixWrites", unfollowed := true, recurses := true, plainKeys := false, apart := false, narrowed := true }
def PrefixWritesUptoSaid : Prop := prefixWritesUptoRow.holds Try.pinned (OpenSpec.upto prefixWritesSpec)

/-- 'shawmlaw04.PrefixBack', WHERE WHAT IT READS IS OF BULK AT MOST 1048576: true; the input reads as it did. -/
def prefixBackUptoRow : OpenClaim := { program := "ytlbgkkkcbnagbaa", sum := "cb97de367d3e1e23046128345b448580cb2495a230a3a2892312fea51d05f178", func := "shawm/shawmlaw04.PrefixBack", spec := "prefixBack", unfollowed := true, recurses := true, plainKeys := false, apart := false, narrowed := true }
def PrefixBackUptoSaid : Prop := prefixBackUptoRow.holds Try.pinned (OpenSpec.upto prefixBackSpec)

end Rows
end Go.Proofs.Ytlbgkkkcbnagbaa
