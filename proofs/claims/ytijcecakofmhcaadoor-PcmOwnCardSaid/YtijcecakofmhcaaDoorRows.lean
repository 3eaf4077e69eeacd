/-
  NARROWER THAN 'FOR EVERY INPUT', by the rows' own cells (each row's printed sentence says how): PcmWaves: laid · PcmSplits: laid · PcmBack: laid · PcmCuts: laid · PcmMixed: laid · PcmMixes: laid · PcmParts: laid · PcmOwn: laid · PcmChecks: laid.
  DERIVED. THE GIVEN ROWS OF THIS SEAT. 9 by the template 'for every input the law returns true; each argument reads behind the call as it read before'; 0 by the template 'total and deterministic' (their statements: YtijcecakofmhcaaDoorTotals.lean).
  GIVEN WITH THE SEED: the statements are not yours to turn. If you find one false, say at which input.
  Laid BY PROGRAM, IN A SANDBOX (cutbox-rows.mjs): the forced cells as the released guide's own fill.sh prints them over the translation 3caaf8616ec43aaf… (all of the seat's roots in one cut). By AI agents, Wed Nov 11 2026. No macro, syntax, notation, axiom, sorry.
-/
import Derived.Test.YtijcecakofmhcaaDoorChecked
import GoSem.Claim
import GoSem.ClaimJoined
import GoSem.ClaimMapViews
import Derived.JoinedTies
import Derived.KernelRfl
namespace Go.Proofs.YtijcecakofmhcaaDoor
/- THE CELL 'sum', in the pinned program and in every row, IS THE sha256 OF THE DUMP (.gsa) THAT YtijcecakofmhcaaDoorProg.lean LOADS. Nothing in Lean hashes anything: it is a label: what it is worth is what the hold of that sum in a sandbox is worth. -/
noncomputable def Tryd.pinned : Pinned := { name := "ytijcecakofmhcaadoor", sum := "3caaf8616ec43aaf6fa1de70fb5a8d16d0694f29b19833ffdbc9dc40a05f452b", checked := Tryd.checked }
namespace Rows
def none {H : Type} : Left H := { results := [], args := [] }

/- WHAT THE LISTED PACKAGE-LEVEL VARIABLES READ AS WHEN THE CALL BEGINS. Each datum BY PROGRAM (the guide's laid-datum.mjs) off the statement by which the dump's own 'gosem.cut.vars' lays the variable. In a bare row this is a premise. The card (YtijcecakofmhcaaDoorCards.lean) ties it to the program's text. -/
def laid_shawm_pcm_rates {H : Type} : DataW H := .agg [.lit (.int .i64 8000), .lit (.int .i64 11025), .lit (.int .i64 12000), .lit (.int .i64 16000), .lit (.int .i64 22050), .lit (.int .i64 24000), .lit (.int .i64 32000), .lit (.int .i64 44100), .lit (.int .i64 48000)]

/-- 'shawmlaw02.PcmWaves': WHATEVER THE INPUT: true; the input reads as it did. -/
def pcmWavesSpec : ChangeSpec := { name := "pcmWaves", fn := fun _ => fun
  | [d1, d2] => { results := [.lit (.bool true)], args := [d1, d2] }
  | _ => none }
def pcmWavesRow : OpenClaim := { program := "ytijcecakofmhcaadoor", sum := "3caaf8616ec43aaf6fa1de70fb5a8d16d0694f29b19833ffdbc9dc40a05f452b", func := "shawm/shawmlaw02.PcmWaves", spec := "pcmWaves", unfollowed := true, recurses := true, named := ["shawm/pcm.rates"], apart := false, laid := [("shawm/pcm.rates", laid_shawm_pcm_rates)] }
def PcmWavesSaid : Prop := pcmWavesRow.holds Tryd.pinned (OpenSpec.ofChange pcmWavesSpec)

/-- ITS FALSE NEIGHBOUR: 'it returns false'. Refute it at one input. -/
def pcmWavesWrong : ChangeSpec := { name := "pcmWaves", fn := fun _ => fun
  | [d1, d2] => { results := [.lit (.bool false)], args := [d1, d2] }
  | _ => none }
def PcmWavesWrongFalsely : Prop := pcmWavesRow.holds Tryd.pinned (OpenSpec.ofChange pcmWavesWrong)

/-- 'shawmlaw02.PcmSplits': WHATEVER THE INPUT: true; the input reads as it did. -/
def pcmSplitsSpec : ChangeSpec := { name := "pcmSplits", fn := fun _ => fun
  | [d1, d2, d3] => { results := [.lit (.bool true)], args := [d1, d2, d3] }
  | _ => none }
def pcmSplitsRow : OpenClaim := { program := "ytijcecakofmhcaadoor", sum := "3caaf8616ec43aaf6fa1de70fb5a8d16d0694f29b19833ffdbc9dc40a05f452b", func := "shawm/shawmlaw02.PcmSplits", spec := "pcmSplits", unfollowed := true, recurses := true, named := ["shawm/pcm.rates"], apart := false, laid := [("shawm/pcm.rates", laid_shawm_pcm_rates)] }
def PcmSplitsSaid : Prop := pcmSplitsRow.holds Tryd.pinned (OpenSpec.ofChange pcmSplitsSpec)

/-- ITS FALSE NEIGHBOUR: 'it returns false'. Refute it at one input. -/
def pcmSplitsWrong : ChangeSpec := { name := "pcmSplits", fn := fun _ => fun
  | [d1, d2, d3] => { results := [.lit (.bool false)], args := [d1, d2, d3] }
  | _ => none }
def PcmSplitsWrongFalsely : Prop := pcmSplitsRow.holds Tryd.pinned (OpenSpec.ofChange pcmSplitsWrong)

/-- 'shawmlaw02.PcmBack': WHATEVER THE INPUT: true; the input reads as it did. -/
def pcmBackSpec : ChangeSpec := { name := "pcmBack", fn := fun _ => fun
  | [d1, d2] => { results := [.lit (.bool true)], args := [d1, d2] }
  | _ => none }
def pcmBackRow : OpenClaim := { program := "ytijcecakofmhcaadoor", sum := "3caaf8616ec43aaf6fa1de70fb5a8d16d0694f29b19833ffdbc9dc40a05f452b", func := "shawm/shawmlaw02.PcmBack", spec := "pcmBack", unfollowed := true, recurses := true, named := ["shawm/pcm.rates"], apart := false, laid := [("shawm/pcm.rates", laid_shawm_pcm_rates)] }
def PcmBackSaid : Prop := pcmBackRow.holds Tryd.pinned (OpenSpec.ofChange pcmBackSpec)

/-- ITS FALSE NEIGHBOUR: 'it returns false'. Refute it at one input. -/
def pcmBackWrong : ChangeSpec := { name := "pcmBack", fn := fun _ => fun
  | [d1, d2] => { results := [.lit (.bool false)], args := [d1, d2] }
  | _ => none }
def PcmBackWrongFalsely : Prop := pcmBackRow.holds Tryd.pinned (OpenSpec.ofChange pcmBackWrong)

/-- 'shawmlaw02.PcmCuts': WHATEVER THE INPUT: true; the input reads as it did. -/
def pcmCutsSpec : ChangeSpec := { name := "pcmCuts", fn := fun _ => fun
  | [d1, d2] => { results := [.lit (.bool true)], args := [d1, d2] }
  | _ => none }
def pcmCutsRow : OpenClaim := { program := "ytijcecakofmhcaadoor", sum := "3caaf8616ec43aaf6fa1de70fb5a8d16d0694f29b19833ffdbc9dc40a05f452b", func := "shawm/shawmlaw02.PcmCuts", spec := "pcmCuts", unfollowed := true, recurses := true, named := ["shawm/pcm.rates"], apart := false, laid := [("shawm/pcm.rates", laid_shawm_pcm_rates)] }
def PcmCutsSaid : Prop := pcmCutsRow.holds Tryd.pinned (OpenSpec.ofChange pcmCutsSpec)

/-- ITS FALSE NEIGHBOUR: 'it returns false'. Refute it at one input. -/
def pcmCutsWrong : ChangeSpec := { name := "pcmCuts", fn := fun _ => fun
  | [d1, d2] => { results := [.lit (.bool false)], args := [d1, d2] }
  | _ => none }
def PcmCutsWrongFalsely : Prop := pcmCutsRow.holds Tryd.pinned (OpenSpec.ofChange pcmCutsWrong)

/-- 'shawmlaw02.PcmMixed': WHATEVER THE INPUT: true; the input reads as it did. -/
def pcmMixedSpec : ChangeSpec := { name := "pcmMixed", fn := fun _ => fun
  | [d1, d2, d3] => { results := [.lit (.bool true)], args := [d1, d2, d3] }
  | _ => none }
def pcmMixedRow : OpenClaim := { program := "ytijcecakofmhcaadoor", sum := "3caaf8616ec43aaf6fa1de70fb5a8d16d0694f29b19833ffdbc9dc40a05f452b", func := "shawm/shawmlaw02.PcmMixed", spec := "pcmMixed", unfollowed := true, recurses := true, named := ["shawm/pcm.rates"], apart := false, laid := [("shawm/pcm.rates", laid_shawm_pcm_rates)] }
def PcmMixedSaid : Prop := pcmMixedRow.holds Tryd.pinned (OpenSpec.ofChange pcmMixedSpec)

/-- ITS FALSE NEIGHBOUR: 'it returns false'. Refute it at one input. -/
def pcmMixedWrong : ChangeSpec := { name := "pcmMixed", fn := fun _ => fun
  | [d1, d2, d3] => { results := [.lit (.bool false)], args := [d1, d2, d3] }
  | _ => none }
def PcmMixedWrongFalsely : Prop := pcmMixedRow.holds Tryd.pinned (OpenSpec.ofChange pcmMixedWrong)

/-- 'shawmlaw02.PcmMixes': WHATEVER THE INPUT: true; the input reads as it did. -/
def pcmMixesSpec : ChangeSpec := { name := "pcmMixes", fn := fun _ => fun
  | [d1, d2, d3] => { results := [.lit (.bool true)], args := [d1, d2, d3] }
  | _ => none }
def pcmMixesRow : OpenClaim := { program := "ytijcecakofmhcaadoor", sum := "3caaf8616ec43aaf6fa1de70fb5a8d16d0694f29b19833ffdbc9dc40a05f452b", func := "shawm/shawmlaw02.PcmMixes", spec := "pcmMixes", unfollowed := true, recurses := true, named := ["shawm/pcm.rates"], apart := false, laid := [("shawm/pcm.rates", laid_shawm_pcm_rates)] }
def PcmMixesSaid : Prop := pcmMixesRow.holds Tryd.pinned (OpenSpec.ofChange pcmMixesSpec)

/-- ITS FALSE NEIGHBOUR: 'it returns false'. Refute it at one input. -/
def pcmMixesWrong : ChangeSpec := { name := "pcmMixes", fn := fun _ => fun
  | [d1, d2, d3] => { results := [.lit (.bool false)], args := [d1, d2, d3] }
  | _ => none }
def PcmMixesWrongFalsely : Prop := pcmMixesRow.holds Tryd.pinned (OpenSpec.ofChange pcmMixesWrong)

/-- 'shawmlaw02.PcmParts': WHATEVER THE INPUT: true; the input reads as it did. -/
def pcmPartsSpec : ChangeSpec := { name := "pcmParts", fn := fun _ => fun
  | [d1, d2] => { results := [.lit (.bool true)], args := [d1, d2] }
  | _ => none }
def pcmPartsRow : OpenClaim := { program := "ytijcecakofmhcaadoor", sum := "3caaf8616ec43aaf6fa1de70fb5a8d16d0694f29b19833ffdbc9dc40a05f452b", func := "shawm/shawmlaw02.PcmParts", spec := "pcmParts", unfollowed := true, recurses := true, named := ["shawm/pcm.rates"], apart := false, laid := [("shawm/pcm.rates", laid_shawm_pcm_rates)] }
def PcmPartsSaid : Prop := pcmPartsRow.holds Tryd.pinned (OpenSpec.ofChange pcmPartsSpec)

/-- ITS FALSE NEIGHBOUR: 'it returns false'. Refute it at one input. -/
def pcmPartsWrong : ChangeSpec := { name := "pcmParts", fn := fun _ => fun
  | [d1, d2] => { results := [.lit (.bool false)], args := [d1, d2] }
  | _ => none }
def PcmPartsWrongFalsely : Prop := pcmPartsRow.holds Tryd.pinned (OpenSpec.ofChange pcmPartsWrong)

/-- 'shawmlaw02.PcmOwn': WHATEVER THE INPUT: true; the input reads as it did. -/
def pcmOwnSpec : ChangeSpec := { name := "pcmOwn", fn := fun _ => fun
  | [d1, d2] => { results := [.lit (.bool true)], args := [d1, d2] }
  | _ => none }
def pcmOwnRow : OpenClaim := { program := "ytijcecakofmhcaadoor", sum := "3caaf8616ec43aaf6fa1de70fb5a8d16d0694f29b19833ffdbc9dc40a05f452b", func := "shawm/shawmlaw02.PcmOwn", spec := "pcmOwn", unfollowed := true, recurses := true, named := ["shawm/pcm.rates"], apart := false, laid := [("shawm/pcm.rates", laid_shawm_pcm_rates)] }
def PcmOwnSaid : Prop := pcmOwnRow.holds Tryd.pinned (OpenSpec.ofChange pcmOwnSpec)

/-- ITS FALSE NEIGHBOUR: 'it returns false'. Refute it at one input. -/
def pcmOwnWrong : ChangeSpec := { name := "pcmOwn", fn := fun _ => fun
  | [d1, d2] => { results := [.lit (.bool false)], args := [d1, d2] }
  | _ => none }
def PcmOwnWrongFalsely : Prop := pcmOwnRow.holds Tryd.pinned (OpenSpec.ofChange pcmOwnWrong)

/-- 'shawmlaw02.PcmChecks': WHATEVER THE INPUT: true; the input reads as it did. -/
def pcmChecksSpec : ChangeSpec := { name := "pcmChecks", fn := fun _ => fun
  | [d1, d2] => { results := [.lit (.bool true)], args := [d1, d2] }
  | _ => none }
def pcmChecksRow : OpenClaim := { program := "ytijcecakofmhcaadoor", sum := "3caaf8616ec43aaf6fa1de70fb5a8d16d0694f29b19833ffdbc9dc40a05f452b", func := "shawm/shawmlaw02.PcmChecks", spec := "pcmChecks", unfollowed := true, recurses := true, named := ["shawm/pcm.rates"], apart := false, laid := [("shawm/pcm.rates", laid_shawm_pcm_rates)] }
def PcmChecksSaid : Prop := pcmChecksRow.holds Tryd.pinned (OpenSpec.ofChange pcmChecksSpec)

/-- ITS FALSE NEIGHBOUR: 'it returns false'. Refute it at one input. -/
def pcmChecksWrong : ChangeSpec := { name := "pcmChecks", fn := fun _ => fun
  | [d1, d2] => { results := [.lit (.bool false)], args := [d1, d2] }
  | _ => none }
def PcmChecksWrongFalsely : Prop := pcmChecksRow.holds Tryd.pinned (OpenSpec.ofChange pcmChecksWrong)

/- THE SECOND FORM. 'bulk': how many values and letters a reading holds, each counted each time it is reached (what is shared counts as often as it is met; a slice's spare places count too). A statement '..UptoSaid' is the law's where the arguments, and the package variables that the reading takes, are together of bulk at most 1048576: NARROWER than '..Said'. Prove '..Said' where nothing that the law and all that it calls make is longer than what came in: it says more and counts as full. Else prove '..UptoSaid'. A law counts once. -/
mutual
def uptoBulk {H : Type} : DataW H → Nat
  | .lit (.string bytes) => bytes.length + 1
  | .lit _ => 1
  | .nil => 1
  | .ptr d => uptoBulk d + 1
  | .slice elems spare => uptoBulkAll elems + uptoBulkAll spare + 1
  | .agg parts => uptoBulkAll parts + 1
  | .iface _ d => uptoBulk d + 1
  | .map entries => uptoBulkEntries entries + 1
  | .held _ => 1
def uptoBulkAll {H : Type} : List (DataW H) → Nat
  | [] => 0
  | d :: r => uptoBulk d + uptoBulkAll r
def uptoBulkEntries {H : Type} : List (Lit × DataW H) → Nat
  | [] => 0
  | x :: r => uptoBulkEntry x + uptoBulkEntries r
def uptoBulkEntry {H : Type} : Lit × DataW H → Nat
  | (.string bytes, d) => bytes.length + uptoBulk d + 1
  | (_, d) => uptoBulk d + 1
 end
def uptoSmall : (H : Type) → List (DataW H) → Bool := fun _ ds => decide (uptoBulkAll ds ≤ 1048576)
def OpenSpec.upto (s : _root_.Go.ChangeSpec) : _root_.Go.OpenSpec := { _root_.Go.OpenSpec.ofChange s with cond := some uptoSmall }

/-- 'shawmlaw02.PcmWaves', WHERE WHAT IT READS IS OF BULK AT MOST 1048576: true; the input reads as it did. -/
def pcmWavesUptoRow : OpenClaim := { program := "ytijcecakofmhcaadoor", sum := "3caaf8616ec43aaf6fa1de70fb5a8d16d0694f29b19833ffdbc9dc40a05f452b", func := "shawm/shawmlaw02.PcmWaves", spec := "pcmWaves", unfollowed := true, recurses := true, named := ["shawm/pcm.rates"], apart := false, laid := [("shawm/pcm.rates", laid_shawm_pcm_rates)], narrowed := true }
def PcmWavesUptoSaid : Prop := pcmWavesUptoRow.holds Tryd.pinned (OpenSpec.upto pcmWavesSpec)

/-- 'shawmlaw02.PcmSplits', WHERE WHAT IT READS IS OF BULK AT MOST 1048576: true; the input reads as it did. -/
def pcmSplitsUptoRow : OpenClaim := { program := "ytijcecakofmhcaadoor", sum := "3caaf8616ec43aaf6fa1de70fb5a8d16d0694f29b19833ffdbc9dc40a05f452b", func := "shawm/shawmlaw02.PcmSplits", spec := "pcmSplits", unfollowed := true, recurses := true, named := ["shawm/pcm.rates"], apart := false, laid := [("shawm/pcm.rates", laid_shawm_pcm_rates)], narrowed := true }
def PcmSplitsUptoSaid : Prop := pcmSplitsUptoRow.holds Tryd.pinned (OpenSpec.upto pcmSplitsSpec)

/-- 'shawmlaw02.PcmBack', WHERE WHAT IT READS IS OF BULK AT MOST 1048576: true; the input reads as it did. -/
def pcmBackUptoRow : OpenClaim := { program := "ytijcecakofmhcaadoor", sum := "3caaf8616ec43aaf6fa1de70fb5a8d16d0694f29b19833ffdbc9dc40a05f452b", func := "shawm/shawmlaw02.PcmBack", spec := "pcmBack", unfollowed := true, recurses := true, named := ["shawm/pcm.rates"], apart := false, laid := [("shawm/pcm.rates", laid_shawm_pcm_rates)], narrowed := true }
def PcmBackUptoSaid : Prop := pcmBackUptoRow.holds Tryd.pinned (OpenSpec.upto pcmBackSpec)

/-- 'shawmlaw02.PcmCuts', WHERE WHAT IT READS IS OF BULK AT MOST 1048576: true; the input reads as it did. -/
def pcmCutsUptoRow : OpenClaim := { program := "ytijcecakofmhcaadoor", sum := "3caaf8616ec43aaf6fa1de70fb5a8d16d0694f29b19833ffdbc9dc40a05f452b", func := "shawm/shawmlaw02.PcmCuts", spec := "pcmCuts", unfollowed := true, recurses := true, named := ["shawm/pcm.rates"], apart := false, laid := [("shawm/pcm.rates", laid_shawm_pcm_rates)], narrowed := true }
def PcmCutsUptoSaid : Prop := pcmCutsUptoRow.holds Tryd.pinned (OpenSpec.upto pcmCutsSpec)

/-- 'shawmlaw02.PcmMixed', WHERE WHAT IT READS IS OF BULK AT MOST 1048576: true; the input reads as it did. -/
def pcmMixedUptoRow : OpenClaim := { program := "ytijcecakofmhcaadoor", sum := "3caaf8616ec43aaf6fa1de70fb5a8d16d0694f29b19833ffdbc9dc40a05f452b", func := "shawm/shawmlaw02.PcmMixed", spec := "pcmMixed", unfollowed := true, recurses := true, named := ["shawm/pcm.rates"], apart := false, laid := [("shawm/pcm.rates", laid_shawm_pcm_rates)], narrowed := true }
def PcmMixedUptoSaid : Prop := pcmMixedUptoRow.holds Tryd.pinned (OpenSpec.upto pcmMixedSpec)

/-- 'shawmlaw02.PcmMixes', WHERE WHAT IT READS IS OF BULK AT MOST 1048576: true; the input reads as it did. -/
def pcmMixesUptoRow : OpenClaim := { program := "ytijcecakofmhcaadoor", sum := "3caaf8616ec43aaf6fa1de70fb5a8d16d0694f29b19833ffdbc9dc40a05f452b", func := "shawm/shawmlaw02.PcmMixes", spec := "pcmMixes", unfollowed := true, recurses := true, named := ["shawm/pcm.rates"], apart := false, laid := [("shawm/pcm.rates", laid_shawm_pcm_rates)], narrowed := true }
def PcmMixesUptoSaid : Prop := pcmMixesUptoRow.holds Tryd.pinned (OpenSpec.upto pcmMixesSpec)

/-- 'shawmlaw02.PcmParts', WHERE WHAT IT READS IS OF BULK AT MOST 1048576: true; the input reads as it did. -/
def pcmPartsUptoRow : OpenClaim := { program := "ytijcecakofmhcaadoor", sum := "3caaf8616ec43aaf6fa1de70fb5a8d16d0694f29b19833ffdbc9dc40a05f452b", func := "shawm/shawmlaw02.PcmParts", spec := "pcmParts", unfollowed := true, recurses := true, named := ["shawm/pcm.rates"], apart := false, laid := [("shawm/pcm.rates", laid_shawm_pcm_rates)], narrowed := true }
def PcmPartsUptoSaid : Prop := pcmPartsUptoRow.holds Tryd.pinned (OpenSpec.upto pcmPartsSpec)

/-- 'shawmlaw02.PcmOwn', WHERE WHAT IT READS IS OF BULK AT MOST 1048576: true; the input reads as it did. -/
def pcmOwnUptoRow : OpenClaim := { program := "ytijcecakofmhcaadoor", sum := "3caaf8616ec43aaf6fa1de70fb5a8d16d0694f29b19833ffdbc9dc40a05f452b", func := "shawm/shawmlaw02.PcmOwn", spec := "pcmOwn", unfollowed := true, recurses := true, named := ["shawm/pcm.rates"], apart := false, laid := [("shawm/pcm.rates", laid_shawm_pcm_rates)], narrowed := true }
def PcmOwnUptoSaid : Prop := pcmOwnUptoRow.holds Tryd.pinned (OpenSpec.upto pcmOwnSpec)

/-- 'shawmlaw02.PcmChecks', WHERE WHAT IT READS IS OF BULK AT MOST 1048576: true; the input reads as it did. -/
def pcmChecksUptoRow : OpenClaim := { program := "ytijcecakofmhcaadoor", sum := "3caaf8616ec43aaf6fa1de70fb5a8d16d0694f29b19833ffdbc9dc40a05f452b", func := "shawm/shawmlaw02.PcmChecks", spec := "pcmChecks", unfollowed := true, recurses := true, named := ["shawm/pcm.rates"], apart := false, laid := [("shawm/pcm.rates", laid_shawm_pcm_rates)], narrowed := true }
def PcmChecksUptoSaid : Prop := pcmChecksUptoRow.holds Tryd.pinned (OpenSpec.upto pcmChecksSpec)

end Rows
end Go.Proofs.YtijcecakofmhcaaDoor
