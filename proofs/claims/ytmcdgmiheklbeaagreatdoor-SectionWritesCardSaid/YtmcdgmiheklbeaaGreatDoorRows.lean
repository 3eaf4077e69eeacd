/-
  NARROWER THAN 'FOR EVERY INPUT', by the rows' own cells (each row's printed sentence says how): SectionCosts: laid · SectionWrites: laid · SectionChooses: laid.
  DERIVED. THE GIVEN ROWS OF THIS SEAT. 3 by the template 'for every input the law returns true; each argument reads behind the call as it read before'; 0 by the template 'total and deterministic' (their statements: YtmcdgmiheklbeaaGreatDoorTotals.lean).
  GIVEN WITH THE SEED: the statements are not yours to turn. If you find one false, say at which input.
  Laid BY PROGRAM, IN A SANDBOX (cutbox-rows.mjs): the forced cells as the released guide's own fill.sh prints them over the translation d47140083f66a323… (all of the seat's roots in one cut). By AI agents, Wed Nov 11 2026. No macro, syntax, notation, axiom, sorry.
-/
import Derived.Test.YtmcdgmiheklbeaaGreatDoorChecked
import GoSem.Claim
import GoSem.ClaimJoined
import GoSem.ClaimMapViews
import Derived.JoinedTies
import Derived.KernelRfl
namespace Go.Proofs.YtmcdgmiheklbeaaGreatDoor
/- THE CELL 'sum', in the pinned program and in every row, IS THE sha256 OF THE DUMP (.gsa) THAT YtmcdgmiheklbeaaGreatDoorProg.lean LOADS. Nothing in Lean hashes anything: it is a label: what it is worth is what the hold of that sum in a sandbox is worth. -/
noncomputable def Tryz.pinned : Pinned := { name := "ytmcdgmiheklbeaagreatdoor", sum := "d47140083f66a3237ec8f6bbc14f3fd09932bfad534e478198e5457278632c10", checked := Tryz.checked }
namespace Rows
def none {H : Type} : Left H := { results := [], args := [] }

/- WHAT THE LISTED PACKAGE-LEVEL VARIABLES READ AS WHEN THE CALL BEGINS. Each datum BY PROGRAM (the guide's laid-datum.mjs) off the statement by which the dump's own 'gosem.cut.vars' lays the variable. In a bare row this is a premise. The card (YtmcdgmiheklbeaaGreatDoorCards.lean) ties it to the program's text. -/
def laid_shawm_book_forms {H : Type} : DataW H := .agg [.agg [.lit (.int .i64 1), .lit (.int .i64 0), .lit (.bool false)], .agg [.lit (.int .i64 4), .lit (.int .i64 1), .lit (.bool false)], .agg [.lit (.int .i64 4), .lit (.int .i64 2), .lit (.bool false)], .agg [.lit (.int .i64 2), .lit (.int .i64 4), .lit (.bool false)], .agg [.lit (.int .i64 2), .lit (.int .i64 7), .lit (.bool false)], .agg [.lit (.int .i64 2), .lit (.int .i64 12), .lit (.bool false)], .agg [.lit (.int .i64 2), .lit (.int .i64 15), .lit (.bool true)], .agg [.lit (.int .i64 1), .lit (.int .i64 31), .lit (.bool true)]]
def laid_shawm_book_tables {H : Type} : DataW H := .agg [.lit (.string []), .lit (.string [98, 99, 99, 101, 99, 101, 101, 103, 99, 101, 101, 102, 101, 102, 102, 103]), .lit (.string [99, 100, 101, 100, 101, 103, 101, 103, 104, 100, 101, 103, 101, 103, 104, 103, 104, 105, 101, 103, 104, 103, 104, 105, 104, 105, 106, 100, 101, 102, 101, 102, 104, 102, 104, 105, 101, 102, 104, 102, 104, 105, 104, 105, 106, 102, 104, 105, 104, 105, 106, 105, 106, 108, 101, 102, 104, 102, 104, 105, 104, 105, 106, 102, 104, 105, 104, 105, 106, 105, 106, 107, 104, 105, 106, 105, 106, 107, 106, 107, 108]), .lit (.string [98, 99, 100, 101, 102, 99, 100, 101, 102, 102, 100, 101, 102, 102, 103, 101, 102, 102, 103, 105, 101, 102, 103, 104, 105]), .lit (.string [99, 100, 100, 101, 101, 102, 103, 103, 100, 100, 101, 101, 102, 103, 103, 104, 100, 101, 101, 102, 103, 103, 104, 104, 101, 101, 102, 103, 103, 104, 104, 105, 101, 102, 103, 103, 104, 104, 105, 106, 102, 103, 103, 104, 104, 105, 106, 106, 103, 103, 104, 104, 105, 106, 106, 107, 103, 104, 104, 105, 105, 106, 106, 107]), .lit (.string [101, 101, 101, 102, 102, 102, 102, 103, 103, 103, 104, 104, 104, 101, 101, 102, 102, 102, 102, 103, 103, 103, 104, 104, 104, 105, 101, 102, 102, 102, 102, 103, 103, 103, 104, 104, 104, 105, 105, 102, 102, 102, 102, 103, 103, 103, 104, 104, 104, 105, 105, 105, 102, 102, 102, 103, 103, 103, 104, 104, 104, 105, 105, 105, 105, 102, 102, 103, 103, 103, 104, 104, 104, 105, 105, 105, 105, 106, 102, 103, 103, 103, 104, 104, 104, 105, 105, 105, 105, 106, 106, 103, 103, 103, 104, 104, 104, 105, 105, 105, 105, 106, 106, 106, 103, 103, 104, 104, 104, 105, 105, 105, 105, 106, 106, 106, 107, 103, 104, 104, 104, 104, 105, 105, 105, 106, 106, 106, 107, 107, 104, 104, 104, 104, 105, 105, 105, 106, 106, 106, 107, 107, 107, 104, 104, 104, 105, 105, 105, 106, 106, 106, 107, 107, 107, 108, 104, 104, 105, 105, 105, 106, 106, 106, 107, 107, 107, 107, 108]), .lit (.string [100, 100, 101, 101, 102, 102, 103, 103, 103, 104, 104, 105, 105, 105, 106, 106, 100, 101, 101, 102, 102, 103, 103, 103, 104, 104, 105, 105, 105, 106, 106, 107, 101, 101, 102, 102, 103, 103, 103, 104, 104, 105, 105, 105, 106, 106, 107, 107, 101, 102, 102, 103, 103, 103, 104, 104, 105, 105, 105, 106, 106, 107, 107, 107, 102, 102, 103, 103, 103, 104, 104, 105, 105, 105, 106, 106, 107, 107, 107, 108, 102, 102, 103, 103, 104, 104, 105, 105, 105, 106, 106, 107, 107, 107, 108, 108, 102, 103, 103, 104, 104, 105, 105, 105, 106, 106, 107, 107, 107, 108, 108, 109, 103, 103, 104, 104, 105, 105, 105, 106, 106, 107, 107, 107, 108, 108, 109, 109, 103, 104, 104, 105, 105, 105, 106, 106, 107, 107, 107, 108, 108, 109, 109, 110, 104, 104, 105, 105, 105, 106, 106, 107, 107, 107, 108, 108, 109, 109, 110, 110, 104, 105, 105, 105, 106, 106, 107, 107, 107, 108, 108, 109, 109, 110, 110, 110, 105, 105, 105, 106, 106, 107, 107, 107, 108, 108, 109, 109, 110, 110, 110, 111, 105, 105, 106, 106, 107, 107, 107, 108, 108, 109, 109, 110, 110, 110, 111, 111, 105, 106, 106, 107, 107, 107, 108, 108, 109, 109, 109, 110, 110, 111, 111, 112, 106, 106, 107, 107, 107, 108, 108, 109, 109, 109, 110, 110, 111, 111, 112, 112, 106, 107, 107, 107, 108, 108, 109, 109, 109, 110, 110, 111, 111, 112, 112, 112]), .lit (.string [99, 99, 99, 100, 100, 100, 100, 100, 101, 101, 101, 101, 101, 102, 102, 102, 102, 102, 102, 103, 103, 103, 103, 103, 104, 104, 104, 104, 105, 105, 105, 105])]

/-- 'shawmlaw18.SectionCosts': WHATEVER THE INPUT: true; the input reads as it did. -/
def sectionCostsSpec : ChangeSpec := { name := "sectionCosts", fn := fun _ => fun
  | [d] => { results := [.lit (.bool true)], args := [d] }
  | _ => none }
def sectionCostsRow : OpenClaim := { program := "ytmcdgmiheklbeaagreatdoor", sum := "d47140083f66a3237ec8f6bbc14f3fd09932bfad534e478198e5457278632c10", func := "shawm/shawmlaw18.SectionCosts", spec := "sectionCosts", unfollowed := true, recurses := true, named := ["shawm/book.forms", "shawm/book.tables"], plainKeys := false, apart := false, laid := [("shawm/book.forms", laid_shawm_book_forms), ("shawm/book.tables", laid_shawm_book_tables)] }
def SectionCostsSaid : Prop := sectionCostsRow.holds Tryz.pinned (OpenSpec.ofChange sectionCostsSpec)

/-- ITS FALSE NEIGHBOUR: 'it returns false'. Refute it at one input. -/
def sectionCostsWrong : ChangeSpec := { name := "sectionCosts", fn := fun _ => fun
  | [d] => { results := [.lit (.bool false)], args := [d] }
  | _ => none }
def SectionCostsWrongFalsely : Prop := sectionCostsRow.holds Tryz.pinned (OpenSpec.ofChange sectionCostsWrong)

/-- 'shawmlaw18.SectionWrites': WHATEVER THE INPUT: true; the input reads as it did. -/
def sectionWritesSpec : ChangeSpec := { name := "sectionWrites", fn := fun _ => fun
  | [d1, d2] => { results := [.lit (.bool true)], args := [d1, d2] }
  | _ => none }
def sectionWritesRow : OpenClaim := { program := "ytmcdgmiheklbeaagreatdoor", sum := "d47140083f66a3237ec8f6bbc14f3fd09932bfad534e478198e5457278632c10", func := "shawm/shawmlaw18.SectionWrites", spec := "sectionWrites", unfollowed := true, recurses := true, named := ["shawm/book.forms", "shawm/book.tables"], plainKeys := false, apart := false, laid := [("shawm/book.forms", laid_shawm_book_forms), ("shawm/book.tables", laid_shawm_book_tables)] }
def SectionWritesSaid : Prop := sectionWritesRow.holds Tryz.pinned (OpenSpec.ofChange sectionWritesSpec)

/-- ITS FALSE NEIGHBOUR: 'it returns false'. Refute it at one input. -/
def sectionWritesWrong : ChangeSpec := { name := "sectionWrites", fn := fun _ => fun
  | [d1, d2] => { results := [.lit (.bool false)], args := [d1, d2] }
  | _ => none }
def SectionWritesWrongFalsely : Prop := sectionWritesRow.holds Tryz.pinned (OpenSpec.ofChange sectionWritesWrong)

/-- 'shawmlaw18.SectionChooses': WHATEVER THE INPUT: true; the input reads as it did. -/
def sectionChoosesSpec : ChangeSpec := { name := "sectionChooses", fn := fun _ => fun
  | [d] => { results := [.lit (.bool true)], args := [d] }
  | _ => none }
def sectionChoosesRow : OpenClaim := { program := "ytmcdgmiheklbeaagreatdoor", sum := "d47140083f66a3237ec8f6bbc14f3fd09932bfad534e478198e5457278632c10", func := "shawm/shawmlaw18.SectionChooses", spec := "sectionChooses", unfollowed := true, recurses := true, named := ["shawm/book.forms", "shawm/book.tables"], plainKeys := false, apart := false, laid := [("shawm/book.forms", laid_shawm_book_forms), ("shawm/book.tables", laid_shawm_book_tables)] }
def SectionChoosesSaid : Prop := sectionChoosesRow.holds Tryz.pinned (OpenSpec.ofChange sectionChoosesSpec)

/-- ITS FALSE NEIGHBOUR: 'it returns false'. Refute it at one input. -/
def sectionChoosesWrong : ChangeSpec := { name := "sectionChooses", fn := fun _ => fun
  | [d] => { results := [.lit (.bool false)], args := [d] }
  | _ => none }
def SectionChoosesWrongFalsely : Prop := sectionChoosesRow.holds Tryz.pinned (OpenSpec.ofChange sectionChoosesWrong)

/- THE SECOND FORM. 'bulk': how many values and letters a reading holds, each counted each time it is reached (what is shared counts as often as it is met; a slice's spare places count too). A statement '..UptoSaid' is the law's where the arguments, and the package variables that the reading takes, are together of bulk at most 1048576: NARROWER than '..Said'. Prove '..Said' where nothing that the law and all that it calls make is longer than what came in: it says more and counts as full. Else prove '..UptoSaid'. A law counts once. -/
mutual
def uptoBulk {H : Type} : DataW H → Nat
  | .lit (.string bytes) => bytes.length + 1
  | .lit _ => 1
  | .nil => 1
  | .ptr d => uptoBulk d + 1
  | .slice elems spare => uptoBulkAll elems + uptoBulkAll spare + 1
  | .agg parts => uptoBulkAll parts + 1
  | .iface _ d => uptoBulk d + 1
  | .map entries => uptoBulkEntries entries + 1
  | .held _ => 1
def uptoBulkAll {H : Type} : List (DataW H) → Nat
  | [] => 0
  | d :: r => uptoBulk d + uptoBulkAll r
def uptoBulkEntries {H : Type} : List (Lit × DataW H) → Nat
  | [] => 0
  | x :: r => uptoBulkEntry x + uptoBulkEntries r
def uptoBulkEntry {H : Type} : Lit × DataW H → Nat
  | (.string bytes, d) => bytes.length + uptoBulk d + 1
  | (_, d) => uptoBulk d + 1
 end
def uptoSmall : (H : Type) → List (DataW H) → Bool := fun _ ds => decide (uptoBulkAll ds ≤ 1048576)
def OpenSpec.upto (s : _root_.Go.ChangeSpec) : _root_.Go.OpenSpec := { _root_.Go.OpenSpec.ofChange s with cond := some uptoSmall }

/-- 'shawmlaw18.SectionCosts', WHERE WHAT IT READS IS OF BULK AT MOST 1048576: true; the input reads as it did. -/
def sectionCostsUptoRow : OpenClaim := { program := "ytmcdgmiheklbeaagreatdoor", sum := "d47140083f66a3237ec8f6bbc14f3fd09932bfad534e478198e5457278632c10", func := "shawm/shawmlaw18.SectionCosts", spec := "sectionCosts", unfollowed := true, recurses := true, named := ["shawm/book.forms", "shawm/book.tables"], plainKeys := false, apart := false, laid := [("shawm/book.forms", laid_shawm_book_forms), ("shawm/book.tables", laid_shawm_book_tables)], narrowed := true }
def SectionCostsUptoSaid : Prop := sectionCostsUptoRow.holds Tryz.pinned (OpenSpec.upto sectionCostsSpec)

/-- 'shawmlaw18.SectionWrites', WHERE WHAT IT READS IS OF BULK AT MOST 1048576: true; the input reads as it did. -/
def sectionWritesUptoRow : OpenClaim := { program := "ytmcdgmiheklbeaagreatdoor", sum := "d47140083f66a3237ec8f6bbc14f3fd09932bfad534e478198e5457278632c10", func := "shawm/shawmlaw18.SectionWrites", spec := "sectionWrites", unfollowed := true, recurses := true, named := ["shawm/book.forms", "shawm/book.tables"], plainKeys := false, apart := false, laid := [("shawm/book.forms", laid_shawm_book_forms), ("shawm/book.tables", laid_shawm_book_tables)], narrowed := true }
def SectionWritesUptoSaid : Prop := sectionWritesUptoRow.holds Tryz.pinned (OpenSpec.upto sectionWritesSpec)

/-- 'shawmlaw18.SectionChooses', WHERE WHAT IT READS IS OF BULK AT MOST 1048576: true; the input reads as it did. -/
def sectionChoosesUptoRow : OpenClaim := { program := "ytmcdgmiheklbeaagreatdoor", sum := "d47140083f66a3237ec8f6bbc14f3fd09932bfad534e478198e5457278632c10", func := "shawm/shawmlaw18.SectionChooses", spec := "sectionChooses", unfollowed := true, recurses := true, named := ["shawm/book.forms", "shawm/book.tables"], plainKeys := false, apart := false, laid := [("shawm/book.forms", laid_shawm_book_forms), ("shawm/book.tables", laid_shawm_book_tables)], narrowed := true }
def SectionChoosesUptoSaid : Prop := sectionChoosesUptoRow.holds Tryz.pinned (OpenSpec.upto sectionChoosesSpec)

end Rows
end Go.Proofs.YtmcdgmiheklbeaaGreatDoor
