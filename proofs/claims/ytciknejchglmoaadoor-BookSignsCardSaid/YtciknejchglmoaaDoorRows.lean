/-
  NARROWER THAN 'FOR EVERY INPUT', by the rows' own cells (each row's printed sentence says how): BookShapes: laid · BookCosts: laid · BookReads: laid · BookLeast: laid · BookSigns: laid · BookWrites: laid · BookBack: laid.
  DERIVED. THE GIVEN ROWS OF THIS SEAT. 7 by the template 'for every input the law returns true; each argument reads behind the call as it read before'; 0 by the template 'total and deterministic' (their statements: YtciknejchglmoaaDoorTotals.lean).
  GIVEN WITH THE SEED: the statements are not yours to turn. If you find one false, say at which input.
  Laid BY PROGRAM, IN A SANDBOX (cutbox-rows.mjs): the forced cells as the released guide's own fill.sh prints them over the translation 27788ad76b0f5a49… (all of the seat's roots in one cut). By AI agents, Wed Nov 11 2026. No macro, syntax, notation, axiom, sorry.
-/
import Derived.Test.YtciknejchglmoaaDoorChecked
import GoSem.Claim
import GoSem.ClaimJoined
import GoSem.ClaimMapViews
import Derived.JoinedTies
import Derived.KernelRfl
namespace Go.Proofs.YtciknejchglmoaaDoor
/- THE CELL 'sum', in the pinned program and in every row, IS THE sha256 OF THE DUMP (.gsa) THAT YtciknejchglmoaaDoorProg.lean LOADS. Nothing in Lean hashes anything: it is a label: what it is worth is what the hold of that sum in a sandbox is worth. -/
noncomputable def Tryd.pinned : Pinned := { name := "ytciknejchglmoaadoor", sum := "27788ad76b0f5a496492b0bf399d7837a1fa069f21bf3d6402b26a960f6b8233", checked := Tryd.checked }
namespace Rows
def none {H : Type} : Left H := { results := [], args := [] }

/- WHAT THE LISTED PACKAGE-LEVEL VARIABLES READ AS WHEN THE CALL BEGINS. Each datum BY PROGRAM (the guide's laid-datum.mjs) off the statement by which the dump's own 'gosem.cut.vars' lays the variable. In a bare row this is a premise. The card (YtciknejchglmoaaDoorCards.lean) ties it to the program's text. -/
def laid_shawm_book_forms {H : Type} : DataW H := .agg [.agg [.lit (.int .i64 1), .lit (.int .i64 0), .lit (.bool false)], .agg [.lit (.int .i64 4), .lit (.int .i64 1), .lit (.bool false)], .agg [.lit (.int .i64 4), .lit (.int .i64 2), .lit (.bool false)], .agg [.lit (.int .i64 2), .lit (.int .i64 4), .lit (.bool false)], .agg [.lit (.int .i64 2), .lit (.int .i64 7), .lit (.bool false)], .agg [.lit (.int .i64 2), .lit (.int .i64 12), .lit (.bool false)], .agg [.lit (.int .i64 2), .lit (.int .i64 15), .lit (.bool true)], .agg [.lit (.int .i64 1), .lit (.int .i64 31), .lit (.bool true)]]
def laid_shawm_book_tables {H : Type} : DataW H := .agg [.lit (.string []), .lit (.string [98, 99, 99, 101, 99, 101, 101, 103, 99, 101, 101, 102, 101, 102, 102, 103]), .lit (.string [99, 100, 101, 100, 101, 103, 101, 103, 104, 100, 101, 103, 101, 103, 104, 103, 104, 105, 101, 103, 104, 103, 104, 105, 104, 105, 106, 100, 101, 102, 101, 102, 104, 102, 104, 105, 101, 102, 104, 102, 104, 105, 104, 105, 106, 102, 104, 105, 104, 105, 106, 105, 106, 108, 101, 102, 104, 102, 104, 105, 104, 105, 106, 102, 104, 105, 104, 105, 106, 105, 106, 107, 104, 105, 106, 105, 106, 107, 106, 107, 108]), .lit (.string [98, 99, 100, 101, 102, 99, 100, 101, 102, 102, 100, 101, 102, 102, 103, 101, 102, 102, 103, 105, 101, 102, 103, 104, 105]), .lit (.string [99, 100, 100, 101, 101, 102, 103, 103, 100, 100, 101, 101, 102, 103, 103, 104, 100, 101, 101, 102, 103, 103, 104, 104, 101, 101, 102, 103, 103, 104, 104, 105, 101, 102, 103, 103, 104, 104, 105, 106, 102, 103, 103, 104, 104, 105, 106, 106, 103, 103, 104, 104, 105, 106, 106, 107, 103, 104, 104, 105, 105, 106, 106, 107]), .lit (.string [101, 101, 101, 102, 102, 102, 102, 103, 103, 103, 104, 104, 104, 101, 101, 102, 102, 102, 102, 103, 103, 103, 104, 104, 104, 105, 101, 102, 102, 102, 102, 103, 103, 103, 104, 104, 104, 105, 105, 102, 102, 102, 102, 103, 103, 103, 104, 104, 104, 105, 105, 105, 102, 102, 102, 103, 103, 103, 104, 104, 104, 105, 105, 105, 105, 102, 102, 103, 103, 103, 104, 104, 104, 105, 105, 105, 105, 106, 102, 103, 103, 103, 104, 104, 104, 105, 105, 105, 105, 106, 106, 103, 103, 103, 104, 104, 104, 105, 105, 105, 105, 106, 106, 106, 103, 103, 104, 104, 104, 105, 105, 105, 105, 106, 106, 106, 107, 103, 104, 104, 104, 104, 105, 105, 105, 106, 106, 106, 107, 107, 104, 104, 104, 104, 105, 105, 105, 106, 106, 106, 107, 107, 107, 104, 104, 104, 105, 105, 105, 106, 106, 106, 107, 107, 107, 108, 104, 104, 105, 105, 105, 106, 106, 106, 107, 107, 107, 107, 108]), .lit (.string [100, 100, 101, 101, 102, 102, 103, 103, 103, 104, 104, 105, 105, 105, 106, 106, 100, 101, 101, 102, 102, 103, 103, 103, 104, 104, 105, 105, 105, 106, 106, 107, 101, 101, 102, 102, 103, 103, 103, 104, 104, 105, 105, 105, 106, 106, 107, 107, 101, 102, 102, 103, 103, 103, 104, 104, 105, 105, 105, 106, 106, 107, 107, 107, 102, 102, 103, 103, 103, 104, 104, 105, 105, 105, 106, 106, 107, 107, 107, 108, 102, 102, 103, 103, 104, 104, 105, 105, 105, 106, 106, 107, 107, 107, 108, 108, 102, 103, 103, 104, 104, 105, 105, 105, 106, 106, 107, 107, 107, 108, 108, 109, 103, 103, 104, 104, 105, 105, 105, 106, 106, 107, 107, 107, 108, 108, 109, 109, 103, 104, 104, 105, 105, 105, 106, 106, 107, 107, 107, 108, 108, 109, 109, 110, 104, 104, 105, 105, 105, 106, 106, 107, 107, 107, 108, 108, 109, 109, 110, 110, 104, 105, 105, 105, 106, 106, 107, 107, 107, 108, 108, 109, 109, 110, 110, 110, 105, 105, 105, 106, 106, 107, 107, 107, 108, 108, 109, 109, 110, 110, 110, 111, 105, 105, 106, 106, 107, 107, 107, 108, 108, 109, 109, 110, 110, 110, 111, 111, 105, 106, 106, 107, 107, 107, 108, 108, 109, 109, 109, 110, 110, 111, 111, 112, 106, 106, 107, 107, 107, 108, 108, 109, 109, 109, 110, 110, 111, 111, 112, 112, 106, 107, 107, 107, 108, 108, 109, 109, 109, 110, 110, 111, 111, 112, 112, 112]), .lit (.string [99, 99, 99, 100, 100, 100, 100, 100, 101, 101, 101, 101, 101, 102, 102, 102, 102, 102, 102, 103, 103, 103, 103, 103, 104, 104, 104, 104, 105, 105, 105, 105])]

/-- 'shawmlaw17.BookShapes': WHATEVER THE INPUT: true; the input reads as it did. -/
def bookShapesSpec : ChangeSpec := { name := "bookShapes", fn := fun _ => fun
  | [d] => { results := [.lit (.bool true)], args := [d] }
  | _ => none }
def bookShapesRow : OpenClaim := { program := "ytciknejchglmoaadoor", sum := "27788ad76b0f5a496492b0bf399d7837a1fa069f21bf3d6402b26a960f6b8233", func := "shawm/shawmlaw17.BookShapes", spec := "bookShapes", unfollowed := true, recurses := true, named := ["shawm/book.forms", "shawm/book.tables"], plainKeys := false, apart := false, laid := [("shawm/book.forms", laid_shawm_book_forms), ("shawm/book.tables", laid_shawm_book_tables)] }
def BookShapesSaid : Prop := bookShapesRow.holds Tryd.pinned (OpenSpec.ofChange bookShapesSpec)

/-- ITS FALSE NEIGHBOUR: 'it returns false'. Refute it at one input. -/
def bookShapesWrong : ChangeSpec := { name := "bookShapes", fn := fun _ => fun
  | [d] => { results := [.lit (.bool false)], args := [d] }
  | _ => none }
def BookShapesWrongFalsely : Prop := bookShapesRow.holds Tryd.pinned (OpenSpec.ofChange bookShapesWrong)

/-- 'shawmlaw17.BookCosts': WHATEVER THE INPUT: true; the input reads as it did. -/
def bookCostsSpec : ChangeSpec := { name := "bookCosts", fn := fun _ => fun
  | [d1, d2] => { results := [.lit (.bool true)], args := [d1, d2] }
  | _ => none }
def bookCostsRow : OpenClaim := { program := "ytciknejchglmoaadoor", sum := "27788ad76b0f5a496492b0bf399d7837a1fa069f21bf3d6402b26a960f6b8233", func := "shawm/shawmlaw17.BookCosts", spec := "bookCosts", unfollowed := true, recurses := true, named := ["shawm/book.forms", "shawm/book.tables"], plainKeys := false, apart := false, laid := [("shawm/book.forms", laid_shawm_book_forms), ("shawm/book.tables", laid_shawm_book_tables)] }
def BookCostsSaid : Prop := bookCostsRow.holds Tryd.pinned (OpenSpec.ofChange bookCostsSpec)

/-- ITS FALSE NEIGHBOUR: 'it returns false'. Refute it at one input. -/
def bookCostsWrong : ChangeSpec := { name := "bookCosts", fn := fun _ => fun
  | [d1, d2] => { results := [.lit (.bool false)], args := [d1, d2] }
  | _ => none }
def BookCostsWrongFalsely : Prop := bookCostsRow.holds Tryd.pinned (OpenSpec.ofChange bookCostsWrong)

/-- 'shawmlaw17.BookReads': WHATEVER THE INPUT: true; the input reads as it did. -/
def bookReadsSpec : ChangeSpec := { name := "bookReads", fn := fun _ => fun
  | [d1, d2, d3] => { results := [.lit (.bool true)], args := [d1, d2, d3] }
  | _ => none }
def bookReadsRow : OpenClaim := { program := "ytciknejchglmoaadoor", sum := "27788ad76b0f5a496492b0bf399d7837a1fa069f21bf3d6402b26a960f6b8233", func := "shawm/shawmlaw17.BookReads", spec := "bookReads", unfollowed := true, recurses := true, named := ["shawm/book.forms", "shawm/book.tables"], plainKeys := false, apart := false, laid := [("shawm/book.forms", laid_shawm_book_forms), ("shawm/book.tables", laid_shawm_book_tables)] }
def BookReadsSaid : Prop := bookReadsRow.holds Tryd.pinned (OpenSpec.ofChange bookReadsSpec)

/-- ITS FALSE NEIGHBOUR: 'it returns false'. Refute it at one input. -/
def bookReadsWrong : ChangeSpec := { name := "bookReads", fn := fun _ => fun
  | [d1, d2, d3] => { results := [.lit (.bool false)], args := [d1, d2, d3] }
  | _ => none }
def BookReadsWrongFalsely : Prop := bookReadsRow.holds Tryd.pinned (OpenSpec.ofChange bookReadsWrong)

/-- 'shawmlaw17.BookLeast': WHATEVER THE INPUT: true; the input reads as it did. -/
def bookLeastSpec : ChangeSpec := { name := "bookLeast", fn := fun _ => fun
  | [d1, d2] => { results := [.lit (.bool true)], args := [d1, d2] }
  | _ => none }
def bookLeastRow : OpenClaim := { program := "ytciknejchglmoaadoor", sum := "27788ad76b0f5a496492b0bf399d7837a1fa069f21bf3d6402b26a960f6b8233", func := "shawm/shawmlaw17.BookLeast", spec := "bookLeast", unfollowed := true, recurses := true, named := ["shawm/book.forms", "shawm/book.tables"], plainKeys := false, apart := false, laid := [("shawm/book.forms", laid_shawm_book_forms), ("shawm/book.tables", laid_shawm_book_tables)] }
def BookLeastSaid : Prop := bookLeastRow.holds Tryd.pinned (OpenSpec.ofChange bookLeastSpec)

/-- ITS FALSE NEIGHBOUR: 'it returns false'. Refute it at one input. -/
def bookLeastWrong : ChangeSpec := { name := "bookLeast", fn := fun _ => fun
  | [d1, d2] => { results := [.lit (.bool false)], args := [d1, d2] }
  | _ => none }
def BookLeastWrongFalsely : Prop := bookLeastRow.holds Tryd.pinned (OpenSpec.ofChange bookLeastWrong)

/-- 'shawmlaw17.BookSigns': WHATEVER THE INPUT: true; the input reads as it did. -/
def bookSignsSpec : ChangeSpec := { name := "bookSigns", fn := fun _ => fun
  | [d1, d2, d3] => { results := [.lit (.bool true)], args := [d1, d2, d3] }
  | _ => none }
def bookSignsRow : OpenClaim := { program := "ytciknejchglmoaadoor", sum := "27788ad76b0f5a496492b0bf399d7837a1fa069f21bf3d6402b26a960f6b8233", func := "shawm/shawmlaw17.BookSigns", spec := "bookSigns", unfollowed := true, recurses := true, named := ["shawm/book.forms", "shawm/book.tables"], plainKeys := false, apart := false, laid := [("shawm/book.forms", laid_shawm_book_forms), ("shawm/book.tables", laid_shawm_book_tables)] }
def BookSignsSaid : Prop := bookSignsRow.holds Tryd.pinned (OpenSpec.ofChange bookSignsSpec)

/-- ITS FALSE NEIGHBOUR: 'it returns false'. Refute it at one input. -/
def bookSignsWrong : ChangeSpec := { name := "bookSigns", fn := fun _ => fun
  | [d1, d2, d3] => { results := [.lit (.bool false)], args := [d1, d2, d3] }
  | _ => none }
def BookSignsWrongFalsely : Prop := bookSignsRow.holds Tryd.pinned (OpenSpec.ofChange bookSignsWrong)

/-- 'shawmlaw17.BookWrites': WHATEVER THE INPUT: true; the input reads as it did. -/
def bookWritesSpec : ChangeSpec := { name := "bookWrites", fn := fun _ => fun
  | [d1, d2, d3] => { results := [.lit (.bool true)], args := [d1, d2, d3] }
  | _ => none }
def bookWritesRow : OpenClaim := { program := "ytciknejchglmoaadoor", sum := "27788ad76b0f5a496492b0bf399d7837a1fa069f21bf3d6402b26a960f6b8233", func := "shawm/shawmlaw17.BookWrites", spec := "bookWrites", unfollowed := true, recurses := true, named := ["shawm/book.forms", "shawm/book.tables"], plainKeys := false, apart := false, laid := [("shawm/book.forms", laid_shawm_book_forms), ("shawm/book.tables", laid_shawm_book_tables)] }
def BookWritesSaid : Prop := bookWritesRow.holds Tryd.pinned (OpenSpec.ofChange bookWritesSpec)

/-- ITS FALSE NEIGHBOUR: 'it returns false'. Refute it at one input. -/
def bookWritesWrong : ChangeSpec := { name := "bookWrites", fn := fun _ => fun
  | [d1, d2, d3] => { results := [.lit (.bool false)], args := [d1, d2, d3] }
  | _ => none }
def BookWritesWrongFalsely : Prop := bookWritesRow.holds Tryd.pinned (OpenSpec.ofChange bookWritesWrong)

/-- 'shawmlaw17.BookBack': WHATEVER THE INPUT: true; the input reads as it did. -/
def bookBackSpec : ChangeSpec := { name := "bookBack", fn := fun _ => fun
  | [d1, d2, d3] => { results := [.lit (.bool true)], args := [d1, d2, d3] }
  | _ => none }
def bookBackRow : OpenClaim := { program := "ytciknejchglmoaadoor", sum := "27788ad76b0f5a496492b0bf399d7837a1fa069f21bf3d6402b26a960f6b8233", func := "shawm/shawmlaw17.BookBack", spec := "bookBack", unfollowed := true, recurses := true, named := ["shawm/book.forms", "shawm/book.tables"], plainKeys := false, apart := false, laid := [("shawm/book.forms", laid_shawm_book_forms), ("shawm/book.tables", laid_shawm_book_tables)] }
def BookBackSaid : Prop := bookBackRow.holds Tryd.pinned (OpenSpec.ofChange bookBackSpec)

/-- ITS FALSE NEIGHBOUR: 'it returns false'. Refute it at one input. -/
def bookBackWrong : ChangeSpec := { name := "bookBack", fn := fun _ => fun
  | [d1, d2, d3] => { results := [.lit (.bool false)], args := [d1, d2, d3] }
  | _ => none }
def BookBackWrongFalsely : Prop := bookBackRow.holds Tryd.pinned (OpenSpec.ofChange bookBackWrong)

/- THE SECOND FORM. 'bulk': how many values and letters a reading holds, each counted each time it is reached (what is shared counts as often as it is met; a slice's spare places count too). A statement '..UptoSaid' is the law's where the arguments, and the package variables that the reading takes, are together of bulk at most 1048576: NARROWER than '..Said'. Prove '..Said' where nothing that the law and all that it calls make is longer than what came in: it says more and counts as full. Else prove '..UptoSaid'. A law counts once. -/
mutual
def uptoBulk {H : Type} : DataW H → Nat
  | .lit (.string bytes) => bytes.length + 1
  | .lit _ => 1
  | .nil => 1
  | .ptr d => uptoBulk d + 1
  | .slice elems spare => uptoBulkAll elems + uptoBulkAll spare + 1
  | .agg parts => uptoBulkAll parts + 1
  | .iface _ d => uptoBulk d + 1
  | .map entries => uptoBulkEntries entries + 1
  | .held _ => 1
def uptoBulkAll {H : Type} : List (DataW H) → Nat
  | [] => 0
  | d :: r => uptoBulk d + uptoBulkAll r
def uptoBulkEntries {H : Type} : List (Lit × DataW H) → Nat
  | [] => 0
  | x :: r => uptoBulkEntry x + uptoBulkEntries r
def uptoBulkEntry {H : Type} : Lit × DataW H → Nat
  | (.string bytes, d) => bytes.length + uptoBulk d + 1
  | (_, d) => uptoBulk d + 1
 end
def uptoSmall : (H : Type) → List (DataW H) → Bool := fun _ ds => decide (uptoBulkAll ds ≤ 1048576)
def OpenSpec.upto (s : _root_.Go.ChangeSpec) : _root_.Go.OpenSpec := { _root_.Go.OpenSpec.ofChange s with cond := some uptoSmall }

/-- 'shawmlaw17.BookShapes', WHERE WHAT IT READS IS OF BULK AT MOST 1048576: true; the input reads as it did. -/
def bookShapesUptoRow : OpenClaim := { program := "ytciknejchglmoaadoor", sum := "27788ad76b0f5a496492b0bf399d7837a1fa069f21bf3d6402b26a960f6b8233", func := "shawm/shawmlaw17.BookShapes", spec := "bookShapes", unfollowed := true, recurses := true, named := ["shawm/book.forms", "shawm/book.tables"], plainKeys := false, apart := false, laid := [("shawm/book.forms", laid_shawm_book_forms), ("shawm/book.tables", laid_shawm_book_tables)], narrowed := true }
def BookShapesUptoSaid : Prop := bookShapesUptoRow.holds Tryd.pinned (OpenSpec.upto bookShapesSpec)

/-- 'shawmlaw17.BookCosts', WHERE WHAT IT READS IS OF BULK AT MOST 1048576: true; the input reads as it did. -/
def bookCostsUptoRow : OpenClaim := { program := "ytciknejchglmoaadoor", sum := "27788ad76b0f5a496492b0bf399d7837a1fa069f21bf3d6402b26a960f6b8233", func := "shawm/shawmlaw17.BookCosts", spec := "bookCosts", unfollowed := true, recurses := true, named := ["shawm/book.forms", "shawm/book.tables"], plainKeys := false, apart := false, laid := [("shawm/book.forms", laid_shawm_book_forms), ("shawm/book.tables", laid_shawm_book_tables)], narrowed := true }
def BookCostsUptoSaid : Prop := bookCostsUptoRow.holds Tryd.pinned (OpenSpec.upto bookCostsSpec)

/-- 'shawmlaw17.BookReads', WHERE WHAT IT READS IS OF BULK AT MOST 1048576: true; the input reads as it did. -/
def bookReadsUptoRow : OpenClaim := { program := "ytciknejchglmoaadoor", sum := "27788ad76b0f5a496492b0bf399d7837a1fa069f21bf3d6402b26a960f6b8233", func := "shawm/shawmlaw17.BookReads", spec := "bookReads", unfollowed := true, recurses := true, named := ["shawm/book.forms", "shawm/book.tables"], plainKeys := false, apart := false, laid := [("shawm/book.forms", laid_shawm_book_forms), ("shawm/book.tables", laid_shawm_book_tables)], narrowed := true }
def BookReadsUptoSaid : Prop := bookReadsUptoRow.holds Tryd.pinned (OpenSpec.upto bookReadsSpec)

/-- 'shawmlaw17.BookLeast', WHERE WHAT IT READS IS OF BULK AT MOST 1048576: true; the input reads as it did. -/
def bookLeastUptoRow : OpenClaim := { program := "ytciknejchglmoaadoor", sum := "27788ad76b0f5a496492b0bf399d7837a1fa069f21bf3d6402b26a960f6b8233", func := "shawm/shawmlaw17.BookLeast", spec := "bookLeast", unfollowed := true, recurses := true, named := ["shawm/book.forms", "shawm/book.tables"], plainKeys := false, apart := false, laid := [("shawm/book.forms", laid_shawm_book_forms), ("shawm/book.tables", laid_shawm_book_tables)], narrowed := true }
def BookLeastUptoSaid : Prop := bookLeastUptoRow.holds Tryd.pinned (OpenSpec.upto bookLeastSpec)

/-- 'shawmlaw17.BookSigns', WHERE WHAT IT READS IS OF BULK AT MOST 1048576: true; the input reads as it did. -/
def bookSignsUptoRow : OpenClaim := { program := "ytciknejchglmoaadoor", sum := "27788ad76b0f5a496492b0bf399d7837a1fa069f21bf3d6402b26a960f6b8233", func := "shawm/shawmlaw17.BookSigns", spec := "bookSigns", unfollowed := true, recurses := true, named := ["shawm/book.forms", "shawm/book.tables"], plainKeys := false, apart := false, laid := [("shawm/book.forms", laid_shawm_book_forms), ("shawm/book.tables", laid_shawm_book_tables)], narrowed := true }
def BookSignsUptoSaid : Prop := bookSignsUptoRow.holds Tryd.pinned (OpenSpec.upto bookSignsSpec)

/-- 'shawmlaw17.BookWrites', WHERE WHAT IT READS IS OF BULK AT MOST 1048576: true; the input reads as it did. -/
def bookWritesUptoRow : OpenClaim := { program := "ytciknejchglmoaadoor", sum := "27788ad76b0f5a496492b0bf399d7837a1fa069f21bf3d6402b26a960f6b8233", func := "shawm/shawmlaw17.BookWrites", spec := "bookWrites", unfollowed := true, recurses := true, named := ["shawm/book.forms", "shawm/book.tables"], plainKeys := false, apart := false, laid := [("shawm/book.forms", laid_shawm_book_forms), ("shawm/book.tables", laid_shawm_book_tables)], narrowed := true }
def BookWritesUptoSaid : Prop := bookWritesUptoRow.holds Tryd.pinned (OpenSpec.upto bookWritesSpec)

/-- 'shawmlaw17.BookBack', WHERE WHAT IT READS IS OF BULK AT MOST 1048576: true; the input reads as it did. -/
def bookBackUptoRow : OpenClaim := { program := "ytciknejchglmoaadoor", sum := "27788ad76b0f5a496492b0bf399d7837a1fa069f21bf3d6402b26a960f6b8233", func := "shawm/shawmlaw17.BookBack", spec := "bookBack", unfollowed := true, recurses := true, named := ["shawm/book.forms", "shawm/book.tables"], plainKeys := false, apart := false, laid := [("shawm/book.forms", laid_shawm_book_forms), ("shawm/book.tables", laid_shawm_book_tables)], narrowed := true }
def BookBackUptoSaid : Prop := bookBackUptoRow.holds Tryd.pinned (OpenSpec.upto bookBackSpec)

end Rows
end Go.Proofs.YtciknejchglmoaaDoor
