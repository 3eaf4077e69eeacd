/-
  DERIVED. GIVEN WITH THE SEED: THE CARDS: each row of YtmcdgmiheklbeaaDoorRows.lean that lists a variable, with what it lists TIED to the program's text (the seventh form; the later family's looks); each row that meets fmt, with fmt's text TOLD by the authors' own Lean function (tested against real Go, not proved from fmt's source: count such statements apart). THE CARD IS WHAT COUNTS. Prove the row's statement (the work); the ties are given (YtmcdgmiheklbeaaDoorTie.lean); close each card by the builder's one call (the guide's Derived/Test/ToyasCard.lean, 'card_holds'). Laid BY PROGRAM, IN A SANDBOX (cutbox-door.mjs). By AI agents, Wed Nov 11 2026. No macro, syntax, notation, axiom, sorry.
-/
import Derived.Test.YtmcdgmiheklbeaaDoorRows
import GoSem.ClaimSeven
namespace Go.Proofs.YtmcdgmiheklbeaaDoor
namespace Rows

/-- THE TIED CARD OF 'shawmlaw18.SectionReads'. -/
def sectionReadsCard : Claim7 := { stood := { row := sectionReadsRow, standIns := [], harness := (true, "4e3328c7744f9c4be56f5662e8b3112b5a6c97791515a9a3bdf0fea047c6ab48"), looks := false }, kinds := [], alts := [], laidByText := true, laidKinds := [.wider, .data], laidTests := true, laidLooks := .later }
def SectionReadsCardSaid : Prop := Claim7.holds Tryd.pinned (.plain (OpenSpec.ofChange sectionReadsSpec)) sectionReadsCard

/-- THE TIED CARD OF 'shawmlaw18.SectionRuns'. -/
def sectionRunsCard : Claim7 := { stood := { row := sectionRunsRow, standIns := [], harness := (true, "4e3328c7744f9c4be56f5662e8b3112b5a6c97791515a9a3bdf0fea047c6ab48"), looks := false }, kinds := [], alts := [], laidByText := true, laidKinds := [.wider, .data], laidTests := true, laidLooks := .later }
def SectionRunsCardSaid : Prop := Claim7.holds Tryd.pinned (.plain (OpenSpec.ofChange sectionRunsSpec)) sectionRunsCard

/-- THE TIED CARD OF 'shawmlaw18.SectionBack'. -/
def sectionBackCard : Claim7 := { stood := { row := sectionBackRow, standIns := [], harness := (true, "4e3328c7744f9c4be56f5662e8b3112b5a6c97791515a9a3bdf0fea047c6ab48"), looks := false }, kinds := [], alts := [], laidByText := true, laidKinds := [.wider, .data], laidTests := true, laidLooks := .later }
def SectionBackCardSaid : Prop := Claim7.holds Tryd.pinned (.plain (OpenSpec.ofChange sectionBackSpec)) sectionBackCard

/-- THE TIED CARD OF 'shawmlaw18.SectionLeast'. -/
def sectionLeastCard : Claim7 := { stood := { row := sectionLeastRow, standIns := [], harness := (true, "4e3328c7744f9c4be56f5662e8b3112b5a6c97791515a9a3bdf0fea047c6ab48"), looks := false }, kinds := [], alts := [], laidByText := true, laidKinds := [.wider, .data], laidTests := true, laidLooks := .later }
def SectionLeastCardSaid : Prop := Claim7.holds Tryd.pinned (.plain (OpenSpec.ofChange sectionLeastSpec)) sectionLeastCard

/-- THE TIED CARD OF 'shawmlaw18.SectionOne'. -/
def sectionOneCard : Claim7 := { stood := { row := sectionOneRow, standIns := [], harness := (true, "4e3328c7744f9c4be56f5662e8b3112b5a6c97791515a9a3bdf0fea047c6ab48"), looks := false }, kinds := [], alts := [], laidByText := true, laidKinds := [.wider, .data], laidTests := true, laidLooks := .later }
def SectionOneCardSaid : Prop := Claim7.holds Tryd.pinned (.plain (OpenSpec.ofChange sectionOneSpec)) sectionOneCard

/-- THE SECOND FORM's CARD OF 'shawmlaw18.SectionReads'. -/
def sectionReadsUptoCard : Claim7 := { stood := { row := sectionReadsUptoRow, standIns := [], harness := (true, "4e3328c7744f9c4be56f5662e8b3112b5a6c97791515a9a3bdf0fea047c6ab48"), looks := false }, kinds := [], alts := [], laidByText := true, laidKinds := [.wider, .data], laidTests := true, laidLooks := .later }
def SectionReadsUptoCardSaid : Prop := Claim7.holds Tryd.pinned (.plain (OpenSpec.upto sectionReadsSpec)) sectionReadsUptoCard

/-- THE SECOND FORM's CARD OF 'shawmlaw18.SectionRuns'. -/
def sectionRunsUptoCard : Claim7 := { stood := { row := sectionRunsUptoRow, standIns := [], harness := (true, "4e3328c7744f9c4be56f5662e8b3112b5a6c97791515a9a3bdf0fea047c6ab48"), looks := false }, kinds := [], alts := [], laidByText := true, laidKinds := [.wider, .data], laidTests := true, laidLooks := .later }
def SectionRunsUptoCardSaid : Prop := Claim7.holds Tryd.pinned (.plain (OpenSpec.upto sectionRunsSpec)) sectionRunsUptoCard

/-- THE SECOND FORM's CARD OF 'shawmlaw18.SectionBack'. -/
def sectionBackUptoCard : Claim7 := { stood := { row := sectionBackUptoRow, standIns := [], harness := (true, "4e3328c7744f9c4be56f5662e8b3112b5a6c97791515a9a3bdf0fea047c6ab48"), looks := false }, kinds := [], alts := [], laidByText := true, laidKinds := [.wider, .data], laidTests := true, laidLooks := .later }
def SectionBackUptoCardSaid : Prop := Claim7.holds Tryd.pinned (.plain (OpenSpec.upto sectionBackSpec)) sectionBackUptoCard

/-- THE SECOND FORM's CARD OF 'shawmlaw18.SectionLeast'. -/
def sectionLeastUptoCard : Claim7 := { stood := { row := sectionLeastUptoRow, standIns := [], harness := (true, "4e3328c7744f9c4be56f5662e8b3112b5a6c97791515a9a3bdf0fea047c6ab48"), looks := false }, kinds := [], alts := [], laidByText := true, laidKinds := [.wider, .data], laidTests := true, laidLooks := .later }
def SectionLeastUptoCardSaid : Prop := Claim7.holds Tryd.pinned (.plain (OpenSpec.upto sectionLeastSpec)) sectionLeastUptoCard

/-- THE SECOND FORM's CARD OF 'shawmlaw18.SectionOne'. -/
def sectionOneUptoCard : Claim7 := { stood := { row := sectionOneUptoRow, standIns := [], harness := (true, "4e3328c7744f9c4be56f5662e8b3112b5a6c97791515a9a3bdf0fea047c6ab48"), looks := false }, kinds := [], alts := [], laidByText := true, laidKinds := [.wider, .data], laidTests := true, laidLooks := .later }
def SectionOneUptoCardSaid : Prop := Claim7.holds Tryd.pinned (.plain (OpenSpec.upto sectionOneSpec)) sectionOneUptoCard
end Rows
end Go.Proofs.YtmcdgmiheklbeaaDoor
