/-
  DERIVED. GIVEN WITH THE SEED: THE CARDS: each row of YtmcdgmiheklbeaaGreatDoorRows.lean that lists a variable, with what it lists TIED to the program's text (the seventh form; the later family's looks); each row that meets fmt, with fmt's text TOLD by the authors' own Lean function (tested against real Go, not proved from fmt's source: count such statements apart). THE CARD IS WHAT COUNTS. Prove the row's statement (the work); the ties are given (YtmcdgmiheklbeaaGreatDoorTie.lean); close each card by the builder's one call (the guide's Derived/Test/ToyasCard.lean, 'card_holds'). Laid BY PROGRAM, IN A SANDBOX (cutbox-door.mjs). By AI agents, Wed Nov 11 2026. No macro, syntax, notation, axiom, sorry.
-/
import Derived.Test.YtmcdgmiheklbeaaGreatDoorRows
import GoSem.ClaimSeven
namespace Go.Proofs.YtmcdgmiheklbeaaGreatDoor
namespace Rows

/-- THE TIED CARD OF 'shawmlaw18.SectionCosts'. -/
def sectionCostsCard : Claim7 := { stood := { row := sectionCostsRow, standIns := [], harness := (true, "3d66eb5de1b48d8e47aea71be5524da6fede850de510bd4fcca3cb3a1f65717c"), looks := false }, kinds := [], alts := [], laidByText := true, laidKinds := [.wider, .data], laidTests := true, laidLooks := .later }
def SectionCostsCardSaid : Prop := Claim7.holds Tryz.pinned (.plain (OpenSpec.ofChange sectionCostsSpec)) sectionCostsCard

/-- THE TIED CARD OF 'shawmlaw18.SectionWrites'. -/
def sectionWritesCard : Claim7 := { stood := { row := sectionWritesRow, standIns := [], harness := (true, "3d66eb5de1b48d8e47aea71be5524da6fede850de510bd4fcca3cb3a1f65717c"), looks := false }, kinds := [], alts := [], laidByText := true, laidKinds := [.wider, .data], laidTests := true, laidLooks := .later }
def SectionWritesCardSaid : Prop := Claim7.holds Tryz.pinned (.plain (OpenSpec.ofChange sectionWritesSpec)) sectionWritesCard

/-- THE TIED CARD OF 'shawmlaw18.SectionChooses'. -/
def sectionChoosesCard : Claim7 := { stood := { row := sectionChoosesRow, standIns := [], harness := (true, "3d66eb5de1b48d8e47aea71be5524da6fede850de510bd4fcca3cb3a1f65717c"), looks := false }, kinds := [], alts := [], laidByText := true, laidKinds := [.wider, .data], laidTests := true, laidLooks := .later }
def SectionChoosesCardSaid : Prop := Claim7.holds Tryz.pinned (.plain (OpenSpec.ofChange sectionChoosesSpec)) sectionChoosesCard

/-- THE SECOND FORM's CARD OF 'shawmlaw18.SectionCosts'. -/
def sectionCostsUptoCard : Claim7 := { stood := { row := sectionCostsUptoRow, standIns := [], harness := (true, "3d66eb5de1b48d8e47aea71be5524da6fede850de510bd4fcca3cb3a1f65717c"), looks := false }, kinds := [], alts := [], laidByText := true, laidKinds := [.wider, .data], laidTests := true, laidLooks := .later }
def SectionCostsUptoCardSaid : Prop := Claim7.holds Tryz.pinned (.plain (OpenSpec.upto sectionCostsSpec)) sectionCostsUptoCard

/-- THE SECOND FORM's CARD OF 'shawmlaw18.SectionWrites'. -/
def sectionWritesUptoCard : Claim7 := { stood := { row := sectionWritesUptoRow, standIns := [], harness := (true, "3d66eb5de1b48d8e47aea71be5524da6fede850de510bd4fcca3cb3a1f65717c"), looks := false }, kinds := [], alts := [], laidByText := true, laidKinds := [.wider, .data], laidTests := true, laidLooks := .later }
def SectionWritesUptoCardSaid : Prop := Claim7.holds Tryz.pinned (.plain (OpenSpec.upto sectionWritesSpec)) sectionWritesUptoCard

/-- THE SECOND FORM's CARD OF 'shawmlaw18.SectionChooses'. -/
def sectionChoosesUptoCard : Claim7 := { stood := { row := sectionChoosesUptoRow, standIns := [], harness := (true, "3d66eb5de1b48d8e47aea71be5524da6fede850de510bd4fcca3cb3a1f65717c"), looks := false }, kinds := [], alts := [], laidByText := true, laidKinds := [.wider, .data], laidTests := true, laidLooks := .later }
def SectionChoosesUptoCardSaid : Prop := Claim7.holds Tryz.pinned (.plain (OpenSpec.upto sectionChoosesSpec)) sectionChoosesUptoCard
end Rows
end Go.Proofs.YtmcdgmiheklbeaaGreatDoor
