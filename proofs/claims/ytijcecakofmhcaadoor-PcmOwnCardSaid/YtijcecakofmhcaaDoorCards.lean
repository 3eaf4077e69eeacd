/-
  DERIVED. GIVEN WITH THE SEED: THE CARDS: each row of YtijcecakofmhcaaDoorRows.lean that lists a variable, with what it lists TIED to the program's text (the seventh form; the later family's looks); each row that meets fmt, with fmt's text TOLD by the authors' own Lean function (tested against real Go, not proved from fmt's source: count such statements apart). THE CARD IS WHAT COUNTS. Prove the row's statement (the work); the ties are given (YtijcecakofmhcaaDoorTie.lean); close each card by the builder's one call (the guide's Derived/Test/ToyasCard.lean, 'card_holds'). Laid BY PROGRAM, IN A SANDBOX (cutbox-door.mjs). By AI agents, Wed Nov 11 2026. No macro, syntax, notation, axiom, sorry.
-/
import Derived.Test.YtijcecakofmhcaaDoorRows
import GoSem.ClaimSeven
namespace Go.Proofs.YtijcecakofmhcaaDoor
namespace Rows

/-- THE TIED CARD OF 'shawmlaw02.PcmWaves'. -/
def pcmWavesCard : Claim7 := { stood := { row := pcmWavesRow, standIns := [], harness := (true, "b56248e161c08edc2b2775aac328d36f2c9c16860ebc9fbc6f1b3604689c40ef"), looks := false }, kinds := [], alts := [], laidByText := true, laidKinds := [.widerDeep], laidTests := true, laidLooks := .later }
def PcmWavesCardSaid : Prop := Claim7.holds Tryd.pinned (.plain (OpenSpec.ofChange pcmWavesSpec)) pcmWavesCard

/-- THE TIED CARD OF 'shawmlaw02.PcmSplits'. -/
def pcmSplitsCard : Claim7 := { stood := { row := pcmSplitsRow, standIns := [], harness := (true, "b56248e161c08edc2b2775aac328d36f2c9c16860ebc9fbc6f1b3604689c40ef"), looks := false }, kinds := [], alts := [], laidByText := true, laidKinds := [.widerDeep], laidTests := true, laidLooks := .later }
def PcmSplitsCardSaid : Prop := Claim7.holds Tryd.pinned (.plain (OpenSpec.ofChange pcmSplitsSpec)) pcmSplitsCard

/-- THE TIED CARD OF 'shawmlaw02.PcmBack'. -/
def pcmBackCard : Claim7 := { stood := { row := pcmBackRow, standIns := [], harness := (true, "b56248e161c08edc2b2775aac328d36f2c9c16860ebc9fbc6f1b3604689c40ef"), looks := false }, kinds := [], alts := [], laidByText := true, laidKinds := [.widerDeep], laidTests := true, laidLooks := .later }
def PcmBackCardSaid : Prop := Claim7.holds Tryd.pinned (.plain (OpenSpec.ofChange pcmBackSpec)) pcmBackCard

/-- THE TIED CARD OF 'shawmlaw02.PcmCuts'. -/
def pcmCutsCard : Claim7 := { stood := { row := pcmCutsRow, standIns := [], harness := (true, "b56248e161c08edc2b2775aac328d36f2c9c16860ebc9fbc6f1b3604689c40ef"), looks := false }, kinds := [], alts := [], laidByText := true, laidKinds := [.widerDeep], laidTests := true, laidLooks := .later }
def PcmCutsCardSaid : Prop := Claim7.holds Tryd.pinned (.plain (OpenSpec.ofChange pcmCutsSpec)) pcmCutsCard

/-- THE TIED CARD OF 'shawmlaw02.PcmMixed'. -/
def pcmMixedCard : Claim7 := { stood := { row := pcmMixedRow, standIns := [], harness := (true, "b56248e161c08edc2b2775aac328d36f2c9c16860ebc9fbc6f1b3604689c40ef"), looks := false }, kinds := [], alts := [], laidByText := true, laidKinds := [.widerDeep], laidTests := true, laidLooks := .later }
def PcmMixedCardSaid : Prop := Claim7.holds Tryd.pinned (.plain (OpenSpec.ofChange pcmMixedSpec)) pcmMixedCard

/-- THE TIED CARD OF 'shawmlaw02.PcmMixes'. -/
def pcmMixesCard : Claim7 := { stood := { row := pcmMixesRow, standIns := [], harness := (true, "b56248e161c08edc2b2775aac328d36f2c9c16860ebc9fbc6f1b3604689c40ef"), looks := false }, kinds := [], alts := [], laidByText := true, laidKinds := [.widerDeep], laidTests := true, laidLooks := .later }
def PcmMixesCardSaid : Prop := Claim7.holds Tryd.pinned (.plain (OpenSpec.ofChange pcmMixesSpec)) pcmMixesCard

/-- THE TIED CARD OF 'shawmlaw02.PcmParts'. -/
def pcmPartsCard : Claim7 := { stood := { row := pcmPartsRow, standIns := [], harness := (true, "b56248e161c08edc2b2775aac328d36f2c9c16860ebc9fbc6f1b3604689c40ef"), looks := false }, kinds := [], alts := [], laidByText := true, laidKinds := [.widerDeep], laidTests := true, laidLooks := .later }
def PcmPartsCardSaid : Prop := Claim7.holds Tryd.pinned (.plain (OpenSpec.ofChange pcmPartsSpec)) pcmPartsCard

/-- THE TIED CARD OF 'shawmlaw02.PcmOwn'. -/
def pcmOwnCard : Claim7 := { stood := { row := pcmOwnRow, standIns := [], harness := (true, "b56248e161c08edc2b2775aac328d36f2c9c16860ebc9fbc6f1b3604689c40ef"), looks := false }, kinds := [], alts := [], laidByText := true, laidKinds := [.widerDeep], laidTests := true, laidLooks := .later }
def PcmOwnCardSaid : Prop := Claim7.holds Tryd.pinned (.plain (OpenSpec.ofChange pcmOwnSpec)) pcmOwnCard

/-- THE TIED CARD OF 'shawmlaw02.PcmChecks'. -/
def pcmChecksCard : Claim7 := { stood := { row := pcmChecksRow, standIns := [], harness := (true, "b56248e161c08edc2b2775aac328d36f2c9c16860ebc9fbc6f1b3604689c40ef"), looks := false }, kinds := [], alts := [], laidByText := true, laidKinds := [.widerDeep], laidTests := true, laidLooks := .later }
def PcmChecksCardSaid : Prop := Claim7.holds Tryd.pinned (.plain (OpenSpec.ofChange pcmChecksSpec)) pcmChecksCard

/-- THE SECOND FORM's CARD OF 'shawmlaw02.PcmWaves'. -/
def pcmWavesUptoCard : Claim7 := { stood := { row := pcmWavesUptoRow, standIns := [], harness := (true, "b56248e161c08edc2b2775aac328d36f2c9c16860ebc9fbc6f1b3604689c40ef"), looks := false }, kinds := [], alts := [], laidByText := true, laidKinds := [.widerDeep], laidTests := true, laidLooks := .later }
def PcmWavesUptoCardSaid : Prop := Claim7.holds Tryd.pinned (.plain (OpenSpec.upto pcmWavesSpec)) pcmWavesUptoCard

/-- THE SECOND FORM's CARD OF 'shawmlaw02.PcmSplits'. -/
def pcmSplitsUptoCard : Claim7 := { stood := { row := pcmSplitsUptoRow, standIns := [], harness := (true, "b56248e161c08edc2b2775aac328d36f2c9c16860ebc9fbc6f1b3604689c40ef"), looks := false }, kinds := [], alts := [], laidByText := true, laidKinds := [.widerDeep], laidTests := true, laidLooks := .later }
def PcmSplitsUptoCardSaid : Prop := Claim7.holds Tryd.pinned (.plain (OpenSpec.upto pcmSplitsSpec)) pcmSplitsUptoCard

/-- THE SECOND FORM's CARD OF 'shawmlaw02.PcmBack'. -/
def pcmBackUptoCard : Claim7 := { stood := { row := pcmBackUptoRow, standIns := [], harness := (true, "b56248e161c08edc2b2775aac328d36f2c9c16860ebc9fbc6f1b3604689c40ef"), looks := false }, kinds := [], alts := [], laidByText := true, laidKinds := [.widerDeep], laidTests := true, laidLooks := .later }
def PcmBackUptoCardSaid : Prop := Claim7.holds Tryd.pinned (.plain (OpenSpec.upto pcmBackSpec)) pcmBackUptoCard

/-- THE SECOND FORM's CARD OF 'shawmlaw02.PcmCuts'. -/
def pcmCutsUptoCard : Claim7 := { stood := { row := pcmCutsUptoRow, standIns := [], harness := (true, "b56248e161c08edc2b2775aac328d36f2c9c16860ebc9fbc6f1b3604689c40ef"), looks := false }, kinds := [], alts := [], laidByText := true, laidKinds := [.widerDeep], laidTests := true, laidLooks := .later }
def PcmCutsUptoCardSaid : Prop := Claim7.holds Tryd.pinned (.plain (OpenSpec.upto pcmCutsSpec)) pcmCutsUptoCard

/-- THE SECOND FORM's CARD OF 'shawmlaw02.PcmMixed'. -/
def pcmMixedUptoCard : Claim7 := { stood := { row := pcmMixedUptoRow, standIns := [], harness := (true, "b56248e161c08edc2b2775aac328d36f2c9c16860ebc9fbc6f1b3604689c40ef"), looks := false }, kinds := [], alts := [], laidByText := true, laidKinds := [.widerDeep], laidTests := true, laidLooks := .later }
def PcmMixedUptoCardSaid : Prop := Claim7.holds Tryd.pinned (.plain (OpenSpec.upto pcmMixedSpec)) pcmMixedUptoCard

/-- THE SECOND FORM's CARD OF 'shawmlaw02.PcmMixes'. -/
def pcmMixesUptoCard : Claim7 := { stood := { row := pcmMixesUptoRow, standIns := [], harness := (true, "b56248e161c08edc2b2775aac328d36f2c9c16860ebc9fbc6f1b3604689c40ef"), looks := false }, kinds := [], alts := [], laidByText := true, laidKinds := [.widerDeep], laidTests := true, laidLooks := .later }
def PcmMixesUptoCardSaid : Prop := Claim7.holds Tryd.pinned (.plain (OpenSpec.upto pcmMixesSpec)) pcmMixesUptoCard

/-- THE SECOND FORM's CARD OF 'shawmlaw02.PcmParts'. -/
def pcmPartsUptoCard : Claim7 := { stood := { row := pcmPartsUptoRow, standIns := [], harness := (true, "b56248e161c08edc2b2775aac328d36f2c9c16860ebc9fbc6f1b3604689c40ef"), looks := false }, kinds := [], alts := [], laidByText := true, laidKinds := [.widerDeep], laidTests := true, laidLooks := .later }
def PcmPartsUptoCardSaid : Prop := Claim7.holds Tryd.pinned (.plain (OpenSpec.upto pcmPartsSpec)) pcmPartsUptoCard

/-- THE SECOND FORM's CARD OF 'shawmlaw02.PcmOwn'. -/
def pcmOwnUptoCard : Claim7 := { stood := { row := pcmOwnUptoRow, standIns := [], harness := (true, "b56248e161c08edc2b2775aac328d36f2c9c16860ebc9fbc6f1b3604689c40ef"), looks := false }, kinds := [], alts := [], laidByText := true, laidKinds := [.widerDeep], laidTests := true, laidLooks := .later }
def PcmOwnUptoCardSaid : Prop := Claim7.holds Tryd.pinned (.plain (OpenSpec.upto pcmOwnSpec)) pcmOwnUptoCard

/-- THE SECOND FORM's CARD OF 'shawmlaw02.PcmChecks'. -/
def pcmChecksUptoCard : Claim7 := { stood := { row := pcmChecksUptoRow, standIns := [], harness := (true, "b56248e161c08edc2b2775aac328d36f2c9c16860ebc9fbc6f1b3604689c40ef"), looks := false }, kinds := [], alts := [], laidByText := true, laidKinds := [.widerDeep], laidTests := true, laidLooks := .later }
def PcmChecksUptoCardSaid : Prop := Claim7.holds Tryd.pinned (.plain (OpenSpec.upto pcmChecksSpec)) pcmChecksUptoCard
end Rows
end Go.Proofs.YtijcecakofmhcaaDoor
