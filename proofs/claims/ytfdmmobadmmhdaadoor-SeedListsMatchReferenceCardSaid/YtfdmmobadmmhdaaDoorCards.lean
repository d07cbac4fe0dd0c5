/-
  DERIVED. GIVEN WITH THE SEED: THE CARDS: each row of YtfdmmobadmmhdaaDoorRows.lean that lists a variable, with what it lists TIED to the program's text (the seventh form; the later family's looks); each row that meets fmt, with fmt's text TOLD by the authors' own Lean function (tested against real Go, not proved from fmt's source: count such statements apart). THE CARD IS WHAT COUNTS. Prove the row's statement (the work); the ties are given (YtfdmmobadmmhdaaDoorTie.lean); close each card by the builder's one call (the guide's Derived/Test/ToyasCard.lean, 'card_holds'). Laid BY PROGRAM, IN A SANDBOX (cutbox-door.mjs). By AI agents, Wed Nov 11 2026. No macro, syntax, notation, axiom, sorry.
-/
import Derived.Test.YtfdmmobadmmhdaaDoorRows
import GoSem.ClaimSeven
namespace Go.Proofs.YtfdmmobadmmhdaaDoor
namespace Rows

/-- THE TIED CARD OF 'latecomerlaw06.SeedMatchesReference'. -/
def seedMatchesReferenceCard : Claim7 := { stood := { row := seedMatchesReferenceRow, standIns := [], harness := (true, "fbae657a3cc20c56f039aea467328d6339d46179ed2dff930bef60cadbffe1c9"), looks := false }, kinds := [], alts := [], laidByText := true, laidKinds := [.data], laidTests := true, laidLooks := .later }
def SeedMatchesReferenceCardSaid : Prop := Claim7.holds Tryd.pinned (.plain (OpenSpec.ofChange seedMatchesReferenceSpec)) seedMatchesReferenceCard

/-- THE TIED CARD OF 'latecomerlaw06.SeedListsMatchReference'. -/
def seedListsMatchReferenceCard : Claim7 := { stood := { row := seedListsMatchReferenceRow, standIns := [], harness := (true, "fbae657a3cc20c56f039aea467328d6339d46179ed2dff930bef60cadbffe1c9"), looks := false }, kinds := [], alts := [], laidByText := true, laidKinds := [.data], laidTests := true, laidLooks := .later }
def SeedListsMatchReferenceCardSaid : Prop := Claim7.holds Tryd.pinned (.plain (OpenSpec.ofChange seedListsMatchReferenceSpec)) seedListsMatchReferenceCard

/-- THE TIED CARD OF 'latecomerlaw06.SeedFair'. -/
def seedFairCard : Claim7 := { stood := { row := seedFairRow, standIns := [], harness := (true, "fbae657a3cc20c56f039aea467328d6339d46179ed2dff930bef60cadbffe1c9"), looks := false }, kinds := [], alts := [], laidByText := true, laidKinds := [.data], laidTests := true, laidLooks := .later }
def SeedFairCardSaid : Prop := Claim7.holds Tryd.pinned (.plain (OpenSpec.ofChange seedFairSpec)) seedFairCard

/-- THE TIED CARD OF 'latecomerlaw06.SeedDrawn'. -/
def seedDrawnCard : Claim7 := { stood := { row := seedDrawnRow, standIns := [], harness := (true, "fbae657a3cc20c56f039aea467328d6339d46179ed2dff930bef60cadbffe1c9"), looks := false }, kinds := [], alts := [], laidByText := true, laidKinds := [.data], laidTests := true, laidLooks := .later }
def SeedDrawnCardSaid : Prop := Claim7.holds Tryd.pinned (.plain (OpenSpec.ofChange seedDrawnSpec)) seedDrawnCard

/-- THE TIED CARD OF 'latecomerlaw06.SeedShuffled'. -/
def seedShuffledCard : Claim7 := { stood := { row := seedShuffledRow, standIns := [], harness := (true, "fbae657a3cc20c56f039aea467328d6339d46179ed2dff930bef60cadbffe1c9"), looks := false }, kinds := [], alts := [], laidByText := true, laidKinds := [.data], laidTests := true, laidLooks := .later }
def SeedShuffledCardSaid : Prop := Claim7.holds Tryd.pinned (.plain (OpenSpec.ofChange seedShuffledSpec)) seedShuffledCard

/-- THE TIED CARD OF 'latecomerlaw06.SeedSampled'. -/
def seedSampledCard : Claim7 := { stood := { row := seedSampledRow, standIns := [], harness := (true, "fbae657a3cc20c56f039aea467328d6339d46179ed2dff930bef60cadbffe1c9"), looks := false }, kinds := [], alts := [], laidByText := true, laidKinds := [.data], laidTests := true, laidLooks := .later }
def SeedSampledCardSaid : Prop := Claim7.holds Tryd.pinned (.plain (OpenSpec.ofChange seedSampledSpec)) seedSampledCard

/-- THE TIED CARD OF 'latecomerlaw06.SeedChosen'. -/
def seedChosenCard : Claim7 := { stood := { row := seedChosenRow, standIns := [], harness := (true, "fbae657a3cc20c56f039aea467328d6339d46179ed2dff930bef60cadbffe1c9"), looks := false }, kinds := [], alts := [], laidByText := true, laidKinds := [.data], laidTests := true, laidLooks := .later }
def SeedChosenCardSaid : Prop := Claim7.holds Tryd.pinned (.plain (OpenSpec.ofChange seedChosenSpec)) seedChosenCard

/-- THE SECOND FORM's CARD OF 'latecomerlaw06.SeedMatchesReference'. -/
def seedMatchesReferenceUptoCard : Claim7 := { stood := { row := seedMatchesReferenceUptoRow, standIns := [], harness := (true, "fbae657a3cc20c56f039aea467328d6339d46179ed2dff930bef60cadbffe1c9"), looks := false }, kinds := [], alts := [], laidByText := true, laidKinds := [.data], laidTests := true, laidLooks := .later }
def SeedMatchesReferenceUptoCardSaid : Prop := Claim7.holds Tryd.pinned (.plain (OpenSpec.upto seedMatchesReferenceSpec)) seedMatchesReferenceUptoCard

/-- THE SECOND FORM's CARD OF 'latecomerlaw06.SeedListsMatchReference'. -/
def seedListsMatchReferenceUptoCard : Claim7 := { stood := { row := seedListsMatchReferenceUptoRow, standIns := [], harness := (true, "fbae657a3cc20c56f039aea467328d6339d46179ed2dff930bef60cadbffe1c9"), looks := false }, kinds := [], alts := [], laidByText := true, laidKinds := [.data], laidTests := true, laidLooks := .later }
def SeedListsMatchReferenceUptoCardSaid : Prop := Claim7.holds Tryd.pinned (.plain (OpenSpec.upto seedListsMatchReferenceSpec)) seedListsMatchReferenceUptoCard

/-- THE SECOND FORM's CARD OF 'latecomerlaw06.SeedFair'. -/
def seedFairUptoCard : Claim7 := { stood := { row := seedFairUptoRow, standIns := [], harness := (true, "fbae657a3cc20c56f039aea467328d6339d46179ed2dff930bef60cadbffe1c9"), looks := false }, kinds := [], alts := [], laidByText := true, laidKinds := [.data], laidTests := true, laidLooks := .later }
def SeedFairUptoCardSaid : Prop := Claim7.holds Tryd.pinned (.plain (OpenSpec.upto seedFairSpec)) seedFairUptoCard

/-- THE SECOND FORM's CARD OF 'latecomerlaw06.SeedDrawn'. -/
def seedDrawnUptoCard : Claim7 := { stood := { row := seedDrawnUptoRow, standIns := [], harness := (true, "fbae657a3cc20c56f039aea467328d6339d46179ed2dff930bef60cadbffe1c9"), looks := false }, kinds := [], alts := [], laidByText := true, laidKinds := [.data], laidTests := true, laidLooks := .later }
def SeedDrawnUptoCardSaid : Prop := Claim7.holds Tryd.pinned (.plain (OpenSpec.upto seedDrawnSpec)) seedDrawnUptoCard

/-- THE SECOND FORM's CARD OF 'latecomerlaw06.SeedShuffled'. -/
def seedShuffledUptoCard : Claim7 := { stood := { row := seedShuffledUptoRow, standIns := [], harness := (true, "fbae657a3cc20c56f039aea467328d6339d46179ed2dff930bef60cadbffe1c9"), looks := false }, kinds := [], alts := [], laidByText := true, laidKinds := [.data], laidTests := true, laidLooks := .later }
def SeedShuffledUptoCardSaid : Prop := Claim7.holds Tryd.pinned (.plain (OpenSpec.upto seedShuffledSpec)) seedShuffledUptoCard

/-- THE SECOND FORM's CARD OF 'latecomerlaw06.SeedSampled'. -/
def seedSampledUptoCard : Claim7 := { stood := { row := seedSampledUptoRow, standIns := [], harness := (true, "fbae657a3cc20c56f039aea467328d6339d46179ed2dff930bef60cadbffe1c9"), looks := false }, kinds := [], alts := [], laidByText := true, laidKinds := [.data], laidTests := true, laidLooks := .later }
def SeedSampledUptoCardSaid : Prop := Claim7.holds Tryd.pinned (.plain (OpenSpec.upto seedSampledSpec)) seedSampledUptoCard

/-- THE SECOND FORM's CARD OF 'latecomerlaw06.SeedChosen'. -/
def seedChosenUptoCard : Claim7 := { stood := { row := seedChosenUptoRow, standIns := [], harness := (true, "fbae657a3cc20c56f039aea467328d6339d46179ed2dff930bef60cadbffe1c9"), looks := false }, kinds := [], alts := [], laidByText := true, laidKinds := [.data], laidTests := true, laidLooks := .later }
def SeedChosenUptoCardSaid : Prop := Claim7.holds Tryd.pinned (.plain (OpenSpec.upto seedChosenSpec)) seedChosenUptoCard
end Rows
end Go.Proofs.YtfdmmobadmmhdaaDoor
