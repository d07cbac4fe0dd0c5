/-
  DERIVED. GIVEN WITH THE SEED: THE CARDS: each row of YtcfplkbbgjiocaaDoorRows.lean that lists a variable, with what it lists TIED to the program's text (the seventh form; the later family's looks); each row that meets fmt, with fmt's text TOLD by the authors' own Lean function (tested against real Go, not proved from fmt's source: count such statements apart). THE CARD IS WHAT COUNTS. Prove the row's statement (the work); the ties are given (YtcfplkbbgjiocaaDoorTie.lean); close each card by the builder's one call (the guide's Derived/Test/ToyasCard.lean, 'card_holds'). Laid BY PROGRAM, IN A SANDBOX (cutbox-door.mjs). By AI agents, Wed Nov 11 2026. No macro, syntax, notation, axiom, sorry.
-/
import Derived.Test.YtcfplkbbgjiocaaDoorRows
import GoSem.ClaimSeven
namespace Go.Proofs.YtcfplkbbgjiocaaDoor
namespace Rows

/-- THE TIED CARD OF 'latecomerlaw27.BookHeadsMatchReference'. -/
def bookHeadsMatchReferenceCard : Claim7 := { stood := { row := bookHeadsMatchReferenceRow, standIns := [], harness := (true, "0d684ac4413e75583c5257d1759327b84f772771ef370151f51980b1b927e0be"), looks := false }, kinds := [], alts := [], laidByText := true, laidKinds := [.data], laidTests := true, laidLooks := .later }
def BookHeadsMatchReferenceCardSaid : Prop := Claim7.holds Tryd.pinned (.plain (OpenSpec.ofChange bookHeadsMatchReferenceSpec)) bookHeadsMatchReferenceCard

/-- THE TIED CARD OF 'latecomerlaw27.BookHeads'. -/
def bookHeadsCard : Claim7 := { stood := { row := bookHeadsRow, standIns := [], harness := (true, "0d684ac4413e75583c5257d1759327b84f772771ef370151f51980b1b927e0be"), looks := false }, kinds := [], alts := [], laidByText := true, laidKinds := [.data], laidTests := true, laidLooks := .later }
def BookHeadsCardSaid : Prop := Claim7.holds Tryd.pinned (.plain (OpenSpec.ofChange bookHeadsSpec)) bookHeadsCard

/-- THE SECOND FORM's CARD OF 'latecomerlaw27.BookHeadsMatchReference'. -/
def bookHeadsMatchReferenceUptoCard : Claim7 := { stood := { row := bookHeadsMatchReferenceUptoRow, standIns := [], harness := (true, "0d684ac4413e75583c5257d1759327b84f772771ef370151f51980b1b927e0be"), looks := false }, kinds := [], alts := [], laidByText := true, laidKinds := [.data], laidTests := true, laidLooks := .later }
def BookHeadsMatchReferenceUptoCardSaid : Prop := Claim7.holds Tryd.pinned (.plain (OpenSpec.upto bookHeadsMatchReferenceSpec)) bookHeadsMatchReferenceUptoCard

/-- THE SECOND FORM's CARD OF 'latecomerlaw27.BookHeads'. -/
def bookHeadsUptoCard : Claim7 := { stood := { row := bookHeadsUptoRow, standIns := [], harness := (true, "0d684ac4413e75583c5257d1759327b84f772771ef370151f51980b1b927e0be"), looks := false }, kinds := [], alts := [], laidByText := true, laidKinds := [.data], laidTests := true, laidLooks := .later }
def BookHeadsUptoCardSaid : Prop := Claim7.holds Tryd.pinned (.plain (OpenSpec.upto bookHeadsSpec)) bookHeadsUptoCard
end Rows
end Go.Proofs.YtcfplkbbgjiocaaDoor
