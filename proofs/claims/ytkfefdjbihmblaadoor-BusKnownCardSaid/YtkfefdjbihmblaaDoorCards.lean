/-
  DERIVED. GIVEN WITH THE SEED: THE CARDS: each row of YtkfefdjbihmblaaDoorRows.lean that lists a variable, with what it lists TIED to the program's text (the seventh form; the later family's looks); each row that meets fmt, with fmt's text TOLD by the authors' own Lean function (tested against real Go, not proved from fmt's source: count such statements apart). THE CARD IS WHAT COUNTS. Prove the row's statement (the work); the ties are given (YtkfefdjbihmblaaDoorTie.lean); close each card by the builder's one call (the guide's Derived/Test/ToyasCard.lean, 'card_holds'). Laid BY PROGRAM, IN A SANDBOX (cutbox-door.mjs). By AI agents, Wed Nov 11 2026. No macro, syntax, notation, axiom, sorry.
-/
import Derived.Test.YtkfefdjbihmblaaDoorRows
import GoSem.ClaimSeven
namespace Go.Proofs.YtkfefdjbihmblaaDoor
namespace Rows

/-- THE TIED CARD OF 'mezzaninelaw07.BusKnown'. -/
def busKnownCard : Claim7 := { stood := { row := busKnownRow, standIns := [], harness := (true, "52477e1bea696c0c6abe157456a818e96dc33b8b44659fae10afd0900a2105a9"), looks := false }, kinds := [], alts := [], laidByText := true, laidKinds := [.data, .data], laidTests := true, laidLooks := .later }
def BusKnownCardSaid : Prop := Claim7.holds Tryd.pinned (.plain (OpenSpec.ofChange busKnownSpec)) busKnownCard

/-- THE SECOND FORM's CARD OF 'mezzaninelaw07.BusKnown'. -/
def busKnownUptoCard : Claim7 := { stood := { row := busKnownUptoRow, standIns := [], harness := (true, "52477e1bea696c0c6abe157456a818e96dc33b8b44659fae10afd0900a2105a9"), looks := false }, kinds := [], alts := [], laidByText := true, laidKinds := [.data, .data], laidTests := true, laidLooks := .later }
def BusKnownUptoCardSaid : Prop := Claim7.holds Tryd.pinned (.plain (OpenSpec.upto busKnownSpec)) busKnownUptoCard
end Rows
end Go.Proofs.YtkfefdjbihmblaaDoor
