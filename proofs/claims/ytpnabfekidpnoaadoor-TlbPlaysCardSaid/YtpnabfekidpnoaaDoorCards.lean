/-
  DERIVED. GIVEN WITH THE SEED: THE CARDS: each row of YtpnabfekidpnoaaDoorRows.lean that lists a variable, with what it lists TIED to the program's text (the seventh form; the later family's looks); each row that meets fmt, with fmt's text TOLD by the authors' own Lean function (tested against real Go, not proved from fmt's source: count such statements apart). THE CARD IS WHAT COUNTS. Prove the row's statement (the work); the ties are given (YtpnabfekidpnoaaDoorTie.lean); close each card by the builder's one call (the guide's Derived/Test/ToyasCard.lean, 'card_holds'). Laid BY PROGRAM, IN A SANDBOX (cutbox-door.mjs). By AI agents, Wed Nov 11 2026. No macro, syntax, notation, axiom, sorry.
-/
import Derived.Test.YtpnabfekidpnoaaDoorRows
import GoSem.ClaimSeven
namespace Go.Proofs.YtpnabfekidpnoaaDoor
namespace Rows

/-- THE TIED CARD OF 'mezzaninelaw19.TlbKeeps'. -/
def tlbKeepsCard : Claim7 := { stood := { row := tlbKeepsRow, standIns := [], harness := (true, "4b405b8eff7d3db3586bf2d3a6ae99442e2f5aef85221a6f5705ad36e53d05c9"), looks := false }, kinds := [], alts := [], laidByText := true, laidKinds := [.data], laidTests := true, laidLooks := .later }
def TlbKeepsCardSaid : Prop := Claim7.holds Tryd.pinned (.plain (OpenSpec.ofChange tlbKeepsSpec)) tlbKeepsCard

/-- THE TIED CARD OF 'mezzaninelaw19.TlbKnown'. -/
def tlbKnownCard : Claim7 := { stood := { row := tlbKnownRow, standIns := [], harness := (true, "4b405b8eff7d3db3586bf2d3a6ae99442e2f5aef85221a6f5705ad36e53d05c9"), looks := false }, kinds := [], alts := [], laidByText := true, laidKinds := [.data], laidTests := true, laidLooks := .later }
def TlbKnownCardSaid : Prop := Claim7.holds Tryd.pinned (.plain (OpenSpec.ofChange tlbKnownSpec)) tlbKnownCard

/-- THE TIED CARD OF 'mezzaninelaw19.TlbPlays'. -/
def tlbPlaysCard : Claim7 := { stood := { row := tlbPlaysRow, standIns := [], harness := (true, "4b405b8eff7d3db3586bf2d3a6ae99442e2f5aef85221a6f5705ad36e53d05c9"), looks := false }, kinds := [], alts := [], laidByText := true, laidKinds := [.data], laidTests := true, laidLooks := .later }
def TlbPlaysCardSaid : Prop := Claim7.holds Tryd.pinned (.plain (OpenSpec.ofChange tlbPlaysSpec)) tlbPlaysCard

/-- THE TIED CARD OF 'mezzaninelaw19.TlbFenced'. -/
def tlbFencedCard : Claim7 := { stood := { row := tlbFencedRow, standIns := [], harness := (true, "4b405b8eff7d3db3586bf2d3a6ae99442e2f5aef85221a6f5705ad36e53d05c9"), looks := false }, kinds := [], alts := [], laidByText := true, laidKinds := [.data], laidTests := true, laidLooks := .later }
def TlbFencedCardSaid : Prop := Claim7.holds Tryd.pinned (.plain (OpenSpec.ofChange tlbFencedSpec)) tlbFencedCard

/-- THE SECOND FORM's CARD OF 'mezzaninelaw19.TlbKeeps'. -/
def tlbKeepsUptoCard : Claim7 := { stood := { row := tlbKeepsUptoRow, standIns := [], harness := (true, "4b405b8eff7d3db3586bf2d3a6ae99442e2f5aef85221a6f5705ad36e53d05c9"), looks := false }, kinds := [], alts := [], laidByText := true, laidKinds := [.data], laidTests := true, laidLooks := .later }
def TlbKeepsUptoCardSaid : Prop := Claim7.holds Tryd.pinned (.plain (OpenSpec.upto tlbKeepsSpec)) tlbKeepsUptoCard

/-- THE SECOND FORM's CARD OF 'mezzaninelaw19.TlbKnown'. -/
def tlbKnownUptoCard : Claim7 := { stood := { row := tlbKnownUptoRow, standIns := [], harness := (true, "4b405b8eff7d3db3586bf2d3a6ae99442e2f5aef85221a6f5705ad36e53d05c9"), looks := false }, kinds := [], alts := [], laidByText := true, laidKinds := [.data], laidTests := true, laidLooks := .later }
def TlbKnownUptoCardSaid : Prop := Claim7.holds Tryd.pinned (.plain (OpenSpec.upto tlbKnownSpec)) tlbKnownUptoCard

/-- THE SECOND FORM's CARD OF 'mezzaninelaw19.TlbPlays'. -/
def tlbPlaysUptoCard : Claim7 := { stood := { row := tlbPlaysUptoRow, standIns := [], harness := (true, "4b405b8eff7d3db3586bf2d3a6ae99442e2f5aef85221a6f5705ad36e53d05c9"), looks := false }, kinds := [], alts := [], laidByText := true, laidKinds := [.data], laidTests := true, laidLooks := .later }
def TlbPlaysUptoCardSaid : Prop := Claim7.holds Tryd.pinned (.plain (OpenSpec.upto tlbPlaysSpec)) tlbPlaysUptoCard

/-- THE SECOND FORM's CARD OF 'mezzaninelaw19.TlbFenced'. -/
def tlbFencedUptoCard : Claim7 := { stood := { row := tlbFencedUptoRow, standIns := [], harness := (true, "4b405b8eff7d3db3586bf2d3a6ae99442e2f5aef85221a6f5705ad36e53d05c9"), looks := false }, kinds := [], alts := [], laidByText := true, laidKinds := [.data], laidTests := true, laidLooks := .later }
def TlbFencedUptoCardSaid : Prop := Claim7.holds Tryd.pinned (.plain (OpenSpec.upto tlbFencedSpec)) tlbFencedUptoCard
end Rows
end Go.Proofs.YtpnabfekidpnoaaDoor
