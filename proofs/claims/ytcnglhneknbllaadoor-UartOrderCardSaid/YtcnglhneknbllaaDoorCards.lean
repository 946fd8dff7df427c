/-
  DERIVED. GIVEN WITH THE SEED: THE CARDS: each row of YtcnglhneknbllaaDoorRows.lean that lists a variable, with what it lists TIED to the program's text (the seventh form; the later family's looks); each row that meets fmt, with fmt's text TOLD by the authors' own Lean function (tested against real Go, not proved from fmt's source: count such statements apart). THE CARD IS WHAT COUNTS. Prove the row's statement (the work); the ties are given (YtcnglhneknbllaaDoorTie.lean); close each card by the builder's one call (the guide's Derived/Test/ToyasCard.lean, 'card_holds'). Laid BY PROGRAM, IN A SANDBOX (cutbox-door.mjs). By AI agents, Wed Nov 11 2026. No macro, syntax, notation, axiom, sorry.
-/
import Derived.Test.YtcnglhneknbllaaDoorRows
import GoSem.ClaimSeven
namespace Go.Proofs.YtcnglhneknbllaaDoor
namespace Rows

/-- THE TIED CARD OF 'mezzaninelaw06.UartFull'. -/
def uartFullCard : Claim7 := { stood := { row := uartFullRow, standIns := [], harness := (true, "db90c739255d992ed0d1d6f69990fe4b6383dba3c68cddfc687737a5ba081c54"), looks := false }, kinds := [], alts := [], laidByText := true, laidKinds := [.data], laidTests := true, laidLooks := .later }
def UartFullCardSaid : Prop := Claim7.holds Tryd.pinned (.plain (OpenSpec.ofChange uartFullSpec)) uartFullCard

/-- THE TIED CARD OF 'mezzaninelaw06.UartOrder'. -/
def uartOrderCard : Claim7 := { stood := { row := uartOrderRow, standIns := [], harness := (true, "db90c739255d992ed0d1d6f69990fe4b6383dba3c68cddfc687737a5ba081c54"), looks := false }, kinds := [], alts := [], laidByText := true, laidKinds := [.data], laidTests := true, laidLooks := .later }
def UartOrderCardSaid : Prop := Claim7.holds Tryd.pinned (.plain (OpenSpec.ofChange uartOrderSpec)) uartOrderCard

/-- THE TIED CARD OF 'mezzaninelaw06.UartPlays'. -/
def uartPlaysCard : Claim7 := { stood := { row := uartPlaysRow, standIns := [], harness := (true, "db90c739255d992ed0d1d6f69990fe4b6383dba3c68cddfc687737a5ba081c54"), looks := false }, kinds := [], alts := [], laidByText := true, laidKinds := [.data], laidTests := true, laidLooks := .later }
def UartPlaysCardSaid : Prop := Claim7.holds Tryd.pinned (.plain (OpenSpec.ofChange uartPlaysSpec)) uartPlaysCard

/-- THE TIED CARD OF 'mezzaninelaw05.PlicKnown'. -/
def plicKnownCard : Claim7 := { stood := { row := plicKnownRow, standIns := [], harness := (true, "db90c739255d992ed0d1d6f69990fe4b6383dba3c68cddfc687737a5ba081c54"), looks := false }, kinds := [], alts := [], laidByText := true, laidKinds := [.data], laidTests := true, laidLooks := .later }
def PlicKnownCardSaid : Prop := Claim7.holds Tryd.pinned (.plain (OpenSpec.ofChange plicKnownSpec)) plicKnownCard

/-- THE TIED CARD OF 'mezzaninelaw06.UartSame'. -/
def uartSameCard : Claim7 := { stood := { row := uartSameRow, standIns := [], harness := (true, "db90c739255d992ed0d1d6f69990fe4b6383dba3c68cddfc687737a5ba081c54"), looks := false }, kinds := [], alts := [], laidByText := true, laidKinds := [.data], laidTests := true, laidLooks := .later }
def UartSameCardSaid : Prop := Claim7.holds Tryd.pinned (.plain (OpenSpec.ofChange uartSameSpec)) uartSameCard

/-- THE TIED CARD OF 'mezzaninelaw06.UartStill'. -/
def uartStillCard : Claim7 := { stood := { row := uartStillRow, standIns := [], harness := (true, "db90c739255d992ed0d1d6f69990fe4b6383dba3c68cddfc687737a5ba081c54"), looks := false }, kinds := [], alts := [], laidByText := true, laidKinds := [.data], laidTests := true, laidLooks := .later }
def UartStillCardSaid : Prop := Claim7.holds Tryd.pinned (.plain (OpenSpec.ofChange uartStillSpec)) uartStillCard

/-- THE TIED CARD OF 'mezzaninelaw05.PlicPlays'. -/
def plicPlaysCard : Claim7 := { stood := { row := plicPlaysRow, standIns := [], harness := (true, "db90c739255d992ed0d1d6f69990fe4b6383dba3c68cddfc687737a5ba081c54"), looks := false }, kinds := [], alts := [], laidByText := true, laidKinds := [.data], laidTests := true, laidLooks := .later }
def PlicPlaysCardSaid : Prop := Claim7.holds Tryd.pinned (.plain (OpenSpec.ofChange plicPlaysSpec)) plicPlaysCard

/-- THE TIED CARD OF 'mezzaninelaw05.PlicSame'. -/
def plicSameCard : Claim7 := { stood := { row := plicSameRow, standIns := [], harness := (true, "db90c739255d992ed0d1d6f69990fe4b6383dba3c68cddfc687737a5ba081c54"), looks := false }, kinds := [], alts := [], laidByText := true, laidKinds := [.data], laidTests := true, laidLooks := .later }
def PlicSameCardSaid : Prop := Claim7.holds Tryd.pinned (.plain (OpenSpec.ofChange plicSameSpec)) plicSameCard

/-- THE TIED CARD OF 'mezzaninelaw05.PlicOnce'. -/
def plicOnceCard : Claim7 := { stood := { row := plicOnceRow, standIns := [], harness := (true, "db90c739255d992ed0d1d6f69990fe4b6383dba3c68cddfc687737a5ba081c54"), looks := false }, kinds := [], alts := [], laidByText := true, laidKinds := [.data], laidTests := true, laidLooks := .later }
def PlicOnceCardSaid : Prop := Claim7.holds Tryd.pinned (.plain (OpenSpec.ofChange plicOnceSpec)) plicOnceCard

/-- THE TIED CARD OF 'mezzaninelaw05.PlicThrough'. -/
def plicThroughCard : Claim7 := { stood := { row := plicThroughRow, standIns := [], harness := (true, "db90c739255d992ed0d1d6f69990fe4b6383dba3c68cddfc687737a5ba081c54"), looks := false }, kinds := [], alts := [], laidByText := true, laidKinds := [.data], laidTests := true, laidLooks := .later }
def PlicThroughCardSaid : Prop := Claim7.holds Tryd.pinned (.plain (OpenSpec.ofChange plicThroughSpec)) plicThroughCard

/-- THE TIED CARD OF 'mezzaninelaw06.UartKnown'. -/
def uartKnownCard : Claim7 := { stood := { row := uartKnownRow, standIns := [], harness := (true, "db90c739255d992ed0d1d6f69990fe4b6383dba3c68cddfc687737a5ba081c54"), looks := false }, kinds := [], alts := [], laidByText := true, laidKinds := [.data], laidTests := true, laidLooks := .later }
def UartKnownCardSaid : Prop := Claim7.holds Tryd.pinned (.plain (OpenSpec.ofChange uartKnownSpec)) uartKnownCard

/-- THE SECOND FORM's CARD OF 'mezzaninelaw06.UartFull'. -/
def uartFullUptoCard : Claim7 := { stood := { row := uartFullUptoRow, standIns := [], harness := (true, "db90c739255d992ed0d1d6f69990fe4b6383dba3c68cddfc687737a5ba081c54"), looks := false }, kinds := [], alts := [], laidByText := true, laidKinds := [.data], laidTests := true, laidLooks := .later }
def UartFullUptoCardSaid : Prop := Claim7.holds Tryd.pinned (.plain (OpenSpec.upto uartFullSpec)) uartFullUptoCard

/-- THE SECOND FORM's CARD OF 'mezzaninelaw06.UartOrder'. -/
def uartOrderUptoCard : Claim7 := { stood := { row := uartOrderUptoRow, standIns := [], harness := (true, "db90c739255d992ed0d1d6f69990fe4b6383dba3c68cddfc687737a5ba081c54"), looks := false }, kinds := [], alts := [], laidByText := true, laidKinds := [.data], laidTests := true, laidLooks := .later }
def UartOrderUptoCardSaid : Prop := Claim7.holds Tryd.pinned (.plain (OpenSpec.upto uartOrderSpec)) uartOrderUptoCard

/-- THE SECOND FORM's CARD OF 'mezzaninelaw06.UartPlays'. -/
def uartPlaysUptoCard : Claim7 := { stood := { row := uartPlaysUptoRow, standIns := [], harness := (true, "db90c739255d992ed0d1d6f69990fe4b6383dba3c68cddfc687737a5ba081c54"), looks := false }, kinds := [], alts := [], laidByText := true, laidKinds := [.data], laidTests := true, laidLooks := .later }
def UartPlaysUptoCardSaid : Prop := Claim7.holds Tryd.pinned (.plain (OpenSpec.upto uartPlaysSpec)) uartPlaysUptoCard

/-- THE SECOND FORM's CARD OF 'mezzaninelaw05.PlicKnown'. -/
def plicKnownUptoCard : Claim7 := { stood := { row := plicKnownUptoRow, standIns := [], harness := (true, "db90c739255d992ed0d1d6f69990fe4b6383dba3c68cddfc687737a5ba081c54"), looks := false }, kinds := [], alts := [], laidByText := true, laidKinds := [.data], laidTests := true, laidLooks := .later }
def PlicKnownUptoCardSaid : Prop := Claim7.holds Tryd.pinned (.plain (OpenSpec.upto plicKnownSpec)) plicKnownUptoCard

/-- THE SECOND FORM's CARD OF 'mezzaninelaw06.UartSame'. -/
def uartSameUptoCard : Claim7 := { stood := { row := uartSameUptoRow, standIns := [], harness := (true, "db90c739255d992ed0d1d6f69990fe4b6383dba3c68cddfc687737a5ba081c54"), looks := false }, kinds := [], alts := [], laidByText := true, laidKinds := [.data], laidTests := true, laidLooks := .later }
def UartSameUptoCardSaid : Prop := Claim7.holds Tryd.pinned (.plain (OpenSpec.upto uartSameSpec)) uartSameUptoCard

/-- THE SECOND FORM's CARD OF 'mezzaninelaw06.UartStill'. -/
def uartStillUptoCard : Claim7 := { stood := { row := uartStillUptoRow, standIns := [], harness := (true, "db90c739255d992ed0d1d6f69990fe4b6383dba3c68cddfc687737a5ba081c54"), looks := false }, kinds := [], alts := [], laidByText := true, laidKinds := [.data], laidTests := true, laidLooks := .later }
def UartStillUptoCardSaid : Prop := Claim7.holds Tryd.pinned (.plain (OpenSpec.upto uartStillSpec)) uartStillUptoCard

/-- THE SECOND FORM's CARD OF 'mezzaninelaw05.PlicPlays'. -/
def plicPlaysUptoCard : Claim7 := { stood := { row := plicPlaysUptoRow, standIns := [], harness := (true, "db90c739255d992ed0d1d6f69990fe4b6383dba3c68cddfc687737a5ba081c54"), looks := false }, kinds := [], alts := [], laidByText := true, laidKinds := [.data], laidTests := true, laidLooks := .later }
def PlicPlaysUptoCardSaid : Prop := Claim7.holds Tryd.pinned (.plain (OpenSpec.upto plicPlaysSpec)) plicPlaysUptoCard

/-- THE SECOND FORM's CARD OF 'mezzaninelaw05.PlicSame'. -/
def plicSameUptoCard : Claim7 := { stood := { row := plicSameUptoRow, standIns := [], harness := (true, "db90c739255d992ed0d1d6f69990fe4b6383dba3c68cddfc687737a5ba081c54"), looks := false }, kinds := [], alts := [], laidByText := true, laidKinds := [.data], laidTests := true, laidLooks := .later }
def PlicSameUptoCardSaid : Prop := Claim7.holds Tryd.pinned (.plain (OpenSpec.upto plicSameSpec)) plicSameUptoCard

/-- THE SECOND FORM's CARD OF 'mezzaninelaw05.PlicOnce'. -/
def plicOnceUptoCard : Claim7 := { stood := { row := plicOnceUptoRow, standIns := [], harness := (true, "db90c739255d992ed0d1d6f69990fe4b6383dba3c68cddfc687737a5ba081c54"), looks := false }, kinds := [], alts := [], laidByText := true, laidKinds := [.data], laidTests := true, laidLooks := .later }
def PlicOnceUptoCardSaid : Prop := Claim7.holds Tryd.pinned (.plain (OpenSpec.upto plicOnceSpec)) plicOnceUptoCard

/-- THE SECOND FORM's CARD OF 'mezzaninelaw05.PlicThrough'. -/
def plicThroughUptoCard : Claim7 := { stood := { row := plicThroughUptoRow, standIns := [], harness := (true, "db90c739255d992ed0d1d6f69990fe4b6383dba3c68cddfc687737a5ba081c54"), looks := false }, kinds := [], alts := [], laidByText := true, laidKinds := [.data], laidTests := true, laidLooks := .later }
def PlicThroughUptoCardSaid : Prop := Claim7.holds Tryd.pinned (.plain (OpenSpec.upto plicThroughSpec)) plicThroughUptoCard

/-- THE SECOND FORM's CARD OF 'mezzaninelaw06.UartKnown'. -/
def uartKnownUptoCard : Claim7 := { stood := { row := uartKnownUptoRow, standIns := [], harness := (true, "db90c739255d992ed0d1d6f69990fe4b6383dba3c68cddfc687737a5ba081c54"), looks := false }, kinds := [], alts := [], laidByText := true, laidKinds := [.data], laidTests := true, laidLooks := .later }
def UartKnownUptoCardSaid : Prop := Claim7.holds Tryd.pinned (.plain (OpenSpec.upto uartKnownSpec)) uartKnownUptoCard
end Rows
end Go.Proofs.YtcnglhneknbllaaDoor
