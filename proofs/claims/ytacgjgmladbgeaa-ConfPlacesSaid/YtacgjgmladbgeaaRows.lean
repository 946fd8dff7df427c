/-
  No cell of these rows narrows 'for every input' (looked for: loops, veiled, ifaces, maps, wideKeys, modest, calm, conditions, laid).
  DERIVED. THE GIVEN ROWS OF THIS SEAT. 6 by the template 'for every input the law returns true; each argument reads behind the call as it read before'; 0 by the template 'total and deterministic' (their statements: YtacgjgmladbgeaaTotals.lean).
  GIVEN WITH THE SEED: the statements are not yours to turn. If you find one false, say at which input.
  Laid BY PROGRAM, IN A SANDBOX (cutbox-rows.mjs): the forced cells as the released guide's own fill.sh prints them over the translation 524ccdf37eb9b415… (all of the seat's roots in one cut). By AI agents, Wed Nov 11 2026. No macro, syntax, notation, axiom, sorry.
-/
import Derived.Test.YtacgjgmladbgeaaChecked
import GoSem.Claim
import GoSem.ClaimJoined
import GoSem.ClaimMapViews
import Derived.JoinedTies
import Derived.KernelRfl
namespace Go.Proofs.Ytacgjgmladbgeaa
/- THE CELL 'sum', in the pinned program and in every row, IS THE sha256 OF THE DUMP (.gsa) THAT YtacgjgmladbgeaaProg.lean LOADS. Nothing in Lean hashes anything: it is a label: what it is worth is what the hold of that sum in a sandbox is worth. -/
noncomputable def Try.pinned : Pinned := { name := "ytacgjgmladbgeaa", sum := "524ccdf37eb9b415bd404385725dfd6c734233d2eb2307656961f6f7730331c0", checked := Try.checked }
namespace Rows
def none {H : Type} : Left H := { results := [], args := [] }

/-- 'mezzaninelaw26.GtabTables': WHATEVER THE INPUT: true; the input reads as it did. -/
def gtabTablesSpec : ChangeSpec := { name := "gtabTables", fn := fun _ => fun
  | [d1, d2] => { results := [.lit (.bool true)], args := [d1, d2] }
  | _ => none }
def gtabTablesRow : OpenClaim := { program := "ytacgjgmladbgeaa", sum := "524ccdf37eb9b415bd404385725dfd6c734233d2eb2307656961f6f7730331c0", func := "mezzanine/mezzaninelaw26.GtabTables", spec := "gtabTables", unfollowed := true, recurses := true, apart := false }
def GtabTablesSaid : Prop := gtabTablesRow.holds Try.pinned (OpenSpec.ofChange gtabTablesSpec)

/-- ITS FALSE NEIGHBOUR: 'it returns false'. Refute it at one input. -/
def gtabTablesWrong : ChangeSpec := { name := "gtabTables", fn := fun _ => fun
  | [d1, d2] => { results := [.lit (.bool false)], args := [d1, d2] }
  | _ => none }
def GtabTablesWrongFalsely : Prop := gtabTablesRow.holds Try.pinned (OpenSpec.ofChange gtabTablesWrong)

/-- 'mezzaninelaw25.ConfKnown': WHATEVER THE INPUT: true; the input reads as it did. -/
def confKnownSpec : ChangeSpec := { name := "confKnown", fn := fun _ => fun
  | [] => { results := [.lit (.bool true)], args := [] }
  | _ => none }
def confKnownRow : OpenClaim := { program := "ytacgjgmladbgeaa", sum := "524ccdf37eb9b415bd404385725dfd6c734233d2eb2307656961f6f7730331c0", func := "mezzanine/mezzaninelaw25.ConfKnown", spec := "confKnown", unfollowed := true, recurses := true, apart := false }
def ConfKnownSaid : Prop := confKnownRow.holds Try.pinned (OpenSpec.ofChange confKnownSpec)

/-- ITS FALSE NEIGHBOUR: 'it returns false'. Refute it at one input. -/
def confKnownWrong : ChangeSpec := { name := "confKnown", fn := fun _ => fun
  | [] => { results := [.lit (.bool false)], args := [] }
  | _ => none }
def ConfKnownWrongFalsely : Prop := confKnownRow.holds Try.pinned (OpenSpec.ofChange confKnownWrong)

/-- 'mezzaninelaw25.ConfChecks': WHATEVER THE INPUT: true; the input reads as it did. -/
def confChecksSpec : ChangeSpec := { name := "confChecks", fn := fun _ => fun
  | [d] => { results := [.lit (.bool true)], args := [d] }
  | _ => none }
def confChecksRow : OpenClaim := { program := "ytacgjgmladbgeaa", sum := "524ccdf37eb9b415bd404385725dfd6c734233d2eb2307656961f6f7730331c0", func := "mezzanine/mezzaninelaw25.ConfChecks", spec := "confChecks", unfollowed := true, recurses := true, apart := false }
def ConfChecksSaid : Prop := confChecksRow.holds Try.pinned (OpenSpec.ofChange confChecksSpec)

/-- ITS FALSE NEIGHBOUR: 'it returns false'. Refute it at one input. -/
def confChecksWrong : ChangeSpec := { name := "confChecks", fn := fun _ => fun
  | [d] => { results := [.lit (.bool false)], args := [d] }
  | _ => none }
def ConfChecksWrongFalsely : Prop := confChecksRow.holds Try.pinned (OpenSpec.ofChange confChecksWrong)

/-- 'mezzaninelaw25.ConfPlaces': WHATEVER THE INPUT: true; the input reads as it did. -/
def confPlacesSpec : ChangeSpec := { name := "confPlaces", fn := fun _ => fun
  | [d1, d2, d3] => { results := [.lit (.bool true)], args := [d1, d2, d3] }
  | _ => none }
def confPlacesRow : OpenClaim := { program := "ytacgjgmladbgeaa", sum := "524ccdf37eb9b415bd404385725dfd6c734233d2eb2307656961f6f7730331c0", func := "mezzanine/mezzaninelaw25.ConfPlaces", spec := "confPlaces", unfollowed := true, recurses := true, apart := false }
def ConfPlacesSaid : Prop := confPlacesRow.holds Try.pinned (OpenSpec.ofChange confPlacesSpec)

/-- ITS FALSE NEIGHBOUR: 'it returns false'. Refute it at one input. -/
def confPlacesWrong : ChangeSpec := { name := "confPlaces", fn := fun _ => fun
  | [d1, d2, d3] => { results := [.lit (.bool false)], args := [d1, d2, d3] }
  | _ => none }
def ConfPlacesWrongFalsely : Prop := confPlacesRow.holds Try.pinned (OpenSpec.ofChange confPlacesWrong)

/-- 'mezzaninelaw25.ConfApart': WHATEVER THE INPUT: true; the input reads as it did. -/
def confApartSpec : ChangeSpec := { name := "confApart", fn := fun _ => fun
  | [d1, d2] => { results := [.lit (.bool true)], args := [d1, d2] }
  | _ => none }
def confApartRow : OpenClaim := { program := "ytacgjgmladbgeaa", sum := "524ccdf37eb9b415bd404385725dfd6c734233d2eb2307656961f6f7730331c0", func := "mezzanine/mezzaninelaw25.ConfApart", spec := "confApart", unfollowed := true, recurses := true, apart := false }
def ConfApartSaid : Prop := confApartRow.holds Try.pinned (OpenSpec.ofChange confApartSpec)

/-- ITS FALSE NEIGHBOUR: 'it returns false'. Refute it at one input. -/
def confApartWrong : ChangeSpec := { name := "confApart", fn := fun _ => fun
  | [d1, d2] => { results := [.lit (.bool false)], args := [d1, d2] }
  | _ => none }
def ConfApartWrongFalsely : Prop := confApartRow.holds Try.pinned (OpenSpec.ofChange confApartWrong)

/-- 'mezzaninelaw25.ConfTurned': WHATEVER THE INPUT: true; the input reads as it did. -/
def confTurnedSpec : ChangeSpec := { name := "confTurned", fn := fun _ => fun
  | [d1, d2, d3] => { results := [.lit (.bool true)], args := [d1, d2, d3] }
  | _ => none }
def confTurnedRow : OpenClaim := { program := "ytacgjgmladbgeaa", sum := "524ccdf37eb9b415bd404385725dfd6c734233d2eb2307656961f6f7730331c0", func := "mezzanine/mezzaninelaw25.ConfTurned", spec := "confTurned", unfollowed := true, recurses := true, apart := false }
def ConfTurnedSaid : Prop := confTurnedRow.holds Try.pinned (OpenSpec.ofChange confTurnedSpec)

/-- ITS FALSE NEIGHBOUR: 'it returns false'. Refute it at one input. -/
def confTurnedWrong : ChangeSpec := { name := "confTurned", fn := fun _ => fun
  | [d1, d2, d3] => { results := [.lit (.bool false)], args := [d1, d2, d3] }
  | _ => none }
def ConfTurnedWrongFalsely : Prop := confTurnedRow.holds Try.pinned (OpenSpec.ofChange confTurnedWrong)

/- THE SECOND FORM. 'bulk': how many values and letters a reading holds, each counted each time it is reached (what is shared counts as often as it is met; a slice's spare places count too). A statement '..UptoSaid' is the law's where the arguments, and the package variables that the reading takes, are together of bulk at most 1048576: NARROWER than '..Said'. Prove '..Said' where nothing that the law and all that it calls make is longer than what came in: it says more and counts as full. Else prove '..UptoSaid'. A law counts once. -/
mutual
def uptoBulk {H : Type} : DataW H → Nat
  | .lit (.string bytes) => bytes.length + 1
  | .lit _ => 1
  | .nil => 1
  | .ptr d => uptoBulk d + 1
  | .slice elems spare => uptoBulkAll elems + uptoBulkAll spare + 1
  | .agg parts => uptoBulkAll parts + 1
  | .iface _ d => uptoBulk d + 1
  | .map entries => uptoBulkEntries entries + 1
  | .held _ => 1
def uptoBulkAll {H : Type} : List (DataW H) → Nat
  | [] => 0
  | d :: r => uptoBulk d + uptoBulkAll r
def uptoBulkEntries {H : Type} : List (Lit × DataW H) → Nat
  | [] => 0
  | x :: r => uptoBulkEntry x + uptoBulkEntries r
def uptoBulkEntry {H : Type} : Lit × DataW H → Nat
  | (.string bytes, d) => bytes.length + uptoBulk d + 1
  | (_, d) => uptoBulk d + 1
 end
def uptoSmall : (H : Type) → List (DataW H) → Bool := fun _ ds => decide (uptoBulkAll ds ≤ 1048576)
def OpenSpec.upto (s : _root_.Go.ChangeSpec) : _root_.Go.OpenSpec := { _root_.Go.OpenSpec.ofChange s with cond := some uptoSmall }

/-- 'mezzaninelaw26.GtabTables', WHERE WHAT IT READS IS OF BULK AT MOST 1048576: true; the input reads as it did. -/
def gtabTablesUptoRow : OpenClaim := { program := "ytacgjgmladbgeaa", sum := "524ccdf37eb9b415bd404385725dfd6c734233d2eb2307656961f6f7730331c0", func := "mezzanine/mezzaninelaw26.GtabTables", spec := "gtabTables", unfollowed := true, recurses := true, apart := false, narrowed := true }
def GtabTablesUptoSaid : Prop := gtabTablesUptoRow.holds Try.pinned (OpenSpec.upto gtabTablesSpec)

/-- 'mezzaninelaw25.ConfKnown', WHERE WHAT IT READS IS OF BULK AT MOST 1048576: true; the input reads as it did. -/
def confKnownUptoRow : OpenClaim := { program := "ytacgjgmladbgeaa", sum := "524ccdf37eb9b415bd404385725dfd6c734233d2eb2307656961f6f7730331c0", func := "mezzanine/mezzaninelaw25.ConfKnown", spec := "confKnown", unfollowed := true, recurses := true, apart := false, narrowed := true }
def ConfKnownUptoSaid : Prop := confKnownUptoRow.holds Try.pinned (OpenSpec.upto confKnownSpec)

/-- 'mezzaninelaw25.ConfChecks', WHERE WHAT IT READS IS OF BULK AT MOST 1048576: true; the input reads as it did. -/
def confChecksUptoRow : OpenClaim := { program := "ytacgjgmladbgeaa", sum := "524ccdf37eb9b415bd404385725dfd6c734233d2eb2307656961f6f7730331c0", func := "mezzanine/mezzaninelaw25.ConfChecks", spec := "confChecks", unfollowed := true, recurses := true, apart := false, narrowed := true }
def ConfChecksUptoSaid : Prop := confChecksUptoRow.holds Try.pinned (OpenSpec.upto confChecksSpec)

/-- 'mezzaninelaw25.ConfPlaces', WHERE WHAT IT READS IS OF BULK AT MOST 1048576: true; the input reads as it did. -/
def confPlacesUptoRow : OpenClaim := { program := "ytacgjgmladbgeaa", sum := "524ccdf37eb9b415bd404385725dfd6c734233d2eb2307656961f6f7730331c0", func := "mezzanine/mezzaninelaw25.ConfPlaces", spec := "confPlaces", unfollowed := true, recurses := true, apart := false, narrowed := true }
def ConfPlacesUptoSaid : Prop := confPlacesUptoRow.holds Try.pinned (OpenSpec.upto confPlacesSpec)

/-- 'mezzaninelaw25.ConfApart', WHERE WHAT IT READS IS OF BULK AT MOST 1048576: true; the input reads as it did. -/
def confApartUptoRow : OpenClaim := { program := "ytacgjgmladbgeaa", sum := "524ccdf37eb9b415bd404385725dfd6c734233d2eb2307656961f6f7730331c0", func := "mezzanine/mezzaninelaw25.ConfApart", spec := "confApart", unfollowed := true, recurses := true, apart := false, narrowed := true }
def ConfApartUptoSaid : Prop := confApartUptoRow.holds Try.pinned (OpenSpec.upto confApartSpec)

/-- 'mezzaninelaw25.ConfTurned', WHERE WHAT IT READS IS OF BULK AT MOST 1048576: true; the input reads as it did. -/
def confTurnedUptoRow : OpenClaim := { program := "ytacgjgmladbgeaa", sum := "524ccdf37eb9b415bd404385725dfd6c734233d2eb2307656961f6f7730331c0", func := "mezzanine/mezzaninelaw25.ConfTurned", spec := "confTurned", unfollowed := true, recurses := true, apart := false, narrowed := true }
def ConfTurnedUptoSaid : Prop := confTurnedUptoRow.holds Try.pinned (OpenSpec.upto confTurnedSpec)

end Rows
end Go.Proofs.Ytacgjgmladbgeaa
