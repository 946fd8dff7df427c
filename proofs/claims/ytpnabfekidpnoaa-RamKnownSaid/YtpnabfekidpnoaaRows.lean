/-
  No cell of these rows narrows 'for every input' (looked for: loops, veiled, ifaces, maps, wideKeys, modest, calm, conditions, laid).
  DERIVED. THE GIVEN ROWS OF THIS SEAT. 5 by the template 'for every input the law returns true; each argument reads behind the call as it read before'; 0 by the template 'total and deterministic' (their statements: YtpnabfekidpnoaaTotals.lean).
  GIVEN WITH THE SEED: the statements are not yours to turn. If you find one false, say at which input.
  Laid BY PROGRAM, IN A SANDBOX (cutbox-rows.mjs): the forced cells as the released guide's own fill.sh prints them over the translation 42bf173d0698af59… (all of the seat's roots in one cut). By AI agents, Wed Nov 11 2026. No macro, syntax, notation, axiom, sorry.
-/
import Derived.Test.YtpnabfekidpnoaaChecked
import GoSem.Claim
import GoSem.ClaimJoined
import GoSem.ClaimMapViews
import Derived.JoinedTies
import Derived.KernelRfl
namespace Go.Proofs.Ytpnabfekidpnoaa
/- THE CELL 'sum', in the pinned program and in every row, IS THE sha256 OF THE DUMP (.gsa) THAT YtpnabfekidpnoaaProg.lean LOADS. Nothing in Lean hashes anything: it is a label: what it is worth is what the hold of that sum in a sandbox is worth. -/
noncomputable def Try.pinned : Pinned := { name := "ytpnabfekidpnoaa", sum := "42bf173d0698af596fc608f6cea7eef29150203f664a593e2b1160347ad875f3", checked := Try.checked }
namespace Rows
def none {H : Type} : Left H := { results := [], args := [] }

/-- 'mezzaninelaw03.RamBack': WHATEVER THE INPUT: true; the input reads as it did. -/
def ramBackSpec : ChangeSpec := { name := "ramBack", fn := fun _ => fun
  | [d1, d2, d3, d4, d5] => { results := [.lit (.bool true)], args := [d1, d2, d3, d4, d5] }
  | _ => none }
def ramBackRow : OpenClaim := { program := "ytpnabfekidpnoaa", sum := "42bf173d0698af596fc608f6cea7eef29150203f664a593e2b1160347ad875f3", func := "mezzanine/mezzaninelaw03.RamBack", spec := "ramBack", recurses := true, apart := false }
def RamBackSaid : Prop := ramBackRow.holds Try.pinned (OpenSpec.ofChange ramBackSpec)

/-- ITS FALSE NEIGHBOUR: 'it returns false'. Refute it at one input. -/
def ramBackWrong : ChangeSpec := { name := "ramBack", fn := fun _ => fun
  | [d1, d2, d3, d4, d5] => { results := [.lit (.bool false)], args := [d1, d2, d3, d4, d5] }
  | _ => none }
def RamBackWrongFalsely : Prop := ramBackRow.holds Try.pinned (OpenSpec.ofChange ramBackWrong)

/-- 'mezzaninelaw03.RamKnown': WHATEVER THE INPUT: true; the input reads as it did. -/
def ramKnownSpec : ChangeSpec := { name := "ramKnown", fn := fun _ => fun
  | [] => { results := [.lit (.bool true)], args := [] }
  | _ => none }
def ramKnownRow : OpenClaim := { program := "ytpnabfekidpnoaa", sum := "42bf173d0698af596fc608f6cea7eef29150203f664a593e2b1160347ad875f3", func := "mezzanine/mezzaninelaw03.RamKnown", spec := "ramKnown", recurses := true, apart := false }
def RamKnownSaid : Prop := ramKnownRow.holds Try.pinned (OpenSpec.ofChange ramKnownSpec)

/-- ITS FALSE NEIGHBOUR: 'it returns false'. Refute it at one input. -/
def ramKnownWrong : ChangeSpec := { name := "ramKnown", fn := fun _ => fun
  | [] => { results := [.lit (.bool false)], args := [] }
  | _ => none }
def RamKnownWrongFalsely : Prop := ramKnownRow.holds Try.pinned (OpenSpec.ofChange ramKnownWrong)

/-- 'mezzaninelaw03.RamPlays': WHATEVER THE INPUT: true; the input reads as it did. -/
def ramPlaysSpec : ChangeSpec := { name := "ramPlays", fn := fun _ => fun
  | [d1, d2, d3] => { results := [.lit (.bool true)], args := [d1, d2, d3] }
  | _ => none }
def ramPlaysRow : OpenClaim := { program := "ytpnabfekidpnoaa", sum := "42bf173d0698af596fc608f6cea7eef29150203f664a593e2b1160347ad875f3", func := "mezzanine/mezzaninelaw03.RamPlays", spec := "ramPlays", recurses := true, apart := false }
def RamPlaysSaid : Prop := ramPlaysRow.holds Try.pinned (OpenSpec.ofChange ramPlaysSpec)

/-- ITS FALSE NEIGHBOUR: 'it returns false'. Refute it at one input. -/
def ramPlaysWrong : ChangeSpec := { name := "ramPlays", fn := fun _ => fun
  | [d1, d2, d3] => { results := [.lit (.bool false)], args := [d1, d2, d3] }
  | _ => none }
def RamPlaysWrongFalsely : Prop := ramPlaysRow.holds Try.pinned (OpenSpec.ofChange ramPlaysWrong)

/-- 'mezzaninelaw03.RamApart': WHATEVER THE INPUT: true; the input reads as it did. -/
def ramApartSpec : ChangeSpec := { name := "ramApart", fn := fun _ => fun
  | [d1, d2, d3] => { results := [.lit (.bool true)], args := [d1, d2, d3] }
  | _ => none }
def ramApartRow : OpenClaim := { program := "ytpnabfekidpnoaa", sum := "42bf173d0698af596fc608f6cea7eef29150203f664a593e2b1160347ad875f3", func := "mezzanine/mezzaninelaw03.RamApart", spec := "ramApart", recurses := true, apart := false }
def RamApartSaid : Prop := ramApartRow.holds Try.pinned (OpenSpec.ofChange ramApartSpec)

/-- ITS FALSE NEIGHBOUR: 'it returns false'. Refute it at one input. -/
def ramApartWrong : ChangeSpec := { name := "ramApart", fn := fun _ => fun
  | [d1, d2, d3] => { results := [.lit (.bool false)], args := [d1, d2, d3] }
  | _ => none }
def RamApartWrongFalsely : Prop := ramApartRow.holds Try.pinned (OpenSpec.ofChange ramApartWrong)

/-- 'mezzaninelaw03.RamSame': WHATEVER THE INPUT: true; the input reads as it did. -/
def ramSameSpec : ChangeSpec := { name := "ramSame", fn := fun _ => fun
  | [d1, d2, d3, d4, d5, d6] => { results := [.lit (.bool true)], args := [d1, d2, d3, d4, d5, d6] }
  | _ => none }
def ramSameRow : OpenClaim := { program := "ytpnabfekidpnoaa", sum := "42bf173d0698af596fc608f6cea7eef29150203f664a593e2b1160347ad875f3", func := "mezzanine/mezzaninelaw03.RamSame", spec := "ramSame", recurses := true, apart := false }
def RamSameSaid : Prop := ramSameRow.holds Try.pinned (OpenSpec.ofChange ramSameSpec)

/-- ITS FALSE NEIGHBOUR: 'it returns false'. Refute it at one input. -/
def ramSameWrong : ChangeSpec := { name := "ramSame", fn := fun _ => fun
  | [d1, d2, d3, d4, d5, d6] => { results := [.lit (.bool false)], args := [d1, d2, d3, d4, d5, d6] }
  | _ => none }
def RamSameWrongFalsely : Prop := ramSameRow.holds Try.pinned (OpenSpec.ofChange ramSameWrong)

/- THE SECOND FORM. 'bulk': how many values and letters a reading holds, each counted each time it is reached (what is shared counts as often as it is met; a slice's spare places count too). A statement '..UptoSaid' is the law's where the arguments, and the package variables that the reading takes, are together of bulk at most 1048576: NARROWER than '..Said'. Prove '..Said' where nothing that the law and all that it calls make is longer than what came in: it says more and counts as full. Else prove '..UptoSaid'. A law counts once. -/
mutual
def uptoBulk {H : Type} : DataW H → Nat
  | .lit (.string bytes) => bytes.length + 1
  | .lit _ => 1
  | .nil => 1
  | .ptr d => uptoBulk d + 1
  | .slice elems spare => uptoBulkAll elems + uptoBulkAll spare + 1
  | .agg parts => uptoBulkAll parts + 1
  | .iface _ d => uptoBulk d + 1
  | .map entries => uptoBulkEntries entries + 1
  | .held _ => 1
def uptoBulkAll {H : Type} : List (DataW H) → Nat
  | [] => 0
  | d :: r => uptoBulk d + uptoBulkAll r
def uptoBulkEntries {H : Type} : List (Lit × DataW H) → Nat
  | [] => 0
  | x :: r => uptoBulkEntry x + uptoBulkEntries r
def uptoBulkEntry {H : Type} : Lit × DataW H → Nat
  | (.string bytes, d) => bytes.length + uptoBulk d + 1
  | (_, d) => uptoBulk d + 1
 end
def uptoSmall : (H : Type) → List (DataW H) → Bool := fun _ ds => decide (uptoBulkAll ds ≤ 1048576)
def OpenSpec.upto (s : _root_.Go.ChangeSpec) : _root_.Go.OpenSpec := { _root_.Go.OpenSpec.ofChange s with cond := some uptoSmall }

/-- 'mezzaninelaw03.RamBack', WHERE WHAT IT READS IS OF BULK AT MOST 1048576: true; the input reads as it did. -/
def ramBackUptoRow : OpenClaim := { program := "ytpnabfekidpnoaa", sum := "42bf173d0698af596fc608f6cea7eef29150203f664a593e2b1160347ad875f3", func := "mezzanine/mezzaninelaw03.RamBack", spec := "ramBack", recurses := true, apart := false, narrowed := true }
def RamBackUptoSaid : Prop := ramBackUptoRow.holds Try.pinned (OpenSpec.upto ramBackSpec)

/-- 'mezzaninelaw03.RamKnown', WHERE WHAT IT READS IS OF BULK AT MOST 1048576: true; the input reads as it did. -/
def ramKnownUptoRow : OpenClaim := { program := "ytpnabfekidpnoaa", sum := "42bf173d0698af596fc608f6cea7eef29150203f664a593e2b1160347ad875f3", func := "mezzanine/mezzaninelaw03.RamKnown", spec := "ramKnown", recurses := true, apart := false, narrowed := true }
def RamKnownUptoSaid : Prop := ramKnownUptoRow.holds Try.pinned (OpenSpec.upto ramKnownSpec)

/-- 'mezzaninelaw03.RamPlays', WHERE WHAT IT READS IS OF BULK AT MOST 1048576: true; the input reads as it did. -/
def ramPlaysUptoRow : OpenClaim := { program := "ytpnabfekidpnoaa", sum := "42bf173d0698af596fc608f6cea7eef29150203f664a593e2b1160347ad875f3", func := "mezzanine/mezzaninelaw03.RamPlays", spec := "ramPlays", recurses := true, apart := false, narrowed := true }
def RamPlaysUptoSaid : Prop := ramPlaysUptoRow.holds Try.pinned (OpenSpec.upto ramPlaysSpec)

/-- 'mezzaninelaw03.RamApart', WHERE WHAT IT READS IS OF BULK AT MOST 1048576: true; the input reads as it did. -/
def ramApartUptoRow : OpenClaim := { program := "ytpnabfekidpnoaa", sum := "42bf173d0698af596fc608f6cea7eef29150203f664a593e2b1160347ad875f3", func := "mezzanine/mezzaninelaw03.RamApart", spec := "ramApart", recurses := true, apart := false, narrowed := true }
def RamApartUptoSaid : Prop := ramApartUptoRow.holds Try.pinned (OpenSpec.upto ramApartSpec)

/-- 'mezzaninelaw03.RamSame', WHERE WHAT IT READS IS OF BULK AT MOST 1048576: true; the input reads as it did. -/
def ramSameUptoRow : OpenClaim := { program := "ytpnabfekidpnoaa", sum := "42bf173d0698af596fc608f6cea7eef29150203f664a593e2b1160347ad875f3", func := "mezzanine/mezzaninelaw03.RamSame", spec := "ramSame", recurses := true, apart := false, narrowed := true }
def RamSameUptoSaid : Prop := ramSameUptoRow.holds Try.pinned (OpenSpec.upto ramSameSpec)

end Rows
end Go.Proofs.Ytpnabfekidpnoaa
