/-
  No cell of these rows narrows 'for every input' (looked for: loops, veiled, ifaces, maps, wideKeys, modest, calm, conditions, laid).
  DERIVED. THE GIVEN ROWS OF THIS SEAT. 3 by the template 'for every input the law returns true; each argument reads behind the call as it read before'; 0 by the template 'total and deterministic' (their statements: YtapbcpgcbpknhaaTotals.lean).
  GIVEN WITH THE SEED: the statements are not yours to turn. If you find one false, say at which input.
  Laid BY PROGRAM, IN A SANDBOX (cutbox-rows.mjs): the forced cells as the released guide's own fill.sh prints them over the translation dabe59cd222340fb… (all of the seat's roots in one cut). By AI agents, Wed Nov 11 2026. No macro, syntax, notation, axiom, sorry.
-/
import Derived.Test.YtapbcpgcbpknhaaChecked
import GoSem.Claim
import GoSem.ClaimJoined
import GoSem.ClaimMapViews
import Derived.JoinedTies
import Derived.KernelRfl
namespace Go.Proofs.Ytapbcpgcbpknhaa
/- THE CELL 'sum', in the pinned program and in every row, IS THE sha256 OF THE DUMP (.gsa) THAT YtapbcpgcbpknhaaProg.lean LOADS. Nothing in Lean hashes anything: it is a label: what it is worth is what the hold of that sum in a sandbox is worth. -/
noncomputable def Try.pinned : Pinned := { name := "ytapbcpgcbpknhaa", sum := "dabe59cd222340fb77ba310d030b6fa0cbc8e79d87f6001acf368094edf8fc5a", checked := Try.checked }
namespace Rows
def none {H : Type} : Left H := { results := [], args := [] }

/-- 'mezzaninelaw26.GtabKnown': WHATEVER THE INPUT: true; the input reads as it did. -/
def gtabKnownSpec : ChangeSpec := { name := "gtabKnown", fn := fun _ => fun
  | [] => { results := [.lit (.bool true)], args := [] }
  | _ => none }
def gtabKnownRow : OpenClaim := { program := "ytapbcpgcbpknhaa", sum := "dabe59cd222340fb77ba310d030b6fa0cbc8e79d87f6001acf368094edf8fc5a", func := "mezzanine/mezzaninelaw26.GtabKnown", spec := "gtabKnown", unfollowed := true, recurses := true, apart := false }
def GtabKnownSaid : Prop := gtabKnownRow.holds Try.pinned (OpenSpec.ofChange gtabKnownSpec)

/-- ITS FALSE NEIGHBOUR: 'it returns false'. Refute it at one input. -/
def gtabKnownWrong : ChangeSpec := { name := "gtabKnown", fn := fun _ => fun
  | [] => { results := [.lit (.bool false)], args := [] }
  | _ => none }
def GtabKnownWrongFalsely : Prop := gtabKnownRow.holds Try.pinned (OpenSpec.ofChange gtabKnownWrong)

/-- 'mezzaninelaw03.RamKnown': WHATEVER THE INPUT: true; the input reads as it did. -/
def ramKnownSpec : ChangeSpec := { name := "ramKnown", fn := fun _ => fun
  | [] => { results := [.lit (.bool true)], args := [] }
  | _ => none }
def ramKnownRow : OpenClaim := { program := "ytapbcpgcbpknhaa", sum := "dabe59cd222340fb77ba310d030b6fa0cbc8e79d87f6001acf368094edf8fc5a", func := "mezzanine/mezzaninelaw03.RamKnown", spec := "ramKnown", recurses := true, apart := false }
def RamKnownSaid : Prop := ramKnownRow.holds Try.pinned (OpenSpec.ofChange ramKnownSpec)

/-- ITS FALSE NEIGHBOUR: 'it returns false'. Refute it at one input. -/
def ramKnownWrong : ChangeSpec := { name := "ramKnown", fn := fun _ => fun
  | [] => { results := [.lit (.bool false)], args := [] }
  | _ => none }
def RamKnownWrongFalsely : Prop := ramKnownRow.holds Try.pinned (OpenSpec.ofChange ramKnownWrong)

/-- 'mezzaninelaw25.ConfKnown': WHATEVER THE INPUT: true; the input reads as it did. -/
def confKnownSpec : ChangeSpec := { name := "confKnown", fn := fun _ => fun
  | [] => { results := [.lit (.bool true)], args := [] }
  | _ => none }
def confKnownRow : OpenClaim := { program := "ytapbcpgcbpknhaa", sum := "dabe59cd222340fb77ba310d030b6fa0cbc8e79d87f6001acf368094edf8fc5a", func := "mezzanine/mezzaninelaw25.ConfKnown", spec := "confKnown", unfollowed := true, recurses := true, apart := false }
def ConfKnownSaid : Prop := confKnownRow.holds Try.pinned (OpenSpec.ofChange confKnownSpec)

/-- ITS FALSE NEIGHBOUR: 'it returns false'. Refute it at one input. -/
def confKnownWrong : ChangeSpec := { name := "confKnown", fn := fun _ => fun
  | [] => { results := [.lit (.bool false)], args := [] }
  | _ => none }
def ConfKnownWrongFalsely : Prop := confKnownRow.holds Try.pinned (OpenSpec.ofChange confKnownWrong)

/- THE SECOND FORM. 'bulk': how many values and letters a reading holds, each counted each time it is reached (what is shared counts as often as it is met; a slice's spare places count too). A statement '..UptoSaid' is the law's where the arguments, and the package variables that the reading takes, are together of bulk at most 1048576: NARROWER than '..Said'. Prove '..Said' where nothing that the law and all that it calls make is longer than what came in: it says more and counts as full. Else prove '..UptoSaid'. A law counts once. -/
mutual
def uptoBulk {H : Type} : DataW H → Nat
  | .lit (.string bytes) => bytes.length + 1
  | .lit _ => 1
  | .nil => 1
  | .ptr d => uptoBulk d + 1
  | .slice elems spare => uptoBulkAll elems + uptoBulkAll spare + 1
  | .agg parts => uptoBulkAll parts + 1
  | .iface _ d => uptoBulk d + 1
  | .map entries => uptoBulkEntries entries + 1
  | .held _ => 1
def uptoBulkAll {H : Type} : List (DataW H) → Nat
  | [] => 0
  | d :: r => uptoBulk d + uptoBulkAll r
def uptoBulkEntries {H : Type} : List (Lit × DataW H) → Nat
  | [] => 0
  | x :: r => uptoBulkEntry x + uptoBulkEntries r
def uptoBulkEntry {H : Type} : Lit × DataW H → Nat
  | (.string bytes, d) => bytes.length + uptoBulk d + 1
  | (_, d) => uptoBulk d + 1
 end
def uptoSmall : (H : Type) → List (DataW H) → Bool := fun _ ds => decide (uptoBulkAll ds ≤ 1048576)
def OpenSpec.upto (s : _root_.Go.ChangeSpec) : _root_.Go.OpenSpec := { _root_.Go.OpenSpec.ofChange s with cond := some uptoSmall }

/-- 'mezzaninelaw26.GtabKnown', WHERE WHAT IT READS IS OF BULK AT MOST 1048576: true; the input reads as it did. -/
def gtabKnownUptoRow : OpenClaim := { program := "ytapbcpgcbpknhaa", sum := "dabe59cd222340fb77ba310d030b6fa0cbc8e79d87f6001acf368094edf8fc5a", func := "mezzanine/mezzaninelaw26.GtabKnown", spec := "gtabKnown", unfollowed := true, recurses := true, apart := false, narrowed := true }
def GtabKnownUptoSaid : Prop := gtabKnownUptoRow.holds Try.pinned (OpenSpec.upto gtabKnownSpec)

/-- 'mezzaninelaw03.RamKnown', WHERE WHAT IT READS IS OF BULK AT MOST 1048576: true; the input reads as it did. -/
def ramKnownUptoRow : OpenClaim := { program := "ytapbcpgcbpknhaa", sum := "dabe59cd222340fb77ba310d030b6fa0cbc8e79d87f6001acf368094edf8fc5a", func := "mezzanine/mezzaninelaw03.RamKnown", spec := "ramKnown", recurses := true, apart := false, narrowed := true }
def RamKnownUptoSaid : Prop := ramKnownUptoRow.holds Try.pinned (OpenSpec.upto ramKnownSpec)

/-- 'mezzaninelaw25.ConfKnown', WHERE WHAT IT READS IS OF BULK AT MOST 1048576: true; the input reads as it did. -/
def confKnownUptoRow : OpenClaim := { program := "ytapbcpgcbpknhaa", sum := "dabe59cd222340fb77ba310d030b6fa0cbc8e79d87f6001acf368094edf8fc5a", func := "mezzanine/mezzaninelaw25.ConfKnown", spec := "confKnown", unfollowed := true, recurses := true, apart := false, narrowed := true }
def ConfKnownUptoSaid : Prop := confKnownUptoRow.holds Try.pinned (OpenSpec.upto confKnownSpec)

end Rows
end Go.Proofs.Ytapbcpgcbpknhaa
