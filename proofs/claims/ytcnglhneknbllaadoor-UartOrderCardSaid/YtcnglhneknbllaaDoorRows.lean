/-
  NARROWER THAN 'FOR EVERY INPUT', by the rows' own cells (each row's printed sentence says how): UartFull: laid · UartOrder: laid · UartPlays: laid · PlicKnown: laid · UartSame: laid · UartStill: laid · PlicPlays: laid · PlicSame: laid · PlicOnce: laid · PlicThrough: laid · UartKnown: laid.
  DERIVED. THE GIVEN ROWS OF THIS SEAT. 11 by the template 'for every input the law returns true; each argument reads behind the call as it read before'; 0 by the template 'total and deterministic' (their statements: YtcnglhneknbllaaDoorTotals.lean).
  GIVEN WITH THE SEED: the statements are not yours to turn. If you find one false, say at which input.
  Laid BY PROGRAM, IN A SANDBOX (cutbox-rows.mjs): the forced cells as the released guide's own fill.sh prints them over the translation 208de72976ebf071… (all of the seat's roots in one cut). By AI agents, Wed Nov 11 2026. No macro, syntax, notation, axiom, sorry.
-/
import Derived.Test.YtcnglhneknbllaaDoorChecked
import GoSem.Claim
import GoSem.ClaimJoined
import GoSem.ClaimMapViews
import Derived.JoinedTies
import Derived.KernelRfl
namespace Go.Proofs.YtcnglhneknbllaaDoor
/- THE CELL 'sum', in the pinned program and in every row, IS THE sha256 OF THE DUMP (.gsa) THAT YtcnglhneknbllaaDoorProg.lean LOADS. Nothing in Lean hashes anything: it is a label: what it is worth is what the hold of that sum in a sandbox is worth. -/
noncomputable def Tryd.pinned : Pinned := { name := "ytcnglhneknbllaadoor", sum := "208de72976ebf07103c8526f940724371d32a0a5f023e96a8cb3e50818f9269c", checked := Tryd.checked }
namespace Rows
def none {H : Type} : Left H := { results := [], args := [] }

/- WHAT THE LISTED PACKAGE-LEVEL VARIABLES READ AS WHEN THE CALL BEGINS. Each datum BY PROGRAM (the guide's laid-datum.mjs) off the statement by which the dump's own 'gosem.cut.vars' lays the variable. In a bare row this is a premise. The card (YtcnglhneknbllaaDoorCards.lean) ties it to the program's text. -/
def laid_mezzanine_uart_kept {H : Type} : DataW H := .agg [.lit (.int .u8 0), .lit (.int .u8 15), .lit (.int .u8 1), .lit (.int .u8 255), .lit (.int .u8 31), .lit (.int .u8 0), .lit (.int .u8 0), .lit (.int .u8 255), .lit (.int .u8 255), .lit (.int .u8 255)]
def laid_math_bits_deBruijn64tab {H : Type} : DataW H := .agg [.lit (.int .u8 0), .lit (.int .u8 1), .lit (.int .u8 56), .lit (.int .u8 2), .lit (.int .u8 57), .lit (.int .u8 49), .lit (.int .u8 28), .lit (.int .u8 3), .lit (.int .u8 61), .lit (.int .u8 58), .lit (.int .u8 42), .lit (.int .u8 50), .lit (.int .u8 38), .lit (.int .u8 29), .lit (.int .u8 17), .lit (.int .u8 4), .lit (.int .u8 62), .lit (.int .u8 47), .lit (.int .u8 59), .lit (.int .u8 36), .lit (.int .u8 45), .lit (.int .u8 43), .lit (.int .u8 51), .lit (.int .u8 22), .lit (.int .u8 53), .lit (.int .u8 39), .lit (.int .u8 33), .lit (.int .u8 30), .lit (.int .u8 24), .lit (.int .u8 18), .lit (.int .u8 12), .lit (.int .u8 5), .lit (.int .u8 63), .lit (.int .u8 55), .lit (.int .u8 48), .lit (.int .u8 27), .lit (.int .u8 60), .lit (.int .u8 41), .lit (.int .u8 37), .lit (.int .u8 16), .lit (.int .u8 46), .lit (.int .u8 35), .lit (.int .u8 44), .lit (.int .u8 21), .lit (.int .u8 52), .lit (.int .u8 32), .lit (.int .u8 23), .lit (.int .u8 11), .lit (.int .u8 54), .lit (.int .u8 26), .lit (.int .u8 40), .lit (.int .u8 15), .lit (.int .u8 34), .lit (.int .u8 20), .lit (.int .u8 31), .lit (.int .u8 10), .lit (.int .u8 25), .lit (.int .u8 14), .lit (.int .u8 19), .lit (.int .u8 9), .lit (.int .u8 13), .lit (.int .u8 8), .lit (.int .u8 7), .lit (.int .u8 6)]

/-- 'mezzaninelaw06.UartFull': WHATEVER THE INPUT: true; the input reads as it did. -/
def uartFullSpec : ChangeSpec := { name := "uartFull", fn := fun _ => fun
  | [d1, d2] => { results := [.lit (.bool true)], args := [d1, d2] }
  | _ => none }
def uartFullRow : OpenClaim := { program := "ytcnglhneknbllaadoor", sum := "208de72976ebf07103c8526f940724371d32a0a5f023e96a8cb3e50818f9269c", func := "mezzanine/mezzaninelaw06.UartFull", spec := "uartFull", named := ["mezzanine/uart.kept"], apart := false, laid := [("mezzanine/uart.kept", laid_mezzanine_uart_kept)] }
def UartFullSaid : Prop := uartFullRow.holds Tryd.pinned (OpenSpec.ofChange uartFullSpec)

/-- ITS FALSE NEIGHBOUR: 'it returns false'. Refute it at one input. -/
def uartFullWrong : ChangeSpec := { name := "uartFull", fn := fun _ => fun
  | [d1, d2] => { results := [.lit (.bool false)], args := [d1, d2] }
  | _ => none }
def UartFullWrongFalsely : Prop := uartFullRow.holds Tryd.pinned (OpenSpec.ofChange uartFullWrong)

/-- 'mezzaninelaw06.UartOrder': WHATEVER THE INPUT: true; the input reads as it did. -/
def uartOrderSpec : ChangeSpec := { name := "uartOrder", fn := fun _ => fun
  | [d] => { results := [.lit (.bool true)], args := [d] }
  | _ => none }
def uartOrderRow : OpenClaim := { program := "ytcnglhneknbllaadoor", sum := "208de72976ebf07103c8526f940724371d32a0a5f023e96a8cb3e50818f9269c", func := "mezzanine/mezzaninelaw06.UartOrder", spec := "uartOrder", named := ["mezzanine/uart.kept"], apart := false, laid := [("mezzanine/uart.kept", laid_mezzanine_uart_kept)] }
def UartOrderSaid : Prop := uartOrderRow.holds Tryd.pinned (OpenSpec.ofChange uartOrderSpec)

/-- ITS FALSE NEIGHBOUR: 'it returns false'. Refute it at one input. -/
def uartOrderWrong : ChangeSpec := { name := "uartOrder", fn := fun _ => fun
  | [d] => { results := [.lit (.bool false)], args := [d] }
  | _ => none }
def UartOrderWrongFalsely : Prop := uartOrderRow.holds Tryd.pinned (OpenSpec.ofChange uartOrderWrong)

/-- 'mezzaninelaw06.UartPlays': WHATEVER THE INPUT: true; the input reads as it did. -/
def uartPlaysSpec : ChangeSpec := { name := "uartPlays", fn := fun _ => fun
  | [d] => { results := [.lit (.bool true)], args := [d] }
  | _ => none }
def uartPlaysRow : OpenClaim := { program := "ytcnglhneknbllaadoor", sum := "208de72976ebf07103c8526f940724371d32a0a5f023e96a8cb3e50818f9269c", func := "mezzanine/mezzaninelaw06.UartPlays", spec := "uartPlays", named := ["mezzanine/uart.kept"], apart := false, laid := [("mezzanine/uart.kept", laid_mezzanine_uart_kept)] }
def UartPlaysSaid : Prop := uartPlaysRow.holds Tryd.pinned (OpenSpec.ofChange uartPlaysSpec)

/-- ITS FALSE NEIGHBOUR: 'it returns false'. Refute it at one input. -/
def uartPlaysWrong : ChangeSpec := { name := "uartPlays", fn := fun _ => fun
  | [d] => { results := [.lit (.bool false)], args := [d] }
  | _ => none }
def UartPlaysWrongFalsely : Prop := uartPlaysRow.holds Tryd.pinned (OpenSpec.ofChange uartPlaysWrong)

/-- 'mezzaninelaw05.PlicKnown': WHATEVER THE INPUT: true; the input reads as it did. -/
def plicKnownSpec : ChangeSpec := { name := "plicKnown", fn := fun _ => fun
  | [] => { results := [.lit (.bool true)], args := [] }
  | _ => none }
def plicKnownRow : OpenClaim := { program := "ytcnglhneknbllaadoor", sum := "208de72976ebf07103c8526f940724371d32a0a5f023e96a8cb3e50818f9269c", func := "mezzanine/mezzaninelaw05.PlicKnown", spec := "plicKnown", named := ["math/bits.deBruijn64tab"], apart := false, laid := [("math/bits.deBruijn64tab", laid_math_bits_deBruijn64tab)] }
def PlicKnownSaid : Prop := plicKnownRow.holds Tryd.pinned (OpenSpec.ofChange plicKnownSpec)

/-- ITS FALSE NEIGHBOUR: 'it returns false'. Refute it at one input. -/
def plicKnownWrong : ChangeSpec := { name := "plicKnown", fn := fun _ => fun
  | [] => { results := [.lit (.bool false)], args := [] }
  | _ => none }
def PlicKnownWrongFalsely : Prop := plicKnownRow.holds Tryd.pinned (OpenSpec.ofChange plicKnownWrong)

/-- 'mezzaninelaw06.UartSame': WHATEVER THE INPUT: true; the input reads as it did. -/
def uartSameSpec : ChangeSpec := { name := "uartSame", fn := fun _ => fun
  | [d1, d2] => { results := [.lit (.bool true)], args := [d1, d2] }
  | _ => none }
def uartSameRow : OpenClaim := { program := "ytcnglhneknbllaadoor", sum := "208de72976ebf07103c8526f940724371d32a0a5f023e96a8cb3e50818f9269c", func := "mezzanine/mezzaninelaw06.UartSame", spec := "uartSame", named := ["mezzanine/uart.kept"], apart := false, laid := [("mezzanine/uart.kept", laid_mezzanine_uart_kept)] }
def UartSameSaid : Prop := uartSameRow.holds Tryd.pinned (OpenSpec.ofChange uartSameSpec)

/-- ITS FALSE NEIGHBOUR: 'it returns false'. Refute it at one input. -/
def uartSameWrong : ChangeSpec := { name := "uartSame", fn := fun _ => fun
  | [d1, d2] => { results := [.lit (.bool false)], args := [d1, d2] }
  | _ => none }
def UartSameWrongFalsely : Prop := uartSameRow.holds Tryd.pinned (OpenSpec.ofChange uartSameWrong)

/-- 'mezzaninelaw06.UartStill': WHATEVER THE INPUT: true; the input reads as it did. -/
def uartStillSpec : ChangeSpec := { name := "uartStill", fn := fun _ => fun
  | [d1, d2] => { results := [.lit (.bool true)], args := [d1, d2] }
  | _ => none }
def uartStillRow : OpenClaim := { program := "ytcnglhneknbllaadoor", sum := "208de72976ebf07103c8526f940724371d32a0a5f023e96a8cb3e50818f9269c", func := "mezzanine/mezzaninelaw06.UartStill", spec := "uartStill", named := ["mezzanine/uart.kept"], apart := false, laid := [("mezzanine/uart.kept", laid_mezzanine_uart_kept)] }
def UartStillSaid : Prop := uartStillRow.holds Tryd.pinned (OpenSpec.ofChange uartStillSpec)

/-- ITS FALSE NEIGHBOUR: 'it returns false'. Refute it at one input. -/
def uartStillWrong : ChangeSpec := { name := "uartStill", fn := fun _ => fun
  | [d1, d2] => { results := [.lit (.bool false)], args := [d1, d2] }
  | _ => none }
def UartStillWrongFalsely : Prop := uartStillRow.holds Tryd.pinned (OpenSpec.ofChange uartStillWrong)

/-- 'mezzaninelaw05.PlicPlays': WHATEVER THE INPUT: true; the input reads as it did. -/
def plicPlaysSpec : ChangeSpec := { name := "plicPlays", fn := fun _ => fun
  | [d1, d2, d3] => { results := [.lit (.bool true)], args := [d1, d2, d3] }
  | _ => none }
def plicPlaysRow : OpenClaim := { program := "ytcnglhneknbllaadoor", sum := "208de72976ebf07103c8526f940724371d32a0a5f023e96a8cb3e50818f9269c", func := "mezzanine/mezzaninelaw05.PlicPlays", spec := "plicPlays", named := ["math/bits.deBruijn64tab"], apart := false, laid := [("math/bits.deBruijn64tab", laid_math_bits_deBruijn64tab)] }
def PlicPlaysSaid : Prop := plicPlaysRow.holds Tryd.pinned (OpenSpec.ofChange plicPlaysSpec)

/-- ITS FALSE NEIGHBOUR: 'it returns false'. Refute it at one input. -/
def plicPlaysWrong : ChangeSpec := { name := "plicPlays", fn := fun _ => fun
  | [d1, d2, d3] => { results := [.lit (.bool false)], args := [d1, d2, d3] }
  | _ => none }
def PlicPlaysWrongFalsely : Prop := plicPlaysRow.holds Tryd.pinned (OpenSpec.ofChange plicPlaysWrong)

/-- 'mezzaninelaw05.PlicSame': WHATEVER THE INPUT: true; the input reads as it did. -/
def plicSameSpec : ChangeSpec := { name := "plicSame", fn := fun _ => fun
  | [d1, d2] => { results := [.lit (.bool true)], args := [d1, d2] }
  | _ => none }
def plicSameRow : OpenClaim := { program := "ytcnglhneknbllaadoor", sum := "208de72976ebf07103c8526f940724371d32a0a5f023e96a8cb3e50818f9269c", func := "mezzanine/mezzaninelaw05.PlicSame", spec := "plicSame", named := ["math/bits.deBruijn64tab"], apart := false, laid := [("math/bits.deBruijn64tab", laid_math_bits_deBruijn64tab)] }
def PlicSameSaid : Prop := plicSameRow.holds Tryd.pinned (OpenSpec.ofChange plicSameSpec)

/-- ITS FALSE NEIGHBOUR: 'it returns false'. Refute it at one input. -/
def plicSameWrong : ChangeSpec := { name := "plicSame", fn := fun _ => fun
  | [d1, d2] => { results := [.lit (.bool false)], args := [d1, d2] }
  | _ => none }
def PlicSameWrongFalsely : Prop := plicSameRow.holds Tryd.pinned (OpenSpec.ofChange plicSameWrong)

/-- 'mezzaninelaw05.PlicOnce': WHATEVER THE INPUT: true; the input reads as it did. -/
def plicOnceSpec : ChangeSpec := { name := "plicOnce", fn := fun _ => fun
  | [d] => { results := [.lit (.bool true)], args := [d] }
  | _ => none }
def plicOnceRow : OpenClaim := { program := "ytcnglhneknbllaadoor", sum := "208de72976ebf07103c8526f940724371d32a0a5f023e96a8cb3e50818f9269c", func := "mezzanine/mezzaninelaw05.PlicOnce", spec := "plicOnce", named := ["math/bits.deBruijn64tab"], apart := false, laid := [("math/bits.deBruijn64tab", laid_math_bits_deBruijn64tab)] }
def PlicOnceSaid : Prop := plicOnceRow.holds Tryd.pinned (OpenSpec.ofChange plicOnceSpec)

/-- ITS FALSE NEIGHBOUR: 'it returns false'. Refute it at one input. -/
def plicOnceWrong : ChangeSpec := { name := "plicOnce", fn := fun _ => fun
  | [d] => { results := [.lit (.bool false)], args := [d] }
  | _ => none }
def PlicOnceWrongFalsely : Prop := plicOnceRow.holds Tryd.pinned (OpenSpec.ofChange plicOnceWrong)

/-- 'mezzaninelaw05.PlicThrough': WHATEVER THE INPUT: true; the input reads as it did. -/
def plicThroughSpec : ChangeSpec := { name := "plicThrough", fn := fun _ => fun
  | [d1, d2, d3, d4, d5] => { results := [.lit (.bool true)], args := [d1, d2, d3, d4, d5] }
  | _ => none }
def plicThroughRow : OpenClaim := { program := "ytcnglhneknbllaadoor", sum := "208de72976ebf07103c8526f940724371d32a0a5f023e96a8cb3e50818f9269c", func := "mezzanine/mezzaninelaw05.PlicThrough", spec := "plicThrough", named := ["math/bits.deBruijn64tab"], apart := false, laid := [("math/bits.deBruijn64tab", laid_math_bits_deBruijn64tab)] }
def PlicThroughSaid : Prop := plicThroughRow.holds Tryd.pinned (OpenSpec.ofChange plicThroughSpec)

/-- ITS FALSE NEIGHBOUR: 'it returns false'. Refute it at one input. -/
def plicThroughWrong : ChangeSpec := { name := "plicThrough", fn := fun _ => fun
  | [d1, d2, d3, d4, d5] => { results := [.lit (.bool false)], args := [d1, d2, d3, d4, d5] }
  | _ => none }
def PlicThroughWrongFalsely : Prop := plicThroughRow.holds Tryd.pinned (OpenSpec.ofChange plicThroughWrong)

/-- 'mezzaninelaw06.UartKnown': WHATEVER THE INPUT: true; the input reads as it did. -/
def uartKnownSpec : ChangeSpec := { name := "uartKnown", fn := fun _ => fun
  | [] => { results := [.lit (.bool true)], args := [] }
  | _ => none }
def uartKnownRow : OpenClaim := { program := "ytcnglhneknbllaadoor", sum := "208de72976ebf07103c8526f940724371d32a0a5f023e96a8cb3e50818f9269c", func := "mezzanine/mezzaninelaw06.UartKnown", spec := "uartKnown", named := ["mezzanine/uart.kept"], apart := false, laid := [("mezzanine/uart.kept", laid_mezzanine_uart_kept)] }
def UartKnownSaid : Prop := uartKnownRow.holds Tryd.pinned (OpenSpec.ofChange uartKnownSpec)

/-- ITS FALSE NEIGHBOUR: 'it returns false'. Refute it at one input. -/
def uartKnownWrong : ChangeSpec := { name := "uartKnown", fn := fun _ => fun
  | [] => { results := [.lit (.bool false)], args := [] }
  | _ => none }
def UartKnownWrongFalsely : Prop := uartKnownRow.holds Tryd.pinned (OpenSpec.ofChange uartKnownWrong)

/- THE SECOND FORM. 'bulk': how many values and letters a reading holds, each counted each time it is reached (what is shared counts as often as it is met; a slice's spare places count too). A statement '..UptoSaid' is the law's where the arguments, and the package variables that the reading takes, are together of bulk at most 1048576: NARROWER than '..Said'. Prove '..Said' where nothing that the law and all that it calls make is longer than what came in: it says more and counts as full. Else prove '..UptoSaid'. A law counts once. -/
mutual
def uptoBulk {H : Type} : DataW H → Nat
  | .lit (.string bytes) => bytes.length + 1
  | .lit _ => 1
  | .nil => 1
  | .ptr d => uptoBulk d + 1
  | .slice elems spare => uptoBulkAll elems + uptoBulkAll spare + 1
  | .agg parts => uptoBulkAll parts + 1
  | .iface _ d => uptoBulk d + 1
  | .map entries => uptoBulkEntries entries + 1
  | .held _ => 1
def uptoBulkAll {H : Type} : List (DataW H) → Nat
  | [] => 0
  | d :: r => uptoBulk d + uptoBulkAll r
def uptoBulkEntries {H : Type} : List (Lit × DataW H) → Nat
  | [] => 0
  | x :: r => uptoBulkEntry x + uptoBulkEntries r
def uptoBulkEntry {H : Type} : Lit × DataW H → Nat
  | (.string bytes, d) => bytes.length + uptoBulk d + 1
  | (_, d) => uptoBulk d + 1
 end
def uptoSmall : (H : Type) → List (DataW H) → Bool := fun _ ds => decide (uptoBulkAll ds ≤ 1048576)
def OpenSpec.upto (s : _root_.Go.ChangeSpec) : _root_.Go.OpenSpec := { _root_.Go.OpenSpec.ofChange s with cond := some uptoSmall }

/-- 'mezzaninelaw06.UartFull', WHERE WHAT IT READS IS OF BULK AT MOST 1048576: true; the input reads as it did. -/
def uartFullUptoRow : OpenClaim := { program := "ytcnglhneknbllaadoor", sum := "208de72976ebf07103c8526f940724371d32a0a5f023e96a8cb3e50818f9269c", func := "mezzanine/mezzaninelaw06.UartFull", spec := "uartFull", named := ["mezzanine/uart.kept"], apart := false, laid := [("mezzanine/uart.kept", laid_mezzanine_uart_kept)], narrowed := true }
def UartFullUptoSaid : Prop := uartFullUptoRow.holds Tryd.pinned (OpenSpec.upto uartFullSpec)

/-- 'mezzaninelaw06.UartOrder', WHERE WHAT IT READS IS OF BULK AT MOST 1048576: true; the input reads as it did. -/
def uartOrderUptoRow : OpenClaim := { program := "ytcnglhneknbllaadoor", sum := "208de72976ebf07103c8526f940724371d32a0a5f023e96a8cb3e50818f9269c", func := "mezzanine/mezzaninelaw06.UartOrder", spec := "uartOrder", named := ["mezzanine/uart.kept"], apart := false, laid := [("mezzanine/uart.kept", laid_mezzanine_uart_kept)], narrowed := true }
def UartOrderUptoSaid : Prop := uartOrderUptoRow.holds Tryd.pinned (OpenSpec.upto uartOrderSpec)

/-- 'mezzaninelaw06.UartPlays', WHERE WHAT IT READS IS OF BULK AT MOST 1048576: true; the input reads as it did. -/
def uartPlaysUptoRow : OpenClaim := { program := "ytcnglhneknbllaadoor", sum := "208de72976ebf07103c8526f940724371d32a0a5f023e96a8cb3e50818f9269c", func := "mezzanine/mezzaninelaw06.UartPlays", spec := "uartPlays", named := ["mezzanine/uart.kept"], apart := false, laid := [("mezzanine/uart.kept", laid_mezzanine_uart_kept)], narrowed := true }
def UartPlaysUptoSaid : Prop := uartPlaysUptoRow.holds Tryd.pinned (OpenSpec.upto uartPlaysSpec)

/-- 'mezzaninelaw05.PlicKnown', WHERE WHAT IT READS IS OF BULK AT MOST 1048576: true; the input reads as it did. -/
def plicKnownUptoRow : OpenClaim := { program := "ytcnglhneknbllaadoor", sum := "208de72976ebf07103c8526f940724371d32a0a5f023e96a8cb3e50818f9269c", func := "mezzanine/mezzaninelaw05.PlicKnown", spec := "plicKnown", named := ["math/bits.deBruijn64tab"], apart := false, laid := [("math/bits.deBruijn64tab", laid_math_bits_deBruijn64tab)], narrowed := true }
def PlicKnownUptoSaid : Prop := plicKnownUptoRow.holds Tryd.pinned (OpenSpec.upto plicKnownSpec)

/-- 'mezzaninelaw06.UartSame', WHERE WHAT IT READS IS OF BULK AT MOST 1048576: true; the input reads as it did. -/
def uartSameUptoRow : OpenClaim := { program := "ytcnglhneknbllaadoor", sum := "208de72976ebf07103c8526f940724371d32a0a5f023e96a8cb3e50818f9269c", func := "mezzanine/mezzaninelaw06.UartSame", spec := "uartSame", named := ["mezzanine/uart.kept"], apart := false, laid := [("mezzanine/uart.kept", laid_mezzanine_uart_kept)], narrowed := true }
def UartSameUptoSaid : Prop := uartSameUptoRow.holds Tryd.pinned (OpenSpec.upto uartSameSpec)

/-- 'mezzaninelaw06.UartStill', WHERE WHAT IT READS IS OF BULK AT MOST 1048576: true; the input reads as it did. -/
def uartStillUptoRow : OpenClaim := { program := "ytcnglhneknbllaadoor", sum := "208de72976ebf07103c8526f940724371d32a0a5f023e96a8cb3e50818f9269c", func := "mezzanine/mezzaninelaw06.UartStill", spec := "uartStill", named := ["mezzanine/uart.kept"], apart := false, laid := [("mezzanine/uart.kept", laid_mezzanine_uart_kept)], narrowed := true }
def UartStillUptoSaid : Prop := uartStillUptoRow.holds Tryd.pinned (OpenSpec.upto uartStillSpec)

/-- 'mezzaninelaw05.PlicPlays', WHERE WHAT IT READS IS OF BULK AT MOST 1048576: true; the input reads as it did. -/
def plicPlaysUptoRow : OpenClaim := { program := "ytcnglhneknbllaadoor", sum := "208de72976ebf07103c8526f940724371d32a0a5f023e96a8cb3e50818f9269c", func := "mezzanine/mezzaninelaw05.PlicPlays", spec := "plicPlays", named := ["math/bits.deBruijn64tab"], apart := false, laid := [("math/bits.deBruijn64tab", laid_math_bits_deBruijn64tab)], narrowed := true }
def PlicPlaysUptoSaid : Prop := plicPlaysUptoRow.holds Tryd.pinned (OpenSpec.upto plicPlaysSpec)

/-- 'mezzaninelaw05.PlicSame', WHERE WHAT IT READS IS OF BULK AT MOST 1048576: true; the input reads as it did. -/
def plicSameUptoRow : OpenClaim := { program := "ytcnglhneknbllaadoor", sum := "208de72976ebf07103c8526f940724371d32a0a5f023e96a8cb3e50818f9269c", func := "mezzanine/mezzaninelaw05.PlicSame", spec := "plicSame", named := ["math/bits.deBruijn64tab"], apart := false, laid := [("math/bits.deBruijn64tab", laid_math_bits_deBruijn64tab)], narrowed := true }
def PlicSameUptoSaid : Prop := plicSameUptoRow.holds Tryd.pinned (OpenSpec.upto plicSameSpec)

/-- 'mezzaninelaw05.PlicOnce', WHERE WHAT IT READS IS OF BULK AT MOST 1048576: true; the input reads as it did. -/
def plicOnceUptoRow : OpenClaim := { program := "ytcnglhneknbllaadoor", sum := "208de72976ebf07103c8526f940724371d32a0a5f023e96a8cb3e50818f9269c", func := "mezzanine/mezzaninelaw05.PlicOnce", spec := "plicOnce", named := ["math/bits.deBruijn64tab"], apart := false, laid := [("math/bits.deBruijn64tab", laid_math_bits_deBruijn64tab)], narrowed := true }
def PlicOnceUptoSaid : Prop := plicOnceUptoRow.holds Tryd.pinned (OpenSpec.upto plicOnceSpec)

/-- 'mezzaninelaw05.PlicThrough', WHERE WHAT IT READS IS OF BULK AT MOST 1048576: true; the input reads as it did. -/
def plicThroughUptoRow : OpenClaim := { program := "ytcnglhneknbllaadoor", sum := "208de72976ebf07103c8526f940724371d32a0a5f023e96a8cb3e50818f9269c", func := "mezzanine/mezzaninelaw05.PlicThrough", spec := "plicThrough", named := ["math/bits.deBruijn64tab"], apart := false, laid := [("math/bits.deBruijn64tab", laid_math_bits_deBruijn64tab)], narrowed := true }
def PlicThroughUptoSaid : Prop := plicThroughUptoRow.holds Tryd.pinned (OpenSpec.upto plicThroughSpec)

/-- 'mezzaninelaw06.UartKnown', WHERE WHAT IT READS IS OF BULK AT MOST 1048576: true; the input reads as it did. -/
def uartKnownUptoRow : OpenClaim := { program := "ytcnglhneknbllaadoor", sum := "208de72976ebf07103c8526f940724371d32a0a5f023e96a8cb3e50818f9269c", func := "mezzanine/mezzaninelaw06.UartKnown", spec := "uartKnown", named := ["mezzanine/uart.kept"], apart := false, laid := [("mezzanine/uart.kept", laid_mezzanine_uart_kept)], narrowed := true }
def UartKnownUptoSaid : Prop := uartKnownUptoRow.holds Tryd.pinned (OpenSpec.upto uartKnownSpec)

end Rows
end Go.Proofs.YtcnglhneknbllaaDoor
