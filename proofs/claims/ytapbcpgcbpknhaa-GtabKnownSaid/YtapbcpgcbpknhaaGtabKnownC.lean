/-
  The closed law GtabKnown answers true, in every world: the evaluator carries it out.
-/
import Derived.Test.YtapbcpgcbpknhaaLayTry
namespace Go.Proofs.Ytapbcpgcbpknhaa
open Go Go.RowKit

set_option maxRecDepth 1000000
theorem GtabKnown_c (w : World) (hL : Vm.Laid w []) : Calls Try.prog 3 #[] w fun e w1 => e = .returned (.bool true) ∧ Fr No w w1 :=
  Vm.closed_call (P := Try.prog) zerosOk_ [9, 10, 31, 33, 34, 36, 37, 44, 45, 46] [] hL 600 3 true (by kernel_rfl)
end Go.Proofs.Ytapbcpgcbpknhaa
