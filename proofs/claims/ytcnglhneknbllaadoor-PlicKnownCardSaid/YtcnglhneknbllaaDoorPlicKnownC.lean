/-
  The closed law PlicKnown answers true, in every world in which the tables stand: the evaluator carries it out.
-/
import Derived.Test.YtcnglhneknbllaaDoorLayTryd
namespace Go.Proofs.YtcnglhneknbllaaDoor
open Go Go.RowKit

set_option maxRecDepth 1000000
theorem PlicKnown_c (w : World) (hL : Vm.Laid w [(1, (tab_math_bits_deBruijn64tab.map fun z => Value.int .u8 z).toArray)]) : Calls Tryd.prog 6 #[] w fun e w1 => e = .returned (.bool true) ∧ Fr No w w1 :=
  Vm.closed_call (P := Tryd.prog) zerosOk_ Vm.noK_ok [(1, (tab_math_bits_deBruijn64tab.map fun z => Value.int .u8 z).toArray)] hL 400 6 true (by kernel_rfl)
end Go.Proofs.YtcnglhneknbllaaDoor
