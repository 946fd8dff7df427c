/-
  The closed law BusKnown answers true, in every world in which the tables stand: the evaluator carries it out.
-/
import Derived.Test.YtkfefdjbihmblaaDoorLayTryd
namespace Go.Proofs.YtkfefdjbihmblaaDoor
open Go Go.RowKit

set_option maxRecDepth 1000000
theorem BusKnown_c (w : World) (hL : Vm.Laid w [(1, (tab_math_bits_deBruijn64tab.map fun z => Value.int .u8 z).toArray), (0, (tab_mezzanine_uart_kept.map fun z => Value.int .u8 z).toArray)]) : Calls Tryd.prog 3 #[] w fun e w1 => e = .returned (.bool true) ∧ Fr No w w1 :=
  Vm.closed_call (P := Tryd.prog) zerosOk_ [21, 28, 29, 30, 31, 32, 41, 42, 43, 48, 54, 55, 56, 57, 63, 64, 69, 70, 71, 72, 73, 79, 81, 88, 91, 92, 98] [(1, (tab_math_bits_deBruijn64tab.map fun z => Value.int .u8 z).toArray), (0, (tab_mezzanine_uart_kept.map fun z => Value.int .u8 z).toArray)] hL 500 3 true (by kernel_rfl)
end Go.Proofs.YtkfefdjbihmblaaDoor
