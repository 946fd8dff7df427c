/-
  The closed law UartKnown answers true, in every world in which the tables stand: the evaluator carries it out.
-/
import Derived.Test.YtcnglhneknbllaaDoorLayTryd
namespace Go.Proofs.YtcnglhneknbllaaDoor
open Go Go.RowKit

set_option maxRecDepth 1000000
theorem UartKnown_c (w : World) (hL : Vm.Laid w [(0, (tab_mezzanine_uart_kept.map fun z => Value.int .u8 z).toArray)]) : Calls Tryd.prog 13 #[] w fun e w1 => e = .returned (.bool true) ∧ Fr No w w1 :=
  Vm.closed_call (P := Tryd.prog) zerosOk_ Vm.noK_ok [(0, (tab_mezzanine_uart_kept.map fun z => Value.int .u8 z).toArray)] hL 400 13 true (by kernel_rfl)
end Go.Proofs.YtcnglhneknbllaaDoor
