/-
  The tables of integers that stand in memory when a call begins: as the evaluator wants them, and worlds in which they do.
-/
import Derived.Test.YtcnglhneknbllaaDoorVm12
import Derived.Test.YtcnglhneknbllaaDoorChecked
import Derived.Test.YtcnglhneknbllaaDoorRows
import Derived.Lib.LaidTab
import Derived.LaidLaws
import Derived.RowKit
import Derived.RowKitTokens
namespace Go.Proofs.YtcnglhneknbllaaDoor
open Go Go.RowKit Go.ChangeShapes Go.WideShapes

theorem ownNone : ownKnob Tryd.prog.godebug = none := by kernel_rfl
theorem laidOut : laidOutB Tryd.prog = true := by kernel_rfl
theorem zerosOk_ : Vm.zerosOk Tryd.prog = true := by kernel_rfl
noncomputable def world_none (os : Os) : World := World.holding Tryd.prog os ⟨#[], #[], []⟩
def tab_mezzanine_uart_kept : List Int := [0, 15, 1, 255, 31, 0, 0, 255, 255, 255]
theorem lay_mezzanine_uart_kept {W : World} (h : laidMet Tryd.prog [("mezzanine/uart.kept", Rows.laid_mezzanine_uart_kept)] W) : Vm.Laid W [(0, (tab_mezzanine_uart_kept.map fun z => Value.int .u8 z).toArray)] := by
  have h1 : Lib.TabIs Tryd.prog W "mezzanine/uart.kept" .u8 tab_mezzanine_uart_kept :=
    Lib.tabIs_of_head (g := 0) (t := 80) (e := 5) (n := 10) (by kernel_rfl) (by kernel_rfl) Tryd.underlying80 Tryd.underlying5 (by kernel_rfl) (by kernel_rfl) h
  exact Vm.Laid.cons (by decide) (by decide) (Vm.Laid.nil W) (fun i hi => h1.cell (g := 0) (by kernel_rfl) i hi)
noncomputable def world_mezzanine_uart_kept (os : Os) : World :=
  { World.holding Tryd.prog os ⟨#[], #[], []⟩ with heap := (World.holding Tryd.prog os ⟨#[], #[], []⟩).heap.modify 0 fun
      | .cells _ t frozen => .cells (tab_mezzanine_uart_kept.map fun z => Value.int .u8 z).toArray t frozen
      | o => o }
theorem world_mezzanine_uart_kept_met (os : Os) (args : Array Value) : laidMet Tryd.prog [("mezzanine/uart.kept", Rows.laid_mezzanine_uart_kept)] ((world_mezzanine_uart_kept os).forCall (fun _ _ => 0) ⟨#[], args, []⟩).memory :=
  laidMet_of_run' 8 (by kernel_rfl) (by kernel_rfl)
def tab_math_bits_deBruijn64tab : List Int := [0, 1, 56, 2, 57, 49, 28, 3, 61, 58, 42, 50, 38, 29, 17, 4, 62, 47, 59, 36, 45, 43, 51, 22, 53, 39, 33, 30, 24, 18, 12, 5, 63, 55, 48, 27, 60, 41, 37, 16, 46, 35, 44, 21, 52, 32, 23, 11, 54, 26, 40, 15, 34, 20, 31, 10, 25, 14, 19, 9, 13, 8, 7, 6]
theorem lay_math_bits_deBruijn64tab {W : World} (h : laidMet Tryd.prog [("math/bits.deBruijn64tab", Rows.laid_math_bits_deBruijn64tab)] W) : Vm.Laid W [(1, (tab_math_bits_deBruijn64tab.map fun z => Value.int .u8 z).toArray)] := by
  have h1 : Lib.TabIs Tryd.prog W "math/bits.deBruijn64tab" .u8 tab_math_bits_deBruijn64tab :=
    Lib.tabIs_of_head (g := 1) (t := 97) (e := 5) (n := 64) (by kernel_rfl) (by kernel_rfl) Tryd.underlying97 Tryd.underlying5 (by kernel_rfl) (by kernel_rfl) h
  exact Vm.Laid.cons (by decide) (by decide) (Vm.Laid.nil W) (fun i hi => h1.cell (g := 1) (by kernel_rfl) i hi)
noncomputable def world_math_bits_deBruijn64tab (os : Os) : World :=
  { World.holding Tryd.prog os ⟨#[], #[], []⟩ with heap := (World.holding Tryd.prog os ⟨#[], #[], []⟩).heap.modify 1 fun
      | .cells _ t frozen => .cells (tab_math_bits_deBruijn64tab.map fun z => Value.int .u8 z).toArray t frozen
      | o => o }
theorem world_math_bits_deBruijn64tab_met (os : Os) (args : Array Value) : laidMet Tryd.prog [("math/bits.deBruijn64tab", Rows.laid_math_bits_deBruijn64tab)] ((world_math_bits_deBruijn64tab os).forCall (fun _ _ => 0) ⟨#[], args, []⟩).memory :=
  laidMet_of_run' 8 (by kernel_rfl) (by kernel_rfl)
end Go.Proofs.YtcnglhneknbllaaDoor
