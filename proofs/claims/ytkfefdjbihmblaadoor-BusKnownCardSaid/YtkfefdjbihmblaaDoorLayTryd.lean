/-
  The tables of integers that stand in memory when a call begins: as the evaluator wants them, and worlds in which they do.
-/
import Derived.Test.YtkfefdjbihmblaaDoorVm12
import Derived.Test.YtkfefdjbihmblaaDoorChecked
import Derived.Test.YtkfefdjbihmblaaDoorRows
import Derived.Lib.LaidTab
import Derived.LaidLaws
import Derived.Stop.LaidErr
import Derived.RowKit
import Derived.JoinedOf
import Derived.Stop.Joined
import Derived.RowKitTokens
namespace Go.Proofs.YtkfefdjbihmblaaDoor
open Go Go.RowKit Go.ChangeShapes Go.WideShapes

theorem ownNone : ownKnob Tryd.prog.godebug = none := by kernel_rfl
theorem laidOut : laidOutB Tryd.prog = true := by kernel_rfl
theorem zerosOk_ : Vm.zerosOk Tryd.prog = true := by kernel_rfl
noncomputable def world_none (os : Os) : World := World.holding Tryd.prog os ⟨#[], #[], []⟩
theorem unlaid {a : Assume} {C : Checked} {os : Os} {f : FuncId} {r : Reach} {Pre S : World → Array Value → Prop} {Post : World → Array Value → Value → World → Prop} {P : Program}
    (h : ReturnsInHanded a C os f r (fun w args => (Pre w args ∧ laidMet P [] w) ∧ S w args) Post) : ReturnsInHanded a C os f r (fun w args => Pre w args ∧ S w args) Post := by
  have e : (fun w args => (Pre w args ∧ laidMet P [] w) ∧ S w args) = (fun w args => Pre w args ∧ S w args) := by
    funext w args
    exact propext ⟨fun h => ⟨h.1.1, h.2⟩, fun h => ⟨⟨h.1, laidMet_nil _ _⟩, h.2⟩⟩
  rw [e] at h
  exact h
theorem world_none_met (os : Os) (args : Array Value) : laidMet Tryd.prog [] ((world_none os).forCall (fun _ _ => 0) ⟨#[], args, []⟩).memory := laidMet_of_run' 8 (by kernel_rfl) (by kernel_rfl)
def tab_math_bits_deBruijn64tab : List Int := [0, 1, 56, 2, 57, 49, 28, 3, 61, 58, 42, 50, 38, 29, 17, 4, 62, 47, 59, 36, 45, 43, 51, 22, 53, 39, 33, 30, 24, 18, 12, 5, 63, 55, 48, 27, 60, 41, 37, 16, 46, 35, 44, 21, 52, 32, 23, 11, 54, 26, 40, 15, 34, 20, 31, 10, 25, 14, 19, 9, 13, 8, 7, 6]
def tab_mezzanine_uart_kept : List Int := [0, 15, 1, 255, 31, 0, 0, 255, 255, 255]
theorem lay_math_bits_deBruijn64tab__mezzanine_uart_kept {W : World} (h : laidMet Tryd.prog [("math/bits.deBruijn64tab", Rows.laid_math_bits_deBruijn64tab), ("mezzanine/uart.kept", Rows.laid_mezzanine_uart_kept)] W) : Vm.Laid W [(1, (tab_math_bits_deBruijn64tab.map fun z => Value.int .u8 z).toArray), (0, (tab_mezzanine_uart_kept.map fun z => Value.int .u8 z).toArray)] := by
  have h0 : Lib.TabIs Tryd.prog W "math/bits.deBruijn64tab" .u8 tab_math_bits_deBruijn64tab :=
    Lib.tabIs_of_head (g := 1) (t := 114) (e := 5) (n := 64) (by kernel_rfl) (by kernel_rfl) Tryd.underlying114 Tryd.underlying5 (by kernel_rfl) (by kernel_rfl) h
  have h1 : Lib.TabIs Tryd.prog W "mezzanine/uart.kept" .u8 tab_mezzanine_uart_kept :=
    Lib.tabIs_of_head (g := 0) (t := 77) (e := 5) (n := 10) (by kernel_rfl) (by kernel_rfl) Tryd.underlying77 Tryd.underlying5 (by kernel_rfl) (by kernel_rfl) (laidMet.tail h)
  exact (Vm.Laid.cons (by decide) (by decide) (Vm.Laid.cons (by decide) (by decide) (Vm.Laid.nil W) (fun i hi => h1.cell (g := 0) (by kernel_rfl) i hi)) (fun i hi => h0.cell (g := 1) (by kernel_rfl) i hi))
noncomputable def world_math_bits_deBruijn64tab__mezzanine_uart_kept (os : Os) : World :=
  { World.holding Tryd.prog os ⟨#[], #[], []⟩ with heap := (((World.holding Tryd.prog os ⟨#[], #[], []⟩).heap.modify 1 fun
      | .cells _ t frozen => .cells (tab_math_bits_deBruijn64tab.map fun z => Value.int .u8 z).toArray t frozen
      | o => o).modify 0 fun
      | .cells _ t frozen => .cells (tab_mezzanine_uart_kept.map fun z => Value.int .u8 z).toArray t frozen
      | o => o) }
theorem world_math_bits_deBruijn64tab__mezzanine_uart_kept_met (os : Os) (args : Array Value) : laidMet Tryd.prog [("math/bits.deBruijn64tab", Rows.laid_math_bits_deBruijn64tab), ("mezzanine/uart.kept", Rows.laid_mezzanine_uart_kept)] ((world_math_bits_deBruijn64tab__mezzanine_uart_kept os).forCall (fun _ _ => 0) ⟨#[], args, []⟩).memory :=
  laidMet_of_run' 8 (by kernel_rfl) (by kernel_rfl)
end Go.Proofs.YtkfefdjbihmblaaDoor
