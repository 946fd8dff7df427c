/-
  What the rows of the interrupt controller's laws share: the table that stands in memory when a call begins, and a world in which it does.
-/
import Derived.Test.YtpnabfekidpnoaaDoorOpen
import Derived.Test.YtpnabfekidpnoaaDoorOnes
import Derived.Test.YtpnabfekidpnoaaDoorRows
import Derived.RowKit
import Derived.RowKitTokens
namespace Go.Proofs.YtpnabfekidpnoaaDoor
open Go Go.RowKit Go.ChangeShapes Go.WideShapes

theorem ownNone : ownKnob Tryd.prog.godebug = none := by kernel_rfl
theorem laidOut : laidOutB Tryd.prog = true := by kernel_rfl
def tzNums : List Int := [0, 1, 56, 2, 57, 49, 28, 3, 61, 58, 42, 50, 38, 29, 17, 4, 62, 47, 59, 36, 45, 43, 51, 22, 53, 39, 33, 30, 24, 18, 12, 5, 63, 55, 48, 27, 60, 41, 37, 16, 46, 35, 44, 21, 52, 32, 23, 11, 54, 26, 40, 15, 34, 20, 31, 10, 25, 14, 19, 9, 13, 8, 7, 6]
theorem tzNums_at : ((List.range 64).all fun j => decide (tzNums.getD j 0 = ((Lib.deBruijn64tab.getD j 0 : Nat) : Int))) = true := by kernel_rfl
theorem tz_of_laid {W : World} (h : laidMet Tryd.prog [("math/bits.deBruijn64tab", Rows.laid_math_bits_deBruijn64tab)] W) : TzAt W := by
  have h1 : Lib.TabIs Tryd.prog W "math/bits.deBruijn64tab" .u8 tzNums :=
    Lib.tabIs_of_head (g := 0) (t := 86) (e := 5) (n := 64) (by kernel_rfl) (by kernel_rfl) Tryd.underlying86 Tryd.underlying5 (by kernel_rfl) (by kernel_rfl) h
  intro i hi
  have := h1.cell (g := 0) (by kernel_rfl) i hi
  rw [this]
  have e := of_decide_eq_true (List.all_eq_true.1 tzNums_at i (List.mem_range.2 hi))
  rw [e]
/-- A world in which the table stands. -/
noncomputable def tzWorld (os : Os) : World :=
  { World.holding Tryd.prog os ⟨#[], #[], []⟩ with heap := (World.holding Tryd.prog os ⟨#[], #[], []⟩).heap.modify 0 fun
      | .cells _ t frozen => .cells (tzNums.map fun z => Value.int .u8 z).toArray t frozen
      | o => o }
theorem tzWorld_met (os : Os) (args : Array Value) : laidMet Tryd.prog [("math/bits.deBruijn64tab", Rows.laid_math_bits_deBruijn64tab)] ((tzWorld os).forCall (fun _ _ => 0) ⟨#[], args, []⟩).memory :=
  laidMet_of_run' 8 (by kernel_rfl) (by kernel_rfl)
end Go.Proofs.YtpnabfekidpnoaaDoor
