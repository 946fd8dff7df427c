/-
  What the rows of the serial line's laws share: the table that stands in memory when a call begins, and a world in which it does.
-/
import Derived.Test.YtcnglhneknbllaaDoorOpen
import Derived.Test.YtcnglhneknbllaaDoorUart3
import Derived.Test.YtcnglhneknbllaaDoorRows
import Derived.RowKit
import Derived.RowKitTokens
namespace Go.Proofs.YtcnglhneknbllaaDoor
open Go Go.RowKit Go.ChangeShapes Go.WideShapes

theorem ownNone : ownKnob Tryd.prog.godebug = none := by kernel_rfl
theorem laidOut : laidOutB Tryd.prog = true := by kernel_rfl
theorem kept_of_laid {W : World} (h : laidMet Tryd.prog [("mezzanine/uart.kept", Rows.laid_mezzanine_uart_kept)] W) : KeptAt W := by
  have h1 : Lib.TabIs Tryd.prog W "mezzanine/uart.kept" .u8 [0, 15, 1, 255, 31, 0, 0, 255, 255, 255] :=
    Lib.tabIs_of_head (g := 0) (t := 80) (e := 5) (n := 10) (by kernel_rfl) (by kernel_rfl) Tryd.underlying80 Tryd.underlying5 (by kernel_rfl) (by kernel_rfl) h
  intro i x hx
  have hi : i < 10 := (List.getElem?_eq_some_iff.1 hx).1
  have := h1.cell (g := 0) (by kernel_rfl) i hi
  rw [this]
  match i, hi, hx with
  | 0, _, hx | 1, _, hx | 2, _, hx | 3, _, hx | 4, _, hx | 5, _, hx | 6, _, hx | 7, _, hx | 8, _, hx | 9, _, hx => simp [keptN] at hx; subst hx; rfl
/-- A world in which the table stands. -/
noncomputable def keptWorld (os : Os) : World :=
  { World.holding Tryd.prog os ⟨#[], #[], []⟩ with heap := (World.holding Tryd.prog os ⟨#[], #[], []⟩).heap.modify 0 fun
      | .cells _ t frozen => .cells (bytesV keptN).toArray t frozen
      | o => o }
theorem keptWorld_met (os : Os) (args : Array Value) : laidMet Tryd.prog [("mezzanine/uart.kept", Rows.laid_mezzanine_uart_kept)] ((keptWorld os).forCall (fun _ _ => 0) ⟨#[], args, []⟩).memory :=
  laidMet_of_run' 8 (by kernel_rfl) (by kernel_rfl)
end Go.Proofs.YtcnglhneknbllaaDoor
