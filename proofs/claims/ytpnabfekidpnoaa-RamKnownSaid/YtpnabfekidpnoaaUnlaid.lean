/-
  What the rows of laws without tables share: no table stands when a call begins.
-/
import Derived.Test.YtpnabfekidpnoaaChecked
import Derived.Test.YtpnabfekidpnoaaRows
import Derived.LaidLaws
import Derived.Stop.LaidErr
import Derived.RowKit
import Derived.JoinedOf
import Derived.Stop.Joined
import Derived.RowKitTokens
namespace Go.Proofs.Ytpnabfekidpnoaa
open Go Go.RowKit Go.ChangeShapes Go.WideShapes

theorem ownNone : ownKnob Try.prog.godebug = none := by kernel_rfl
theorem laidOut : laidOutB Try.prog = true := by kernel_rfl
noncomputable def world_none (os : Os) : World := World.holding Try.prog os ⟨#[], #[], []⟩
theorem unlaid {a : Assume} {C : Checked} {os : Os} {f : FuncId} {r : Reach} {Pre S : World → Array Value → Prop} {Post : World → Array Value → Value → World → Prop} {P : Program}
    (h : ReturnsInHanded a C os f r (fun w args => (Pre w args ∧ laidMet P [] w) ∧ S w args) Post) : ReturnsInHanded a C os f r (fun w args => Pre w args ∧ S w args) Post := by
  have e : (fun w args => (Pre w args ∧ laidMet P [] w) ∧ S w args) = (fun w args => Pre w args ∧ S w args) := by
    funext w args
    exact propext ⟨fun h => ⟨h.1.1, h.2⟩, fun h => ⟨⟨h.1, laidMet_nil _ _⟩, h.2⟩⟩
  rw [e] at h
  exact h
theorem world_none_met (os : Os) (args : Array Value) : laidMet Try.prog [] ((world_none os).forCall (fun _ _ => 0) ⟨#[], args, []⟩).memory := laidMet_of_run' 8 (by kernel_rfl) (by kernel_rfl)
end Go.Proofs.Ytpnabfekidpnoaa
