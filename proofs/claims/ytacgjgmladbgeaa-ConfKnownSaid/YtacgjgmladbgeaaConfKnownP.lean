/-
  The closed statement ConfKnown: the kernel carries it out.
-/
import Derived.Test.YtacgjgmladbgeaaPConfKnownx5
import Derived.Test.YtacgjgmladbgeaaConfM
import Derived.Test.YtacgjgmladbgeaaConfL
import Derived.Test.YtacgjgmladbgeaaOpen
import Derived.Lib.Hide
import Derived.Lib.SmallJoins
namespace Go.Proofs.Ytacgjgmladbgeaa.PConfKnown
open Go Go.RowKit Go.Proofs.YtacgjgmladbgeaaW.PrintWords Go.Proofs.YtacgjgmladbgeaaW.PrintLast Go.Proofs.YtacgjgmladbgeaaW.PrintMore
set_option linter.unusedVariables false
set_option linter.unusedSimpArgs false

theorem ConfKnown_at : mezzaninelaw25_ConfKnown.f 12 = some true := by kernel_rfl
theorem ConfKnown_c (w : World) : Calls Try.prog 4 #[] w fun e w' => e = .returned (.bool true) ∧ Fr No w w' :=
  (mezzaninelaw25_ConfKnown.calls 12 true w ConfKnown_at rfl).mono fun _ _ ⟨he, hb⟩ => ⟨he, Fr.of_below hb No⟩
end Go.Proofs.Ytacgjgmladbgeaa.PConfKnown
