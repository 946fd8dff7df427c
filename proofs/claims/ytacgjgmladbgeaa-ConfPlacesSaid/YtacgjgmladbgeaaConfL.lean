/-
  What the contracts of conf.All and conf.Whose stand on.
-/
import Derived.Test.YtacgjgmladbgeaaConfM
import Derived.Test.YtacgjgmladbgeaaAppC
import Derived.Test.YtacgjgmladbgeaaSortLay
import Derived.Lib.Hide
import Derived.Lib.SmallJoins
import Derived.Lib.SliceRun
import Derived.Deep.QuietTactic
import Derived.Sort.LotA
import Derived.RangeFuncNested
import Derived.RangeFuncBound
import Derived.RangeFuncCalls
import Derived.RangeFuncLeaves
import Derived.Shelf.Abstract
import Derived.Shelf.RegionOpen
import Derived.WalkKit
import Derived.OwnWalkIn
import Derived.TacticsInMore
import Derived.LoopNIn
import Derived.LoopIn
namespace Go.Proofs.Ytacgjgmladbgeaa
end Go.Proofs.Ytacgjgmladbgeaa
