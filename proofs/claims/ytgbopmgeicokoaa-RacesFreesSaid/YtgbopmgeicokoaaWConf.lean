/-
  reclaimref01.Config: may a configuration be.
-/
import Derived.Test.YtgbopmgeicokoaaProg
import Derived.Test.YtgbopmgeicokoaaMem0
import Derived.Deep.LoopGhost
import Derived.Deep.Light
namespace Go.Proofs.Ytgbopmgeicokoaa
open Go.RowKit

end Go.Proofs.Ytgbopmgeicokoaa
