/-
  word.Check: may a configuration be.
-/
import Derived.Test.YtgbopmgeicokoaaProg
import Derived.Test.YtgbopmgeicokoaaMem0
import Derived.Deep.LoopGhost
import Derived.Deep.Light
import Derived.Laws.Tables
import Derived.Deep.WholeRow
namespace Go.Proofs.Ytgbopmgeicokoaa
open Go.RowKit

end Go.Proofs.Ytgbopmgeicokoaa
