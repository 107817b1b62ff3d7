/-
  races.Events.
-/
import Derived.Test.YtgbopmgeicokoaaMad
import Derived.Test.YtgbopmgeicokoaaBeg
namespace Go.Proofs.Ytgbopmgeicokoaa
open Go.RowKit
set_option linter.unusedVariables false
set_option linter.unusedSimpArgs false

end Go.Proofs.Ytgbopmgeicokoaa
