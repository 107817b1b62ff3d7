/-
  word.many, reclaimref01.Many, word.Size, reclaimref01.Base: how many words, and where a region begins.
-/
import Derived.Test.YtgbopmgeicokoaaWCheck
import Derived.Test.YtgbopmgeicokoaaWConf
import Derived.BigQuiet
namespace Go.Proofs.Ytgbopmgeicokoaa
open Go.RowKit

def IntR (v : Int) (w : World) (e : Ending) (w' : World) : Prop := e = .returned (.int .i64 v) ∧ Below w.heap.size w w'
end Go.Proofs.Ytgbopmgeicokoaa
