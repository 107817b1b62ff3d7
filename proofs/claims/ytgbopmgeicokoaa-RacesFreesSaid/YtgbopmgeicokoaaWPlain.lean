/-
  races.plainWord and reclaimref27.Plain: is an address that of a value or of data?
-/
import Derived.Test.YtgbopmgeicokoaaWAt
namespace Go.Proofs.Ytgbopmgeicokoaa
open Go.RowKit

def BoolR (v : Bool) (w : World) (e : Ending) (w' : World) : Prop := e = .returned (.bool v) ∧ Below w.heap.size w w'

end Go.Proofs.Ytgbopmgeicokoaa
