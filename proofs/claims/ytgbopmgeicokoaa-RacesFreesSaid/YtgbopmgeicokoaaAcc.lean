/-
  api.Access and api.Run as plain data; the clocks of a run by their rules.
-/
import Derived.Test.YtgbopmgeicokoaaMem0
namespace Go.Proofs.Ytgbopmgeicokoaa
open Go.RowKit

/-- A clock, of every thread; zero where there is none. -/
abbrev Clk := Nat → Int
def clkL (n : Nat) (f : Clk) : List Int := (List.range n).map f
def maxC (f g : Clk) : Clk := fun k => if f k < g k then g k else f k
end Go.Proofs.Ytgbopmgeicokoaa
