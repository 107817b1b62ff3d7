/-
  No cell of these rows narrows 'for every input' (looked for: loops, veiled, ifaces, maps, wideKeys, modest, calm, conditions, laid).
  DERIVED. THE GIVEN ROWS OF THIS SEAT. 9 by the template 'for every input the law returns true; each argument reads behind the call as it read before'; 0 by the template 'total and deterministic' (their statements: YtgbopmgeicokoaaTotals.lean).
  GIVEN WITH THE SEED: the statements are not yours to turn. If you find one false, say at which input.
  Laid BY PROGRAM, IN A SANDBOX (cutbox-rows.mjs): the forced cells as the released guide's own fill.sh prints them over the translation daf5059fa68357ca… (all of the seat's roots in one cut). By AI agents, Wed Nov 11 2026. No macro, syntax, notation, axiom, sorry.
-/
import Derived.Test.YtgbopmgeicokoaaChecked
import GoSem.Claim
import GoSem.ClaimJoined
import GoSem.ClaimMapViews
import Derived.JoinedTies
import Derived.KernelRfl
namespace Go.Proofs.Ytgbopmgeicokoaa
/- THE CELL 'sum', in the pinned program and in every row, IS THE sha256 OF THE DUMP (.gsa) THAT YtgbopmgeicokoaaProg.lean LOADS. Nothing in Lean hashes anything: it is a label: what it is worth is what the hold of that sum in a sandbox is worth. -/
noncomputable def Try.pinned : Pinned := { name := "ytgbopmgeicokoaa", sum := "daf5059fa68357ca906b97c84bf0a680724476464669bc51323d82ba780ddfd3", checked := Try.checked }
namespace Rows
def none {H : Type} : Left H := { results := [], args := [] }

/-- 'reclaimlaw28.ConsoleWords': WHATEVER THE INPUT: true; the input reads as it did. -/
def consoleWordsSpec : ChangeSpec := { name := "consoleWords", fn := fun _ => fun
  | [d1, d2, d3] => { results := [.lit (.bool true)], args := [d1, d2, d3] }
  | _ => none }
def consoleWordsRow : OpenClaim := { program := "ytgbopmgeicokoaa", sum := "daf5059fa68357ca906b97c84bf0a680724476464669bc51323d82ba780ddfd3", func := "reclaim/reclaimlaw28.ConsoleWords", spec := "consoleWords", plainKeys := false, apart := false }
def ConsoleWordsSaid : Prop := consoleWordsRow.holds Try.pinned (OpenSpec.ofChange consoleWordsSpec)

/-- ITS FALSE NEIGHBOUR: 'it returns false'. Refute it at one input. -/
def consoleWordsWrong : ChangeSpec := { name := "consoleWords", fn := fun _ => fun
  | [d1, d2, d3] => { results := [.lit (.bool false)], args := [d1, d2, d3] }
  | _ => none }
def ConsoleWordsWrongFalsely : Prop := consoleWordsRow.holds Try.pinned (OpenSpec.ofChange consoleWordsWrong)

/-- 'reclaimlaw25.McasCells': WHATEVER THE INPUT: true; the input reads as it did. -/
def mcasCellsSpec : ChangeSpec := { name := "mcasCells", fn := fun _ => fun
  | [d1, d2] => { results := [.lit (.bool true)], args := [d1, d2] }
  | _ => none }
def mcasCellsRow : OpenClaim := { program := "ytgbopmgeicokoaa", sum := "daf5059fa68357ca906b97c84bf0a680724476464669bc51323d82ba780ddfd3", func := "reclaim/reclaimlaw25.McasCells", spec := "mcasCells", plainKeys := false, apart := false }
def McasCellsSaid : Prop := mcasCellsRow.holds Try.pinned (OpenSpec.ofChange mcasCellsSpec)

/-- ITS FALSE NEIGHBOUR: 'it returns false'. Refute it at one input. -/
def mcasCellsWrong : ChangeSpec := { name := "mcasCells", fn := fun _ => fun
  | [d1, d2] => { results := [.lit (.bool false)], args := [d1, d2] }
  | _ => none }
def McasCellsWrongFalsely : Prop := mcasCellsRow.holds Try.pinned (OpenSpec.ofChange mcasCellsWrong)

/-- 'reclaimlaw27.RacesClocks': WHATEVER THE INPUT: true; the input reads as it did. -/
def racesClocksSpec : ChangeSpec := { name := "racesClocks", fn := fun _ => fun
  | [d1, d2, d3, d4] => { results := [.lit (.bool true)], args := [d1, d2, d3, d4] }
  | _ => none }
def racesClocksRow : OpenClaim := { program := "ytgbopmgeicokoaa", sum := "daf5059fa68357ca906b97c84bf0a680724476464669bc51323d82ba780ddfd3", func := "reclaim/reclaimlaw27.RacesClocks", spec := "racesClocks", plainKeys := false, apart := false }
def RacesClocksSaid : Prop := racesClocksRow.holds Try.pinned (OpenSpec.ofChange racesClocksSpec)

/-- ITS FALSE NEIGHBOUR: 'it returns false'. Refute it at one input. -/
def racesClocksWrong : ChangeSpec := { name := "racesClocks", fn := fun _ => fun
  | [d1, d2, d3, d4] => { results := [.lit (.bool false)], args := [d1, d2, d3, d4] }
  | _ => none }
def RacesClocksWrongFalsely : Prop := racesClocksRow.holds Try.pinned (OpenSpec.ofChange racesClocksWrong)

/-- 'reclaimlaw27.RacesOrder': WHATEVER THE INPUT: true; the input reads as it did. -/
def racesOrderSpec : ChangeSpec := { name := "racesOrder", fn := fun _ => fun
  | [d1, d2, d3, d4, d5] => { results := [.lit (.bool true)], args := [d1, d2, d3, d4, d5] }
  | _ => none }
def racesOrderRow : OpenClaim := { program := "ytgbopmgeicokoaa", sum := "daf5059fa68357ca906b97c84bf0a680724476464669bc51323d82ba780ddfd3", func := "reclaim/reclaimlaw27.RacesOrder", spec := "racesOrder", plainKeys := false, apart := false }
def RacesOrderSaid : Prop := racesOrderRow.holds Try.pinned (OpenSpec.ofChange racesOrderSpec)

/-- ITS FALSE NEIGHBOUR: 'it returns false'. Refute it at one input. -/
def racesOrderWrong : ChangeSpec := { name := "racesOrder", fn := fun _ => fun
  | [d1, d2, d3, d4, d5] => { results := [.lit (.bool false)], args := [d1, d2, d3, d4, d5] }
  | _ => none }
def RacesOrderWrongFalsely : Prop := racesOrderRow.holds Try.pinned (OpenSpec.ofChange racesOrderWrong)

/-- 'reclaimlaw28.ConsoleSaves': WHATEVER THE INPUT: true; the input reads as it did. -/
def consoleSavesSpec : ChangeSpec := { name := "consoleSaves", fn := fun _ => fun
  | [d1, d2] => { results := [.lit (.bool true)], args := [d1, d2] }
  | _ => none }
def consoleSavesRow : OpenClaim := { program := "ytgbopmgeicokoaa", sum := "daf5059fa68357ca906b97c84bf0a680724476464669bc51323d82ba780ddfd3", func := "reclaim/reclaimlaw28.ConsoleSaves", spec := "consoleSaves", plainKeys := false, apart := false }
def ConsoleSavesSaid : Prop := consoleSavesRow.holds Try.pinned (OpenSpec.ofChange consoleSavesSpec)

/-- ITS FALSE NEIGHBOUR: 'it returns false'. Refute it at one input. -/
def consoleSavesWrong : ChangeSpec := { name := "consoleSaves", fn := fun _ => fun
  | [d1, d2] => { results := [.lit (.bool false)], args := [d1, d2] }
  | _ => none }
def ConsoleSavesWrongFalsely : Prop := consoleSavesRow.holds Try.pinned (OpenSpec.ofChange consoleSavesWrong)

/-- 'reclaimlaw28.ConsoleLoads': WHATEVER THE INPUT: true; the input reads as it did. -/
def consoleLoadsSpec : ChangeSpec := { name := "consoleLoads", fn := fun _ => fun
  | [d] => { results := [.lit (.bool true)], args := [d] }
  | _ => none }
def consoleLoadsRow : OpenClaim := { program := "ytgbopmgeicokoaa", sum := "daf5059fa68357ca906b97c84bf0a680724476464669bc51323d82ba780ddfd3", func := "reclaim/reclaimlaw28.ConsoleLoads", spec := "consoleLoads", plainKeys := false, apart := false }
def ConsoleLoadsSaid : Prop := consoleLoadsRow.holds Try.pinned (OpenSpec.ofChange consoleLoadsSpec)

/-- ITS FALSE NEIGHBOUR: 'it returns false'. Refute it at one input. -/
def consoleLoadsWrong : ChangeSpec := { name := "consoleLoads", fn := fun _ => fun
  | [d] => { results := [.lit (.bool false)], args := [d] }
  | _ => none }
def ConsoleLoadsWrongFalsely : Prop := consoleLoadsRow.holds Try.pinned (OpenSpec.ofChange consoleLoadsWrong)

/-- 'reclaimlaw28.ConsoleBack': WHATEVER THE INPUT: true; the input reads as it did. -/
def consoleBackSpec : ChangeSpec := { name := "consoleBack", fn := fun _ => fun
  | [d1, d2, d3] => { results := [.lit (.bool true)], args := [d1, d2, d3] }
  | _ => none }
def consoleBackRow : OpenClaim := { program := "ytgbopmgeicokoaa", sum := "daf5059fa68357ca906b97c84bf0a680724476464669bc51323d82ba780ddfd3", func := "reclaim/reclaimlaw28.ConsoleBack", spec := "consoleBack", plainKeys := false, apart := false }
def ConsoleBackSaid : Prop := consoleBackRow.holds Try.pinned (OpenSpec.ofChange consoleBackSpec)

/-- ITS FALSE NEIGHBOUR: 'it returns false'. Refute it at one input. -/
def consoleBackWrong : ChangeSpec := { name := "consoleBack", fn := fun _ => fun
  | [d1, d2, d3] => { results := [.lit (.bool false)], args := [d1, d2, d3] }
  | _ => none }
def ConsoleBackWrongFalsely : Prop := consoleBackRow.holds Try.pinned (OpenSpec.ofChange consoleBackWrong)

/-- 'reclaimlaw27.RacesEvents': WHATEVER THE INPUT: true; the input reads as it did. -/
def racesEventsSpec : ChangeSpec := { name := "racesEvents", fn := fun _ => fun
  | [d1, d2] => { results := [.lit (.bool true)], args := [d1, d2] }
  | _ => none }
def racesEventsRow : OpenClaim := { program := "ytgbopmgeicokoaa", sum := "daf5059fa68357ca906b97c84bf0a680724476464669bc51323d82ba780ddfd3", func := "reclaim/reclaimlaw27.RacesEvents", spec := "racesEvents", unfollowed := true, recurses := true, plainKeys := false, apart := false }
def RacesEventsSaid : Prop := racesEventsRow.holds Try.pinned (OpenSpec.ofChange racesEventsSpec)

/-- ITS FALSE NEIGHBOUR: 'it returns false'. Refute it at one input. -/
def racesEventsWrong : ChangeSpec := { name := "racesEvents", fn := fun _ => fun
  | [d1, d2] => { results := [.lit (.bool false)], args := [d1, d2] }
  | _ => none }
def RacesEventsWrongFalsely : Prop := racesEventsRow.holds Try.pinned (OpenSpec.ofChange racesEventsWrong)

/-- 'reclaimlaw27.RacesFrees': WHATEVER THE INPUT: true; the input reads as it did. -/
def racesFreesSpec : ChangeSpec := { name := "racesFrees", fn := fun _ => fun
  | [d] => { results := [.lit (.bool true)], args := [d] }
  | _ => none }
def racesFreesRow : OpenClaim := { program := "ytgbopmgeicokoaa", sum := "daf5059fa68357ca906b97c84bf0a680724476464669bc51323d82ba780ddfd3", func := "reclaim/reclaimlaw27.RacesFrees", spec := "racesFrees", unfollowed := true, recurses := true, plainKeys := false, apart := false }
def RacesFreesSaid : Prop := racesFreesRow.holds Try.pinned (OpenSpec.ofChange racesFreesSpec)

/-- ITS FALSE NEIGHBOUR: 'it returns false'. Refute it at one input. -/
def racesFreesWrong : ChangeSpec := { name := "racesFrees", fn := fun _ => fun
  | [d] => { results := [.lit (.bool false)], args := [d] }
  | _ => none }
def RacesFreesWrongFalsely : Prop := racesFreesRow.holds Try.pinned (OpenSpec.ofChange racesFreesWrong)

/- THE SECOND FORM. 'bulk': how many values and letters a reading holds, each counted each time it is reached (what is shared counts as often as it is met; a slice's spare places count too). A statement '..UptoSaid' is the law's where the arguments, and the package variables that the reading takes, are together of bulk at most 1048576: NARROWER than '..Said'. Prove '..Said' where nothing that the law and all that it calls make is longer than what came in: it says more and counts as full. Else prove '..UptoSaid'. A law counts once. -/
mutual
def uptoBulk {H : Type} : DataW H → Nat
  | .lit (.string bytes) => bytes.length + 1
  | .lit _ => 1
  | .nil => 1
  | .ptr d => uptoBulk d + 1
  | .slice elems spare => uptoBulkAll elems + uptoBulkAll spare + 1
  | .agg parts => uptoBulkAll parts + 1
  | .iface _ d => uptoBulk d + 1
  | .map entries => uptoBulkEntries entries + 1
  | .held _ => 1
def uptoBulkAll {H : Type} : List (DataW H) → Nat
  | [] => 0
  | d :: r => uptoBulk d + uptoBulkAll r
def uptoBulkEntries {H : Type} : List (Lit × DataW H) → Nat
  | [] => 0
  | x :: r => uptoBulkEntry x + uptoBulkEntries r
def uptoBulkEntry {H : Type} : Lit × DataW H → Nat
  | (.string bytes, d) => bytes.length + uptoBulk d + 1
  | (_, d) => uptoBulk d + 1
 end
def uptoSmall : (H : Type) → List (DataW H) → Bool := fun _ ds => decide (uptoBulkAll ds ≤ 1048576)
def OpenSpec.upto (s : _root_.Go.ChangeSpec) : _root_.Go.OpenSpec := { _root_.Go.OpenSpec.ofChange s with cond := some uptoSmall }

/-- 'reclaimlaw28.ConsoleWords', WHERE WHAT IT READS IS OF BULK AT MOST 1048576: true; the input reads as it did. -/
def consoleWordsUptoRow : OpenClaim := { program := "ytgbopmgeicokoaa", sum := "daf5059fa68357ca906b97c84bf0a680724476464669bc51323d82ba780ddfd3", func := "reclaim/reclaimlaw28.ConsoleWords", spec := "consoleWords", plainKeys := false, apart := false, narrowed := true }
def ConsoleWordsUptoSaid : Prop := consoleWordsUptoRow.holds Try.pinned (OpenSpec.upto consoleWordsSpec)

/-- 'reclaimlaw25.McasCells', WHERE WHAT IT READS IS OF BULK AT MOST 1048576: true; the input reads as it did. -/
def mcasCellsUptoRow : OpenClaim := { program := "ytgbopmgeicokoaa", sum := "daf5059fa68357ca906b97c84bf0a680724476464669bc51323d82ba780ddfd3", func := "reclaim/reclaimlaw25.McasCells", spec := "mcasCells", plainKeys := false, apart := false, narrowed := true }
def McasCellsUptoSaid : Prop := mcasCellsUptoRow.holds Try.pinned (OpenSpec.upto mcasCellsSpec)

/-- 'reclaimlaw27.RacesClocks', WHERE WHAT IT READS IS OF BULK AT MOST 1048576: true; the input reads as it did. -/
def racesClocksUptoRow : OpenClaim := { program := "ytgbopmgeicokoaa", sum := "daf5059fa68357ca906b97c84bf0a680724476464669bc51323d82ba780ddfd3", func := "reclaim/reclaimlaw27.RacesClocks", spec := "racesClocks", plainKeys := false, apart := false, narrowed := true }
def RacesClocksUptoSaid : Prop := racesClocksUptoRow.holds Try.pinned (OpenSpec.upto racesClocksSpec)

/-- 'reclaimlaw27.RacesOrder', WHERE WHAT IT READS IS OF BULK AT MOST 1048576: true; the input reads as it did. -/
def racesOrderUptoRow : OpenClaim := { program := "ytgbopmgeicokoaa", sum := "daf5059fa68357ca906b97c84bf0a680724476464669bc51323d82ba780ddfd3", func := "reclaim/reclaimlaw27.RacesOrder", spec := "racesOrder", plainKeys := false, apart := false, narrowed := true }
def RacesOrderUptoSaid : Prop := racesOrderUptoRow.holds Try.pinned (OpenSpec.upto racesOrderSpec)

/-- 'reclaimlaw28.ConsoleSaves', WHERE WHAT IT READS IS OF BULK AT MOST 1048576: true; the input reads as it did. -/
def consoleSavesUptoRow : OpenClaim := { program := "ytgbopmgeicokoaa", sum := "daf5059fa68357ca906b97c84bf0a680724476464669bc51323d82ba780ddfd3", func := "reclaim/reclaimlaw28.ConsoleSaves", spec := "consoleSaves", plainKeys := false, apart := false, narrowed := true }
def ConsoleSavesUptoSaid : Prop := consoleSavesUptoRow.holds Try.pinned (OpenSpec.upto consoleSavesSpec)

/-- 'reclaimlaw28.ConsoleLoads', WHERE WHAT IT READS IS OF BULK AT MOST 1048576: true; the input reads as it did. -/
def consoleLoadsUptoRow : OpenClaim := { program := "ytgbopmgeicokoaa", sum := "daf5059fa68357ca906b97c84bf0a680724476464669bc51323d82ba780ddfd3", func := "reclaim/reclaimlaw28.ConsoleLoads", spec := "consoleLoads", plainKeys := false, apart := false, narrowed := true }
def ConsoleLoadsUptoSaid : Prop := consoleLoadsUptoRow.holds Try.pinned (OpenSpec.upto consoleLoadsSpec)

/-- 'reclaimlaw28.ConsoleBack', WHERE WHAT IT READS IS OF BULK AT MOST 1048576: true; the input reads as it did. -/
def consoleBackUptoRow : OpenClaim := { program := "ytgbopmgeicokoaa", sum := "daf5059fa68357ca906b97c84bf0a680724476464669bc51323d82ba780ddfd3", func := "reclaim/reclaimlaw28.ConsoleBack", spec := "consoleBack", plainKeys := false, apart := false, narrowed := true }
def ConsoleBackUptoSaid : Prop := consoleBackUptoRow.holds Try.pinned (OpenSpec.upto consoleBackSpec)

/-- 'reclaimlaw27.RacesEvents', WHERE WHAT IT READS IS OF BULK AT MOST 1048576: true; the input reads as it did. -/
def racesEventsUptoRow : OpenClaim := { program := "ytgbopmgeicokoaa", sum := "daf5059fa68357ca906b97c84bf0a680724476464669bc51323d82ba780ddfd3", func := "reclaim/reclaimlaw27.RacesEvents", spec := "racesEvents", unfollowed := true, recurses := true, plainKeys := false, apart := false, narrowed := true }
def RacesEventsUptoSaid : Prop := racesEventsUptoRow.holds Try.pinned (OpenSpec.upto racesEventsSpec)

/-- 'reclaimlaw27.RacesFrees', WHERE WHAT IT READS IS OF BULK AT MOST 1048576: true; the input reads as it did. -/
def racesFreesUptoRow : OpenClaim := { program := "ytgbopmgeicokoaa", sum := "daf5059fa68357ca906b97c84bf0a680724476464669bc51323d82ba780ddfd3", func := "reclaim/reclaimlaw27.RacesFrees", spec := "racesFrees", unfollowed := true, recurses := true, plainKeys := false, apart := false, narrowed := true }
def RacesFreesUptoSaid : Prop := racesFreesUptoRow.holds Try.pinned (OpenSpec.upto racesFreesSpec)

end Rows
end Go.Proofs.Ytgbopmgeicokoaa
