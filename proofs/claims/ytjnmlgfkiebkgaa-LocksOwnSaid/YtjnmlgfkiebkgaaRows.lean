/-
  No cell of these rows narrows 'for every input' (looked for: loops, veiled, ifaces, maps, wideKeys, modest, calm, conditions, laid).
  DERIVED. THE GIVEN ROWS OF THIS SEAT. 7 by the template 'for every input the law returns true; each argument reads behind the call as it read before'; 0 by the template 'total and deterministic' (their statements: YtjnmlgfkiebkgaaTotals.lean).
  GIVEN WITH THE SEED: the statements are not yours to turn. If you find one false, say at which input.
  Laid BY PROGRAM, IN A SANDBOX (cutbox-rows.mjs): the forced cells as the released guide's own fill.sh prints them over the translation 084d661bee1a9c24… (all of the seat's roots in one cut). By AI agents, Wed Nov 11 2026. No macro, syntax, notation, axiom, sorry.
-/
import Derived.Test.YtjnmlgfkiebkgaaChecked
import GoSem.Claim
import GoSem.ClaimJoined
import GoSem.ClaimMapViews
import Derived.JoinedTies
import Derived.KernelRfl
namespace Go.Proofs.Ytjnmlgfkiebkgaa
/- THE CELL 'sum', in the pinned program and in every row, IS THE sha256 OF THE DUMP (.gsa) THAT YtjnmlgfkiebkgaaProg.lean LOADS. Nothing in Lean hashes anything: it is a label: what it is worth is what the hold of that sum in a sandbox is worth. -/
noncomputable def Try.pinned : Pinned := { name := "ytjnmlgfkiebkgaa", sum := "084d661bee1a9c24f0c06d7725b086921dcce9fc82ce12c153d35ebd31664a0e", checked := Try.checked }
namespace Rows
def none {H : Type} : Left H := { results := [], args := [] }

/-- 'reclaimlaw24.LocksChecks': WHATEVER THE INPUT: true; the input reads as it did. -/
def locksChecksSpec : ChangeSpec := { name := "locksChecks", fn := fun _ => fun
  | [d] => { results := [.lit (.bool true)], args := [d] }
  | _ => none }
def locksChecksRow : OpenClaim := { program := "ytjnmlgfkiebkgaa", sum := "084d661bee1a9c24f0c06d7725b086921dcce9fc82ce12c153d35ebd31664a0e", func := "reclaim/reclaimlaw24.LocksChecks", spec := "locksChecks", unfollowed := true, recurses := true, apart := false }
def LocksChecksSaid : Prop := locksChecksRow.holds Try.pinned (OpenSpec.ofChange locksChecksSpec)

/-- ITS FALSE NEIGHBOUR: 'it returns false'. Refute it at one input. -/
def locksChecksWrong : ChangeSpec := { name := "locksChecks", fn := fun _ => fun
  | [d] => { results := [.lit (.bool false)], args := [d] }
  | _ => none }
def LocksChecksWrongFalsely : Prop := locksChecksRow.holds Try.pinned (OpenSpec.ofChange locksChecksWrong)

/-- 'reclaimlaw24.LocksTells': WHATEVER THE INPUT: true; the input reads as it did. -/
def locksTellsSpec : ChangeSpec := { name := "locksTells", fn := fun _ => fun
  | [d1, d2] => { results := [.lit (.bool true)], args := [d1, d2] }
  | _ => none }
def locksTellsRow : OpenClaim := { program := "ytjnmlgfkiebkgaa", sum := "084d661bee1a9c24f0c06d7725b086921dcce9fc82ce12c153d35ebd31664a0e", func := "reclaim/reclaimlaw24.LocksTells", spec := "locksTells", unfollowed := true, recurses := true, apart := false }
def LocksTellsSaid : Prop := locksTellsRow.holds Try.pinned (OpenSpec.ofChange locksTellsSpec)

/-- ITS FALSE NEIGHBOUR: 'it returns false'. Refute it at one input. -/
def locksTellsWrong : ChangeSpec := { name := "locksTells", fn := fun _ => fun
  | [d1, d2] => { results := [.lit (.bool false)], args := [d1, d2] }
  | _ => none }
def LocksTellsWrongFalsely : Prop := locksTellsRow.holds Try.pinned (OpenSpec.ofChange locksTellsWrong)

/-- 'reclaimlaw24.LocksExclude': WHATEVER THE INPUT: true; the input reads as it did. -/
def locksExcludeSpec : ChangeSpec := { name := "locksExclude", fn := fun _ => fun
  | [d1, d2] => { results := [.lit (.bool true)], args := [d1, d2] }
  | _ => none }
def locksExcludeRow : OpenClaim := { program := "ytjnmlgfkiebkgaa", sum := "084d661bee1a9c24f0c06d7725b086921dcce9fc82ce12c153d35ebd31664a0e", func := "reclaim/reclaimlaw24.LocksExclude", spec := "locksExclude", unfollowed := true, recurses := true, apart := false }
def LocksExcludeSaid : Prop := locksExcludeRow.holds Try.pinned (OpenSpec.ofChange locksExcludeSpec)

/-- ITS FALSE NEIGHBOUR: 'it returns false'. Refute it at one input. -/
def locksExcludeWrong : ChangeSpec := { name := "locksExclude", fn := fun _ => fun
  | [d1, d2] => { results := [.lit (.bool false)], args := [d1, d2] }
  | _ => none }
def LocksExcludeWrongFalsely : Prop := locksExcludeRow.holds Try.pinned (OpenSpec.ofChange locksExcludeWrong)

/-- 'reclaimlaw24.LocksFirst': WHATEVER THE INPUT: true; the input reads as it did. -/
def locksFirstSpec : ChangeSpec := { name := "locksFirst", fn := fun _ => fun
  | [d1, d2] => { results := [.lit (.bool true)], args := [d1, d2] }
  | _ => none }
def locksFirstRow : OpenClaim := { program := "ytjnmlgfkiebkgaa", sum := "084d661bee1a9c24f0c06d7725b086921dcce9fc82ce12c153d35ebd31664a0e", func := "reclaim/reclaimlaw24.LocksFirst", spec := "locksFirst", unfollowed := true, recurses := true, apart := false }
def LocksFirstSaid : Prop := locksFirstRow.holds Try.pinned (OpenSpec.ofChange locksFirstSpec)

/-- ITS FALSE NEIGHBOUR: 'it returns false'. Refute it at one input. -/
def locksFirstWrong : ChangeSpec := { name := "locksFirst", fn := fun _ => fun
  | [d1, d2] => { results := [.lit (.bool false)], args := [d1, d2] }
  | _ => none }
def LocksFirstWrongFalsely : Prop := locksFirstRow.holds Try.pinned (OpenSpec.ofChange locksFirstWrong)

/-- 'reclaimlaw24.LocksQuiet': WHATEVER THE INPUT: true; the input reads as it did. -/
def locksQuietSpec : ChangeSpec := { name := "locksQuiet", fn := fun _ => fun
  | [d1, d2] => { results := [.lit (.bool true)], args := [d1, d2] }
  | _ => none }
def locksQuietRow : OpenClaim := { program := "ytjnmlgfkiebkgaa", sum := "084d661bee1a9c24f0c06d7725b086921dcce9fc82ce12c153d35ebd31664a0e", func := "reclaim/reclaimlaw24.LocksQuiet", spec := "locksQuiet", unfollowed := true, recurses := true, apart := false }
def LocksQuietSaid : Prop := locksQuietRow.holds Try.pinned (OpenSpec.ofChange locksQuietSpec)

/-- ITS FALSE NEIGHBOUR: 'it returns false'. Refute it at one input. -/
def locksQuietWrong : ChangeSpec := { name := "locksQuiet", fn := fun _ => fun
  | [d1, d2] => { results := [.lit (.bool false)], args := [d1, d2] }
  | _ => none }
def LocksQuietWrongFalsely : Prop := locksQuietRow.holds Try.pinned (OpenSpec.ofChange locksQuietWrong)

/-- 'reclaimlaw24.LocksOwn': WHATEVER THE INPUT: true; the input reads as it did. -/
def locksOwnSpec : ChangeSpec := { name := "locksOwn", fn := fun _ => fun
  | [d1, d2] => { results := [.lit (.bool true)], args := [d1, d2] }
  | _ => none }
def locksOwnRow : OpenClaim := { program := "ytjnmlgfkiebkgaa", sum := "084d661bee1a9c24f0c06d7725b086921dcce9fc82ce12c153d35ebd31664a0e", func := "reclaim/reclaimlaw24.LocksOwn", spec := "locksOwn", unfollowed := true, recurses := true, apart := false }
def LocksOwnSaid : Prop := locksOwnRow.holds Try.pinned (OpenSpec.ofChange locksOwnSpec)

/-- ITS FALSE NEIGHBOUR: 'it returns false'. Refute it at one input. -/
def locksOwnWrong : ChangeSpec := { name := "locksOwn", fn := fun _ => fun
  | [d1, d2] => { results := [.lit (.bool false)], args := [d1, d2] }
  | _ => none }
def LocksOwnWrongFalsely : Prop := locksOwnRow.holds Try.pinned (OpenSpec.ofChange locksOwnWrong)

/-- 'reclaimlaw24.LocksAllIn': WHATEVER THE INPUT: true; the input reads as it did. -/
def locksAllInSpec : ChangeSpec := { name := "locksAllIn", fn := fun _ => fun
  | [d1, d2] => { results := [.lit (.bool true)], args := [d1, d2] }
  | _ => none }
def locksAllInRow : OpenClaim := { program := "ytjnmlgfkiebkgaa", sum := "084d661bee1a9c24f0c06d7725b086921dcce9fc82ce12c153d35ebd31664a0e", func := "reclaim/reclaimlaw24.LocksAllIn", spec := "locksAllIn", unfollowed := true, recurses := true, apart := false }
def LocksAllInSaid : Prop := locksAllInRow.holds Try.pinned (OpenSpec.ofChange locksAllInSpec)

/-- ITS FALSE NEIGHBOUR: 'it returns false'. Refute it at one input. -/
def locksAllInWrong : ChangeSpec := { name := "locksAllIn", fn := fun _ => fun
  | [d1, d2] => { results := [.lit (.bool false)], args := [d1, d2] }
  | _ => none }
def LocksAllInWrongFalsely : Prop := locksAllInRow.holds Try.pinned (OpenSpec.ofChange locksAllInWrong)

/- THE SECOND FORM. 'bulk': how many values and letters a reading holds, each counted each time it is reached (what is shared counts as often as it is met; a slice's spare places count too). A statement '..UptoSaid' is the law's where the arguments, and the package variables that the reading takes, are together of bulk at most 1048576: NARROWER than '..Said'. Prove '..Said' where nothing that the law and all that it calls make is longer than what came in: it says more and counts as full. Else prove '..UptoSaid'. A law counts once. -/
mutual
def uptoBulk {H : Type} : DataW H → Nat
  | .lit (.string bytes) => bytes.length + 1
  | .lit _ => 1
  | .nil => 1
  | .ptr d => uptoBulk d + 1
  | .slice elems spare => uptoBulkAll elems + uptoBulkAll spare + 1
  | .agg parts => uptoBulkAll parts + 1
  | .iface _ d => uptoBulk d + 1
  | .map entries => uptoBulkEntries entries + 1
  | .held _ => 1
def uptoBulkAll {H : Type} : List (DataW H) → Nat
  | [] => 0
  | d :: r => uptoBulk d + uptoBulkAll r
def uptoBulkEntries {H : Type} : List (Lit × DataW H) → Nat
  | [] => 0
  | x :: r => uptoBulkEntry x + uptoBulkEntries r
def uptoBulkEntry {H : Type} : Lit × DataW H → Nat
  | (.string bytes, d) => bytes.length + uptoBulk d + 1
  | (_, d) => uptoBulk d + 1
 end
def uptoSmall : (H : Type) → List (DataW H) → Bool := fun _ ds => decide (uptoBulkAll ds ≤ 1048576)
def OpenSpec.upto (s : _root_.Go.ChangeSpec) : _root_.Go.OpenSpec := { _root_.Go.OpenSpec.ofChange s with cond := some uptoSmall }

/-- 'reclaimlaw24.LocksChecks', WHERE WHAT IT READS IS OF BULK AT MOST 1048576: true; the input reads as it did. -/
def locksChecksUptoRow : OpenClaim := { program := "ytjnmlgfkiebkgaa", sum := "084d661bee1a9c24f0c06d7725b086921dcce9fc82ce12c153d35ebd31664a0e", func := "reclaim/reclaimlaw24.LocksChecks", spec := "locksChecks", unfollowed := true, recurses := true, apart := false, narrowed := true }
def LocksChecksUptoSaid : Prop := locksChecksUptoRow.holds Try.pinned (OpenSpec.upto locksChecksSpec)

/-- 'reclaimlaw24.LocksTells', WHERE WHAT IT READS IS OF BULK AT MOST 1048576: true; the input reads as it did. -/
def locksTellsUptoRow : OpenClaim := { program := "ytjnmlgfkiebkgaa", sum := "084d661bee1a9c24f0c06d7725b086921dcce9fc82ce12c153d35ebd31664a0e", func := "reclaim/reclaimlaw24.LocksTells", spec := "locksTells", unfollowed := true, recurses := true, apart := false, narrowed := true }
def LocksTellsUptoSaid : Prop := locksTellsUptoRow.holds Try.pinned (OpenSpec.upto locksTellsSpec)

/-- 'reclaimlaw24.LocksExclude', WHERE WHAT IT READS IS OF BULK AT MOST 1048576: true; the input reads as it did. -/
def locksExcludeUptoRow : OpenClaim := { program := "ytjnmlgfkiebkgaa", sum := "084d661bee1a9c24f0c06d7725b086921dcce9fc82ce12c153d35ebd31664a0e", func := "reclaim/reclaimlaw24.LocksExclude", spec := "locksExclude", unfollowed := true, recurses := true, apart := false, narrowed := true }
def LocksExcludeUptoSaid : Prop := locksExcludeUptoRow.holds Try.pinned (OpenSpec.upto locksExcludeSpec)

/-- 'reclaimlaw24.LocksFirst', WHERE WHAT IT READS IS OF BULK AT MOST 1048576: true; the input reads as it did. -/
def locksFirstUptoRow : OpenClaim := { program := "ytjnmlgfkiebkgaa", sum := "084d661bee1a9c24f0c06d7725b086921dcce9fc82ce12c153d35ebd31664a0e", func := "reclaim/reclaimlaw24.LocksFirst", spec := "locksFirst", unfollowed := true, recurses := true, apart := false, narrowed := true }
def LocksFirstUptoSaid : Prop := locksFirstUptoRow.holds Try.pinned (OpenSpec.upto locksFirstSpec)

/-- 'reclaimlaw24.LocksQuiet', WHERE WHAT IT READS IS OF BULK AT MOST 1048576: true; the input reads as it did. -/
def locksQuietUptoRow : OpenClaim := { program := "ytjnmlgfkiebkgaa", sum := "084d661bee1a9c24f0c06d7725b086921dcce9fc82ce12c153d35ebd31664a0e", func := "reclaim/reclaimlaw24.LocksQuiet", spec := "locksQuiet", unfollowed := true, recurses := true, apart := false, narrowed := true }
def LocksQuietUptoSaid : Prop := locksQuietUptoRow.holds Try.pinned (OpenSpec.upto locksQuietSpec)

/-- 'reclaimlaw24.LocksOwn', WHERE WHAT IT READS IS OF BULK AT MOST 1048576: true; the input reads as it did. -/
def locksOwnUptoRow : OpenClaim := { program := "ytjnmlgfkiebkgaa", sum := "084d661bee1a9c24f0c06d7725b086921dcce9fc82ce12c153d35ebd31664a0e", func := "reclaim/reclaimlaw24.LocksOwn", spec := "locksOwn", unfollowed := true, recurses := true, apart := false, narrowed := true }
def LocksOwnUptoSaid : Prop := locksOwnUptoRow.holds Try.pinned (OpenSpec.upto locksOwnSpec)

/-- 'reclaimlaw24.LocksAllIn', WHERE WHAT IT READS IS OF BULK AT MOST 1048576: true; the input reads as it did. -/
def locksAllInUptoRow : OpenClaim := { program := "ytjnmlgfkiebkgaa", sum := "084d661bee1a9c24f0c06d7725b086921dcce9fc82ce12c153d35ebd31664a0e", func := "reclaim/reclaimlaw24.LocksAllIn", spec := "locksAllIn", unfollowed := true, recurses := true, apart := false, narrowed := true }
def LocksAllInUptoSaid : Prop := locksAllInUptoRow.holds Try.pinned (OpenSpec.upto locksAllInSpec)

end Rows
end Go.Proofs.Ytjnmlgfkiebkgaa
