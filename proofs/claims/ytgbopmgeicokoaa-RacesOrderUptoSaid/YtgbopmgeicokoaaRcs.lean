/-
  The races of a run, plain.
-/
import Derived.Test.YtgbopmgeicokoaaOrd
namespace Go.Proofs.Ytgbopmgeicokoaa
open Go.RowKit

/-- is access i unordered with access j, that is y? -/
def raceC (c : Cfg) (tr : List Acc) (j : Nat) (y : Acc) (i : Nat) : Bool :=
  match tr[i]? with
  | some x => !decide (x.thread = y.thread) && ((wroteB x || wroteB y) && !aheadB c tr i j)
  | none => false
theorem raceC_at {c : Cfg} {tr : List Acc} {i j : Nat} {x y : Acc} (hx : tr[i]? = some x) : raceC c tr j y i = (!decide (x.thread = y.thread) && ((wroteB x || wroteB y) && !aheadB c tr i j)) := by
  unfold raceC
  rw [hx]
/-- the places of a word among the first j accesses -/
def idxP (tr : List Acc) : Nat → Int → List Nat
  | 0, _ => []
  | j + 1, a => idxP tr j a ++ (match tr[j]? with | some x => if x.addr = a then [j] else [] | none => [])
theorem idxP_own {tr : List Acc} {j : Nat} {x : Acc} (hx : tr[j]? = some x) : idxP tr (j + 1) x.addr = idxP tr j x.addr ++ [j] := by
  show _ ++ (match tr[j]? with | some x' => if x'.addr = x.addr then [j] else [] | none => []) = _
  rw [hx]
  simp
theorem idxP_other {tr : List Acc} {j : Nat} {x : Acc} {a : Int} (hx : tr[j]? = some x) (h : a ≠ x.addr) : idxP tr (j + 1) a = idxP tr j a := by
  show _ ++ (match tr[j]? with | some x' => if x'.addr = a then [j] else [] | none => []) = _
  rw [hx]
  simp [Ne.symm h]
theorem idxP_lt {tr : List Acc} {a : Int} : ∀ {j i : Nat}, i ∈ idxP tr j a → i < j
  | 0, _, h => by cases h
  | j + 1, i, h => by
    rcases List.mem_append.1 h with h | h
    · have := idxP_lt h
      omega
    · split at h
      · split at h
        · simp at h; omega
        · cases h
      · cases h
theorem idxP_len (tr : List Acc) (a : Int) : ∀ j, (idxP tr j a).length ≤ j
  | 0 => Nat.le_refl _
  | j + 1 => by
    have := idxP_len tr a j
    show List.length (_ ++ _) ≤ _
    rw [List.length_append]
    split
    · split <;> simp <;> omega
    · simp; omega
abbrev Rc := Nat × Nat × Int
def raceAt (c : Cfg) (tr : List Acc) (j : Nat) : List Rc :=
  match tr[j]? with
  | some y => if plainB c y.addr then (match (idxP tr j y.addr).find? (raceC c tr j y) with | some i => [(i, j, y.addr)] | none => []) else []
  | none => []
/-- the races that the first j accesses end -/
def racesV (c : Cfg) (tr : List Acc) : Nat → List Rc
  | 0 => []
  | j + 1 => racesV c tr j ++ raceAt c tr j
section
variable {c : Cfg} {tr : List Acc} {j i : Nat} {y : Acc}
theorem racesV_not (hy : tr[j]? = some y) (hp : plainB c y.addr = false) : racesV c tr (j + 1) = racesV c tr j := by
  show _ ++ raceAt c tr j = _
  unfold raceAt
  rw [hy]
  simp [hp]
theorem racesV_none (hy : tr[j]? = some y) (hf : (idxP tr j y.addr).find? (raceC c tr j y) = none) : racesV c tr (j + 1) = racesV c tr j := by
  show _ ++ raceAt c tr j = _
  unfold raceAt
  rw [hy]
  simp only [hf]
  split <;> simp
theorem racesV_one (hy : tr[j]? = some y) (hp : plainB c y.addr = true) (hf : (idxP tr j y.addr).find? (raceC c tr j y) = some i) : racesV c tr (j + 1) = racesV c tr j ++ [(i, j, y.addr)] := by
  show _ ++ raceAt c tr j = _
  unfold raceAt
  rw [hy]
  simp only [hf, hp, if_true]
theorem raceAt_len : (raceAt c tr j).length ≤ 1 := by
  unfold raceAt
  split
  · split
    · split <;> simp
    · simp
  · simp
end
theorem racesV_len (c : Cfg) (tr : List Acc) : ∀ j, (racesV c tr j).length ≤ j
  | 0 => Nat.le_refl _
  | j + 1 => by
    have h1 := racesV_len c tr j
    have h2 := raceAt_len (c := c) (tr := tr) (j := j)
    show List.length (_ ++ _) ≤ _
    rw [List.length_append]
    omega
/-- the cells of races -/
def rcVals (l : List Rc) : List Value := l.flatMap fun r => [.int .i64 r.1, .int .i64 r.2.1, .int .i64 r.2.2]
theorem rcVals_len (l : List Rc) : (rcVals l).length = l.length * 3 := by
  induction l with
  | nil => rfl
  | cons a l ih => simp only [rcVals, List.flatMap_cons, List.length_append, List.length_cons, List.length_nil] at ih ⊢; omega
theorem rcVals_snoc (l : List Rc) (r : Rc) : rcVals (l ++ [r]) = rcVals l ++ [.int .i64 r.1, .int .i64 r.2.1, .int .i64 r.2.2] := by
  unfold rcVals
  rw [List.flatMap_append]
  simp
end Go.Proofs.Ytgbopmgeicokoaa
