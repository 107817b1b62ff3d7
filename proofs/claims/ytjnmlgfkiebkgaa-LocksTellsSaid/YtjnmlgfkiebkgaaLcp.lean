/-
  cmp.Compare at int; the two comparisons that the locks' sorts are handed.
-/
import Derived.Test.YtjnmlgfkiebkgaaLpl
namespace Go.Proofs.Ytjnmlgfkiebkgaa
open Go.RowKit
set_option linter.unusedVariables false
set_option linter.unusedSimpArgs false

def cmpI (x y : Int) : Int := bif decide (x < y) then -1 else bif decide (y < x) then 1 else 0
theorem nan_any (x : Int) (w : World) : Calls Try.prog 55 #[.int .i64 x] w (fun e w' => e = .returned (.bool false) ∧ w' = w) := by
  have n1 : (x != x) = false := by simp
  have n2 : decide (x = x) = true := by simp
  go_enter Try.func55, Try.ntmps55
  go_wp2_with fail
  all_goals (go_ret; exact ⟨rfl, rfl⟩)
set_option maxRecDepth 100000 in
set_option maxHeartbeats 1000000 in
theorem cmp_any (x y : Int) (w : World) : Calls Try.prog 35 #[.int .i64 x, .int .i64 y] w (fun e w' => e = .returned (.int .i64 (cmpI x y)) ∧ w' = w) := by
  unfold cmpI
  cases h1 : decide (x < y) with
  | true =>
    have h2 : x < y := by simpa using h1
    go_enter Try.func35, Try.ntmps35
    go_wp2_with fail
    refine (nan_any x w).mono ?_
    rintro e w1 ⟨rfl, rfl⟩
    go_wp2_with fail
    refine (nan_any y w1).mono ?_
    rintro e w2 ⟨rfl, rfl⟩
    go_wp2_with fail
    go_ret
    exact ⟨rfl, rfl⟩
  | false =>
    cases h3 : decide (y < x) with
    | true =>
      have h4 : y < x := by simpa using h3
      go_enter Try.func35, Try.ntmps35
      go_wp2_with fail
      refine (nan_any x w).mono ?_
      rintro e w1 ⟨rfl, rfl⟩
      go_wp2_with fail
      refine (nan_any y w1).mono ?_
      rintro e w2 ⟨rfl, rfl⟩
      go_wp2_with fail
      go_ret
      exact ⟨rfl, rfl⟩
    | false =>
      go_enter Try.func35, Try.ntmps35
      go_wp2_with fail
      refine (nan_any x w).mono ?_
      rintro e w1 ⟨rfl, rfl⟩
      go_wp2_with fail
      refine (nan_any y w1).mono ?_
      rintro e w2 ⟨rfl, rfl⟩
      go_wp2_with fail
      go_ret
      exact ⟨rfl, rfl⟩
/-- a stay -/
structure St where
  th : Int
  sh : Bool
  fr : Int
  til : Int
abbrev styL (s : St) : List Value := [.int .i64 s.th, .bool s.sh, .int .i64 s.fr, .int .i64 s.til]
def styVals (l : List St) : List Value := l.flatMap styL
set_option maxRecDepth 100000 in
set_option maxHeartbeats 1000000 in
theorem sty_any (x y : St) (w : World) : Calls Try.prog 34 #[.agg (styL x).toArray, .agg (styL y).toArray] w (fun e w' => e = .returned (.int .i64 (cmpI x.fr y.fr)) ∧ w' = (w.alloc (.cells (styL x).toArray 68)).alloc (.cells (styL y).toArray 68)) := by
  go_enter Try.func34, Try.ntmps34
  go_wp2_with fail
  refine (cmp_any x.fr y.fr _).mono ?_
  rintro e w1 ⟨rfl, rfl⟩
  go_wp2_with fail
  go_ret
  exact ⟨rfl, rfl⟩
set_option maxRecDepth 100000 in
set_option maxHeartbeats 1000000 in
theorem cal_any (x y : Cal) (w : World) : Calls Try.prog 38 #[.agg (calL x).toArray, .agg (calL y).toArray] w (fun e w' => e = .returned (.int .i64 (cmpI x.fin y.fin)) ∧ w' = (w.alloc (.cells (calL x).toArray 62)).alloc (.cells (calL y).toArray 62)) := by
  go_enter Try.func38, Try.ntmps38
  go_wp2_with fail
  refine (cmp_any x.fin y.fin _).mono ?_
  rintro e w1 ⟨rfl, rfl⟩
  go_wp2_with fail
  go_ret
  exact ⟨rfl, rfl⟩
/-- one stay is over ahead of the other -/
def St.apart (a b : St) : Bool := a.til != -1 && decide (a.til < b.fr)
set_option maxRecDepth 100000 in
set_option maxHeartbeats 1000000 in
theorem apart_any (x y : St) (w : World) : Calls Try.prog 36 #[.agg (styL x).toArray, .agg (styL y).toArray] w (fun e w' => e = .returned (.bool (x.apart y)) ∧ Below w.heap.size w w') := by
  unfold St.apart
  cases h1 : (x.til != -1) with
  | true =>
    cases h2 : decide (x.til < y.fr) <;>
    · go_enter Try.func36, Try.ntmps36
      go_wp2_with fail
      go_ret
      exact ⟨rfl, ((Below.refl _ _).alloc (Nat.le_refl _) _).alloc (by simp) _⟩
  | false =>
    go_enter Try.func36, Try.ntmps36
    go_wp2_with fail
    go_ret
    exact ⟨rfl, ((Below.refl _ _).alloc (Nat.le_refl _) _).alloc (by simp) _⟩
end Go.Proofs.Ytjnmlgfkiebkgaa
