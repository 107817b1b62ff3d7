/-
  locks.Check and reclaimref24.May.
-/
import Derived.Test.YtjnmlgfkiebkgaaProg
import Derived.Test.YtjnmlgfkiebkgaaLm
import Derived.WalkSpells
import Derived.OwnWalk
namespace Go.Proofs.Ytjnmlgfkiebkgaa
open Go.RowKit
set_option linter.unusedVariables false
set_option linter.unusedSimpArgs false

/-- threads and another number in their bounds -/
def rangeB (t x lo hi : Int) : Bool := decide (1 ≤ t) && (decide (t ≤ 16) && (decide (lo ≤ x) && decide (x ≤ hi)))
def BoolR (b : Bool) (w : World) (e : Ending) (w' : World) : Prop := e = .returned (.bool b) ∧ Below w.heap.size w w'
def IntR (x : Int) (w : World) (e : Ending) (w' : World) : Prop := e = .returned (.int .i64 x) ∧ Below w.heap.size w w'
set_option maxRecDepth 100000 in
theorem rlocks_any (t x : Int) (w : World) : Calls Try.prog 13 #[.agg #[.int .i64 t, .int .i64 x]] w (BoolR (rangeB t x 1 7) w) := by
  obtain ⟨b, hb⟩ : ∃ b, b = rangeB t x 1 7 := ⟨_, rfl⟩
  rw [← hb]
  unfold rangeB at hb
  by_cases c0 : t < 1
  · have d1 : decide (t < 1) = true := by simp; omega
    have d2 : decide (1 ≤ t) = false := by simp; omega
    have d3 : ¬ 1 ≤ t := by omega
    have hb' : b = false := by rw [hb, d2]; simp
    clear hb
    subst hb'
    go_enter Try.func13, Try.ntmps13
    go_wp2_with fail
    go_ret
    exact ⟨rfl, (Below.refl _ _).alloc (Nat.le_refl _) _⟩
  have a0 : decide (t < 1) = false := by simp; omega
  have e0 : decide (1 ≤ t) = true := by simp; omega
  have g0 : 1 ≤ t := by omega
  by_cases c1 : 16 < t
  · have d1 : decide (16 < t) = true := by simp; omega
    have d2 : decide (t ≤ 16) = false := by simp; omega
    have d3 : ¬ t ≤ 16 := by omega
    have hb' : b = false := by rw [hb, d2]; simp
    clear hb
    subst hb'
    go_enter Try.func13, Try.ntmps13
    go_wp2_with fail
    go_ret
    exact ⟨rfl, (Below.refl _ _).alloc (Nat.le_refl _) _⟩
  have a1 : decide (16 < t) = false := by simp; omega
  have e1 : decide (t ≤ 16) = true := by simp; omega
  have g1 : t ≤ 16 := by omega
  by_cases c2 : x < 1
  · have d1 : decide (x < 1) = true := by simp; omega
    have d2 : decide (1 ≤ x) = false := by simp; omega
    have d3 : ¬ 1 ≤ x := by omega
    have hb' : b = false := by rw [hb, d2]; simp
    clear hb
    subst hb'
    go_enter Try.func13, Try.ntmps13
    go_wp2_with fail
    go_ret
    exact ⟨rfl, (Below.refl _ _).alloc (Nat.le_refl _) _⟩
  have a2 : decide (x < 1) = false := by simp; omega
  have e2 : decide (1 ≤ x) = true := by simp; omega
  have g2 : 1 ≤ x := by omega
  by_cases c3 : 7 < x
  · have d1 : decide (7 < x) = true := by simp; omega
    have d2 : decide (x ≤ 7) = false := by simp; omega
    have d3 : ¬ x ≤ 7 := by omega
    have hb' : b = false := by rw [hb, d2]; simp
    clear hb
    subst hb'
    go_enter Try.func13, Try.ntmps13
    go_wp2_with fail
    go_ret
    exact ⟨rfl, (Below.refl _ _).alloc (Nat.le_refl _) _⟩
  have a3 : decide (7 < x) = false := by simp; omega
  have e3 : decide (x ≤ 7) = true := by simp; omega
  have g3 : x ≤ 7 := by omega
  have hb' : b = true := by rw [hb, e0, e1, e2, e3]; rfl
  clear hb
  subst hb'
  go_enter Try.func13, Try.ntmps13
  go_wp2_with fail
  go_ret
  exact ⟨rfl, (Below.refl _ _).alloc (Nat.le_refl _) _⟩

set_option maxRecDepth 100000 in
theorem locksck_any (t x : Int) (w : World) : Calls Try.prog 10 #[.agg #[.int .i64 t, .int .i64 x]] w (IntR (if rangeB t x 1 7 = true then 0 else 240) w) := by
  obtain ⟨b, hb⟩ : ∃ b, b = rangeB t x 1 7 := ⟨_, rfl⟩
  rw [← hb]
  unfold rangeB at hb
  by_cases c0 : t < 1
  · have d1 : decide (t < 1) = true := by simp; omega
    have d2 : decide (1 ≤ t) = false := by simp; omega
    have d3 : ¬ 1 ≤ t := by omega
    have hb' : b = false := by rw [hb, d2]; simp
    clear hb
    subst hb'
    go_enter Try.func10, Try.ntmps10
    go_wp2_with fail
    go_ret
    exact ⟨rfl, (Below.refl _ _).alloc (Nat.le_refl _) _⟩
  have a0 : decide (t < 1) = false := by simp; omega
  have e0 : decide (1 ≤ t) = true := by simp; omega
  have g0 : 1 ≤ t := by omega
  by_cases c1 : 16 < t
  · have d1 : decide (16 < t) = true := by simp; omega
    have d2 : decide (t ≤ 16) = false := by simp; omega
    have d3 : ¬ t ≤ 16 := by omega
    have hb' : b = false := by rw [hb, d2]; simp
    clear hb
    subst hb'
    go_enter Try.func10, Try.ntmps10
    go_wp2_with fail
    go_ret
    exact ⟨rfl, (Below.refl _ _).alloc (Nat.le_refl _) _⟩
  have a1 : decide (16 < t) = false := by simp; omega
  have e1 : decide (t ≤ 16) = true := by simp; omega
  have g1 : t ≤ 16 := by omega
  rw [e0, e1] at hb
  by_cases k1 : x = 1
  · have hb' : b = true := by rw [hb, k1]; rfl
    subst k1
    clear hb
    subst hb'
    go_enter Try.func10, Try.ntmps10
    go_wp2_with fail
    go_ret
    exact ⟨rfl, (Below.refl _ _).alloc (Nat.le_refl _) _⟩
  have n1 : (x == 1) = false := by simp [k1]
  by_cases k2 : x = 2
  · have hb' : b = true := by rw [hb, k2]; rfl
    subst k2
    clear hb
    subst hb'
    go_enter Try.func10, Try.ntmps10
    go_wp2_with fail
    go_ret
    exact ⟨rfl, (Below.refl _ _).alloc (Nat.le_refl _) _⟩
  have n2 : (x == 2) = false := by simp [k2]
  by_cases k3 : x = 3
  · have hb' : b = true := by rw [hb, k3]; rfl
    subst k3
    clear hb
    subst hb'
    go_enter Try.func10, Try.ntmps10
    go_wp2_with fail
    go_ret
    exact ⟨rfl, (Below.refl _ _).alloc (Nat.le_refl _) _⟩
  have n3 : (x == 3) = false := by simp [k3]
  by_cases k4 : x = 4
  · have hb' : b = true := by rw [hb, k4]; rfl
    subst k4
    clear hb
    subst hb'
    go_enter Try.func10, Try.ntmps10
    go_wp2_with fail
    go_ret
    exact ⟨rfl, (Below.refl _ _).alloc (Nat.le_refl _) _⟩
  have n4 : (x == 4) = false := by simp [k4]
  by_cases k5 : x = 5
  · have hb' : b = true := by rw [hb, k5]; rfl
    subst k5
    clear hb
    subst hb'
    go_enter Try.func10, Try.ntmps10
    go_wp2_with fail
    go_ret
    exact ⟨rfl, (Below.refl _ _).alloc (Nat.le_refl _) _⟩
  have n5 : (x == 5) = false := by simp [k5]
  by_cases k6 : x = 6
  · have hb' : b = true := by rw [hb, k6]; rfl
    subst k6
    clear hb
    subst hb'
    go_enter Try.func10, Try.ntmps10
    go_wp2_with fail
    go_ret
    exact ⟨rfl, (Below.refl _ _).alloc (Nat.le_refl _) _⟩
  have n6 : (x == 6) = false := by simp [k6]
  by_cases k7 : x = 7
  · have hb' : b = true := by rw [hb, k7]; rfl
    subst k7
    clear hb
    subst hb'
    go_enter Try.func10, Try.ntmps10
    go_wp2_with fail
    go_ret
    exact ⟨rfl, (Below.refl _ _).alloc (Nat.le_refl _) _⟩
  have n7 : (x == 7) = false := by simp [k7]
  have hb' : b = false := by
    cases h9 : b with
    | false => rfl
    | true => rw [h9] at hb; simp at hb; omega
  clear hb
  subst hb'
  go_enter Try.func10, Try.ntmps10
  go_wp2_with fail
  go_ret
  exact ⟨rfl, (Below.refl _ _).alloc (Nat.le_refl _) _⟩
end Go.Proofs.Ytjnmlgfkiebkgaa
