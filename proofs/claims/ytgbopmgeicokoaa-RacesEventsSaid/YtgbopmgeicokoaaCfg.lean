/-
  api.Config as plain data: may it be, how many words its regions have, where they begin, which addresses are plain words.
-/
import Derived.Test.YtgbopmgeicokoaaMem
namespace Go.Proofs.Ytgbopmgeicokoaa
open Go.RowKit

structure Cfg where
  threads : Int
  records : Int
  hazards : Int
  retire : Int
  cache : Int
  slots : Int
  buckets : Int

abbrev cfgL (c : Cfg) : List Value := [.int .i64 c.threads, .int .i64 c.records, .int .i64 c.hazards, .int .i64 c.retire, .int .i64 c.cache, .int .i64 c.slots, .int .i64 c.buckets]
abbrev cfgV (c : Cfg) : Value := .agg #[.int .i64 c.threads, .int .i64 c.records, .int .i64 c.hazards, .int .i64 c.retire, .int .i64 c.cache, .int .i64 c.slots, .int .i64 c.buckets]

/-- number, least, greatest -/
def limits (c : Cfg) : List (Int × Int × Int) := [(c.threads, 1, 16), (c.records, 1, 16), (c.hazards, 3, 8), (c.retire, 1, 1024), (c.cache, 0, 64), (c.slots, 1, 1024), (c.buckets, 1, 64)]
def inL (x : Int × Int × Int) : Bool := decide (x.2.1 ≤ x.1) && decide (x.1 ≤ x.2.2)
/-- may a configuration be? -/
def okC (c : Cfg) : Bool := (limits c).all inL

structure OkC (c : Cfg) : Prop where
  t1 : 1 ≤ c.threads
  t2 : c.threads ≤ 16
  r1 : 1 ≤ c.records
  r2 : c.records ≤ 16
  h1 : 3 ≤ c.hazards
  h2 : c.hazards ≤ 8
  e1 : 1 ≤ c.retire
  e2 : c.retire ≤ 1024
  a1 : 0 ≤ c.cache
  a2 : c.cache ≤ 64
  s1 : 1 ≤ c.slots
  s2 : c.slots ≤ 1024
  b1 : 1 ≤ c.buckets
  b2 : c.buckets ≤ 64
theorem okC_iff (c : Cfg) : okC c = true ↔ OkC c := by
  unfold okC limits inL
  simp only [List.all_cons, List.all_nil, Bool.and_true, Bool.and_eq_true, decide_eq_true_eq]
  constructor
  · rintro ⟨⟨a, b⟩, ⟨d, e⟩, ⟨f, g⟩, ⟨h, i⟩, ⟨j, k⟩, ⟨l, m⟩, n, o⟩
    exact ⟨a, b, d, e, f, g, h, i, j, k, l, m, n, o⟩
  · rintro ⟨a, b, d, e, f, g, h, i, j, k, l, m, n, o⟩
    exact ⟨⟨a, b⟩, ⟨d, e⟩, ⟨f, g⟩, ⟨h, i⟩, ⟨j, k⟩, ⟨l, m⟩, n, o⟩

/-- how many words a region has -/
def manyF (c : Cfg) (r : Int) : Int :=
  if r = 7 then c.buckets else if r = 8 then c.records else if r = 9 then c.records * c.hazards else if r = 10 ∨ r = 11 ∨ r = 12 ∨ r = 13 then c.slots else 1
/-- the words of the regions 1 .. n -/
def sumF (c : Cfg) : Nat → Int
  | 0 => 0
  | n + 1 => sumF c n + manyF c (n + 1 : Nat)
theorem manyF_pos {c : Cfg} (h : OkC c) (r : Int) : 1 ≤ manyF c r ∧ manyF c r ≤ 1024 := by
  obtain ⟨a, b, d, e, f, g, _, _, _, _, l, m, n, o⟩ := h
  have hp : 1 ≤ c.records * c.hazards ∧ c.records * c.hazards ≤ 128 := by
    have h1 : 1 * c.hazards ≤ c.records * c.hazards := Int.mul_le_mul_of_nonneg_right d (by omega)
    have h2 : c.records * c.hazards ≤ 16 * c.hazards := Int.mul_le_mul_of_nonneg_right e (by omega)
    omega
  unfold manyF
  repeat' split
  all_goals omega
theorem sumF_le {c : Cfg} (h : OkC c) (n : Nat) : (n : Int) ≤ sumF c n ∧ sumF c n ≤ n * 1024 := by
  induction n with
  | zero => simp [sumF]
  | succ n ih =>
    have := manyF_pos h (n + 1 : Nat)
    unfold sumF
    omega
theorem sumF_mono {c : Cfg} (h : OkC c) {m n : Nat} (hm : m ≤ n) : sumF c m ≤ sumF c n := by
  induction n with
  | zero => obtain rfl : m = 0 := by omega
            exact Int.le_refl _
  | succ n ih =>
    rcases Nat.lt_or_ge m (n + 1) with hlt | hge
    · have := ih (by omega)
      have := manyF_pos h (n + 1 : Nat)
      show sumF c m ≤ sumF c n + manyF c (n + 1 : Nat)
      omega
    · obtain rfl : m = n + 1 := by omega
      exact Int.le_refl _
/-- is an address that of a value or of data? -/
def plainB (c : Cfg) (a : Int) : Bool := decide (sumF c 10 ≤ a) && decide (a < sumF c 10 + 2 * c.slots)
theorem sumF_12 (c : Cfg) : sumF c 12 = sumF c 10 + 2 * c.slots := by
  show sumF c 10 + manyF c (11 : Nat) + manyF c (12 : Nat) = _
  have h1 : manyF c (11 : Nat) = c.slots := by unfold manyF; simp
  have h2 : manyF c (12 : Nat) = c.slots := by unfold manyF; simp
  rw [h1, h2]
  omega
end Go.Proofs.Ytgbopmgeicokoaa
