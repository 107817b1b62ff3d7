/-
  A session's numbers: their places, and they themselves.
-/
import Derived.Test.YtgbopmgeicokoaaSes
import Derived.BigRegion
namespace Go.Proofs.Ytgbopmgeicokoaa
open Go.RowKit

/-- where a kind's numbers lie -/
def offsL (s : Ses) : List Nat :=
  if s.kind = 3 then [8, 9] else if s.kind = 4 then [10, 11] else if s.kind = 5 then [12, 13] else if s.kind = 6 then [14, 15] else [1, 2, 3, 4, 5, 6, 7]
/-- a kind's numbers -/
def numsL (s : Ses) : List Int :=
  if s.kind = 3 then [s.rt, s.rc] else if s.kind = 4 then [s.dt, s.dr] else if s.kind = 5 then [s.lt, s.lk] else if s.kind = 6 then [s.st, s.sv]
  else [s.cfg.threads, s.cfg.records, s.cfg.hazards, s.cfg.retire, s.cfg.cache, s.cfg.slots, s.cfg.buckets]
abbrev ptrs (g : Nat) (l : List Nat) : List Value := l.map fun o : Nat => Value.pointer (some ⟨g, o, none⟩)
def FldR (g : Nat) (l : List Nat) (w : World) (e : Ending) (w' : World) : Prop := ∃ b k, e = .returned (.slice (some ⟨b, 0, none⟩) l.length k) ∧ w.heap.size ≤ b ∧ Blk w' b 171 (ptrs g l) ∧ Below w.heap.size w w' ∧ l.length ≤ k ∧ k ≤ maxLen
set_option maxRecDepth 100000 in
set_option maxHeartbeats 4000000 in
theorem fields_any (s : Ses) (g : Nat) (w : World) (hk : 1 ≤ s.kind ∧ s.kind ≤ 6) (h : w.cell? ⟨g, 0, none⟩ = some (.int .i64 s.kind)) : Calls Try.prog 71 #[.pointer (some ⟨g, 0, none⟩)] w (FldR g (offsL s) w) := by
  have h1 := hk.1
  have h2 := hk.2
  clear hk
  by_cases k1 : s.kind = 1
  · have y1 : (s.kind == 1) = true := by simp [k1]
    have ho : offsL s = [1, 2, 3, 4, 5, 6, 7] := by unfold offsL; rw [if_neg (by omega), if_neg (by omega), if_neg (by omega), if_neg (by omega)]
    rw [ho]
    clear ho k1
    go_enter Try.func71, Try.ntmps71
    go_upto_region 5 with fail
    go_region
    all_goals (go_wp2_with fail; go_ret)
    all_goals exact ⟨w.heap.size, 7, rfl, Nat.le_refl _, Blk.new w.drew 171 [.pointer (some ⟨g, 1, none⟩), .pointer (some ⟨g, 2, none⟩), .pointer (some ⟨g, 3, none⟩), .pointer (some ⟨g, 4, none⟩), .pointer (some ⟨g, 5, none⟩), .pointer (some ⟨g, 6, none⟩), .pointer (some ⟨g, 7, none⟩)], ((Below.refl _ w).drew).alloc (Nat.le_refl _) _, Nat.le_refl _, by simp [maxLen]⟩
  have n1 : (s.kind == 1) = false := by simp [k1]
  by_cases k2 : s.kind = 2
  · have y2 : (s.kind == 2) = true := by simp [k2]
    have ho : offsL s = [1, 2, 3, 4, 5, 6, 7] := by unfold offsL; rw [if_neg (by omega), if_neg (by omega), if_neg (by omega), if_neg (by omega)]
    rw [ho]
    clear ho k2
    go_enter Try.func71, Try.ntmps71
    go_upto_region 5 with fail
    go_region
    all_goals (go_wp2_with fail; go_ret)
    all_goals exact ⟨w.heap.size, 7, rfl, Nat.le_refl _, Blk.new w.drew 171 [.pointer (some ⟨g, 1, none⟩), .pointer (some ⟨g, 2, none⟩), .pointer (some ⟨g, 3, none⟩), .pointer (some ⟨g, 4, none⟩), .pointer (some ⟨g, 5, none⟩), .pointer (some ⟨g, 6, none⟩), .pointer (some ⟨g, 7, none⟩)], ((Below.refl _ w).drew).alloc (Nat.le_refl _) _, Nat.le_refl _, by simp [maxLen]⟩
  have n2 : (s.kind == 2) = false := by simp [k2]
  by_cases k3 : s.kind = 3
  · have y3 : (s.kind == 3) = true := by simp [k3]
    have ho : offsL s = [8, 9] := by unfold offsL; rw [if_pos (by omega)]
    rw [ho]
    clear ho k3
    go_enter Try.func71, Try.ntmps71
    go_upto_region 7 with fail
    go_region
    all_goals (go_wp2_with fail; go_ret)
    all_goals exact ⟨w.heap.size, 2, rfl, Nat.le_refl _, Blk.new w.drew 171 [.pointer (some ⟨g, 8, none⟩), .pointer (some ⟨g, 9, none⟩)], ((Below.refl _ w).drew).alloc (Nat.le_refl _) _, Nat.le_refl _, by simp [maxLen]⟩
  have n3 : (s.kind == 3) = false := by simp [k3]
  by_cases k4 : s.kind = 4
  · have y4 : (s.kind == 4) = true := by simp [k4]
    have ho : offsL s = [10, 11] := by unfold offsL; rw [if_neg (by omega), if_pos (by omega)]
    rw [ho]
    clear ho k4
    go_enter Try.func71, Try.ntmps71
    go_upto_region 9 with fail
    go_region
    all_goals (go_wp2_with fail; go_ret)
    all_goals exact ⟨w.heap.size, 2, rfl, Nat.le_refl _, Blk.new w.drew 171 [.pointer (some ⟨g, 10, none⟩), .pointer (some ⟨g, 11, none⟩)], ((Below.refl _ w).drew).alloc (Nat.le_refl _) _, Nat.le_refl _, by simp [maxLen]⟩
  have n4 : (s.kind == 4) = false := by simp [k4]
  by_cases k5 : s.kind = 5
  · have y5 : (s.kind == 5) = true := by simp [k5]
    have ho : offsL s = [12, 13] := by unfold offsL; rw [if_neg (by omega), if_neg (by omega), if_pos (by omega)]
    rw [ho]
    clear ho k5
    go_enter Try.func71, Try.ntmps71
    go_upto_region 11 with fail
    go_region
    all_goals (go_wp2_with fail; go_ret)
    all_goals exact ⟨w.heap.size, 2, rfl, Nat.le_refl _, Blk.new w.drew 171 [.pointer (some ⟨g, 12, none⟩), .pointer (some ⟨g, 13, none⟩)], ((Below.refl _ w).drew).alloc (Nat.le_refl _) _, Nat.le_refl _, by simp [maxLen]⟩
  have n5 : (s.kind == 5) = false := by simp [k5]
  have k6 : s.kind = 6 := by omega
  have y6 : (s.kind == 6) = true := by simp [k6]
  have ho : offsL s = [14, 15] := by unfold offsL; rw [if_neg (by omega), if_neg (by omega), if_neg (by omega), if_pos (by omega)]
  rw [ho]
  clear ho k6
  go_enter Try.func71, Try.ntmps71
  go_upto_region 13 with fail
  go_region
  all_goals (go_wp2_with fail; go_ret)
  all_goals exact ⟨w.heap.size, 2, rfl, Nat.le_refl _, Blk.new w.drew 171 [.pointer (some ⟨g, 14, none⟩), .pointer (some ⟨g, 15, none⟩)], ((Below.refl _ w).drew).alloc (Nat.le_refl _) _, Nat.le_refl _, by simp [maxLen]⟩

/-- new memory that holds numbers -/
def NewN (l : List Int) (w : World) (e : Ending) (w' : World) : Prop := ∃ b k, e = .returned (.slice (some ⟨b, 0, none⟩) l.length k) ∧ w.heap.size ≤ b ∧ Blk w' b 3 (l.map fun x : Int => Value.int .i64 x) ∧ Below w.heap.size w w' ∧ l.length ≤ k ∧ k ≤ maxLen
set_option maxRecDepth 100000 in
set_option maxHeartbeats 4000000 in
theorem numbers_any (s : Ses) (A : Option Addr) (n k : Nat) (w : World) (hk : 1 ≤ s.kind ∧ s.kind ≤ 6) : Calls Try.prog 79 #[sesV s (.slice A n k)] w (NewN (numsL s) w) := by
  have h1 := hk.1
  have h2 := hk.2
  clear hk
  by_cases k1 : s.kind = 1
  · have y1 : (s.kind == 1) = true := by simp [k1]
    have m3 : (s.kind == 3) = false := by simp [k1]
    have m4 : (s.kind == 4) = false := by simp [k1]
    have m5 : (s.kind == 5) = false := by simp [k1]
    have m6 : (s.kind == 6) = false := by simp [k1]
    have ho : numsL s = [s.cfg.threads, s.cfg.records, s.cfg.hazards, s.cfg.retire, s.cfg.cache, s.cfg.slots, s.cfg.buckets] := by unfold numsL; rw [if_neg (by omega), if_neg (by omega), if_neg (by omega), if_neg (by omega)]
    rw [ho]
    clear ho k1
    go_enter Try.func79, Try.ntmps79
    go_wp2_with fail
    go_ret
    refine ⟨w.heap.size + 1 + 1, 7, rfl, by omega, ?_, (((Below.refl _ w).alloc (Nat.le_refl _) _).alloc (by simp) _).alloc (by simp; omega) _, Nat.le_refl _, by simp [maxLen]⟩
    have h9 := (Blk.new ((w.alloc (.cells #[.int .i64 s.kind, .int .i64 s.cfg.threads, .int .i64 s.cfg.records, .int .i64 s.cfg.hazards, .int .i64 s.cfg.retire, .int .i64 s.cfg.cache, .int .i64 s.cfg.slots, .int .i64 s.cfg.buckets, .int .i64 s.rt, .int .i64 s.rc, .int .i64 s.dt, .int .i64 s.dr, .int .i64 s.lt, .int .i64 s.lk, .int .i64 s.st, .int .i64 s.sv, .slice A n k] 76)).alloc (.cells #[.int .i64 s.cfg.threads, .int .i64 s.cfg.records, .int .i64 s.cfg.hazards, .int .i64 s.cfg.retire, .int .i64 s.cfg.cache, .int .i64 s.cfg.slots, .int .i64 s.cfg.buckets] 45)) 3 [.int .i64 s.cfg.threads, .int .i64 s.cfg.records, .int .i64 s.cfg.hazards, .int .i64 s.cfg.retire, .int .i64 s.cfg.cache, .int .i64 s.cfg.slots, .int .i64 s.cfg.buckets])
    simp only [World.size_alloc] at h9
    exact h9
  have n1 : (s.kind == 1) = false := by simp [k1]
  by_cases k2 : s.kind = 2
  · have y2 : (s.kind == 2) = true := by simp [k2]
    have m3 : (s.kind == 3) = false := by simp [k2]
    have m4 : (s.kind == 4) = false := by simp [k2]
    have m5 : (s.kind == 5) = false := by simp [k2]
    have m6 : (s.kind == 6) = false := by simp [k2]
    have ho : numsL s = [s.cfg.threads, s.cfg.records, s.cfg.hazards, s.cfg.retire, s.cfg.cache, s.cfg.slots, s.cfg.buckets] := by unfold numsL; rw [if_neg (by omega), if_neg (by omega), if_neg (by omega), if_neg (by omega)]
    rw [ho]
    clear ho k2
    go_enter Try.func79, Try.ntmps79
    go_wp2_with fail
    go_ret
    refine ⟨w.heap.size + 1 + 1, 7, rfl, by omega, ?_, (((Below.refl _ w).alloc (Nat.le_refl _) _).alloc (by simp) _).alloc (by simp; omega) _, Nat.le_refl _, by simp [maxLen]⟩
    have h9 := (Blk.new ((w.alloc (.cells #[.int .i64 s.kind, .int .i64 s.cfg.threads, .int .i64 s.cfg.records, .int .i64 s.cfg.hazards, .int .i64 s.cfg.retire, .int .i64 s.cfg.cache, .int .i64 s.cfg.slots, .int .i64 s.cfg.buckets, .int .i64 s.rt, .int .i64 s.rc, .int .i64 s.dt, .int .i64 s.dr, .int .i64 s.lt, .int .i64 s.lk, .int .i64 s.st, .int .i64 s.sv, .slice A n k] 76)).alloc (.cells #[.int .i64 s.cfg.threads, .int .i64 s.cfg.records, .int .i64 s.cfg.hazards, .int .i64 s.cfg.retire, .int .i64 s.cfg.cache, .int .i64 s.cfg.slots, .int .i64 s.cfg.buckets] 45)) 3 [.int .i64 s.cfg.threads, .int .i64 s.cfg.records, .int .i64 s.cfg.hazards, .int .i64 s.cfg.retire, .int .i64 s.cfg.cache, .int .i64 s.cfg.slots, .int .i64 s.cfg.buckets])
    simp only [World.size_alloc] at h9
    exact h9
  have n2 : (s.kind == 2) = false := by simp [k2]
  by_cases k3 : s.kind = 3
  · have y3 : (s.kind == 3) = true := by simp [k3]
    have ho : numsL s = [s.rt, s.rc] := by unfold numsL; rw [if_pos (by omega)]
    rw [ho]
    clear ho k3
    go_enter Try.func79, Try.ntmps79
    go_wp2_with fail
    go_ret
    refine ⟨w.heap.size + 1, 2, rfl, by omega, ?_, ((Below.refl _ w).alloc (Nat.le_refl _) _).alloc (by simp) _, Nat.le_refl _, by simp [maxLen]⟩
    have h9 := (Blk.new (w.alloc (.cells #[.int .i64 s.kind, .int .i64 s.cfg.threads, .int .i64 s.cfg.records, .int .i64 s.cfg.hazards, .int .i64 s.cfg.retire, .int .i64 s.cfg.cache, .int .i64 s.cfg.slots, .int .i64 s.cfg.buckets, .int .i64 s.rt, .int .i64 s.rc, .int .i64 s.dt, .int .i64 s.dr, .int .i64 s.lt, .int .i64 s.lk, .int .i64 s.st, .int .i64 s.sv, .slice A n k] 76)) 3 [.int .i64 s.rt, .int .i64 s.rc])
    simp only [World.size_alloc] at h9
    exact h9
  have n3 : (s.kind == 3) = false := by simp [k3]
  by_cases k4 : s.kind = 4
  · have y4 : (s.kind == 4) = true := by simp [k4]
    have ho : numsL s = [s.dt, s.dr] := by unfold numsL; rw [if_neg (by omega), if_pos (by omega)]
    rw [ho]
    clear ho k4
    go_enter Try.func79, Try.ntmps79
    go_wp2_with fail
    go_ret
    refine ⟨w.heap.size + 1, 2, rfl, by omega, ?_, ((Below.refl _ w).alloc (Nat.le_refl _) _).alloc (by simp) _, Nat.le_refl _, by simp [maxLen]⟩
    have h9 := (Blk.new (w.alloc (.cells #[.int .i64 s.kind, .int .i64 s.cfg.threads, .int .i64 s.cfg.records, .int .i64 s.cfg.hazards, .int .i64 s.cfg.retire, .int .i64 s.cfg.cache, .int .i64 s.cfg.slots, .int .i64 s.cfg.buckets, .int .i64 s.rt, .int .i64 s.rc, .int .i64 s.dt, .int .i64 s.dr, .int .i64 s.lt, .int .i64 s.lk, .int .i64 s.st, .int .i64 s.sv, .slice A n k] 76)) 3 [.int .i64 s.dt, .int .i64 s.dr])
    simp only [World.size_alloc] at h9
    exact h9
  have n4 : (s.kind == 4) = false := by simp [k4]
  by_cases k5 : s.kind = 5
  · have y5 : (s.kind == 5) = true := by simp [k5]
    have ho : numsL s = [s.lt, s.lk] := by unfold numsL; rw [if_neg (by omega), if_neg (by omega), if_pos (by omega)]
    rw [ho]
    clear ho k5
    go_enter Try.func79, Try.ntmps79
    go_wp2_with fail
    go_ret
    refine ⟨w.heap.size + 1, 2, rfl, by omega, ?_, ((Below.refl _ w).alloc (Nat.le_refl _) _).alloc (by simp) _, Nat.le_refl _, by simp [maxLen]⟩
    have h9 := (Blk.new (w.alloc (.cells #[.int .i64 s.kind, .int .i64 s.cfg.threads, .int .i64 s.cfg.records, .int .i64 s.cfg.hazards, .int .i64 s.cfg.retire, .int .i64 s.cfg.cache, .int .i64 s.cfg.slots, .int .i64 s.cfg.buckets, .int .i64 s.rt, .int .i64 s.rc, .int .i64 s.dt, .int .i64 s.dr, .int .i64 s.lt, .int .i64 s.lk, .int .i64 s.st, .int .i64 s.sv, .slice A n k] 76)) 3 [.int .i64 s.lt, .int .i64 s.lk])
    simp only [World.size_alloc] at h9
    exact h9
  have n5 : (s.kind == 5) = false := by simp [k5]
  have k6 : s.kind = 6 := by omega
  have y6 : (s.kind == 6) = true := by simp [k6]
  have ho : numsL s = [s.st, s.sv] := by unfold numsL; rw [if_neg (by omega), if_neg (by omega), if_neg (by omega), if_pos (by omega)]
  rw [ho]
  clear ho k6
  go_enter Try.func79, Try.ntmps79
  go_wp2_with fail
  go_ret
  refine ⟨w.heap.size + 1, 2, rfl, by omega, ?_, ((Below.refl _ w).alloc (Nat.le_refl _) _).alloc (by simp) _, Nat.le_refl _, by simp [maxLen]⟩
  have h9 := (Blk.new (w.alloc (.cells #[.int .i64 s.kind, .int .i64 s.cfg.threads, .int .i64 s.cfg.records, .int .i64 s.cfg.hazards, .int .i64 s.cfg.retire, .int .i64 s.cfg.cache, .int .i64 s.cfg.slots, .int .i64 s.cfg.buckets, .int .i64 s.rt, .int .i64 s.rc, .int .i64 s.dt, .int .i64 s.dr, .int .i64 s.lt, .int .i64 s.lk, .int .i64 s.st, .int .i64 s.sv, .slice A n k] 76)) 3 [.int .i64 s.st, .int .i64 s.sv])
  simp only [World.size_alloc] at h9
  exact h9
end Go.Proofs.Ytgbopmgeicokoaa
