/-
  races.plainWord and reclaimref27.Plain: is an address that of a value or of data?
-/
import Derived.Test.YtgbopmgeicokoaaWAt
namespace Go.Proofs.Ytgbopmgeicokoaa
open Go.RowKit

def BoolR (v : Bool) (w : World) (e : Ending) (w' : World) : Prop := e = .returned (.bool v) ∧ Below w.heap.size w w'

/-- what word.At answers tells a plain word -/
theorem at_plain {c : Cfg} (h : OkC c) {a : Int} {r : Nat} (h1 : 1 ≤ r) (h2 : r ≤ 13) (h3 : sumF c (r - 1) ≤ a) (h4 : a < sumF c r) : plainB c a = (((r : Int) == 11) || ((r : Int) == 12)) := by
  have h12 := sumF_12 c
  unfold plainB
  rw [← h12]
  rcases Nat.lt_or_ge r 11 with hlt | hge
  · have := sumF_mono h (show r ≤ 10 by omega)
    have e1 : ((r : Int) == 11) = false := by simp; omega
    have e2 : ((r : Int) == 12) = false := by simp; omega
    have e3 : decide (sumF c 10 ≤ a) = false := by simp; omega
    rw [e1, e2, e3]
    rfl
  · rcases Nat.lt_or_ge 12 r with hlt | hge2
    · have := sumF_mono h (show 12 ≤ r - 1 by omega)
      have e1 : ((r : Int) == 11) = false := by simp; omega
      have e2 : ((r : Int) == 12) = false := by simp; omega
      have e3 : decide (a < sumF c 12) = false := by simp; omega
      rw [e1, e2, e3]
      simp
    · have := sumF_mono h (show 10 ≤ r - 1 by omega)
      have := sumF_mono h (show r ≤ 12 by omega)
      have e3 : decide (a < sumF c 12) = true := by simp; omega
      have e4 : decide (sumF c 10 ≤ a) = true := by simp; omega
      rw [e3, e4]
      have : r = 11 ∨ r = 12 := by omega
      rcases this with rfl | rfl <;> rfl
theorem at_out {c : Cfg} (h : OkC c) {a : Int} (h4 : ¬ (0 ≤ a ∧ a < sumF c 13)) : plainB c a = false := by
  have h12 := sumF_12 c
  have h10 := (sumF_le h 10).1
  have := sumF_mono h (show 12 ≤ 13 by omega)
  unfold plainB
  rw [← h12]
  by_cases h0 : 0 ≤ a
  · have e3 : decide (a < sumF c 12) = false := by simp; omega
    rw [e3]
    simp
  · have e3 : decide (sumF c 10 ≤ a) = false := by simp; omega
    rw [e3]
    rfl

set_option maxHeartbeats 4000000 in
theorem plainWord_any (c : Cfg) (h : OkC c) (a : Int) (w : World) : Calls Try.prog 113 #[cfgV c, .int .i64 a] w (BoolR (plainB c a) w) := by
  obtain ⟨w0, hw0⟩ : ∃ w0 : World, w0 = w.alloc (.cells #[.int .i64 c.threads, .int .i64 c.records, .int .i64 c.hazards, .int .i64 c.retire, .int .i64 c.cache, .int .i64 c.slots, .int .i64 c.buckets] 45) := ⟨_, rfl⟩
  have hb0 : Below w.heap.size w w0 := by rw [hw0]; exact (Below.refl _ _).alloc (Nat.le_refl _) _
  have h0 : Blk w0 w.heap.size 45 (cfgL c) := by rw [hw0]; exact Blk.new w 45 _
  have hz : w.heap.size ≤ w0.heap.size := hb0.size
  obtain ⟨q0, q1, q2, q3, q4, q5, q6⟩ := cfgAt_of h0 (Below.refl _ _)
  have HW0 := Lib.hid hw0
  clear hw0 h0
  go_enter Try.func113, Try.ntmps113
  go_upto_region 1 with fail
  rw [← HW0.out]
  go_wp2_with fail
  refine (at_any c h a _).mono ?_
  rintro e w1 ⟨r, i, k, err, rfl, hb1, hh⟩
  have hz1 : w0.heap.size ≤ w1.heap.size := hb1.size
  have hbw := hb0.trans ((hb1.alloc hz1 (.cells #[.int .i64 r, .int .i64 i, .int .i64 k] 264)).mono hz)
  rcases hh with ⟨rfl, rfl, ho⟩ | ⟨rfl, h1, h2, h3, h4⟩
  · have hp := Lib.hid (at_out h ho)
    clear ho q0 q1 q2 q3 q4 q5 q6
    go_wp2_with fail
    go_ret
    exact ⟨by rw [hp.out]; rfl, hbw⟩
  · have hp := Lib.hid (at_plain h h1 h2 h3 h4)
    clear q0 q1 q2 q3 q4 q5 q6 h3 h4
    cases e1 : ((r : Int) == 11) with
    | true =>
      go_wp2_with fail
      go_ret
      exact ⟨by rw [hp.out, e1]; rfl, hbw⟩
    | false =>
      cases e2 : ((r : Int) == 12) with
      | true =>
        go_wp2_with fail
        go_ret
        exact ⟨by rw [hp.out, e1, e2]; rfl, hbw⟩
      | false =>
        go_wp2_with fail
        go_ret
        exact ⟨by rw [hp.out, e1, e2]; rfl, hbw⟩

set_option maxHeartbeats 4000000 in
theorem plain_any (c : Cfg) (h : OkC c) (a : Int) (w : World) : Calls Try.prog 61 #[cfgV c, .int .i64 a] w (BoolR (plainB c a) w) := by
  obtain ⟨w0, hw0⟩ : ∃ w0 : World, w0 = w.alloc (.cells #[.int .i64 c.threads, .int .i64 c.records, .int .i64 c.hazards, .int .i64 c.retire, .int .i64 c.cache, .int .i64 c.slots, .int .i64 c.buckets] 45) := ⟨_, rfl⟩
  have hb0 : Below w.heap.size w w0 := by rw [hw0]; exact (Below.refl _ _).alloc (Nat.le_refl _) _
  have h0 : Blk w0 w.heap.size 45 (cfgL c) := by rw [hw0]; exact Blk.new w 45 _
  have hz : w.heap.size ≤ w0.heap.size := hb0.size
  have HA : Hid (∀ W, Below w0.heap.size w0 W → CfgAt c w.heap.size W) := fun W hB => cfgAt_of h0 hB
  obtain ⟨q0, q1, q2, q3, q4, q5, q6⟩ := HA.out _ (Below.refl _ _)
  have HW0 := Lib.hid hw0
  clear hw0 h0
  have hs := sumF_le h 10
  have hs1 := h.s1
  have hs2 := h.s2
  have hw1 : IntKind.i64.wrap (2 * c.slots) = 2 * c.slots := IntWalk.i64_in _ (by omega)
  have hw2 : IntKind.i64.wrap (sumF c 10 + 2 * c.slots) = sumF c 10 + 2 * c.slots := IntWalk.i64_in _ (by omega)
  clear hs hs1 hs2
  go_enter Try.func61, Try.ntmps61
  go_upto_region 1 with fail
  rw [← HW0.out]
  go_wp2_with fail
  refine (base_any c h 10 (by omega) _).mono ?_
  rintro e w1 ⟨rfl, hb1⟩
  have hz1 : w0.heap.size ≤ w1.heap.size := hb1.size
  clear q0 q1 q2 q3 q4 q5 q6
  obtain ⟨q0, q1, q2, q3, q4, q5, q6⟩ := HA.out _ hb1
  have hbw := hb0.trans (hb1.mono hz)
  cases e1 : decide (sumF c 10 ≤ a) with
  | true =>
    cases e2 : decide (a < sumF c 10 + 2 * c.slots) with
    | true =>
      have hp : plainB c a = true := by unfold plainB; rw [e1, e2]; rfl
      have HP := Lib.hid hp
      clear hp
      go_wp2_with fail
      go_ret
      exact ⟨by rw [HP.out]; rfl, hbw⟩
    | false =>
      have hp : plainB c a = false := by unfold plainB; rw [e1, e2]; rfl
      have HP := Lib.hid hp
      clear hp
      go_wp2_with fail
      go_ret
      exact ⟨by rw [HP.out]; rfl, hbw⟩
  | false =>
    have hp : plainB c a = false := by unfold plainB; rw [e1]; rfl
    have HP := Lib.hid hp
    clear hp
    go_wp2_with fail
    go_ret
    exact ⟨by rw [HP.out]; rfl, hbw⟩
end Go.Proofs.Ytgbopmgeicokoaa
