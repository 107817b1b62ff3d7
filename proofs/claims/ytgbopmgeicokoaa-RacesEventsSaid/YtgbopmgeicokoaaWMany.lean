/-
  word.many, reclaimref01.Many, word.Size, reclaimref01.Base: how many words, and where a region begins.
-/
import Derived.Test.YtgbopmgeicokoaaWCheck
import Derived.Test.YtgbopmgeicokoaaWConf
import Derived.BigQuiet
namespace Go.Proofs.Ytgbopmgeicokoaa
open Go.RowKit

def IntR (v : Int) (w : World) (e : Ending) (w' : World) : Prop := e = .returned (.int .i64 v) ∧ Below w.heap.size w w'
theorem IntR.to {v u : Int} {w w' : World} (hb : Below w.heap.size w w') (h : u = v) : IntR v w (.returned (.int .i64 u)) w' := by
  subst h
  exact ⟨rfl, hb⟩

theorem many_cases (c : Cfg) (r : Int) : (r = 7 ∧ manyF c r = c.buckets) ∨ (r = 8 ∧ manyF c r = c.records) ∨ (r = 9 ∧ manyF c r = c.records * c.hazards) ∨ (r = 10 ∧ manyF c r = c.slots) ∨ (r = 11 ∧ manyF c r = c.slots) ∨
    (r = 12 ∧ manyF c r = c.slots) ∨ (r = 13 ∧ manyF c r = c.slots) ∨ (r ≠ 7 ∧ r ≠ 8 ∧ r ≠ 9 ∧ r ≠ 10 ∧ r ≠ 11 ∧ r ≠ 12 ∧ r ≠ 13 ∧ manyF c r = 1) := by
  by_cases h7 : r = 7
  · subst h7; simp [manyF]
  by_cases h8 : r = 8
  · subst h8; simp [manyF]
  by_cases h9 : r = 9
  · subst h9; simp [manyF]
  by_cases h10 : r = 10
  · subst h10; simp [manyF]
  by_cases h11 : r = 11
  · subst h11; simp [manyF]
  by_cases h12 : r = 12
  · subst h12; simp [manyF]
  by_cases h13 : r = 13
  · subst h13; simp [manyF]
  simp [manyF, h7, h8, h9, h10, h11, h12, h13]

set_option maxHeartbeats 4000000 in
theorem wmany_any (c : Cfg) (h : OkC c) (r : Int) (w : World) : Calls Try.prog 144 #[cfgV c, .int .i64 r] w (IntR (manyF c r) w) := by
  have hp := manyF_pos h 9
  have hm : IntKind.i64.wrap (c.records * c.hazards) = c.records * c.hazards := by
    have : manyF c 9 = c.records * c.hazards := rfl
    exact IntWalk.i64_in _ (by omega)
  rcases many_cases c r with ⟨rfl, he⟩ | ⟨rfl, he⟩ | ⟨rfl, he⟩ | ⟨rfl, he⟩ | ⟨rfl, he⟩ | ⟨rfl, he⟩ | ⟨rfl, he⟩ | ⟨h7, h8, h9, h10, h11, h12, h13, he⟩
  all_goals (rw [he]; clear he h hp)
  case inr.inr.inr.inr.inr.inr.inr =>
    have b7 : (r == 7) = false := by simp [h7]
    have b8 : (r == 8) = false := by simp [h8]
    have b9 : (r == 9) = false := by simp [h9]
    have b10 : (r == 10) = false := by simp [h10]
    have b11 : (r == 11) = false := by simp [h11]
    have b12 : (r == 12) = false := by simp [h12]
    have b13 : (r == 13) = false := by simp [h13]
    clear h7 h8 h9 h10 h11 h12 h13
    go_enter Try.func144, Try.ntmps144
    go_wp2_with fail
    go_ret
    exact ⟨rfl, (Below.refl _ _).alloc (Nat.le_refl _) _⟩
  all_goals (
    go_enter Try.func144, Try.ntmps144
    go_wp2_with fail
    go_ret
    exact ⟨rfl, (Below.refl _ _).alloc (Nat.le_refl _) _⟩)

set_option maxHeartbeats 4000000 in
theorem rmany_any (c : Cfg) (h : OkC c) (r : Int) (w : World) : Calls Try.prog 116 #[cfgV c, .int .i64 r] w (IntR (manyF c r) w) := by
  have hp := manyF_pos h 9
  have hm : IntKind.i64.wrap (c.records * c.hazards) = c.records * c.hazards := by
    have : manyF c 9 = c.records * c.hazards := rfl
    exact IntWalk.i64_in _ (by omega)
  rcases many_cases c r with ⟨rfl, he⟩ | ⟨rfl, he⟩ | ⟨rfl, he⟩ | ⟨rfl, he⟩ | ⟨rfl, he⟩ | ⟨rfl, he⟩ | ⟨rfl, he⟩ | ⟨h7, h8, h9, h10, h11, h12, h13, he⟩
  all_goals (rw [he]; clear he h hp)
  case inr.inr.inr.inr.inr.inr.inr =>
    have b7 : (r == 7) = false := by simp [h7]
    have b8 : (r == 8) = false := by simp [h8]
    have b9 : (r == 9) = false := by simp [h9]
    have b10 : (r == 10) = false := by simp [h10]
    have b11 : (r == 11) = false := by simp [h11]
    have b12 : (r == 12) = false := by simp [h12]
    have b13 : (r == 13) = false := by simp [h13]
    clear h7 h8 h9 h10 h11 h12 h13
    go_enter Try.func116, Try.ntmps116
    go_wp2_with fail
    go_ret
    exact ⟨rfl, (Below.refl _ _).alloc (Nat.le_refl _) _⟩
  all_goals (
    go_enter Try.func116, Try.ntmps116
    go_wp2_with fail
    go_ret
    exact ⟨rfl, (Below.refl _ _).alloc (Nat.le_refl _) _⟩)

/-- what the cells of a boxed configuration hold, in whatever memory keeps them -/
abbrev CfgAt (c : Cfg) (g : Nat) (W : World) : Prop := W.cell? ⟨g, 0, none⟩ = some (.int .i64 c.threads) ∧ W.cell? ⟨g, 1, none⟩ = some (.int .i64 c.records) ∧ W.cell? ⟨g, 2, none⟩ = some (.int .i64 c.hazards) ∧
  W.cell? ⟨g, 3, none⟩ = some (.int .i64 c.retire) ∧ W.cell? ⟨g, 4, none⟩ = some (.int .i64 c.cache) ∧ W.cell? ⟨g, 5, none⟩ = some (.int .i64 c.slots) ∧ W.cell? ⟨g, 6, none⟩ = some (.int .i64 c.buckets)
theorem cfgAt_of {c : Cfg} {g : Nat} {w W : World} (h : Blk w g 45 (cfgL c)) (hb : Below w.heap.size w W) : CfgAt c g W :=
  have h' := h.below hb h.lt
  ⟨h'.cell rfl, h'.cell rfl, h'.cell rfl, h'.cell rfl, h'.cell rfl, h'.cell rfl, h'.cell rfl⟩

def SizeR (c : Cfg) (w : World) (e : Ending) (w' : World) : Prop := e = .returned (.tuple #[.int .i64 (sumF c 13), .int .i64 0]) ∧ Below w.heap.size w w'
set_option maxHeartbeats 4000000 in
theorem size_any (c : Cfg) (h : OkC c) (w : World) : Calls Try.prog 143 #[cfgV c] w (SizeR c w) := by
  have hok := (okC_iff c).2 h
  obtain ⟨w0, hw0⟩ : ∃ w0 : World, w0 = w.alloc (.cells #[.int .i64 c.threads, .int .i64 c.records, .int .i64 c.hazards, .int .i64 c.retire, .int .i64 c.cache, .int .i64 c.slots, .int .i64 c.buckets] 45) := ⟨_, rfl⟩
  have hb0 : Below w.heap.size w w0 := by rw [hw0]; exact (Below.refl _ _).alloc (Nat.le_refl _) _
  have h0 : Blk w0 w.heap.size 45 (cfgL c) := by rw [hw0]; exact Blk.new w 45 _
  have hz : w.heap.size ≤ w0.heap.size := hb0.size
  have HA : Hid (∀ W, Below w0.heap.size w0 W → CfgAt c w.heap.size W) := fun W hB => cfgAt_of h0 hB
  have HW0 := Lib.hid hw0
  clear hw0 h0
  obtain ⟨q0, q1, q2, q3, q4, q5, q6⟩ := HA.out w0 (Below.refl _ _)
  have HK := Lib.hid hok
  clear hok
  go_enter Try.func143, Try.ntmps143
  go_upto_region 1 with fail
  rw [← HW0.out]
  go_wp2_with fail
  refine (check_any c _).mono ?_
  unfold CheckR
  rw [HK.out]
  rintro e w1 ⟨rfl, hb1⟩
  have hz1 : w0.heap.size ≤ w1.heap.size := hb1.size
  clear q0 q1 q2 q3 q4 q5 q6
  go_wp2_with fail
  go_loopg [5, 6] 13 (fun g n i wr => ∃ j : Nat, j + g = 13 ∧ i = .int .i64 ((j : Int) + 1) ∧ n = .int .i64 (sumF c j) ∧ Below w0.heap.size w0 wr)
  case atStart => exact ⟨0, by omega, rfl, rfl, hb1⟩
  case round =>
    obtain ⟨j, hj, rfl, rfl, hbr⟩ := hrel
    obtain ⟨q0, q1, q2, q3, q4, q5, q6⟩ := HA.out wr hbr
    by_cases hlt : j < 13
    · have e1 : (j : Int) + 1 ≤ 13 := by omega
      have hs := sumF_le h j
      have hp := manyF_pos h ((j : Int) + 1)
      have hw1 : IntKind.i64.wrap (sumF c j + manyF c ((j : Int) + 1)) = sumF c j + manyF c ((j : Int) + 1) := IntWalk.i64_in _ (by omega)
      clear hs hp
      go_wp2_with fail
      refine (wmany_any c h ((j : Int) + 1) _).mono ?_
      rintro e w2 ⟨rfl, hb2⟩
      clear q0 q1 q2 q3 q4 q5 q6
      go_wp2_with fail
      go_roundg (gk - 1)
      case measure => omega
      case rel => exact ⟨j + 1, by omega, by go_num, rfl, hbr.trans (hb2.mono hbr.size)⟩
    · obtain rfl : j = 13 := by omega
      go_wp2_with fail
      go_ret2
      exact ⟨rfl, hb0.trans (hbr.mono hz)⟩

set_option maxHeartbeats 4000000 in
theorem base_any (c : Cfg) (h : OkC c) (r : Nat) (hr : r ≤ 13) (w : World) : Calls Try.prog 67 #[cfgV c, .int .i64 ((r : Int) + 1)] w (IntR (sumF c r) w) := by
  obtain ⟨w0, hw0⟩ : ∃ w0 : World, w0 = w.alloc (.cells #[.int .i64 c.threads, .int .i64 c.records, .int .i64 c.hazards, .int .i64 c.retire, .int .i64 c.cache, .int .i64 c.slots, .int .i64 c.buckets] 45) := ⟨_, rfl⟩
  have hb0 : Below w.heap.size w w0 := by rw [hw0]; exact (Below.refl _ _).alloc (Nat.le_refl _) _
  have h0 : Blk w0 w.heap.size 45 (cfgL c) := by rw [hw0]; exact Blk.new w 45 _
  have hz : w.heap.size ≤ w0.heap.size := hb0.size
  have HA : Hid (∀ W, Below w0.heap.size w0 W → CfgAt c w.heap.size W) := fun W hB => cfgAt_of h0 hB
  have HW0 := Lib.hid hw0
  clear hw0 h0
  go_enter Try.func67, Try.ntmps67
  go_upto_region 1 with fail
  rw [← HW0.out]
  go_wp2_with fail
  go_loopg [5, 6] r (fun g n i wr => ∃ j : Nat, j + g = r ∧ i = .int .i64 ((j : Int) + 1) ∧ n = .int .i64 (sumF c j) ∧ Below w0.heap.size w0 wr)
  case atStart => exact ⟨0, by omega, rfl, rfl, Below.refl _ _⟩
  case round =>
    obtain ⟨j, hj, rfl, rfl, hbr⟩ := hrel
    obtain ⟨q0, q1, q2, q3, q4, q5, q6⟩ := HA.out wr hbr
    by_cases hlt : j < r
    · have e1 : (j : Int) + 1 < (r : Int) + 1 := by omega
      have hs := sumF_le h j
      have hp := manyF_pos h ((j : Int) + 1)
      have hw1 : IntKind.i64.wrap (sumF c j + manyF c ((j : Int) + 1)) = sumF c j + manyF c ((j : Int) + 1) := IntWalk.i64_in _ (by omega)
      clear hs hp
      go_wp2_with fail
      refine (rmany_any c h ((j : Int) + 1) _).mono ?_
      rintro e w2 ⟨rfl, hb2⟩
      clear q0 q1 q2 q3 q4 q5 q6
      go_wp2_with fail
      go_roundg (gk - 1)
      case measure => omega
      case rel => exact ⟨j + 1, by omega, by go_num, rfl, hbr.trans (hb2.mono hbr.size)⟩
    · obtain rfl : r = j := by omega
      go_wp2_with fail
      go_ret
      exact ⟨rfl, hb0.trans (hbr.mono hz)⟩
end Go.Proofs.Ytgbopmgeicokoaa
