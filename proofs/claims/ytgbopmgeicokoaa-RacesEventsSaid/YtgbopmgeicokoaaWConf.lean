/-
  reclaimref01.Config: may a configuration be.
-/
import Derived.Test.YtgbopmgeicokoaaProg
import Derived.Test.YtgbopmgeicokoaaCfg
import Derived.Deep.LoopGhost
import Derived.Deep.Light
namespace Go.Proofs.Ytgbopmgeicokoaa
open Go.RowKit

set_option maxHeartbeats 8000000 in
theorem config_any (c : Cfg) (w : World) :
    Calls Try.prog 59 #[cfgV c] w (fun e w' => e = .returned (.bool (okC c)) ∧ Below w.heap.size w w') := by
  have hok : okC c = (limits c).all inL := rfl
  cases l0 : decide ((1 : Int) ≤ c.threads) with
  | false =>
    have hb : okC c = false := by unfold okC limits inL; simp [l0]
    rw [hb]
    clear hb hok
    go_enter Try.func59, Try.ntmps59
    go_wp2_with fail
    go_ret
    exact ⟨rfl, (Below.refl _ _).alloc (Nat.le_refl _) _⟩
  | true =>
  cases h0 : decide (c.threads ≤ 16) with
  | false =>
    have hb : okC c = false := by unfold okC limits inL; simp [h0]
    rw [hb]
    clear hb hok
    go_enter Try.func59, Try.ntmps59
    go_wp2_with fail
    go_ret
    exact ⟨rfl, (Below.refl _ _).alloc (Nat.le_refl _) _⟩
  | true =>
  cases l1 : decide ((1 : Int) ≤ c.records) with
  | false =>
    have hb : okC c = false := by unfold okC limits inL; simp [l1]
    rw [hb]
    clear hb hok
    go_enter Try.func59, Try.ntmps59
    go_wp2_with fail
    go_ret
    exact ⟨rfl, (Below.refl _ _).alloc (Nat.le_refl _) _⟩
  | true =>
  cases h1 : decide (c.records ≤ 16) with
  | false =>
    have hb : okC c = false := by unfold okC limits inL; simp [h1]
    rw [hb]
    clear hb hok
    go_enter Try.func59, Try.ntmps59
    go_wp2_with fail
    go_ret
    exact ⟨rfl, (Below.refl _ _).alloc (Nat.le_refl _) _⟩
  | true =>
  cases l2 : decide ((3 : Int) ≤ c.hazards) with
  | false =>
    have hb : okC c = false := by unfold okC limits inL; simp [l2]
    rw [hb]
    clear hb hok
    go_enter Try.func59, Try.ntmps59
    go_wp2_with fail
    go_ret
    exact ⟨rfl, (Below.refl _ _).alloc (Nat.le_refl _) _⟩
  | true =>
  cases h2 : decide (c.hazards ≤ 8) with
  | false =>
    have hb : okC c = false := by unfold okC limits inL; simp [h2]
    rw [hb]
    clear hb hok
    go_enter Try.func59, Try.ntmps59
    go_wp2_with fail
    go_ret
    exact ⟨rfl, (Below.refl _ _).alloc (Nat.le_refl _) _⟩
  | true =>
  cases l3 : decide ((1 : Int) ≤ c.retire) with
  | false =>
    have hb : okC c = false := by unfold okC limits inL; simp [l3]
    rw [hb]
    clear hb hok
    go_enter Try.func59, Try.ntmps59
    go_wp2_with fail
    go_ret
    exact ⟨rfl, (Below.refl _ _).alloc (Nat.le_refl _) _⟩
  | true =>
  cases h3 : decide (c.retire ≤ 1024) with
  | false =>
    have hb : okC c = false := by unfold okC limits inL; simp [h3]
    rw [hb]
    clear hb hok
    go_enter Try.func59, Try.ntmps59
    go_wp2_with fail
    go_ret
    exact ⟨rfl, (Below.refl _ _).alloc (Nat.le_refl _) _⟩
  | true =>
  cases l4 : decide ((0 : Int) ≤ c.cache) with
  | false =>
    have hb : okC c = false := by unfold okC limits inL; simp [l4]
    rw [hb]
    clear hb hok
    go_enter Try.func59, Try.ntmps59
    go_wp2_with fail
    go_ret
    exact ⟨rfl, (Below.refl _ _).alloc (Nat.le_refl _) _⟩
  | true =>
  cases h4 : decide (c.cache ≤ 64) with
  | false =>
    have hb : okC c = false := by unfold okC limits inL; simp [h4]
    rw [hb]
    clear hb hok
    go_enter Try.func59, Try.ntmps59
    go_wp2_with fail
    go_ret
    exact ⟨rfl, (Below.refl _ _).alloc (Nat.le_refl _) _⟩
  | true =>
  cases l5 : decide ((1 : Int) ≤ c.slots) with
  | false =>
    have hb : okC c = false := by unfold okC limits inL; simp [l5]
    rw [hb]
    clear hb hok
    go_enter Try.func59, Try.ntmps59
    go_wp2_with fail
    go_ret
    exact ⟨rfl, (Below.refl _ _).alloc (Nat.le_refl _) _⟩
  | true =>
  cases h5 : decide (c.slots ≤ 1024) with
  | false =>
    have hb : okC c = false := by unfold okC limits inL; simp [h5]
    rw [hb]
    clear hb hok
    go_enter Try.func59, Try.ntmps59
    go_wp2_with fail
    go_ret
    exact ⟨rfl, (Below.refl _ _).alloc (Nat.le_refl _) _⟩
  | true =>
  cases l6 : decide ((1 : Int) ≤ c.buckets) with
  | false =>
    have hb : okC c = false := by unfold okC limits inL; simp [l6]
    rw [hb]
    clear hb hok
    go_enter Try.func59, Try.ntmps59
    go_wp2_with fail
    go_ret
    exact ⟨rfl, (Below.refl _ _).alloc (Nat.le_refl _) _⟩
  | true =>
  cases h6 : decide (c.buckets ≤ 64) with
  | false =>
    have hb : okC c = false := by unfold okC limits inL; simp [h6]
    rw [hb]
    clear hb hok
    go_enter Try.func59, Try.ntmps59
    go_wp2_with fail
    go_ret
    exact ⟨rfl, (Below.refl _ _).alloc (Nat.le_refl _) _⟩
  | true =>
  have hb : okC c = true := by unfold okC limits inL; simp [l0, h0, l1, h1, l2, h2, l3, h3, l4, h4, l5, h5, l6, h6]
  rw [hb]
  clear hb hok
  go_enter Try.func59, Try.ntmps59
  go_wp2_with fail
  go_ret
  exact ⟨rfl, (Below.refl _ _).alloc (Nat.le_refl _) _⟩
end Go.Proofs.Ytgbopmgeicokoaa
