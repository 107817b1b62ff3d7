/-
  reclaimlaw25.sameInts on two equal lists, and reclaimlaw25.num.
-/
import Derived.Test.YtgbopmgeicokoaaTwin
import Derived.BigQuiet
namespace Go.Proofs.Ytgbopmgeicokoaa
open Go.RowKit

def TrueR (w : World) (e : Ending) (w' : World) : Prop := e = .returned (.bool true) ∧ Below w.heap.size w w'
set_option maxRecDepth 100000 in
set_option maxHeartbeats 2000000 in
theorem same_any (l : List Int) (A A' : Option Addr) (n k k' : Nat) (w : World) (h : Sl w w.heap.size 1 A n (ints l)) (h' : Sl w w.heap.size 1 A' n (ints l)) (hn : n ≤ maxLen) :
    Calls Try.prog 19 #[.slice A n k, .slice A' n k'] w (TrueR w) := by
  unfold maxLen at hn
  have r0 : ((n : Int) != (n : Int)) = false := by simp
  have hl : l.length = n := by have := h.1; rw [ints_len] at this; omega
  have HA := Lib.hid h
  have HA' := Lib.hid h'
  have Hl := Lib.hid hl
  clear h h' hl
  go_enter Try.func19, Try.ntmps19
  go_wp2_with fail
  go_loopg [5] n (fun g i wr => ∃ j : Nat, j + g = n ∧ i = .int .i64 j ∧ Below w.heap.size w wr)
  case atStart => exact ⟨0, by omega, rfl, Below.refl _ _⟩
  case round =>
    obtain ⟨j, hj, rfl, hbr⟩ := hrel
    by_cases hlt : j < n
    · obtain ⟨x, hx⟩ := at_lt (by rw [Hl.out]; exact hlt : j < l.length)
      obtain ⟨b, o, rfl, hb, hc⟩ := HA.out.2 (by omega)
      obtain ⟨b', o', rfl, hb', hc'⟩ := HA'.out.2 (by omega)
      have c1 : wr.cell? ⟨b, o + j, none⟩ = some (.int .i64 x) := (hbr.cell hb).trans (hc j _ (ints_get hx))
      have c2 : wr.cell? ⟨b', o' + j, none⟩ = some (.int .i64 x) := (hbr.cell hb').trans (hc' j _ (ints_get hx))
      have e1 : (j : Int) < n := by omega
      have e0 : (0 : Int) ≤ j := by omega
      have r1 : ((x : Int) != x) = false := by simp
      clear hx hc hc'
      go_upto_region 6 with fail
      go_quiet (fail)
      go_wp2_with fail
      go_roundg (gk - 1)
      case measure => omega
      case rel => exact ⟨j + 1, by omega, by go_num, hbr.drewN _⟩
    · obtain rfl : n = j := by omega
      go_wp2_with fail
      go_ret
      exact ⟨rfl, hbr⟩

theorem num_any (x : Int) (w : World) : Calls Try.prog 20 #[.int .i64 x] w (fun e w' => e = .returned (.int .i64 x) ∧ w' = w) := by
  go_enter Try.func20, Try.ntmps20
  go_wp2_with fail
  go_ret
  exact ⟨rfl, rfl⟩
end Go.Proofs.Ytgbopmgeicokoaa
