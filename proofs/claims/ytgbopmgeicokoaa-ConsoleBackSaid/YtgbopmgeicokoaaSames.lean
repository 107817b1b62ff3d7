/-
  SameMoves and SameSession, where both sides are the same; Many.
-/
import Derived.Test.YtgbopmgeicokoaaPrs
import Derived.Test.YtgbopmgeicokoaaMvs
namespace Go.Proofs.Ytgbopmgeicokoaa
open Go.RowKit

set_option maxRecDepth 100000 in
set_option maxHeartbeats 4000000 in
theorem samemoves_any (A A2 : Option Addr) (n k k2 : Nat) (ms : List Mv) (w : World) (h : MvsAt w w.heap.size A n k ms) (h2 : MvsAt w w.heap.size A2 n k2 ms) :
    Calls Try.prog 88 #[.slice A n k, .slice A2 n k2] w (BoolR true w) := by
  have HLen := Lib.hid h.len
  have H1 := Lib.hid h
  have H2 := Lib.hid h2
  have b1 : ((n : Int) != (n : Int)) = false := by simp
  have hk1 := h.nk.1
  have HK := Lib.hid h.nk.2
  have hk2 := h2.nk.1
  have hn63 : n ≤ 9223372036854775807 := by have := h.nk.1; have := h.nk.2; simp only [maxLen] at this; omega
  clear h h2
  go_enter Try.func88, Try.ntmps88
  go_wp2_with fail
  go_loopg [5] n (fun gk i wr => ∃ j : Nat, j + gk = n ∧ i = .int .i64 j ∧ Below w.heap.size w wr)
  case atStart => exact ⟨0, by omega, rfl, Below.refl _ _⟩
  case round =>
    obtain ⟨j, hj, rfl, hbr⟩ := hrel
    by_cases hlt : j < n
    · obtain ⟨x, hx⟩ := at_lt (by rw [HLen.out]; exact hlt : j < ms.length)
      obtain ⟨b, o, rfl, hb, x0, x1, x2, x3⟩ := (H1.out.keep hbr).at_ hx
      obtain ⟨b2, o2, rfl, hb2, y0, y1, y2, y3⟩ := (H2.out.keep hbr).at_ hx
      have e1 : (j : Int) < n := by omega
      have e0 : (0 : Int) ≤ j := by omega
      clear hx
      go_upto_region 6 with fail
      go_quiet (fail)
      go_wp2_with fail
      go_roundg (gk - 1)
      case measure => omega
      case rel => exact ⟨j + 1, by omega, by go_num, hbr.drewN _⟩
    · obtain rfl : j = n := by omega
      go_wp2_with fail
      go_ret
      exact ⟨rfl, hbr⟩

set_option maxRecDepth 100000 in
set_option maxHeartbeats 4000000 in
theorem samesession_any (s : Ses) (A A2 : Option Addr) (n k k2 : Nat) (ms : List Mv) (w : World) (h : MvsAt w w.heap.size A n k ms) (h2 : MvsAt w w.heap.size A2 n k2 ms) :
    Calls Try.prog 41 #[sesV s (.slice A n k), sesV s (.slice A2 n k2)] w (BoolR true w) := by
  have HW : Hid (Below w.heap.size w ((w.alloc (.cells #[.int .i64 s.kind, .int .i64 s.cfg.threads, .int .i64 s.cfg.records, .int .i64 s.cfg.hazards, .int .i64 s.cfg.retire, .int .i64 s.cfg.cache, .int .i64 s.cfg.slots, .int .i64 s.cfg.buckets, .int .i64 s.rt, .int .i64 s.rc, .int .i64 s.dt, .int .i64 s.dr, .int .i64 s.lt, .int .i64 s.lk, .int .i64 s.st, .int .i64 s.sv, .slice A n k] 76)).alloc (.cells #[.int .i64 s.kind, .int .i64 s.cfg.threads, .int .i64 s.cfg.records, .int .i64 s.cfg.hazards, .int .i64 s.cfg.retire, .int .i64 s.cfg.cache, .int .i64 s.cfg.slots, .int .i64 s.cfg.buckets, .int .i64 s.rt, .int .i64 s.rc, .int .i64 s.dt, .int .i64 s.dr, .int .i64 s.lt, .int .i64 s.lk, .int .i64 s.st, .int .i64 s.sv, .slice A2 n k2] 76))) := ((Below.refl _ _).alloc (Nat.le_refl _) _).alloc (by simp) _
  have H1 : Hid (MvsAt ((w.alloc (.cells #[.int .i64 s.kind, .int .i64 s.cfg.threads, .int .i64 s.cfg.records, .int .i64 s.cfg.hazards, .int .i64 s.cfg.retire, .int .i64 s.cfg.cache, .int .i64 s.cfg.slots, .int .i64 s.cfg.buckets, .int .i64 s.rt, .int .i64 s.rc, .int .i64 s.dt, .int .i64 s.dr, .int .i64 s.lt, .int .i64 s.lk, .int .i64 s.st, .int .i64 s.sv, .slice A n k] 76)).alloc (.cells #[.int .i64 s.kind, .int .i64 s.cfg.threads, .int .i64 s.cfg.records, .int .i64 s.cfg.hazards, .int .i64 s.cfg.retire, .int .i64 s.cfg.cache, .int .i64 s.cfg.slots, .int .i64 s.cfg.buckets, .int .i64 s.rt, .int .i64 s.rc, .int .i64 s.dt, .int .i64 s.dr, .int .i64 s.lt, .int .i64 s.lk, .int .i64 s.st, .int .i64 s.sv, .slice A2 n k2] 76)) ((w.alloc (.cells #[.int .i64 s.kind, .int .i64 s.cfg.threads, .int .i64 s.cfg.records, .int .i64 s.cfg.hazards, .int .i64 s.cfg.retire, .int .i64 s.cfg.cache, .int .i64 s.cfg.slots, .int .i64 s.cfg.buckets, .int .i64 s.rt, .int .i64 s.rc, .int .i64 s.dt, .int .i64 s.dr, .int .i64 s.lt, .int .i64 s.lk, .int .i64 s.st, .int .i64 s.sv, .slice A n k] 76)).alloc (.cells #[.int .i64 s.kind, .int .i64 s.cfg.threads, .int .i64 s.cfg.records, .int .i64 s.cfg.hazards, .int .i64 s.cfg.retire, .int .i64 s.cfg.cache, .int .i64 s.cfg.slots, .int .i64 s.cfg.buckets, .int .i64 s.rt, .int .i64 s.rc, .int .i64 s.dt, .int .i64 s.dr, .int .i64 s.lt, .int .i64 s.lk, .int .i64 s.st, .int .i64 s.sv, .slice A2 n k2] 76)).heap.size A n k ms) := (h.keep HW.out).up HW.out.size
  have H2 : Hid (MvsAt ((w.alloc (.cells #[.int .i64 s.kind, .int .i64 s.cfg.threads, .int .i64 s.cfg.records, .int .i64 s.cfg.hazards, .int .i64 s.cfg.retire, .int .i64 s.cfg.cache, .int .i64 s.cfg.slots, .int .i64 s.cfg.buckets, .int .i64 s.rt, .int .i64 s.rc, .int .i64 s.dt, .int .i64 s.dr, .int .i64 s.lt, .int .i64 s.lk, .int .i64 s.st, .int .i64 s.sv, .slice A n k] 76)).alloc (.cells #[.int .i64 s.kind, .int .i64 s.cfg.threads, .int .i64 s.cfg.records, .int .i64 s.cfg.hazards, .int .i64 s.cfg.retire, .int .i64 s.cfg.cache, .int .i64 s.cfg.slots, .int .i64 s.cfg.buckets, .int .i64 s.rt, .int .i64 s.rc, .int .i64 s.dt, .int .i64 s.dr, .int .i64 s.lt, .int .i64 s.lk, .int .i64 s.st, .int .i64 s.sv, .slice A2 n k2] 76)) ((w.alloc (.cells #[.int .i64 s.kind, .int .i64 s.cfg.threads, .int .i64 s.cfg.records, .int .i64 s.cfg.hazards, .int .i64 s.cfg.retire, .int .i64 s.cfg.cache, .int .i64 s.cfg.slots, .int .i64 s.cfg.buckets, .int .i64 s.rt, .int .i64 s.rc, .int .i64 s.dt, .int .i64 s.dr, .int .i64 s.lt, .int .i64 s.lk, .int .i64 s.st, .int .i64 s.sv, .slice A n k] 76)).alloc (.cells #[.int .i64 s.kind, .int .i64 s.cfg.threads, .int .i64 s.cfg.records, .int .i64 s.cfg.hazards, .int .i64 s.cfg.retire, .int .i64 s.cfg.cache, .int .i64 s.cfg.slots, .int .i64 s.cfg.buckets, .int .i64 s.rt, .int .i64 s.rc, .int .i64 s.dt, .int .i64 s.dr, .int .i64 s.lt, .int .i64 s.lk, .int .i64 s.st, .int .i64 s.sv, .slice A2 n k2] 76)).heap.size A2 n k2 ms) := (h2.keep HW.out).up HW.out.size
  clear h h2
  go_enter Try.func41, Try.ntmps41
  go_wp2_with fail
  refine (samemoves_any A A2 n k k2 ms _ H1.out H2.out).mono ?_
  rintro e w1 ⟨rfl, hb1⟩
  go_wp2_with fail
  go_ret
  exact ⟨rfl, HW.out.trans (hb1.mono HW.out.size)⟩

set_option maxRecDepth 100000 in
theorem many28_any (K : Nat) (w : World) : Calls Try.prog 84 #[.int .i64 K] w (fun e w' => e = .returned (.int .i64 (manyN K)) ∧ w' = w) := by
  obtain ⟨z, hz⟩ : ∃ z, z = K := ⟨_, rfl⟩
  by_cases k1 : K = 1
  · subst k1
    have hm : manyN 1 = 7 := by decide
    rw [hm]
    go_enter Try.func84, Try.ntmps84
    go_wp2_with fail
    go_ret
    exact ⟨rfl, rfl⟩
  have n1 : ((K : Int) == 1) = false := by simp; omega
  by_cases k2 : K = 2
  · subst k2
    have hm : manyN 2 = 7 := by decide
    rw [hm]
    go_enter Try.func84, Try.ntmps84
    go_wp2_with fail
    go_ret
    exact ⟨rfl, rfl⟩
  have n2 : ((K : Int) == 2) = false := by simp; omega
  by_cases k3 : K = 3
  · subst k3
    have hm : manyN 3 = 2 := by decide
    rw [hm]
    go_enter Try.func84, Try.ntmps84
    go_wp2_with fail
    go_ret
    exact ⟨rfl, rfl⟩
  have n3 : ((K : Int) == 3) = false := by simp; omega
  by_cases k4 : K = 4
  · subst k4
    have hm : manyN 4 = 2 := by decide
    rw [hm]
    go_enter Try.func84, Try.ntmps84
    go_wp2_with fail
    go_ret
    exact ⟨rfl, rfl⟩
  have n4 : ((K : Int) == 4) = false := by simp; omega
  by_cases k5 : K = 5
  · subst k5
    have hm : manyN 5 = 2 := by decide
    rw [hm]
    go_enter Try.func84, Try.ntmps84
    go_wp2_with fail
    go_ret
    exact ⟨rfl, rfl⟩
  have n5 : ((K : Int) == 5) = false := by simp; omega
  by_cases k6 : K = 6
  · subst k6
    have hm : manyN 6 = 2 := by decide
    rw [hm]
    go_enter Try.func84, Try.ntmps84
    go_wp2_with fail
    go_ret
    exact ⟨rfl, rfl⟩
  have n6 : ((K : Int) == 6) = false := by simp; omega
  have hm : manyN K = 0 := by unfold manyN; rw [if_neg (by omega), if_neg (by omega)]
  rw [hm]
  clear k1 k2 k3 k4 k5 k6 hm hz
  go_enter Try.func84, Try.ntmps84
  go_wp2_with fail
  go_ret
  exact ⟨rfl, rfl⟩
end Go.Proofs.Ytgbopmgeicokoaa
