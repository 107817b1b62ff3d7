/-
  reclaimref27.Before.
-/
import Derived.Test.YtgbopmgeicokoaaRClk
import Derived.Deep.RegionHeld3
namespace Go.Proofs.Ytgbopmgeicokoaa
open Go.RowKit

set_option maxRecDepth 100000 in
set_option maxHeartbeats 1000000 in
theorem rbefore_any (c : Cfg) (h0 h2 h3 : Value) (A : Option Addr) (n k : Nat) (tr : List Acc) (w : World) (h : RunAt w w.heap.size A n k tr) (hn8 : n * 128 ≤ 140737488355328) (he0 : runErr c tr = 0) (i j : Nat) (hi : i < n) (hj : j < n) :
    Calls Try.prog 27 #[cfgV c, .agg #[h0, .slice A n k, h2, h3], .int .i64 i, .int .i64 j] w (BoolR (aheadB c tr i j) w) := by
  have hlen := h.len
  have hk1 := h.nk.1
  have hk2 := h.nk.2
  unfold maxLen at hk2
  obtain ⟨w0, hw0, hb0, hz0, HA, HR, HT⟩ := two_boxes c w h0 h2 h3 A n k tr h
  have HW0 := Lib.hid hw0
  have HLen := Lib.hid hlen
  have HE := Lib.hid he0
  obtain ⟨q0, q1, q2, q3, q4, q5, q6⟩ := HA.out w0 (Below.refl _ _)
  obtain ⟨p0, p1, p2, p3⟩ := HR.out w0 (Below.refl _ _)
  have hR0 := HT.out w0 (Below.refl _ _)
  have HR0 := Lib.hid (⟨hR0.trace.up (by omega), hR0.nk⟩ : RunAt w0 w0.heap.size A n k tr)
  obtain ⟨x, hx⟩ := at_lt (by rw [hlen]; exact hi : i < tr.length)
  obtain ⟨t, ht, ht16, htc⟩ := acc_thread he0 hx
  have htT : t < c.threads.toNat := by omega
  have hTm : c.threads.toNat ≤ maxLen := by have := ((okC_iff c).1 (runErr_ok he0).1).t2; simp only [maxLen]; omega
  have HX := Lib.hid hx
  have HT1 := Lib.hid ht
  clear hR0 hw0 h hlen he0 hx ht
  go_enter Try.func27, Try.ntmps27
  go_upto_region 1 with fail
  rw [← HW0.out]
  go_wp2_with fail
  refine (rclocks_any c h0 h2 h3 A n k tr _ HR0.out hn8 HE.out).mono ?_
  rintro e w1 ⟨A2, k2, B, rfl, hb1, hRw, hk3, hk4⟩
  have hz1 := hb1.size
  clear q0 q1 q2 q3 q4 q5 q6 p0 p1 p2 p3
  have hbw := hb0.trans (hb1.mono (by omega))
  unfold maxLen at hk4
  by_cases hij : i = j
  · subst hij
    have b1 : ((i : Int) != (i : Int)) = false := by simp
    have HB := Lib.hid (aheadB_same c tr i)
    go_upto_region 2 with fail
    go_quiet (fail)
    go_wp2_with fail
    go_ret
    exact ⟨by rw [HB.out]; rfl, hbw.drewN _⟩
  · have b1 : ((i : Int) != (j : Int)) = true := by simp; omega
    have HB := Lib.hid (aheadB_at (c := c) HX.out HT1.out hij)
    obtain ⟨bi, oi, Ai, ki, e1, hbi, ci, hsi, hki, hki2⟩ := hRw.at_ rfl hi
    obtain ⟨bj, oj, Aj, kj, e2, hbj, cj, hsj, hkj, hkj2⟩ := hRw.at_ rfl hj
    subst e1
    injection e2 with e2
    injection e2 with e2 e3 _
    subst e2
    subst e3
    obtain ⟨p0, p1, p2, p3⟩ := HR.out w1 hb1
    obtain ⟨b, o, rfl, hb, x0, x1, x2, x3, x4, x5, x6⟩ := (HT.out w1 hb1).at_ HX.out
    rw [HT1.out] at x1
    have f1 : (i : Int) < n := by omega
    have f2 : (j : Int) < n := by omega
    have f3 : (0 : Int) ≤ i := by omega
    have f4 : (0 : Int) ≤ j := by omega
    have HSi := Lib.hid hsi
    have HSj := Lib.hid hsj
    have HAh : Hid (∀ W, Below w1.heap.size w1 W → Calls Try.prog 66 #[.slice Ai c.threads.toNat ki, .slice Aj c.threads.toNat kj, .int .i64 t] W (BoolR (decide (outC c tr i t ≤ outC c tr j t)) W)) := fun W hB =>
      ahead27_any _ _ Ai Aj _ ki kj t W ((HSi.out.below hB).up hB.size) ((HSj.out.below hB).up hB.size) htT hTm
    have hSo : ∀ W, Below w1.heap.size w1 W → Below w1.heap.size w1 W ∧ W.cell? ⟨bi, oi + i, none⟩ = some (.slice Ai c.threads.toNat ki) ∧ W.cell? ⟨bi, oi + j, none⟩ = some (.slice Aj c.threads.toNat kj) ∧ W.cell? ⟨w.heap.size + 1, 1, none⟩ = some (.slice (some ⟨b, o, none⟩) n k) ∧ W.cell? ⟨b, o + i * 7 + 1, none⟩ = some (.int .i64 t) :=
      fun W hB => ⟨hB, (hB.cell hbi).trans ci, (hB.cell hbj).trans cj, (hB.cell (by dsimp only; omega)).trans p1, (hB.cell (by dsimp only; omega)).trans x1⟩
    have HS := Lib.hid hSo
    clear x0 x1 x2 x3 x4 x5 x6 hsi hsj hRw hij ci cj p0 p1 p2 p3 hSo
    go_upto_region 2 with fail
    go_region_held3 (fun W => Below w1.heap.size w1 W ∧ W.cell? ⟨bi, oi + i, none⟩ = some (.slice Ai c.threads.toNat ki) ∧ W.cell? ⟨bi, oi + j, none⟩ = some (.slice Aj c.threads.toNat kj) ∧ W.cell? ⟨w.heap.size + 1, 1, none⟩ = some (.slice (some ⟨b, o, none⟩) n k) ∧ W.cell? ⟨b, o + i * 7 + 1, none⟩ = some (.int .i64 t))
      ((refine HS.out _ ?_; go_split_ands; first | assumption | exact (Below.refl _ _).drew | exact Below.trans ‹Below w1.heap.size w1 _› (hb3.mono (‹Below w1.heap.size w1 _›).size)))
      ((go_at_call 66; refine (HAh.out _ (by go_split_ands; assumption)).mono ?_; rintro e W3 ⟨rfl, hb3⟩))
    all_goals (go_wp2_with fail; go_ret; go_split_ands)
    all_goals exact ⟨by rw [HB.out]; rfl, hbw.trans ((‹Below w1.heap.size w1 _›).mono (by omega))⟩
end Go.Proofs.Ytgbopmgeicokoaa
