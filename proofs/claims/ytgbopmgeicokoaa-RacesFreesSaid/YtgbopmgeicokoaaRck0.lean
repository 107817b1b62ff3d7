/-
  reclaimref19.fits.
  reclaimref19.Check.
-/
import Derived.Test.YtgbopmgeicokoaaTck0
import Derived.BigQuiet
import Derived.StillTailTactics
namespace Go.Proofs.Ytgbopmgeicokoaa
open Go.RowKit

set_option maxRecDepth 100000 in
set_option maxHeartbeats 8000000 in
theorem rfits_any (x : Ins) (n : Nat) (w : World) : Calls Try.prog 92 #[insV x, .int .i64 n] w (BoolR (okIns n x) w) := by
  obtain ⟨kd, rg, ad, vl, sr, od, ct⟩ := x
  have HW0 : Hid (Below w.heap.size w (w.alloc (.cells #[.int .i64 kd, .int .i64 rg, .int .i64 ad, .int .i64 vl, .int .i64 sr, .int .i64 od, .int .i64 ct] 204))) := (Below.refl _ _).alloc (Nat.le_refl _) _
  have hkk : kd = 1 ∨ kd = 2 ∨ kd = 3 ∨ kd = 4 ∨ kd = 5 ∨ kd = 6 ∨ kd = 7 ∨ kd < 1 ∨ 7 < kd := by omega
  rcases hkk with rfl | rfl | rfl | rfl | rfl | rfl | rfl | hn | hn
  · have hr3 : rg < 0 ∨ 4 ≤ rg ∨ (0 ≤ rg ∧ rg < 4) := by omega
    rcases hr3 with hr | hr | hr
    · have p0 : rg < 0 := by omega
      have q0 : decide (rg < 0) = true := by simp only [decide_eq_true_eq]; omega
      have HV := Lib.hid (show okIns n ⟨1, rg, ad, vl, sr, od, ct⟩ = false by
        simp only [okIns, regB, adrB]
        simp
        try (intros; omega))
      clear hr
      go_enter Try.func92, Try.ntmps92
      go_wp2_with fail
      go_ret
      exact ⟨by rw [HV.out]; rfl, HW0.out⟩
    · have p0 : ¬ (rg < 0) := by omega
      have q0 : decide (rg < 0) = false := by simp only [decide_eq_false_iff_not]; omega
      have p1 : 4 ≤ rg := by omega
      have q1 : decide (4 ≤ rg) = true := by simp only [decide_eq_true_eq]; omega
      have HV := Lib.hid (show okIns n ⟨1, rg, ad, vl, sr, od, ct⟩ = false by
        simp only [okIns, regB, adrB]
        simp
        try (intros; omega))
      clear hr
      go_enter Try.func92, Try.ntmps92
      go_wp2_with fail
      go_ret
      exact ⟨by rw [HV.out]; rfl, HW0.out⟩
    · have ha3 : ad < 0 ∨ (n : Int) ≤ ad ∨ (0 ≤ ad ∧ ad < n) := by omega
      rcases ha3 with ha | ha | ha
      · have p0 : ¬ (rg < 0) := by omega
        have q0 : decide (rg < 0) = false := by simp only [decide_eq_false_iff_not]; omega
        have p1 : ¬ (4 ≤ rg) := by omega
        have q1 : decide (4 ≤ rg) = false := by simp only [decide_eq_false_iff_not]; omega
        have p2 : ad < 0 := by omega
        have q2 : decide (ad < 0) = true := by simp only [decide_eq_true_eq]; omega
        have HV := Lib.hid (show okIns n ⟨1, rg, ad, vl, sr, od, ct⟩ = false by
          simp only [okIns, regB, adrB]
          simp
          try (intros; omega))
        clear hr ha
        go_enter Try.func92, Try.ntmps92
        go_wp2_with fail
        go_ret
        exact ⟨by rw [HV.out]; rfl, HW0.out⟩
      · have p0 : ¬ (rg < 0) := by omega
        have q0 : decide (rg < 0) = false := by simp only [decide_eq_false_iff_not]; omega
        have p1 : ¬ (4 ≤ rg) := by omega
        have q1 : decide (4 ≤ rg) = false := by simp only [decide_eq_false_iff_not]; omega
        have p2 : ¬ (ad < 0) := by omega
        have q2 : decide (ad < 0) = false := by simp only [decide_eq_false_iff_not]; omega
        have p3 : (n : Int) ≤ ad := by omega
        have q3 : decide ((n : Int) ≤ ad) = true := by simp only [decide_eq_true_eq]; omega
        have HV := Lib.hid (show okIns n ⟨1, rg, ad, vl, sr, od, ct⟩ = false by
          simp only [okIns, regB, adrB]
          simp
          try (intros; omega))
        clear hr ha
        go_enter Try.func92, Try.ntmps92
        go_wp2_with fail
        go_ret
        exact ⟨by rw [HV.out]; rfl, HW0.out⟩
      · have p0 : ¬ (rg < 0) := by omega
        have q0 : decide (rg < 0) = false := by simp only [decide_eq_false_iff_not]; omega
        have p1 : ¬ (4 ≤ rg) := by omega
        have q1 : decide (4 ≤ rg) = false := by simp only [decide_eq_false_iff_not]; omega
        have p2 : ¬ (ad < 0) := by omega
        have q2 : decide (ad < 0) = false := by simp only [decide_eq_false_iff_not]; omega
        have p3 : ¬ ((n : Int) ≤ ad) := by omega
        have q3 : decide ((n : Int) ≤ ad) = false := by simp only [decide_eq_false_iff_not]; omega
        have HV := Lib.hid (show okIns n ⟨1, rg, ad, vl, sr, od, ct⟩ = true by
          simp only [okIns, regB, adrB]
          simp
          try (intros; omega))
        clear hr ha
        go_enter Try.func92, Try.ntmps92
        go_wp2_with fail
        go_ret
        exact ⟨by rw [HV.out]; rfl, HW0.out⟩
  · have ha3 : ad < 0 ∨ (n : Int) ≤ ad ∨ (0 ≤ ad ∧ ad < n) := by omega
    rcases ha3 with ha | ha | ha
    · have p0 : ad < 0 := by omega
      have q0 : decide (ad < 0) = true := by simp only [decide_eq_true_eq]; omega
      have HV := Lib.hid (show okIns n ⟨2, rg, ad, vl, sr, od, ct⟩ = false by
        simp only [okIns, regB, adrB]
        simp
        try (intros; omega))
      clear ha
      go_enter Try.func92, Try.ntmps92
      go_wp2_with fail
      go_ret
      exact ⟨by rw [HV.out]; rfl, HW0.out⟩
    · have p0 : ¬ (ad < 0) := by omega
      have q0 : decide (ad < 0) = false := by simp only [decide_eq_false_iff_not]; omega
      have p1 : (n : Int) ≤ ad := by omega
      have q1 : decide ((n : Int) ≤ ad) = true := by simp only [decide_eq_true_eq]; omega
      have HV := Lib.hid (show okIns n ⟨2, rg, ad, vl, sr, od, ct⟩ = false by
        simp only [okIns, regB, adrB]
        simp
        try (intros; omega))
      clear ha
      go_enter Try.func92, Try.ntmps92
      go_wp2_with fail
      go_ret
      exact ⟨by rw [HV.out]; rfl, HW0.out⟩
    · have hs3 : sr < -1 ∨ 4 ≤ sr ∨ (-1 ≤ sr ∧ sr < 4) := by omega
      rcases hs3 with hs | hs | hs
      · have p0 : ¬ (ad < 0) := by omega
        have q0 : decide (ad < 0) = false := by simp only [decide_eq_false_iff_not]; omega
        have p1 : ¬ ((n : Int) ≤ ad) := by omega
        have q1 : decide ((n : Int) ≤ ad) = false := by simp only [decide_eq_false_iff_not]; omega
        have p2 : sr < -1 := by omega
        have q2 : decide (sr < -1) = true := by simp only [decide_eq_true_eq]; omega
        have HV := Lib.hid (show okIns n ⟨2, rg, ad, vl, sr, od, ct⟩ = false by
          simp only [okIns, regB, adrB]
          simp
          try (intros; omega))
        clear ha hs
        go_enter Try.func92, Try.ntmps92
        go_wp2_with fail
        go_ret
        exact ⟨by rw [HV.out]; rfl, HW0.out⟩
      · have p0 : ¬ (ad < 0) := by omega
        have q0 : decide (ad < 0) = false := by simp only [decide_eq_false_iff_not]; omega
        have p1 : ¬ ((n : Int) ≤ ad) := by omega
        have q1 : decide ((n : Int) ≤ ad) = false := by simp only [decide_eq_false_iff_not]; omega
        have p2 : ¬ (sr < -1) := by omega
        have q2 : decide (sr < -1) = false := by simp only [decide_eq_false_iff_not]; omega
        have p3 : 4 ≤ sr := by omega
        have q3 : decide (4 ≤ sr) = true := by simp only [decide_eq_true_eq]; omega
        have HV := Lib.hid (show okIns n ⟨2, rg, ad, vl, sr, od, ct⟩ = false by
          simp only [okIns, regB, adrB]
          simp
          try (intros; omega))
        clear ha hs
        go_enter Try.func92, Try.ntmps92
        go_wp2_with fail
        go_ret
        exact ⟨by rw [HV.out]; rfl, HW0.out⟩
      · have p0 : ¬ (ad < 0) := by omega
        have q0 : decide (ad < 0) = false := by simp only [decide_eq_false_iff_not]; omega
        have p1 : ¬ ((n : Int) ≤ ad) := by omega
        have q1 : decide ((n : Int) ≤ ad) = false := by simp only [decide_eq_false_iff_not]; omega
        have p2 : ¬ (sr < -1) := by omega
        have q2 : decide (sr < -1) = false := by simp only [decide_eq_false_iff_not]; omega
        have p3 : ¬ (4 ≤ sr) := by omega
        have q3 : decide (4 ≤ sr) = false := by simp only [decide_eq_false_iff_not]; omega
        have HV := Lib.hid (show okIns n ⟨2, rg, ad, vl, sr, od, ct⟩ = true by
          simp only [okIns, regB, adrB]
          simp
          try (intros; omega))
        clear ha hs
        go_enter Try.func92, Try.ntmps92
        go_wp2_with fail
        go_ret
        exact ⟨by rw [HV.out]; rfl, HW0.out⟩
  · have hr3 : rg < 0 ∨ 4 ≤ rg ∨ (0 ≤ rg ∧ rg < 4) := by omega
    rcases hr3 with hr | hr | hr
    · have p0 : rg < 0 := by omega
      have q0 : decide (rg < 0) = true := by simp only [decide_eq_true_eq]; omega
      have HV := Lib.hid (show okIns n ⟨3, rg, ad, vl, sr, od, ct⟩ = false by
        simp only [okIns, regB, adrB]
        simp
        try (intros; omega))
      clear hr
      go_enter Try.func92, Try.ntmps92
      go_wp2_with fail
      go_ret
      exact ⟨by rw [HV.out]; rfl, HW0.out⟩
    · have p0 : ¬ (rg < 0) := by omega
      have q0 : decide (rg < 0) = false := by simp only [decide_eq_false_iff_not]; omega
      have p1 : 4 ≤ rg := by omega
      have q1 : decide (4 ≤ rg) = true := by simp only [decide_eq_true_eq]; omega
      have HV := Lib.hid (show okIns n ⟨3, rg, ad, vl, sr, od, ct⟩ = false by
        simp only [okIns, regB, adrB]
        simp
        try (intros; omega))
      clear hr
      go_enter Try.func92, Try.ntmps92
      go_wp2_with fail
      go_ret
      exact ⟨by rw [HV.out]; rfl, HW0.out⟩
    · have ha3 : ad < 0 ∨ (n : Int) ≤ ad ∨ (0 ≤ ad ∧ ad < n) := by omega
      rcases ha3 with ha | ha | ha
      · have p0 : ¬ (rg < 0) := by omega
        have q0 : decide (rg < 0) = false := by simp only [decide_eq_false_iff_not]; omega
        have p1 : ¬ (4 ≤ rg) := by omega
        have q1 : decide (4 ≤ rg) = false := by simp only [decide_eq_false_iff_not]; omega
        have p2 : ad < 0 := by omega
        have q2 : decide (ad < 0) = true := by simp only [decide_eq_true_eq]; omega
        have HV := Lib.hid (show okIns n ⟨3, rg, ad, vl, sr, od, ct⟩ = false by
          simp only [okIns, regB, adrB]
          simp
          try (intros; omega))
        clear hr ha
        go_enter Try.func92, Try.ntmps92
        go_wp2_with fail
        go_ret
        exact ⟨by rw [HV.out]; rfl, HW0.out⟩
      · have p0 : ¬ (rg < 0) := by omega
        have q0 : decide (rg < 0) = false := by simp only [decide_eq_false_iff_not]; omega
        have p1 : ¬ (4 ≤ rg) := by omega
        have q1 : decide (4 ≤ rg) = false := by simp only [decide_eq_false_iff_not]; omega
        have p2 : ¬ (ad < 0) := by omega
        have q2 : decide (ad < 0) = false := by simp only [decide_eq_false_iff_not]; omega
        have p3 : (n : Int) ≤ ad := by omega
        have q3 : decide ((n : Int) ≤ ad) = true := by simp only [decide_eq_true_eq]; omega
        have HV := Lib.hid (show okIns n ⟨3, rg, ad, vl, sr, od, ct⟩ = false by
          simp only [okIns, regB, adrB]
          simp
          try (intros; omega))
        clear hr ha
        go_enter Try.func92, Try.ntmps92
        go_wp2_with fail
        go_ret
        exact ⟨by rw [HV.out]; rfl, HW0.out⟩
      · have p0 : ¬ (rg < 0) := by omega
        have q0 : decide (rg < 0) = false := by simp only [decide_eq_false_iff_not]; omega
        have p1 : ¬ (4 ≤ rg) := by omega
        have q1 : decide (4 ≤ rg) = false := by simp only [decide_eq_false_iff_not]; omega
        have p2 : ¬ (ad < 0) := by omega
        have q2 : decide (ad < 0) = false := by simp only [decide_eq_false_iff_not]; omega
        have p3 : ¬ ((n : Int) ≤ ad) := by omega
        have q3 : decide ((n : Int) ≤ ad) = false := by simp only [decide_eq_false_iff_not]; omega
        have HV := Lib.hid (show okIns n ⟨3, rg, ad, vl, sr, od, ct⟩ = true by
          simp only [okIns, regB, adrB]
          simp
          try (intros; omega))
        clear hr ha
        go_enter Try.func92, Try.ntmps92
        go_wp2_with fail
        go_ret
        exact ⟨by rw [HV.out]; rfl, HW0.out⟩
  · have HV := Lib.hid (show okIns n ⟨4, rg, ad, vl, sr, od, ct⟩ = true by
      simp only [okIns, regB, adrB]
      simp
      try (intros; omega))
    skip
    go_enter Try.func92, Try.ntmps92
    go_wp2_with fail
    go_ret
    exact ⟨by rw [HV.out]; rfl, HW0.out⟩
  · have hr3 : rg < 0 ∨ 4 ≤ rg ∨ (0 ≤ rg ∧ rg < 4) := by omega
    rcases hr3 with hr | hr | hr
    · have p0 : rg < 0 := by omega
      have q0 : decide (rg < 0) = true := by simp only [decide_eq_true_eq]; omega
      have HV := Lib.hid (show okIns n ⟨5, rg, ad, vl, sr, od, ct⟩ = false by
        simp only [okIns, regB, adrB]
        simp
        try (intros; omega))
      clear hr
      go_enter Try.func92, Try.ntmps92
      go_wp2_with fail
      go_ret
      exact ⟨by rw [HV.out]; rfl, HW0.out⟩
    · have p0 : ¬ (rg < 0) := by omega
      have q0 : decide (rg < 0) = false := by simp only [decide_eq_false_iff_not]; omega
      have p1 : 4 ≤ rg := by omega
      have q1 : decide (4 ≤ rg) = true := by simp only [decide_eq_true_eq]; omega
      have HV := Lib.hid (show okIns n ⟨5, rg, ad, vl, sr, od, ct⟩ = false by
        simp only [okIns, regB, adrB]
        simp
        try (intros; omega))
      clear hr
      go_enter Try.func92, Try.ntmps92
      go_wp2_with fail
      go_ret
      exact ⟨by rw [HV.out]; rfl, HW0.out⟩
    · have p0 : ¬ (rg < 0) := by omega
      have q0 : decide (rg < 0) = false := by simp only [decide_eq_false_iff_not]; omega
      have p1 : ¬ (4 ≤ rg) := by omega
      have q1 : decide (4 ≤ rg) = false := by simp only [decide_eq_false_iff_not]; omega
      have HV := Lib.hid (show okIns n ⟨5, rg, ad, vl, sr, od, ct⟩ = true by
        simp only [okIns, regB, adrB]
        simp
        try (intros; omega))
      clear hr
      go_enter Try.func92, Try.ntmps92
      go_wp2_with fail
      go_ret
      exact ⟨by rw [HV.out]; rfl, HW0.out⟩
  · have hr3 : rg < 0 ∨ 4 ≤ rg ∨ (0 ≤ rg ∧ rg < 4) := by omega
    rcases hr3 with hr | hr | hr
    · have p0 : rg < 0 := by omega
      have q0 : decide (rg < 0) = true := by simp only [decide_eq_true_eq]; omega
      have HV := Lib.hid (show okIns n ⟨6, rg, ad, vl, sr, od, ct⟩ = false by
        simp only [okIns, regB, adrB]
        simp
        try (intros; omega))
      clear hr
      go_enter Try.func92, Try.ntmps92
      go_wp2_with fail
      go_ret
      exact ⟨by rw [HV.out]; rfl, HW0.out⟩
    · have p0 : ¬ (rg < 0) := by omega
      have q0 : decide (rg < 0) = false := by simp only [decide_eq_false_iff_not]; omega
      have p1 : 4 ≤ rg := by omega
      have q1 : decide (4 ≤ rg) = true := by simp only [decide_eq_true_eq]; omega
      have HV := Lib.hid (show okIns n ⟨6, rg, ad, vl, sr, od, ct⟩ = false by
        simp only [okIns, regB, adrB]
        simp
        try (intros; omega))
      clear hr
      go_enter Try.func92, Try.ntmps92
      go_wp2_with fail
      go_ret
      exact ⟨by rw [HV.out]; rfl, HW0.out⟩
    · have p0 : ¬ (rg < 0) := by omega
      have q0 : decide (rg < 0) = false := by simp only [decide_eq_false_iff_not]; omega
      have p1 : ¬ (4 ≤ rg) := by omega
      have q1 : decide (4 ≤ rg) = false := by simp only [decide_eq_false_iff_not]; omega
      have HV := Lib.hid (show okIns n ⟨6, rg, ad, vl, sr, od, ct⟩ = true by
        simp only [okIns, regB, adrB]
        simp
        try (intros; omega))
      clear hr
      go_enter Try.func92, Try.ntmps92
      go_wp2_with fail
      go_ret
      exact ⟨by rw [HV.out]; rfl, HW0.out⟩
  · have hr3 : rg < 0 ∨ 4 ≤ rg ∨ (0 ≤ rg ∧ rg < 4) := by omega
    rcases hr3 with hr | hr | hr
    · have p0 : rg < 0 := by omega
      have q0 : decide (rg < 0) = true := by simp only [decide_eq_true_eq]; omega
      have HV := Lib.hid (show okIns n ⟨7, rg, ad, vl, sr, od, ct⟩ = false by
        simp only [okIns, regB, adrB]
        simp
        try (intros; omega))
      clear hr
      go_enter Try.func92, Try.ntmps92
      go_wp2_with fail
      go_ret
      exact ⟨by rw [HV.out]; rfl, HW0.out⟩
    · have p0 : ¬ (rg < 0) := by omega
      have q0 : decide (rg < 0) = false := by simp only [decide_eq_false_iff_not]; omega
      have p1 : 4 ≤ rg := by omega
      have q1 : decide (4 ≤ rg) = true := by simp only [decide_eq_true_eq]; omega
      have HV := Lib.hid (show okIns n ⟨7, rg, ad, vl, sr, od, ct⟩ = false by
        simp only [okIns, regB, adrB]
        simp
        try (intros; omega))
      clear hr
      go_enter Try.func92, Try.ntmps92
      go_wp2_with fail
      go_ret
      exact ⟨by rw [HV.out]; rfl, HW0.out⟩
    · have hc3 : ct < 0 ∨ 10 < ct ∨ (0 ≤ ct ∧ ct ≤ 10) := by omega
      rcases hc3 with hc | hc | hc
      · have p0 : ¬ (rg < 0) := by omega
        have q0 : decide (rg < 0) = false := by simp only [decide_eq_false_iff_not]; omega
        have p1 : ¬ (4 ≤ rg) := by omega
        have q1 : decide (4 ≤ rg) = false := by simp only [decide_eq_false_iff_not]; omega
        have p2 : ¬ (0 ≤ ct) := by omega
        have q2 : decide (0 ≤ ct) = false := by simp only [decide_eq_false_iff_not]; omega
        have HV := Lib.hid (show okIns n ⟨7, rg, ad, vl, sr, od, ct⟩ = false by
          simp only [okIns, regB, adrB]
          simp
          try (intros; omega))
        clear hr hc
        go_enter Try.func92, Try.ntmps92
        go_wp2_with fail
        go_ret
        exact ⟨by rw [HV.out]; rfl, HW0.out⟩
      · have p0 : ¬ (rg < 0) := by omega
        have q0 : decide (rg < 0) = false := by simp only [decide_eq_false_iff_not]; omega
        have p1 : ¬ (4 ≤ rg) := by omega
        have q1 : decide (4 ≤ rg) = false := by simp only [decide_eq_false_iff_not]; omega
        have p2 : 0 ≤ ct := by omega
        have q2 : decide (0 ≤ ct) = true := by simp only [decide_eq_true_eq]; omega
        have p3 : ¬ (ct ≤ 10) := by omega
        have q3 : decide (ct ≤ 10) = false := by simp only [decide_eq_false_iff_not]; omega
        have HV := Lib.hid (show okIns n ⟨7, rg, ad, vl, sr, od, ct⟩ = false by
          simp only [okIns, regB, adrB]
          simp
          try (intros; omega))
        clear hr hc
        go_enter Try.func92, Try.ntmps92
        go_wp2_with fail
        go_ret
        exact ⟨by rw [HV.out]; rfl, HW0.out⟩
      · have p0 : ¬ (rg < 0) := by omega
        have q0 : decide (rg < 0) = false := by simp only [decide_eq_false_iff_not]; omega
        have p1 : ¬ (4 ≤ rg) := by omega
        have q1 : decide (4 ≤ rg) = false := by simp only [decide_eq_false_iff_not]; omega
        have p2 : 0 ≤ ct := by omega
        have q2 : decide (0 ≤ ct) = true := by simp only [decide_eq_true_eq]; omega
        have p3 : ct ≤ 10 := by omega
        have q3 : decide (ct ≤ 10) = true := by simp only [decide_eq_true_eq]; omega
        have HV := Lib.hid (show okIns n ⟨7, rg, ad, vl, sr, od, ct⟩ = true by
          simp only [okIns, regB, adrB]
          simp
          try (intros; omega))
        clear hr hc
        go_enter Try.func92, Try.ntmps92
        go_wp2_with fail
        go_ret
        exact ⟨by rw [HV.out]; rfl, HW0.out⟩
  · have p0 : kd < 1 := by omega
    have q0 : decide (kd < 1) = true := by simp only [decide_eq_true_eq]; omega
    have HV := Lib.hid (show okIns n ⟨kd, rg, ad, vl, sr, od, ct⟩ = false by
      unfold okIns
      rw [if_neg (by dsimp only; omega), if_neg (by dsimp only; omega), if_neg (by dsimp only; omega), if_neg (by dsimp only; omega), if_neg (by dsimp only; omega)])
    clear hn
    go_enter Try.func92, Try.ntmps92
    go_wp2_with fail
    go_ret
    exact ⟨by rw [HV.out]; rfl, HW0.out⟩
  · have p0 : ¬ (kd < 1) := by omega
    have q0 : decide (kd < 1) = false := by simp only [decide_eq_false_iff_not]; omega
    have p1 : 7 < kd := by omega
    have q1 : decide (7 < kd) = true := by simp only [decide_eq_true_eq]; omega
    have HV := Lib.hid (show okIns n ⟨kd, rg, ad, vl, sr, od, ct⟩ = false by
      unfold okIns
      rw [if_neg (by dsimp only; omega), if_neg (by dsimp only; omega), if_neg (by dsimp only; omega), if_neg (by dsimp only; omega), if_neg (by dsimp only; omega)])
    clear hn
    go_enter Try.func92, Try.ntmps92
    go_wp2_with fail
    go_ret
    exact ⟨by rw [HV.out]; rfl, HW0.out⟩
end Go.Proofs.Ytgbopmgeicokoaa
namespace Go.Proofs.Ytgbopmgeicokoaa
open Go.RowKit

set_option maxRecDepth 100000 in
set_option maxHeartbeats 4000000 in
theorem rlcheck_any (l : Lit) (w : World) (h : LitAt w w.heap.size l) : Calls Try.prog 45 #[litV l] w (BoolR (okLit l) w) := by
  have HB0 : Hid (Blk (w.alloc (.cells #[.slice l.wA l.wn l.wk, .slice l.tA l.tn l.tk] 101)) w.heap.size 101 (litL l)) := Blk.new _ _ _
  have HW0 : Hid (Below w.heap.size w (w.alloc (.cells #[.slice l.wA l.wn l.wk, .slice l.tA l.tn l.tk] 101))) := (Below.refl _ _).alloc (Nat.le_refl _) _
  have HL := Lib.hid h
  have HT := Lib.hid h.tlen
  have hk1 := h.tk.1
  have hk2 := h.tk.2
  unfold maxLen at hk2
  have HV : Hid (∀ a b c : Bool, (decide (1 ≤ l.tn) && decide (l.tn ≤ 4) && decide (1 ≤ l.wn) && decide (l.wn ≤ 6)) = false → okLit l = false) := fun _ _ _ h0 => by rw [okLit_th, h0]; rfl
  clear h
  obtain ⟨wA, wn, wk, ws, tA, tn, tk, th⟩ := l
  dsimp only at hk1 hk2
  go_enter Try.func45, Try.ntmps45
  go_upto_region 1 with fail
  generalize w.alloc (.cells #[.slice wA wn wk, .slice tA tn tk] 101) = w0 at HB0 HW0 ⊢
  have q0 : w0.cell? ⟨w.heap.size, 0, none⟩ = some (.slice wA wn wk) := HB0.out.cell rfl
  have q1 : w0.cell? ⟨w.heap.size, 1, none⟩ = some (.slice tA tn tk) := HB0.out.cell rfl
  by_cases a1 : 1 ≤ tn
  case neg =>
    have b1 : decide ((tn : Int) < 1) = true := by simp; omega
    have b2 : (tn : Int) < 1 := by omega
    have HE := Lib.hid (HV.out true true true (by simp [a1]))
    clear HV a1
    go_wp2_with fail
    go_ret
    exact ⟨by rw [HE.out]; rfl, HW0.out⟩
  by_cases a2 : tn ≤ 4
  case neg =>
    have b1 : decide ((tn : Int) < 1) = false := by simp; omega
    have b2 : ¬ (tn : Int) < 1 := by omega
    have b3 : decide (4 < (tn : Int)) = true := by simp; omega
    have b4 : 4 < (tn : Int) := by omega
    have HE := Lib.hid (HV.out true true true (by simp [a2]))
    clear HV a1 a2
    go_wp2_with fail
    go_ret
    exact ⟨by rw [HE.out]; rfl, HW0.out⟩
  by_cases a3 : 1 ≤ wn
  case neg =>
    have b1 : decide ((tn : Int) < 1) = false := by simp; omega
    have b2 : ¬ (tn : Int) < 1 := by omega
    have b3 : decide (4 < (tn : Int)) = false := by simp; omega
    have b4 : ¬ 4 < (tn : Int) := by omega
    have b5 : decide ((wn : Int) < 1) = true := by simp; omega
    have b6 : (wn : Int) < 1 := by omega
    have HE := Lib.hid (HV.out true true true (by simp [a3]))
    clear HV a1 a2 a3
    go_wp2_with fail
    go_ret
    exact ⟨by rw [HE.out]; rfl, HW0.out⟩
  by_cases a4 : wn ≤ 6
  case neg =>
    have b1 : decide ((tn : Int) < 1) = false := by simp; omega
    have b2 : ¬ (tn : Int) < 1 := by omega
    have b3 : decide (4 < (tn : Int)) = false := by simp; omega
    have b4 : ¬ 4 < (tn : Int) := by omega
    have b5 : decide ((wn : Int) < 1) = false := by simp; omega
    have b6 : ¬ (wn : Int) < 1 := by omega
    have b7 : decide (6 < (wn : Int)) = true := by simp; omega
    have b8 : 6 < (wn : Int) := by omega
    have HE := Lib.hid (HV.out true true true (by simp [a4]))
    clear HV a1 a2 a3 a4
    go_wp2_with fail
    go_ret
    exact ⟨by rw [HE.out]; rfl, HW0.out⟩
  have b1 : decide ((tn : Int) < 1) = false := by simp; omega
  have b2 : ¬ (tn : Int) < 1 := by omega
  have b3 : decide (4 < (tn : Int)) = false := by simp; omega
  have b4 : ¬ 4 < (tn : Int) := by omega
  have b5 : decide ((wn : Int) < 1) = false := by simp; omega
  have b6 : ¬ (wn : Int) < 1 := by omega
  have b7 : decide (6 < (wn : Int)) = false := by simp; omega
  have b8 : ¬ 6 < (wn : Int) := by omega
  have HOk : Hid (th.all (okTh wn) = true → okLit ⟨wA, wn, wk, ws, tA, tn, tk, th⟩ = true) := fun h0 => by rw [okLit_th, h0]; simp [a1, a2, a3, a4]
  clear HV
  go_wp2_with fail
  clear b1 b2 b3 b4 b5 b6 b7 b8 q0 q1
  go_loopg [3] tn (fun gk i wr => ∃ j : Nat, j + gk = tn ∧ i = .int .i64 j ∧ Hid (Blk wr w.heap.size 101 (litL ⟨wA, wn, wk, ws, tA, tn, tk, th⟩)) ∧ Hid (Below w.heap.size w wr) ∧ Hid ((th.take j).all (okTh wn) = true))
  case atStart => exact ⟨0, by omega, rfl, HB0, HW0, rfl⟩
  case round =>
    obtain ⟨j, hj, rfl, HB, HW, HA⟩ := hrel
    have q1 : wr.cell? ⟨w.heap.size, 1, none⟩ = some (.slice tA tn tk) := HB.out.cell rfl
    by_cases hlt : j < tn
    · obtain ⟨x, hx⟩ := at_lt (show j < th.length by rw [HT.out]; exact hlt)
      have hL := HL.out.keep HW.out
      obtain ⟨tb, to', hta, htb, htc⟩ := hL.head hx
      have hcl := hL.clen (List.mem_of_getElem? hx)
      have hco := hL.code x (List.mem_of_getElem? hx)
      have HX := Lib.hid hx
      have HCo := Lib.hid hco.1
      have hn1 := hco.2.1.1
      have hn2 := hco.2.1.2
      unfold maxLen at hn2
      clear hx hco hL
      obtain ⟨⟨xA, xn, xk⟩, code⟩ := x
      have e1 : (j : Int) < tn := by omega
      have e0 : (0 : Int) ≤ j := by omega
      have hta' : tA = some ⟨tb, to', none⟩ := hta
      subst hta'
      clear hta
      dsimp only at hcl hn1 hn2 htc
      by_cases h10 : xn ≤ 10
      case neg =>
        have b1 : decide (10 < (xn : Int)) = true := by simp; omega
        have b2 : 10 < (xn : Int) := by omega
        have HE := Lib.hid ((th_no (l := ⟨wA, wn, wk, ws, some ⟨tb, to', none⟩, tn, tk, th⟩) HX.out (by unfold okTh; simp [h10])))
        go_wp2_with fail
        go_ret
        exact ⟨by rw [HE.out]; rfl, HW.out⟩
      have b1 : decide (10 < (xn : Int)) = false := by simp; omega
      have b2 : ¬ 10 < (xn : Int) := by omega
      have HCl := Lib.hid hcl
      clear hcl
      obtain ⟨wo, rfl⟩ : ∃ wo : World, wo = wr := ⟨_, rfl⟩
      obtain ⟨go, rfl⟩ : ∃ go : Nat, go = gk := ⟨_, rfl⟩
      have htb2 : tb < wo.heap.size := by have := HW.out.size; omega
      go_wp2_with fail
      clear b1 b2 q1 htc
      go_loopg [4] xn (fun gk i w' => ∃ q : Nat, q + gk = xn ∧ i = .int .i64 q ∧ Hid (Blk w' w.heap.size 101 (litL ⟨wA, wn, wk, ws, some ⟨tb, to', none⟩, tn, tk, th⟩)) ∧ Hid (Below w.heap.size w w') ∧ Hid ((code.take q).all (okIns wn) = true))
      case atStart => exact ⟨0, by omega, rfl, HB, HW, rfl⟩
      case round =>
        obtain ⟨q, hq, rfl, HB2, HW2, HQ⟩ := hrel
        have hL2 := HL.out.keep HW2.out
        have q0 := HB2.out.cell (i := 0) (v := .slice wA wn wk) rfl
        have q1 := HB2.out.cell (i := 1) (v := .slice (some ⟨tb, to', none⟩) tn tk) rfl
        have htc : wr.cell? ⟨tb, to' + j, none⟩ = some (.slice xA xn xk) := by
          obtain ⟨b9, o9, h1, _, h3⟩ := hL2.head HX.out
          injection h1 with h1
          injection h1 with h1 h2
          subst h1 h2
          exact h3
        by_cases hq8 : q < xn
        · obtain ⟨y, hy⟩ := at_lt (show q < code.length by rw [HCl.out]; exact hq8)
          obtain ⟨cb, co, hca, hcb, hc⟩ := ins_cell (hL2.code _ (List.mem_of_getElem? HX.out)).1 hy
          have HY := Lib.hid hy
          have hca' : xA = some ⟨cb, co, none⟩ := hca
          subst hca'
          have c0 := hc.c0
          have c1 := hc.c1
          have c2 := hc.c2
          have c3 := hc.c3
          have c4 := hc.c4
          have c5 := hc.c5
          have c6 := hc.c6
          have f1 : (q : Int) < xn := by omega
          have f0 : (0 : Int) ≤ q := by omega
          obtain ⟨v, hv⟩ : ∃ v, okIns wn y = v := ⟨_, rfl⟩
          have HFi : Hid (∀ W, Calls Try.prog 92 #[insV y, .int .i64 wn] W (BoolR v W)) := fun W => by
            rw [← hv]
            exact rfits_any y wn W
          have HVv := Lib.hid hv
          clear hy hc hca hL2 hv
          go_upto_region 11 with fail
          go_still_tail 11, (by kernel_rfl)
          change wpList _ _ _ _ _ wr.drew
          have HB3 : Hid (Blk wr.drew w.heap.size 101 (litL ⟨wA, wn, wk, ws, some ⟨tb, to', none⟩, tn, tk, th⟩)) := HB2.out
          have HW3 : Hid (Below w.heap.size w wr.drew) := HW2.out.drew
          clear q0 q1 htc c0 c1 c2 c3 c4 c5 c6 HB2 HW2
          generalize wr.drew = w3 at HB3 HW3 ⊢
          go_wp2_with fail
          refine (HFi.out _).mono ?_
          rintro e w4 ⟨rfl, hb4⟩
          have HB4 := Lib.hid (HB3.out.below hb4 HB3.out.lt)
          have HW4 := Lib.hid (HW3.out.trans (hb4.mono HW3.out.size))
          clear hb4 HB3 HW3 HFi
          cases v
          case false =>
            have HE := Lib.hid ((th_no (l := ⟨wA, wn, wk, ws, some ⟨tb, to', none⟩, tn, tk, th⟩) HX.out (by
              unfold okTh
              rw [Bool.and_eq_false_iff]
              right
              rw [List.all_eq_false]
              exact ⟨y, List.mem_of_getElem? HY.out, by rw [HVv.out]; decide⟩)))
            go_wp2_with fail
            go_ret
            exact ⟨by rw [HE.out]; rfl, HW4.out⟩
          go_wp2_with fail
          go_roundg (gk - 1)
          case measure => omega
          case rel => exact ⟨q + 1, by omega, by go_num, HB4, HW4, all_snoc HY.out HQ.out HVv.out⟩
        · obtain rfl : q = xn := by omega
          have HQ' : Hid (okTh wn ((xA, q, xk), code) = true) := by
            have h9 := HQ.out
            rw [List.take_of_length_le (by rw [HCl.out]; exact Nat.le_refl _)] at h9
            show (decide (q ≤ 10) && code.all (okIns wn)) = true
            rw [h9]
            simp [h10]
          go_wp2_with fail
          go_roundg (go - 1)
          case measure => omega
          case rel => exact ⟨j + 1, by omega, by go_num, HB2, HW2, all_snoc HX.out HA.out HQ'.out⟩
    · obtain hje : j = tn := by omega
      have HE := Lib.hid (HOk.out (by
        have h9 := HA.out
        rwa [List.take_of_length_le (by rw [HT.out, hje]; exact Nat.le_refl _)] at h9))
      subst hje
      go_wp2_with fail
      go_ret
      exact ⟨by rw [HE.out]; rfl, HW.out⟩
end Go.Proofs.Ytgbopmgeicokoaa
