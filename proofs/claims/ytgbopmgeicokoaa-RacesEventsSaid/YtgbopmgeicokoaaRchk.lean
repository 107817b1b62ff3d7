/-
  reclaimref19.fits.
-/
import Derived.Test.YtgbopmgeicokoaaTchk
namespace Go.Proofs.Ytgbopmgeicokoaa
open Go.RowKit

set_option maxRecDepth 100000 in
set_option maxHeartbeats 8000000 in
theorem rfits_any (x : Ins) (n : Nat) (w : World) : Calls Try.prog 92 #[insV x, .int .i64 n] w (BoolR (okIns n x) w) := by
  obtain ⟨kd, rg, ad, vl, sr, od, ct⟩ := x
  have HW0 : Hid (Below w.heap.size w (w.alloc (.cells #[.int .i64 kd, .int .i64 rg, .int .i64 ad, .int .i64 vl, .int .i64 sr, .int .i64 od, .int .i64 ct] 204))) := (Below.refl _ _).alloc (Nat.le_refl _) _
  have hkk : kd = 1 ∨ kd = 2 ∨ kd = 3 ∨ kd = 4 ∨ kd = 5 ∨ kd = 6 ∨ kd = 7 ∨ kd < 1 ∨ 7 < kd := by omega
  rcases hkk with rfl | rfl | rfl | rfl | rfl | rfl | rfl | hn | hn
  · have hr3 : rg < 0 ∨ 4 ≤ rg ∨ (0 ≤ rg ∧ rg < 4) := by omega
    rcases hr3 with hr | hr | hr
    · have p0 : rg < 0 := by omega
      have q0 : decide (rg < 0) = true := by simp only [decide_eq_true_eq]; omega
      have HV := Lib.hid (show okIns n ⟨1, rg, ad, vl, sr, od, ct⟩ = false by
        simp only [okIns, regB, adrB]
        simp
        try (intros; omega))
      clear hr
      go_enter Try.func92, Try.ntmps92
      go_wp2_with fail
      go_ret
      exact ⟨by rw [HV.out]; rfl, HW0.out⟩
    · have p0 : ¬ (rg < 0) := by omega
      have q0 : decide (rg < 0) = false := by simp only [decide_eq_false_iff_not]; omega
      have p1 : 4 ≤ rg := by omega
      have q1 : decide (4 ≤ rg) = true := by simp only [decide_eq_true_eq]; omega
      have HV := Lib.hid (show okIns n ⟨1, rg, ad, vl, sr, od, ct⟩ = false by
        simp only [okIns, regB, adrB]
        simp
        try (intros; omega))
      clear hr
      go_enter Try.func92, Try.ntmps92
      go_wp2_with fail
      go_ret
      exact ⟨by rw [HV.out]; rfl, HW0.out⟩
    · have ha3 : ad < 0 ∨ (n : Int) ≤ ad ∨ (0 ≤ ad ∧ ad < n) := by omega
      rcases ha3 with ha | ha | ha
      · have p0 : ¬ (rg < 0) := by omega
        have q0 : decide (rg < 0) = false := by simp only [decide_eq_false_iff_not]; omega
        have p1 : ¬ (4 ≤ rg) := by omega
        have q1 : decide (4 ≤ rg) = false := by simp only [decide_eq_false_iff_not]; omega
        have p2 : ad < 0 := by omega
        have q2 : decide (ad < 0) = true := by simp only [decide_eq_true_eq]; omega
        have HV := Lib.hid (show okIns n ⟨1, rg, ad, vl, sr, od, ct⟩ = false by
          simp only [okIns, regB, adrB]
          simp
          try (intros; omega))
        clear hr ha
        go_enter Try.func92, Try.ntmps92
        go_wp2_with fail
        go_ret
        exact ⟨by rw [HV.out]; rfl, HW0.out⟩
      · have p0 : ¬ (rg < 0) := by omega
        have q0 : decide (rg < 0) = false := by simp only [decide_eq_false_iff_not]; omega
        have p1 : ¬ (4 ≤ rg) := by omega
        have q1 : decide (4 ≤ rg) = false := by simp only [decide_eq_false_iff_not]; omega
        have p2 : ¬ (ad < 0) := by omega
        have q2 : decide (ad < 0) = false := by simp only [decide_eq_false_iff_not]; omega
        have p3 : (n : Int) ≤ ad := by omega
        have q3 : decide ((n : Int) ≤ ad) = true := by simp only [decide_eq_true_eq]; omega
        have HV := Lib.hid (show okIns n ⟨1, rg, ad, vl, sr, od, ct⟩ = false by
          simp only [okIns, regB, adrB]
          simp
          try (intros; omega))
        clear hr ha
        go_enter Try.func92, Try.ntmps92
        go_wp2_with fail
        go_ret
        exact ⟨by rw [HV.out]; rfl, HW0.out⟩
      · have p0 : ¬ (rg < 0) := by omega
        have q0 : decide (rg < 0) = false := by simp only [decide_eq_false_iff_not]; omega
        have p1 : ¬ (4 ≤ rg) := by omega
        have q1 : decide (4 ≤ rg) = false := by simp only [decide_eq_false_iff_not]; omega
        have p2 : ¬ (ad < 0) := by omega
        have q2 : decide (ad < 0) = false := by simp only [decide_eq_false_iff_not]; omega
        have p3 : ¬ ((n : Int) ≤ ad) := by omega
        have q3 : decide ((n : Int) ≤ ad) = false := by simp only [decide_eq_false_iff_not]; omega
        have HV := Lib.hid (show okIns n ⟨1, rg, ad, vl, sr, od, ct⟩ = true by
          simp only [okIns, regB, adrB]
          simp
          try (intros; omega))
        clear hr ha
        go_enter Try.func92, Try.ntmps92
        go_wp2_with fail
        go_ret
        exact ⟨by rw [HV.out]; rfl, HW0.out⟩
  · have ha3 : ad < 0 ∨ (n : Int) ≤ ad ∨ (0 ≤ ad ∧ ad < n) := by omega
    rcases ha3 with ha | ha | ha
    · have p0 : ad < 0 := by omega
      have q0 : decide (ad < 0) = true := by simp only [decide_eq_true_eq]; omega
      have HV := Lib.hid (show okIns n ⟨2, rg, ad, vl, sr, od, ct⟩ = false by
        simp only [okIns, regB, adrB]
        simp
        try (intros; omega))
      clear ha
      go_enter Try.func92, Try.ntmps92
      go_wp2_with fail
      go_ret
      exact ⟨by rw [HV.out]; rfl, HW0.out⟩
    · have p0 : ¬ (ad < 0) := by omega
      have q0 : decide (ad < 0) = false := by simp only [decide_eq_false_iff_not]; omega
      have p1 : (n : Int) ≤ ad := by omega
      have q1 : decide ((n : Int) ≤ ad) = true := by simp only [decide_eq_true_eq]; omega
      have HV := Lib.hid (show okIns n ⟨2, rg, ad, vl, sr, od, ct⟩ = false by
        simp only [okIns, regB, adrB]
        simp
        try (intros; omega))
      clear ha
      go_enter Try.func92, Try.ntmps92
      go_wp2_with fail
      go_ret
      exact ⟨by rw [HV.out]; rfl, HW0.out⟩
    · have hs3 : sr < -1 ∨ 4 ≤ sr ∨ (-1 ≤ sr ∧ sr < 4) := by omega
      rcases hs3 with hs | hs | hs
      · have p0 : ¬ (ad < 0) := by omega
        have q0 : decide (ad < 0) = false := by simp only [decide_eq_false_iff_not]; omega
        have p1 : ¬ ((n : Int) ≤ ad) := by omega
        have q1 : decide ((n : Int) ≤ ad) = false := by simp only [decide_eq_false_iff_not]; omega
        have p2 : sr < -1 := by omega
        have q2 : decide (sr < -1) = true := by simp only [decide_eq_true_eq]; omega
        have HV := Lib.hid (show okIns n ⟨2, rg, ad, vl, sr, od, ct⟩ = false by
          simp only [okIns, regB, adrB]
          simp
          try (intros; omega))
        clear ha hs
        go_enter Try.func92, Try.ntmps92
        go_wp2_with fail
        go_ret
        exact ⟨by rw [HV.out]; rfl, HW0.out⟩
      · have p0 : ¬ (ad < 0) := by omega
        have q0 : decide (ad < 0) = false := by simp only [decide_eq_false_iff_not]; omega
        have p1 : ¬ ((n : Int) ≤ ad) := by omega
        have q1 : decide ((n : Int) ≤ ad) = false := by simp only [decide_eq_false_iff_not]; omega
        have p2 : ¬ (sr < -1) := by omega
        have q2 : decide (sr < -1) = false := by simp only [decide_eq_false_iff_not]; omega
        have p3 : 4 ≤ sr := by omega
        have q3 : decide (4 ≤ sr) = true := by simp only [decide_eq_true_eq]; omega
        have HV := Lib.hid (show okIns n ⟨2, rg, ad, vl, sr, od, ct⟩ = false by
          simp only [okIns, regB, adrB]
          simp
          try (intros; omega))
        clear ha hs
        go_enter Try.func92, Try.ntmps92
        go_wp2_with fail
        go_ret
        exact ⟨by rw [HV.out]; rfl, HW0.out⟩
      · have p0 : ¬ (ad < 0) := by omega
        have q0 : decide (ad < 0) = false := by simp only [decide_eq_false_iff_not]; omega
        have p1 : ¬ ((n : Int) ≤ ad) := by omega
        have q1 : decide ((n : Int) ≤ ad) = false := by simp only [decide_eq_false_iff_not]; omega
        have p2 : ¬ (sr < -1) := by omega
        have q2 : decide (sr < -1) = false := by simp only [decide_eq_false_iff_not]; omega
        have p3 : ¬ (4 ≤ sr) := by omega
        have q3 : decide (4 ≤ sr) = false := by simp only [decide_eq_false_iff_not]; omega
        have HV := Lib.hid (show okIns n ⟨2, rg, ad, vl, sr, od, ct⟩ = true by
          simp only [okIns, regB, adrB]
          simp
          try (intros; omega))
        clear ha hs
        go_enter Try.func92, Try.ntmps92
        go_wp2_with fail
        go_ret
        exact ⟨by rw [HV.out]; rfl, HW0.out⟩
  · have hr3 : rg < 0 ∨ 4 ≤ rg ∨ (0 ≤ rg ∧ rg < 4) := by omega
    rcases hr3 with hr | hr | hr
    · have p0 : rg < 0 := by omega
      have q0 : decide (rg < 0) = true := by simp only [decide_eq_true_eq]; omega
      have HV := Lib.hid (show okIns n ⟨3, rg, ad, vl, sr, od, ct⟩ = false by
        simp only [okIns, regB, adrB]
        simp
        try (intros; omega))
      clear hr
      go_enter Try.func92, Try.ntmps92
      go_wp2_with fail
      go_ret
      exact ⟨by rw [HV.out]; rfl, HW0.out⟩
    · have p0 : ¬ (rg < 0) := by omega
      have q0 : decide (rg < 0) = false := by simp only [decide_eq_false_iff_not]; omega
      have p1 : 4 ≤ rg := by omega
      have q1 : decide (4 ≤ rg) = true := by simp only [decide_eq_true_eq]; omega
      have HV := Lib.hid (show okIns n ⟨3, rg, ad, vl, sr, od, ct⟩ = false by
        simp only [okIns, regB, adrB]
        simp
        try (intros; omega))
      clear hr
      go_enter Try.func92, Try.ntmps92
      go_wp2_with fail
      go_ret
      exact ⟨by rw [HV.out]; rfl, HW0.out⟩
    · have ha3 : ad < 0 ∨ (n : Int) ≤ ad ∨ (0 ≤ ad ∧ ad < n) := by omega
      rcases ha3 with ha | ha | ha
      · have p0 : ¬ (rg < 0) := by omega
        have q0 : decide (rg < 0) = false := by simp only [decide_eq_false_iff_not]; omega
        have p1 : ¬ (4 ≤ rg) := by omega
        have q1 : decide (4 ≤ rg) = false := by simp only [decide_eq_false_iff_not]; omega
        have p2 : ad < 0 := by omega
        have q2 : decide (ad < 0) = true := by simp only [decide_eq_true_eq]; omega
        have HV := Lib.hid (show okIns n ⟨3, rg, ad, vl, sr, od, ct⟩ = false by
          simp only [okIns, regB, adrB]
          simp
          try (intros; omega))
        clear hr ha
        go_enter Try.func92, Try.ntmps92
        go_wp2_with fail
        go_ret
        exact ⟨by rw [HV.out]; rfl, HW0.out⟩
      · have p0 : ¬ (rg < 0) := by omega
        have q0 : decide (rg < 0) = false := by simp only [decide_eq_false_iff_not]; omega
        have p1 : ¬ (4 ≤ rg) := by omega
        have q1 : decide (4 ≤ rg) = false := by simp only [decide_eq_false_iff_not]; omega
        have p2 : ¬ (ad < 0) := by omega
        have q2 : decide (ad < 0) = false := by simp only [decide_eq_false_iff_not]; omega
        have p3 : (n : Int) ≤ ad := by omega
        have q3 : decide ((n : Int) ≤ ad) = true := by simp only [decide_eq_true_eq]; omega
        have HV := Lib.hid (show okIns n ⟨3, rg, ad, vl, sr, od, ct⟩ = false by
          simp only [okIns, regB, adrB]
          simp
          try (intros; omega))
        clear hr ha
        go_enter Try.func92, Try.ntmps92
        go_wp2_with fail
        go_ret
        exact ⟨by rw [HV.out]; rfl, HW0.out⟩
      · have p0 : ¬ (rg < 0) := by omega
        have q0 : decide (rg < 0) = false := by simp only [decide_eq_false_iff_not]; omega
        have p1 : ¬ (4 ≤ rg) := by omega
        have q1 : decide (4 ≤ rg) = false := by simp only [decide_eq_false_iff_not]; omega
        have p2 : ¬ (ad < 0) := by omega
        have q2 : decide (ad < 0) = false := by simp only [decide_eq_false_iff_not]; omega
        have p3 : ¬ ((n : Int) ≤ ad) := by omega
        have q3 : decide ((n : Int) ≤ ad) = false := by simp only [decide_eq_false_iff_not]; omega
        have HV := Lib.hid (show okIns n ⟨3, rg, ad, vl, sr, od, ct⟩ = true by
          simp only [okIns, regB, adrB]
          simp
          try (intros; omega))
        clear hr ha
        go_enter Try.func92, Try.ntmps92
        go_wp2_with fail
        go_ret
        exact ⟨by rw [HV.out]; rfl, HW0.out⟩
  · have HV := Lib.hid (show okIns n ⟨4, rg, ad, vl, sr, od, ct⟩ = true by
      simp only [okIns, regB, adrB]
      simp
      try (intros; omega))
    skip
    go_enter Try.func92, Try.ntmps92
    go_wp2_with fail
    go_ret
    exact ⟨by rw [HV.out]; rfl, HW0.out⟩
  · have hr3 : rg < 0 ∨ 4 ≤ rg ∨ (0 ≤ rg ∧ rg < 4) := by omega
    rcases hr3 with hr | hr | hr
    · have p0 : rg < 0 := by omega
      have q0 : decide (rg < 0) = true := by simp only [decide_eq_true_eq]; omega
      have HV := Lib.hid (show okIns n ⟨5, rg, ad, vl, sr, od, ct⟩ = false by
        simp only [okIns, regB, adrB]
        simp
        try (intros; omega))
      clear hr
      go_enter Try.func92, Try.ntmps92
      go_wp2_with fail
      go_ret
      exact ⟨by rw [HV.out]; rfl, HW0.out⟩
    · have p0 : ¬ (rg < 0) := by omega
      have q0 : decide (rg < 0) = false := by simp only [decide_eq_false_iff_not]; omega
      have p1 : 4 ≤ rg := by omega
      have q1 : decide (4 ≤ rg) = true := by simp only [decide_eq_true_eq]; omega
      have HV := Lib.hid (show okIns n ⟨5, rg, ad, vl, sr, od, ct⟩ = false by
        simp only [okIns, regB, adrB]
        simp
        try (intros; omega))
      clear hr
      go_enter Try.func92, Try.ntmps92
      go_wp2_with fail
      go_ret
      exact ⟨by rw [HV.out]; rfl, HW0.out⟩
    · have p0 : ¬ (rg < 0) := by omega
      have q0 : decide (rg < 0) = false := by simp only [decide_eq_false_iff_not]; omega
      have p1 : ¬ (4 ≤ rg) := by omega
      have q1 : decide (4 ≤ rg) = false := by simp only [decide_eq_false_iff_not]; omega
      have HV := Lib.hid (show okIns n ⟨5, rg, ad, vl, sr, od, ct⟩ = true by
        simp only [okIns, regB, adrB]
        simp
        try (intros; omega))
      clear hr
      go_enter Try.func92, Try.ntmps92
      go_wp2_with fail
      go_ret
      exact ⟨by rw [HV.out]; rfl, HW0.out⟩
  · have hr3 : rg < 0 ∨ 4 ≤ rg ∨ (0 ≤ rg ∧ rg < 4) := by omega
    rcases hr3 with hr | hr | hr
    · have p0 : rg < 0 := by omega
      have q0 : decide (rg < 0) = true := by simp only [decide_eq_true_eq]; omega
      have HV := Lib.hid (show okIns n ⟨6, rg, ad, vl, sr, od, ct⟩ = false by
        simp only [okIns, regB, adrB]
        simp
        try (intros; omega))
      clear hr
      go_enter Try.func92, Try.ntmps92
      go_wp2_with fail
      go_ret
      exact ⟨by rw [HV.out]; rfl, HW0.out⟩
    · have p0 : ¬ (rg < 0) := by omega
      have q0 : decide (rg < 0) = false := by simp only [decide_eq_false_iff_not]; omega
      have p1 : 4 ≤ rg := by omega
      have q1 : decide (4 ≤ rg) = true := by simp only [decide_eq_true_eq]; omega
      have HV := Lib.hid (show okIns n ⟨6, rg, ad, vl, sr, od, ct⟩ = false by
        simp only [okIns, regB, adrB]
        simp
        try (intros; omega))
      clear hr
      go_enter Try.func92, Try.ntmps92
      go_wp2_with fail
      go_ret
      exact ⟨by rw [HV.out]; rfl, HW0.out⟩
    · have p0 : ¬ (rg < 0) := by omega
      have q0 : decide (rg < 0) = false := by simp only [decide_eq_false_iff_not]; omega
      have p1 : ¬ (4 ≤ rg) := by omega
      have q1 : decide (4 ≤ rg) = false := by simp only [decide_eq_false_iff_not]; omega
      have HV := Lib.hid (show okIns n ⟨6, rg, ad, vl, sr, od, ct⟩ = true by
        simp only [okIns, regB, adrB]
        simp
        try (intros; omega))
      clear hr
      go_enter Try.func92, Try.ntmps92
      go_wp2_with fail
      go_ret
      exact ⟨by rw [HV.out]; rfl, HW0.out⟩
  · have hr3 : rg < 0 ∨ 4 ≤ rg ∨ (0 ≤ rg ∧ rg < 4) := by omega
    rcases hr3 with hr | hr | hr
    · have p0 : rg < 0 := by omega
      have q0 : decide (rg < 0) = true := by simp only [decide_eq_true_eq]; omega
      have HV := Lib.hid (show okIns n ⟨7, rg, ad, vl, sr, od, ct⟩ = false by
        simp only [okIns, regB, adrB]
        simp
        try (intros; omega))
      clear hr
      go_enter Try.func92, Try.ntmps92
      go_wp2_with fail
      go_ret
      exact ⟨by rw [HV.out]; rfl, HW0.out⟩
    · have p0 : ¬ (rg < 0) := by omega
      have q0 : decide (rg < 0) = false := by simp only [decide_eq_false_iff_not]; omega
      have p1 : 4 ≤ rg := by omega
      have q1 : decide (4 ≤ rg) = true := by simp only [decide_eq_true_eq]; omega
      have HV := Lib.hid (show okIns n ⟨7, rg, ad, vl, sr, od, ct⟩ = false by
        simp only [okIns, regB, adrB]
        simp
        try (intros; omega))
      clear hr
      go_enter Try.func92, Try.ntmps92
      go_wp2_with fail
      go_ret
      exact ⟨by rw [HV.out]; rfl, HW0.out⟩
    · have hc3 : ct < 0 ∨ 10 < ct ∨ (0 ≤ ct ∧ ct ≤ 10) := by omega
      rcases hc3 with hc | hc | hc
      · have p0 : ¬ (rg < 0) := by omega
        have q0 : decide (rg < 0) = false := by simp only [decide_eq_false_iff_not]; omega
        have p1 : ¬ (4 ≤ rg) := by omega
        have q1 : decide (4 ≤ rg) = false := by simp only [decide_eq_false_iff_not]; omega
        have p2 : ¬ (0 ≤ ct) := by omega
        have q2 : decide (0 ≤ ct) = false := by simp only [decide_eq_false_iff_not]; omega
        have HV := Lib.hid (show okIns n ⟨7, rg, ad, vl, sr, od, ct⟩ = false by
          simp only [okIns, regB, adrB]
          simp
          try (intros; omega))
        clear hr hc
        go_enter Try.func92, Try.ntmps92
        go_wp2_with fail
        go_ret
        exact ⟨by rw [HV.out]; rfl, HW0.out⟩
      · have p0 : ¬ (rg < 0) := by omega
        have q0 : decide (rg < 0) = false := by simp only [decide_eq_false_iff_not]; omega
        have p1 : ¬ (4 ≤ rg) := by omega
        have q1 : decide (4 ≤ rg) = false := by simp only [decide_eq_false_iff_not]; omega
        have p2 : 0 ≤ ct := by omega
        have q2 : decide (0 ≤ ct) = true := by simp only [decide_eq_true_eq]; omega
        have p3 : ¬ (ct ≤ 10) := by omega
        have q3 : decide (ct ≤ 10) = false := by simp only [decide_eq_false_iff_not]; omega
        have HV := Lib.hid (show okIns n ⟨7, rg, ad, vl, sr, od, ct⟩ = false by
          simp only [okIns, regB, adrB]
          simp
          try (intros; omega))
        clear hr hc
        go_enter Try.func92, Try.ntmps92
        go_wp2_with fail
        go_ret
        exact ⟨by rw [HV.out]; rfl, HW0.out⟩
      · have p0 : ¬ (rg < 0) := by omega
        have q0 : decide (rg < 0) = false := by simp only [decide_eq_false_iff_not]; omega
        have p1 : ¬ (4 ≤ rg) := by omega
        have q1 : decide (4 ≤ rg) = false := by simp only [decide_eq_false_iff_not]; omega
        have p2 : 0 ≤ ct := by omega
        have q2 : decide (0 ≤ ct) = true := by simp only [decide_eq_true_eq]; omega
        have p3 : ct ≤ 10 := by omega
        have q3 : decide (ct ≤ 10) = true := by simp only [decide_eq_true_eq]; omega
        have HV := Lib.hid (show okIns n ⟨7, rg, ad, vl, sr, od, ct⟩ = true by
          simp only [okIns, regB, adrB]
          simp
          try (intros; omega))
        clear hr hc
        go_enter Try.func92, Try.ntmps92
        go_wp2_with fail
        go_ret
        exact ⟨by rw [HV.out]; rfl, HW0.out⟩
  · have p0 : kd < 1 := by omega
    have q0 : decide (kd < 1) = true := by simp only [decide_eq_true_eq]; omega
    have HV := Lib.hid (show okIns n ⟨kd, rg, ad, vl, sr, od, ct⟩ = false by
      unfold okIns
      rw [if_neg (by dsimp only; omega), if_neg (by dsimp only; omega), if_neg (by dsimp only; omega), if_neg (by dsimp only; omega), if_neg (by dsimp only; omega)])
    clear hn
    go_enter Try.func92, Try.ntmps92
    go_wp2_with fail
    go_ret
    exact ⟨by rw [HV.out]; rfl, HW0.out⟩
  · have p0 : ¬ (kd < 1) := by omega
    have q0 : decide (kd < 1) = false := by simp only [decide_eq_false_iff_not]; omega
    have p1 : 7 < kd := by omega
    have q1 : decide (7 < kd) = true := by simp only [decide_eq_true_eq]; omega
    have HV := Lib.hid (show okIns n ⟨kd, rg, ad, vl, sr, od, ct⟩ = false by
      unfold okIns
      rw [if_neg (by dsimp only; omega), if_neg (by dsimp only; omega), if_neg (by dsimp only; omega), if_neg (by dsimp only; omega), if_neg (by dsimp only; omega)])
    clear hn
    go_enter Try.func92, Try.ntmps92
    go_wp2_with fail
    go_ret
    exact ⟨by rw [HV.out]; rfl, HW0.out⟩
end Go.Proofs.Ytgbopmgeicokoaa
