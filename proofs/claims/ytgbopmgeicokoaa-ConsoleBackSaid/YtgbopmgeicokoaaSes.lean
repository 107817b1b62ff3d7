/-
  api.Session as plain data; may one be? The program's answer and the document's.
-/
import Derived.Test.YtgbopmgeicokoaaDqNew
import Derived.Test.YtgbopmgeicokoaaWConf
namespace Go.Proofs.Ytgbopmgeicokoaa
open Go.RowKit

structure Ses where
  kind : Int
  cfg : Cfg
  rt : Int
  rc : Int
  dt : Int
  dr : Int
  lt : Int
  lk : Int
  st : Int
  sv : Int
abbrev sesL (s : Ses) (m : Value) : List Value := [.int .i64 s.kind, .int .i64 s.cfg.threads, .int .i64 s.cfg.records, .int .i64 s.cfg.hazards, .int .i64 s.cfg.retire, .int .i64 s.cfg.cache, .int .i64 s.cfg.slots, .int .i64 s.cfg.buckets, .int .i64 s.rt, .int .i64 s.rc, .int .i64 s.dt, .int .i64 s.dr, .int .i64 s.lt, .int .i64 s.lk, .int .i64 s.st, .int .i64 s.sv, m]
abbrev sesV (s : Ses) (m : Value) : Value := .agg #[.int .i64 s.kind, .int .i64 s.cfg.threads, .int .i64 s.cfg.records, .int .i64 s.cfg.hazards, .int .i64 s.cfg.retire, .int .i64 s.cfg.cache, .int .i64 s.cfg.slots, .int .i64 s.cfg.buckets, .int .i64 s.rt, .int .i64 s.rc, .int .i64 s.dt, .int .i64 s.dr, .int .i64 s.lt, .int .i64 s.lk, .int .i64 s.st, .int .i64 s.sv, m]
/-- what is wrong with a configuration -/
def cfgErr (s : Ses) : Int :=
  if s.kind = 1 ∨ s.kind = 2 then (if okC s.cfg then 0 else 1)
  else if s.kind = 3 then (if rangeB s.rt s.rc 2 64 = true then 0 else 220)
  else if s.kind = 4 then (if rangeB s.dt s.dr 1 256 = true then 0 else 210)
  else if s.kind = 5 then (if rangeB s.lt s.lk 1 7 = true then 0 else 240)
  else if s.kind = 6 then (if rangeB s.st s.sv 1 64 = true then 0 else 260)
  else 280
/-- what is wrong with a session of n moves -/
def sesErr (s : Ses) (n : Nat) : Int := if cfgErr s = 0 then (if 65536 < n then 3 else 0) else cfgErr s
theorem sesErr_ok {s : Ses} {n : Nat} (h : sesErr s n = 0) : cfgErr s = 0 ∧ n ≤ 65536 := by
  unfold sesErr at h
  split at h
  · rename_i h1
    refine ⟨h1, ?_⟩
    split at h
    · cases h
    · omega
  · rename_i h1
    exact absurd h h1

set_option maxRecDepth 100000 in
set_option maxHeartbeats 4000000 in
theorem sconfig_any (s : Ses) (A : Option Addr) (n k : Nat) (w : World) : Calls Try.prog 117 #[sesV s (.slice A n k)] w (IntR (cfgErr s) w) := by
  by_cases k1 : s.kind = 1
  · have y1 : (s.kind == 1) = true := by simp [k1]
    have hv : cfgErr s = if okC s.cfg then 0 else 1 := by unfold cfgErr; rw [if_pos (by omega)]
    have HV := Lib.hid hv
    clear hv k1
    go_enter Try.func117, Try.ntmps117
    go_wp2_with fail
    refine (check_any s.cfg _).mono ?_
    rintro e w1 ⟨he, hb1⟩
    rw [← HV.out] at he
    subst he
    go_wp2_with fail
    go_ret
    exact ⟨rfl, ((Below.refl _ _).alloc (Nat.le_refl _) _).trans (hb1.mono (by simp))⟩
  have n1 : (s.kind == 1) = false := by simp [k1]
  by_cases k2 : s.kind = 2
  · have y2 : (s.kind == 2) = true := by simp [k2]
    have hv : cfgErr s = if okC s.cfg then 0 else 1 := by unfold cfgErr; rw [if_pos (by omega)]
    have HV := Lib.hid hv
    clear hv k2
    go_enter Try.func117, Try.ntmps117
    go_wp2_with fail
    refine (check_any s.cfg _).mono ?_
    rintro e w1 ⟨he, hb1⟩
    rw [← HV.out] at he
    subst he
    go_wp2_with fail
    go_ret
    exact ⟨rfl, ((Below.refl _ _).alloc (Nat.le_refl _) _).trans (hb1.mono (by simp))⟩
  have n2 : (s.kind == 2) = false := by simp [k2]
  by_cases k3 : s.kind = 3
  · have y3 : (s.kind == 3) = true := by simp [k3]
    have hv : cfgErr s = if rangeB s.rt s.rc 2 64 = true then 0 else 220 := by unfold cfgErr; rw [if_neg (by omega), if_pos (by omega)]
    have HV := Lib.hid hv
    clear hv k3
    go_enter Try.func117, Try.ntmps117
    go_wp2_with fail
    refine (ringck_any s.rt s.rc _).mono ?_
    rintro e w1 ⟨he, hb1⟩
    rw [← HV.out] at he
    subst he
    go_wp2_with fail
    go_ret
    exact ⟨rfl, ((Below.refl _ _).alloc (Nat.le_refl _) _).trans (hb1.mono (by simp))⟩
  have n3 : (s.kind == 3) = false := by simp [k3]
  by_cases k4 : s.kind = 4
  · have y4 : (s.kind == 4) = true := by simp [k4]
    have hv : cfgErr s = if rangeB s.dt s.dr 1 256 = true then 0 else 210 := by unfold cfgErr; rw [if_neg (by omega), if_neg (by omega), if_pos (by omega)]
    have HV := Lib.hid hv
    clear hv k4
    go_enter Try.func117, Try.ntmps117
    go_wp2_with fail
    refine (dqnew_any s.dt s.dr _).mono ?_
    rintro e w1 ⟨v1, y1, rfl, hy1, hb1⟩
    have HY := Lib.hid hy1
    clear hy1
    go_wp2_with fail
    go_ret
    exact ⟨by rw [HV.out, ← HY.out]; rfl, ((Below.refl _ _).alloc (Nat.le_refl _) _).trans (hb1.mono (by simp))⟩
  have n4 : (s.kind == 4) = false := by simp [k4]
  by_cases k5 : s.kind = 5
  · have y5 : (s.kind == 5) = true := by simp [k5]
    have hv : cfgErr s = if rangeB s.lt s.lk 1 7 = true then 0 else 240 := by unfold cfgErr; rw [if_neg (by omega), if_neg (by omega), if_neg (by omega), if_pos (by omega)]
    have HV := Lib.hid hv
    clear hv k5
    go_enter Try.func117, Try.ntmps117
    go_wp2_with fail
    refine (locksck_any s.lt s.lk _).mono ?_
    rintro e w1 ⟨he, hb1⟩
    rw [← HV.out] at he
    subst he
    go_wp2_with fail
    go_ret
    exact ⟨rfl, ((Below.refl _ _).alloc (Nat.le_refl _) _).trans (hb1.mono (by simp))⟩
  have n5 : (s.kind == 5) = false := by simp [k5]
  by_cases k6 : s.kind = 6
  · have y6 : (s.kind == 6) = true := by simp [k6]
    have hv : cfgErr s = if rangeB s.st s.sv 1 64 = true then 0 else 260 := by unfold cfgErr; rw [if_neg (by omega), if_neg (by omega), if_neg (by omega), if_neg (by omega), if_pos (by omega)]
    have HV := Lib.hid hv
    clear hv k6
    go_enter Try.func117, Try.ntmps117
    go_wp2_with fail
    refine (stmck_any s.st s.sv _).mono ?_
    rintro e w1 ⟨he, hb1⟩
    rw [← HV.out] at he
    subst he
    go_wp2_with fail
    go_ret
    exact ⟨rfl, ((Below.refl _ _).alloc (Nat.le_refl _) _).trans (hb1.mono (by simp))⟩
  have n6 : (s.kind == 6) = false := by simp [k6]
  have HV := Lib.hid (show cfgErr s = 280 by unfold cfgErr; rw [if_neg (by omega), if_neg k3, if_neg k4, if_neg k5, if_neg k6])
  clear k1 k2 k3 k4 k5 k6
  go_enter Try.func117, Try.ntmps117
  go_wp2_with fail
  go_ret
  exact ⟨by rw [HV.out]; rfl, (Below.refl _ _).alloc (Nat.le_refl _) _⟩

set_option maxRecDepth 100000 in
set_option maxHeartbeats 4000000 in
theorem scheck_any (s : Ses) (A : Option Addr) (n k : Nat) (w : World) : Calls Try.prog 70 #[sesV s (.slice A n k)] w (IntR (sesErr s n) w) := by
  have HB0 : Hid (Blk (w.alloc (.cells #[.int .i64 s.kind, .int .i64 s.cfg.threads, .int .i64 s.cfg.records, .int .i64 s.cfg.hazards, .int .i64 s.cfg.retire, .int .i64 s.cfg.cache, .int .i64 s.cfg.slots, .int .i64 s.cfg.buckets, .int .i64 s.rt, .int .i64 s.rc, .int .i64 s.dt, .int .i64 s.dr, .int .i64 s.lt, .int .i64 s.lk, .int .i64 s.st, .int .i64 s.sv, .slice A n k] 76)) w.heap.size 76 (sesL s (.slice A n k))) := Blk.new _ _ _
  have HW0 : Hid (Below w.heap.size w (w.alloc (.cells #[.int .i64 s.kind, .int .i64 s.cfg.threads, .int .i64 s.cfg.records, .int .i64 s.cfg.hazards, .int .i64 s.cfg.retire, .int .i64 s.cfg.cache, .int .i64 s.cfg.slots, .int .i64 s.cfg.buckets, .int .i64 s.rt, .int .i64 s.rc, .int .i64 s.dt, .int .i64 s.dr, .int .i64 s.lt, .int .i64 s.lk, .int .i64 s.st, .int .i64 s.sv, .slice A n k] 76))) := (Below.refl _ _).alloc (Nat.le_refl _) _
  go_enter Try.func70, Try.ntmps70
  go_wp2_with fail
  refine (sconfig_any s A n k _).mono ?_
  generalize w.alloc (.cells #[.int .i64 s.kind, .int .i64 s.cfg.threads, .int .i64 s.cfg.records, .int .i64 s.cfg.hazards, .int .i64 s.cfg.retire, .int .i64 s.cfg.cache, .int .i64 s.cfg.slots, .int .i64 s.cfg.buckets, .int .i64 s.rt, .int .i64 s.rc, .int .i64 s.dt, .int .i64 s.dr, .int .i64 s.lt, .int .i64 s.lk, .int .i64 s.st, .int .i64 s.sv, .slice A n k] 76) = w0 at HB0 HW0 ⊢
  rintro e w1 ⟨rfl, hb1⟩
  have HB1 := Lib.hid (HB0.out.below hb1 HB0.out.lt)
  have HF := Lib.hid (HW0.out.trans (hb1.mono HW0.out.size))
  have hs : sesErr s n = if cfgErr s = 0 then (if 65536 < n then 3 else 0) else cfgErr s := rfl
  have HS := Lib.hid hs
  clear hs hb1
  by_cases h0 : cfgErr s = 0
  · have b1 : (cfgErr s != 0) = false := by simp [h0]
    have HE := Lib.hid h0
    have c16 : w1.cell? ⟨w.heap.size, 16, none⟩ = some (.slice A n k) := HB1.out.cell rfl
    clear h0
    by_cases hn : 65536 < n
    · have d1 : decide ((65536 : Int) < n) = true := by simp; omega
      have d2 : (65536 : Int) < n := by omega
      have d3 : decide (65536 < n) = true := by simp; omega
      have HN := Lib.hid hn
      go_wp2_with fail
      go_ret
      exact ⟨by rw [HS.out, if_pos HE.out, if_pos HN.out]; rfl, HF.out⟩
    · have d1 : decide ((65536 : Int) < n) = false := by simp; omega
      have d2 : ¬ (65536 : Int) < n := by omega
      have d3 : decide (65536 < n) = false := by simp; omega
      have HN := Lib.hid hn
      go_wp2_with fail
      go_ret
      exact ⟨by rw [HS.out, if_pos HE.out, if_neg HN.out]; rfl, HF.out⟩
  · have b1 : (cfgErr s != 0) = true := by simp [h0]
    have HE := Lib.hid h0
    clear h0
    go_wp2_with fail
    go_ret
    exact ⟨by rw [HS.out, if_neg HE.out]; rfl, HF.out⟩

set_option maxRecDepth 100000 in
set_option maxHeartbeats 4000000 in
theorem rscheck_any (s : Ses) (A : Option Addr) (n k : Nat) (w : World) : Calls Try.prog 36 #[sesV s (.slice A n k)] w (IntR (sesErr s n) w) := by
  have HB0 : Hid (Blk (w.alloc (.cells #[.int .i64 s.kind, .int .i64 s.cfg.threads, .int .i64 s.cfg.records, .int .i64 s.cfg.hazards, .int .i64 s.cfg.retire, .int .i64 s.cfg.cache, .int .i64 s.cfg.slots, .int .i64 s.cfg.buckets, .int .i64 s.rt, .int .i64 s.rc, .int .i64 s.dt, .int .i64 s.dr, .int .i64 s.lt, .int .i64 s.lk, .int .i64 s.st, .int .i64 s.sv, .slice A n k] 76)) w.heap.size 76 (sesL s (.slice A n k))) := Blk.new _ _ _
  have HW0 : Hid (Below w.heap.size w (w.alloc (.cells #[.int .i64 s.kind, .int .i64 s.cfg.threads, .int .i64 s.cfg.records, .int .i64 s.cfg.hazards, .int .i64 s.cfg.retire, .int .i64 s.cfg.cache, .int .i64 s.cfg.slots, .int .i64 s.cfg.buckets, .int .i64 s.rt, .int .i64 s.rc, .int .i64 s.dt, .int .i64 s.dr, .int .i64 s.lt, .int .i64 s.lk, .int .i64 s.st, .int .i64 s.sv, .slice A n k] 76))) := (Below.refl _ _).alloc (Nat.le_refl _) _
  have HS : Hid (sesErr s n = if cfgErr s = 0 then (if 65536 < n then 3 else 0) else cfgErr s) := rfl
  by_cases k1 : s.kind = 1
  · have y1 : (s.kind == 1) = true := by simp [k1]
    have hv : cfgErr s = if okC s.cfg then 0 else 1 := by unfold cfgErr; rw [if_pos (by omega)]
    have HV := Lib.hid hv
    clear hv k1
    go_enter Try.func36, Try.ntmps36
    go_wp2_with fail
    refine (config_any s.cfg _).mono ?_
    generalize w.alloc (.cells #[.int .i64 s.kind, .int .i64 s.cfg.threads, .int .i64 s.cfg.records, .int .i64 s.cfg.hazards, .int .i64 s.cfg.retire, .int .i64 s.cfg.cache, .int .i64 s.cfg.slots, .int .i64 s.cfg.buckets, .int .i64 s.rt, .int .i64 s.rc, .int .i64 s.dt, .int .i64 s.dr, .int .i64 s.lt, .int .i64 s.lk, .int .i64 s.st, .int .i64 s.sv, .slice A n k] 76) = w0 at HB0 HW0 ⊢
    rintro e w1 ⟨rfl, hb1⟩
    have HB1 := Lib.hid (HB0.out.below hb1 HB0.out.lt)
    have HF := Lib.hid (HW0.out.trans (hb1.mono HW0.out.size))
    clear hb1
    cases hb : okC s.cfg with
    | false =>
      have HE := Lib.hid hb
      clear hb
      go_wp2_with fail
      go_ret
      exact ⟨by rw [HS.out, if_neg (by rw [HV.out, HE.out]; decide), HV.out, HE.out]; rfl, HF.out⟩
    | true =>
      have HE := Lib.hid hb
      clear hb
      have c16 : w1.cell? ⟨w.heap.size, 16, none⟩ = some (.slice A n k) := HB1.out.cell rfl
      by_cases hn : 65536 < n
      · have d1 : decide ((65536 : Int) < n) = true := by simp; omega
        have d2 : (65536 : Int) < n := by omega
        have d3 : decide (65536 < n) = true := by simp; omega
        have HN := Lib.hid hn
        go_wp2_with fail
        go_ret
        exact ⟨by rw [HS.out, if_pos (by rw [HV.out, HE.out]; rfl), if_pos HN.out]; rfl, HF.out⟩
      · have d1 : decide ((65536 : Int) < n) = false := by simp; omega
        have d2 : ¬ (65536 : Int) < n := by omega
        have d3 : decide (65536 < n) = false := by simp; omega
        have HN := Lib.hid hn
        go_wp2_with fail
        go_ret
        exact ⟨by rw [HS.out, if_pos (by rw [HV.out, HE.out]; rfl), if_neg HN.out]; rfl, HF.out⟩
  have n1 : (s.kind == 1) = false := by simp [k1]
  by_cases k2 : s.kind = 2
  · have y2 : (s.kind == 2) = true := by simp [k2]
    have hv : cfgErr s = if okC s.cfg then 0 else 1 := by unfold cfgErr; rw [if_pos (by omega)]
    have HV := Lib.hid hv
    clear hv k2
    go_enter Try.func36, Try.ntmps36
    go_wp2_with fail
    refine (config_any s.cfg _).mono ?_
    generalize w.alloc (.cells #[.int .i64 s.kind, .int .i64 s.cfg.threads, .int .i64 s.cfg.records, .int .i64 s.cfg.hazards, .int .i64 s.cfg.retire, .int .i64 s.cfg.cache, .int .i64 s.cfg.slots, .int .i64 s.cfg.buckets, .int .i64 s.rt, .int .i64 s.rc, .int .i64 s.dt, .int .i64 s.dr, .int .i64 s.lt, .int .i64 s.lk, .int .i64 s.st, .int .i64 s.sv, .slice A n k] 76) = w0 at HB0 HW0 ⊢
    rintro e w1 ⟨rfl, hb1⟩
    have HB1 := Lib.hid (HB0.out.below hb1 HB0.out.lt)
    have HF := Lib.hid (HW0.out.trans (hb1.mono HW0.out.size))
    clear hb1
    cases hb : okC s.cfg with
    | false =>
      have HE := Lib.hid hb
      clear hb
      go_wp2_with fail
      go_ret
      exact ⟨by rw [HS.out, if_neg (by rw [HV.out, HE.out]; decide), HV.out, HE.out]; rfl, HF.out⟩
    | true =>
      have HE := Lib.hid hb
      clear hb
      have c16 : w1.cell? ⟨w.heap.size, 16, none⟩ = some (.slice A n k) := HB1.out.cell rfl
      by_cases hn : 65536 < n
      · have d1 : decide ((65536 : Int) < n) = true := by simp; omega
        have d2 : (65536 : Int) < n := by omega
        have d3 : decide (65536 < n) = true := by simp; omega
        have HN := Lib.hid hn
        go_wp2_with fail
        go_ret
        exact ⟨by rw [HS.out, if_pos (by rw [HV.out, HE.out]; rfl), if_pos HN.out]; rfl, HF.out⟩
      · have d1 : decide ((65536 : Int) < n) = false := by simp; omega
        have d2 : ¬ (65536 : Int) < n := by omega
        have d3 : decide (65536 < n) = false := by simp; omega
        have HN := Lib.hid hn
        go_wp2_with fail
        go_ret
        exact ⟨by rw [HS.out, if_pos (by rw [HV.out, HE.out]; rfl), if_neg HN.out]; rfl, HF.out⟩
  have n2 : (s.kind == 2) = false := by simp [k2]
  by_cases k3 : s.kind = 3
  · have y3 : (s.kind == 3) = true := by simp [k3]
    have hv : cfgErr s = if rangeB s.rt s.rc 2 64 = true then 0 else 220 := by unfold cfgErr; rw [if_neg (by omega), if_pos (by omega)]
    have HV := Lib.hid hv
    clear hv k3
    go_enter Try.func36, Try.ntmps36
    go_wp2_with fail
    refine (rring_any s.rt s.rc _).mono ?_
    generalize w.alloc (.cells #[.int .i64 s.kind, .int .i64 s.cfg.threads, .int .i64 s.cfg.records, .int .i64 s.cfg.hazards, .int .i64 s.cfg.retire, .int .i64 s.cfg.cache, .int .i64 s.cfg.slots, .int .i64 s.cfg.buckets, .int .i64 s.rt, .int .i64 s.rc, .int .i64 s.dt, .int .i64 s.dr, .int .i64 s.lt, .int .i64 s.lk, .int .i64 s.st, .int .i64 s.sv, .slice A n k] 76) = w0 at HB0 HW0 ⊢
    rintro e w1 ⟨rfl, hb1⟩
    have HB1 := Lib.hid (HB0.out.below hb1 HB0.out.lt)
    have HF := Lib.hid (HW0.out.trans (hb1.mono HW0.out.size))
    clear hb1
    cases hb : rangeB s.rt s.rc 2 64 with
    | false =>
      have HE := Lib.hid hb
      clear hb
      go_wp2_with fail
      go_ret
      exact ⟨by rw [HS.out, if_neg (by rw [HV.out, HE.out]; decide), HV.out, HE.out]; rfl, HF.out⟩
    | true =>
      have HE := Lib.hid hb
      clear hb
      have c16 : w1.cell? ⟨w.heap.size, 16, none⟩ = some (.slice A n k) := HB1.out.cell rfl
      by_cases hn : 65536 < n
      · have d1 : decide ((65536 : Int) < n) = true := by simp; omega
        have d2 : (65536 : Int) < n := by omega
        have d3 : decide (65536 < n) = true := by simp; omega
        have HN := Lib.hid hn
        go_wp2_with fail
        go_ret
        exact ⟨by rw [HS.out, if_pos (by rw [HV.out, HE.out]; rfl), if_pos HN.out]; rfl, HF.out⟩
      · have d1 : decide ((65536 : Int) < n) = false := by simp; omega
        have d2 : ¬ (65536 : Int) < n := by omega
        have d3 : decide (65536 < n) = false := by simp; omega
        have HN := Lib.hid hn
        go_wp2_with fail
        go_ret
        exact ⟨by rw [HS.out, if_pos (by rw [HV.out, HE.out]; rfl), if_neg HN.out]; rfl, HF.out⟩
  have n3 : (s.kind == 3) = false := by simp [k3]
  by_cases k4 : s.kind = 4
  · have y4 : (s.kind == 4) = true := by simp [k4]
    have hv : cfgErr s = if rangeB s.dt s.dr 1 256 = true then 0 else 210 := by unfold cfgErr; rw [if_neg (by omega), if_neg (by omega), if_pos (by omega)]
    have HV := Lib.hid hv
    clear hv k4
    go_enter Try.func36, Try.ntmps36
    go_wp2_with fail
    refine (rdeque_any s.dt s.dr _).mono ?_
    generalize w.alloc (.cells #[.int .i64 s.kind, .int .i64 s.cfg.threads, .int .i64 s.cfg.records, .int .i64 s.cfg.hazards, .int .i64 s.cfg.retire, .int .i64 s.cfg.cache, .int .i64 s.cfg.slots, .int .i64 s.cfg.buckets, .int .i64 s.rt, .int .i64 s.rc, .int .i64 s.dt, .int .i64 s.dr, .int .i64 s.lt, .int .i64 s.lk, .int .i64 s.st, .int .i64 s.sv, .slice A n k] 76) = w0 at HB0 HW0 ⊢
    rintro e w1 ⟨rfl, hb1⟩
    have HB1 := Lib.hid (HB0.out.below hb1 HB0.out.lt)
    have HF := Lib.hid (HW0.out.trans (hb1.mono HW0.out.size))
    clear hb1
    cases hb : rangeB s.dt s.dr 1 256 with
    | false =>
      have HE := Lib.hid hb
      clear hb
      go_wp2_with fail
      go_ret
      exact ⟨by rw [HS.out, if_neg (by rw [HV.out, HE.out]; decide), HV.out, HE.out]; rfl, HF.out⟩
    | true =>
      have HE := Lib.hid hb
      clear hb
      have c16 : w1.cell? ⟨w.heap.size, 16, none⟩ = some (.slice A n k) := HB1.out.cell rfl
      by_cases hn : 65536 < n
      · have d1 : decide ((65536 : Int) < n) = true := by simp; omega
        have d2 : (65536 : Int) < n := by omega
        have d3 : decide (65536 < n) = true := by simp; omega
        have HN := Lib.hid hn
        go_wp2_with fail
        go_ret
        exact ⟨by rw [HS.out, if_pos (by rw [HV.out, HE.out]; rfl), if_pos HN.out]; rfl, HF.out⟩
      · have d1 : decide ((65536 : Int) < n) = false := by simp; omega
        have d2 : ¬ (65536 : Int) < n := by omega
        have d3 : decide (65536 < n) = false := by simp; omega
        have HN := Lib.hid hn
        go_wp2_with fail
        go_ret
        exact ⟨by rw [HS.out, if_pos (by rw [HV.out, HE.out]; rfl), if_neg HN.out]; rfl, HF.out⟩
  have n4 : (s.kind == 4) = false := by simp [k4]
  by_cases k5 : s.kind = 5
  · have y5 : (s.kind == 5) = true := by simp [k5]
    have hv : cfgErr s = if rangeB s.lt s.lk 1 7 = true then 0 else 240 := by unfold cfgErr; rw [if_neg (by omega), if_neg (by omega), if_neg (by omega), if_pos (by omega)]
    have HV := Lib.hid hv
    clear hv k5
    go_enter Try.func36, Try.ntmps36
    go_wp2_with fail
    refine (rlocks_any s.lt s.lk _).mono ?_
    generalize w.alloc (.cells #[.int .i64 s.kind, .int .i64 s.cfg.threads, .int .i64 s.cfg.records, .int .i64 s.cfg.hazards, .int .i64 s.cfg.retire, .int .i64 s.cfg.cache, .int .i64 s.cfg.slots, .int .i64 s.cfg.buckets, .int .i64 s.rt, .int .i64 s.rc, .int .i64 s.dt, .int .i64 s.dr, .int .i64 s.lt, .int .i64 s.lk, .int .i64 s.st, .int .i64 s.sv, .slice A n k] 76) = w0 at HB0 HW0 ⊢
    rintro e w1 ⟨rfl, hb1⟩
    have HB1 := Lib.hid (HB0.out.below hb1 HB0.out.lt)
    have HF := Lib.hid (HW0.out.trans (hb1.mono HW0.out.size))
    clear hb1
    cases hb : rangeB s.lt s.lk 1 7 with
    | false =>
      have HE := Lib.hid hb
      clear hb
      go_wp2_with fail
      go_ret
      exact ⟨by rw [HS.out, if_neg (by rw [HV.out, HE.out]; decide), HV.out, HE.out]; rfl, HF.out⟩
    | true =>
      have HE := Lib.hid hb
      clear hb
      have c16 : w1.cell? ⟨w.heap.size, 16, none⟩ = some (.slice A n k) := HB1.out.cell rfl
      by_cases hn : 65536 < n
      · have d1 : decide ((65536 : Int) < n) = true := by simp; omega
        have d2 : (65536 : Int) < n := by omega
        have d3 : decide (65536 < n) = true := by simp; omega
        have HN := Lib.hid hn
        go_wp2_with fail
        go_ret
        exact ⟨by rw [HS.out, if_pos (by rw [HV.out, HE.out]; rfl), if_pos HN.out]; rfl, HF.out⟩
      · have d1 : decide ((65536 : Int) < n) = false := by simp; omega
        have d2 : ¬ (65536 : Int) < n := by omega
        have d3 : decide (65536 < n) = false := by simp; omega
        have HN := Lib.hid hn
        go_wp2_with fail
        go_ret
        exact ⟨by rw [HS.out, if_pos (by rw [HV.out, HE.out]; rfl), if_neg HN.out]; rfl, HF.out⟩
  have n5 : (s.kind == 5) = false := by simp [k5]
  by_cases k6 : s.kind = 6
  · have y6 : (s.kind == 6) = true := by simp [k6]
    have hv : cfgErr s = if rangeB s.st s.sv 1 64 = true then 0 else 260 := by unfold cfgErr; rw [if_neg (by omega), if_neg (by omega), if_neg (by omega), if_neg (by omega), if_pos (by omega)]
    have HV := Lib.hid hv
    clear hv k6
    go_enter Try.func36, Try.ntmps36
    go_wp2_with fail
    refine (rstm_any s.st s.sv _).mono ?_
    generalize w.alloc (.cells #[.int .i64 s.kind, .int .i64 s.cfg.threads, .int .i64 s.cfg.records, .int .i64 s.cfg.hazards, .int .i64 s.cfg.retire, .int .i64 s.cfg.cache, .int .i64 s.cfg.slots, .int .i64 s.cfg.buckets, .int .i64 s.rt, .int .i64 s.rc, .int .i64 s.dt, .int .i64 s.dr, .int .i64 s.lt, .int .i64 s.lk, .int .i64 s.st, .int .i64 s.sv, .slice A n k] 76) = w0 at HB0 HW0 ⊢
    rintro e w1 ⟨rfl, hb1⟩
    have HB1 := Lib.hid (HB0.out.below hb1 HB0.out.lt)
    have HF := Lib.hid (HW0.out.trans (hb1.mono HW0.out.size))
    clear hb1
    cases hb : rangeB s.st s.sv 1 64 with
    | false =>
      have HE := Lib.hid hb
      clear hb
      go_wp2_with fail
      go_ret
      exact ⟨by rw [HS.out, if_neg (by rw [HV.out, HE.out]; decide), HV.out, HE.out]; rfl, HF.out⟩
    | true =>
      have HE := Lib.hid hb
      clear hb
      have c16 : w1.cell? ⟨w.heap.size, 16, none⟩ = some (.slice A n k) := HB1.out.cell rfl
      by_cases hn : 65536 < n
      · have d1 : decide ((65536 : Int) < n) = true := by simp; omega
        have d2 : (65536 : Int) < n := by omega
        have d3 : decide (65536 < n) = true := by simp; omega
        have HN := Lib.hid hn
        go_wp2_with fail
        go_ret
        exact ⟨by rw [HS.out, if_pos (by rw [HV.out, HE.out]; rfl), if_pos HN.out]; rfl, HF.out⟩
      · have d1 : decide ((65536 : Int) < n) = false := by simp; omega
        have d2 : ¬ (65536 : Int) < n := by omega
        have d3 : decide (65536 < n) = false := by simp; omega
        have HN := Lib.hid hn
        go_wp2_with fail
        go_ret
        exact ⟨by rw [HS.out, if_pos (by rw [HV.out, HE.out]; rfl), if_neg HN.out]; rfl, HF.out⟩
  have n6 : (s.kind == 6) = false := by simp [k6]
  have HV := Lib.hid (show cfgErr s = 280 by unfold cfgErr; rw [if_neg (by omega), if_neg k3, if_neg k4, if_neg k5, if_neg k6])
  clear k1 k2 k3 k4 k5 k6
  go_enter Try.func36, Try.ntmps36
  go_wp2_with fail
  go_ret
  exact ⟨by rw [HS.out, if_neg (by rw [HV.out]; decide), HV.out]; rfl, HW0.out⟩
end Go.Proofs.Ytgbopmgeicokoaa
