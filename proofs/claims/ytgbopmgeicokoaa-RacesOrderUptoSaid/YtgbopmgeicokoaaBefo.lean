/-
  races.ahead and races.Before.
-/
import Derived.Test.YtgbopmgeicokoaaClks
import Derived.BigQuiet
namespace Go.Proofs.Ytgbopmgeicokoaa
open Go.RowKit Go.Maps

theorem outVals_len (c : Cfg) (tr : List Acc) (j : Nat) : (outVals c tr j).length = j * 16 := by
  induction j with
  | zero => rfl
  | succ j ih =>
    rw [outVals_next, List.length_append, ih, ints_len, clkL_len]
    omega
theorem outVals_get (c : Cfg) (tr : List Acc) (n i t : Nat) (hi : i < n) (ht : t < 16) : (outVals c tr n)[i * 16 + t]? = some (.int .i64 (outC c tr i t)) := by
  induction n with
  | zero => omega
  | succ n ih =>
    rw [outVals_next]
    by_cases h : i < n
    · rw [List.getElem?_append_left (by rw [outVals_len]; omega)]
      exact ih h
    · obtain rfl : i = n := by omega
      rw [List.getElem?_append_right (by rw [outVals_len]; omega), outVals_len, show i * 16 + t - i * 16 = t by omega]
      exact clkV_get ht

/-- does one come ahead of another, by the first one's thread? -/
def aheadB (c : Cfg) (tr : List Acc) (i j : Nat) : Bool := !decide (i = j) && (match tr[i]? with | some x => decide (outC c tr i x.thread.toNat ≤ outC c tr j x.thread.toNat) | none => false)
theorem aheadB_same (c : Cfg) (tr : List Acc) (i : Nat) : aheadB c tr i i = false := by simp [aheadB]
theorem aheadB_at {c : Cfg} {tr : List Acc} {i j T : Nat} {x : Acc} (hx : tr[i]? = some x) (hT : x.thread = T) (hne : i ≠ j) : aheadB c tr i j = decide (outC c tr i T ≤ outC c tr j T) := by
  unfold aheadB
  rw [hx]
  show (!decide (i = j) && decide (outC c tr i x.thread.toNat ≤ outC c tr j x.thread.toNat)) = _
  rw [show x.thread.toNat = T by omega]
  simp [hne]

set_option maxRecDepth 100000 in
set_option maxHeartbeats 4000000 in
theorem pahead_any (c : Cfg) (h0 h2 h3 : Value) (A : Option Addr) (n k : Nat) (tr : List Acc) (w : World) (h : RunAt w w.heap.size A n k tr) (A2 : Option Addr) (k2 : Nat) (hA2 : Sl w w.heap.size 16 A2 n (outVals c tr n)) (i j : Nat) (hi : i < n) (hj : j < n)
    (x : Acc) (T : Nat) (hx : tr[i]? = some x) (hT : x.thread = T) (hT16 : T < 16) :
    Calls Try.prog 60 #[.agg #[h0, .slice A n k, h2, h3], .slice A2 n k2, .int .i64 i, .int .i64 j] w (BoolR (aheadB c tr i j) w) := by
  have hk1 := h.nk.1
  have hk2 := h.nk.2
  unfold maxLen at hk2
  obtain ⟨b, o, rfl, hb, x0, x1, x2, x3, x4, x5, x6⟩ := h.at_ hx
  obtain ⟨b2, o2, rfl, hb2, hc2⟩ := hA2.2 (by omega)
  rw [hT] at x1
  have c1 : w.cell? ⟨b2, o2 + i * 16 + T, none⟩ = some (.int .i64 (outC c tr i T)) := by rw [Nat.add_assoc]; exact hc2 _ _ (outVals_get c tr n i T hi hT16)
  have c2 : w.cell? ⟨b2, o2 + j * 16 + T, none⟩ = some (.int .i64 (outC c tr j T)) := by rw [Nat.add_assoc]; exact hc2 _ _ (outVals_get c tr n j T hj hT16)
  have e1 : (i : Int) < n := by omega
  have e2 : (j : Int) < n := by omega
  have e3 : (T : Int) < 16 := by omega
  have e4 : (0 : Int) ≤ i := by omega
  have e5 : (0 : Int) ≤ j := by omega
  have e6 : (0 : Int) ≤ T := by omega
  clear x0 x2 x3 x4 x5 x6 hA2 hc2 h
  by_cases hij : i = j
  · subst hij
    have b1 : ((i : Int) != (i : Int)) = false := by simp
    have HB := Lib.hid (aheadB_same c tr i)
    clear hx hT
    go_enter Try.func60, Try.ntmps60
    go_upto_region 2 with fail
    go_quiet (fail)
    go_wp2_with fail
    go_ret
    exact ⟨by rw [HB.out]; rfl, ((Below.refl _ _).alloc (Nat.le_refl _) _).drewN _⟩
  · have b1 : ((i : Int) != (j : Int)) = true := by simp; omega
    have HB := Lib.hid (aheadB_at (c := c) hx hT hij)
    clear hx hT
    go_enter Try.func60, Try.ntmps60
    go_upto_region 2 with fail
    go_quiet (fail)
    go_wp2_with fail
    go_ret
    exact ⟨by rw [HB.out]; rfl, ((Below.refl _ _).alloc (Nat.le_refl _) _).drewN _⟩

/-- the answer of Before -/
def befV (c : Cfg) (tr : List Acc) (i j : Int) : Bool × Int :=
  if runErr c tr = 0 then (if 0 ≤ i ∧ i < tr.length ∧ 0 ≤ j ∧ j < tr.length then (aheadB c tr i.toNat j.toNat, 0) else (false, 2)) else (false, runErr c tr)
def BefR (v : Bool × Int) (w : World) (e : Ending) (w' : World) : Prop := e = .returned (.tuple #[.bool v.1, .int .i64 v.2]) ∧ Below w.heap.size w w'
theorem runErr_ok {c : Cfg} {tr : List Acc} (h : runErr c tr = 0) : okC c = true ∧ tr.all (accB c) = true := by
  unfold runErr at h
  cases h1 : okC c with
  | false => rw [h1] at h; cases h
  | true =>
    rw [h1] at h
    cases h2 : tr.all (accB c) with
    | true => exact ⟨rfl, rfl⟩
    | false => rw [h2] at h; cases h
theorem acc_thread {c : Cfg} {tr : List Acc} (h : runErr c tr = 0) {i : Nat} {x : Acc} (hx : tr[i]? = some x) : ∃ T : Nat, x.thread = T ∧ T < 16 ∧ (T : Int) < c.threads := by
  obtain ⟨h1, h2⟩ := runErr_ok h
  have ha := List.all_eq_true.1 h2 x (List.mem_of_getElem? hx)
  have ht := ((okC_iff c).1 h1).t2
  simp [accB] at ha
  exact ⟨x.thread.toNat, by omega, by omega, by omega⟩

set_option maxRecDepth 100000 in
set_option maxHeartbeats 4000000 in
theorem before_any (c : Cfg) (h0 h2 h3 : Value) (A : Option Addr) (n k : Nat) (tr : List Acc) (w : World) (h : RunAt w w.heap.size A n k tr) (hn8 : n * 128 ≤ 140737488355328) (hwf : ∀ a ∈ tr, a.addr ≤ 9223372036854775807) (i j : Int) :
    Calls Try.prog 23 #[cfgV c, .agg #[h0, .slice A n k, h2, h3], .int .i64 i, .int .i64 j] w (BefR (befV c tr i j) w) := by
  have hlen := h.len
  obtain ⟨w0, hw0, hb0, hz0, HA, HR, HT⟩ := two_boxes c w h0 h2 h3 A n k tr h
  have HW0 := Lib.hid hw0
  have HWf := Lib.hid hwf
  have HLen := Lib.hid hlen
  clear hw0 h hwf hlen
  obtain ⟨q0, q1, q2, q3, q4, q5, q6⟩ := HA.out w0 (Below.refl _ _)
  obtain ⟨p0, p1, p2, p3⟩ := HR.out w0 (Below.refl _ _)
  have hR0 := HT.out w0 (Below.refl _ _)
  have HR0 := Lib.hid (⟨hR0.trace.up (by omega), hR0.nk⟩ : RunAt w0 w0.heap.size A n k tr)
  clear hR0
  go_enter Try.func23, Try.ntmps23
  go_upto_region 1 with fail
  rw [← HW0.out]
  go_wp2_with fail
  refine (clocks_any c h0 h2 h3 A n k tr _ HR0.out hn8 HWf.out).mono ?_
  rintro e w1 ⟨hb1, hh⟩
  have hz1 := hb1.size
  clear q0 q1 q2 q3 q4 q5 q6 p0 p1 p2 p3
  rcases hh with ⟨he0, A2, k2, rfl, hA2, hk3, hk4⟩ | ⟨hne, rfl⟩
  · have HE := Lib.hid he0
    have HA2 := Lib.hid hA2
    have hbv : befV c tr i j = if 0 ≤ i ∧ i < tr.length ∧ 0 ≤ j ∧ j < tr.length then (aheadB c tr i.toNat j.toNat, 0) else (false, 2) := by unfold befV; rw [if_pos he0]
    rw [HLen.out] at hbv
    have HBV := Lib.hid hbv
    clear he0 hA2 hbv
    cases d1 : decide (i < 0) with
    | true =>
      have HX := Lib.hid (show ¬ (0 ≤ i ∧ i < (n : Int) ∧ 0 ≤ j ∧ j < (n : Int)) by simp at d1; omega)
      go_wp2_with fail
      go_ret2
      exact ⟨by rw [HBV.out, if_neg HX.out]; rfl, hb0.trans (hb1.mono (by omega))⟩
    | false =>
      cases d2 : decide ((n : Int) ≤ i) with
      | true =>
        have HX := Lib.hid (show ¬ (0 ≤ i ∧ i < (n : Int) ∧ 0 ≤ j ∧ j < (n : Int)) by simp at d2; omega)
        go_wp2_with fail
        go_ret2
        exact ⟨by rw [HBV.out, if_neg HX.out]; rfl, hb0.trans (hb1.mono (by omega))⟩
      | false =>
        cases d3 : decide (j < 0) with
        | true =>
          have HX := Lib.hid (show ¬ (0 ≤ i ∧ i < (n : Int) ∧ 0 ≤ j ∧ j < (n : Int)) by simp at d3; omega)
          go_wp2_with fail
          go_ret2
          exact ⟨by rw [HBV.out, if_neg HX.out]; rfl, hb0.trans (hb1.mono (by omega))⟩
        | false =>
          cases d4 : decide ((n : Int) ≤ j) with
          | true =>
            have HX := Lib.hid (show ¬ (0 ≤ i ∧ i < (n : Int) ∧ 0 ≤ j ∧ j < (n : Int)) by simp at d4; omega)
            go_wp2_with fail
            go_ret2
            exact ⟨by rw [HBV.out, if_neg HX.out]; rfl, hb0.trans (hb1.mono (by omega))⟩
          | false =>
            have hin : 0 ≤ i ∧ i < (n : Int) ∧ 0 ≤ j ∧ j < (n : Int) := by simp at d1 d2 d3 d4; omega
            obtain ⟨ii, rfl⟩ : ∃ ii : Nat, i = ii := ⟨i.toNat, by omega⟩
            obtain ⟨jj, rfl⟩ : ∃ jj : Nat, j = jj := ⟨j.toNat, by omega⟩
            have hi : ii < n := by omega
            have hj : jj < n := by omega
            obtain ⟨x, hx⟩ := at_lt (by rw [HLen.out]; exact hi : ii < tr.length)
            obtain ⟨T, hT, hT16, _⟩ := acc_thread HE.out hx
            have HIn := Lib.hid hin
            obtain ⟨p0, p1, p2, p3⟩ := HR.out w1 hb1
            have hR1 := HT.out w1 hb1
            have HR1 := Lib.hid (⟨hR1.trace.up (by omega), hR1.nk⟩ : RunAt w1 w1.heap.size A n k tr)
            have HX := Lib.hid hx
            have HT1 := Lib.hid hT
            clear hR1 hx hT hin
            go_wp2_with fail
            refine (pahead_any c h0 h2 h3 A n k tr _ HR1.out A2 k2 HA2.out ii jj hi hj x T HX.out HT1.out hT16).mono ?_
            rintro e w2 ⟨rfl, hb2⟩
            go_wp2_with fail
            go_ret2
            exact ⟨by rw [HBV.out, if_pos HIn.out]; rfl, hb0.trans ((hb1.trans (hb2.mono hz1)).mono (by omega))⟩
  · have HNe := Lib.hid hne
    have hbv : befV c tr i j = (false, runErr c tr) := by unfold befV; rw [if_neg hne]
    have HBV := Lib.hid hbv
    have b1 : (runErr c tr != 0) = true := by simp [hne]
    clear hne hbv
    go_wp2_with fail
    go_ret2
    exact ⟨by rw [HBV.out]; rfl, hb0.trans (hb1.mono (by omega))⟩
end Go.Proofs.Ytgbopmgeicokoaa
