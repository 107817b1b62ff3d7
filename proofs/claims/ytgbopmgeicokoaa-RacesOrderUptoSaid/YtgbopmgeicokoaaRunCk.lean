/-
  reclaimref27.Check: the error of a run.
-/
import Derived.Test.YtgbopmgeicokoaaClkRs
namespace Go.Proofs.Ytgbopmgeicokoaa
open Go.RowKit

/-- a boxed run's four cells -/
abbrev RunC (h0 h2 h3 : Value) (A : Option Addr) (n k : Nat) (g : Nat) (W : World) : Prop :=
  W.cell? ⟨g, 0, none⟩ = some h0 ∧ W.cell? ⟨g, 1, none⟩ = some (.slice A n k) ∧ W.cell? ⟨g, 2, none⟩ = some h2 ∧ W.cell? ⟨g, 3, none⟩ = some h3
theorem two_boxes (c : Cfg) (w : World) (h0 h2 h3 : Value) (A : Option Addr) (n k : Nat) (tr : List Acc) (h : RunAt w w.heap.size A n k tr) :
    ∃ w0 : World, w0 = (w.alloc (.cells #[.int .i64 c.threads, .int .i64 c.records, .int .i64 c.hazards, .int .i64 c.retire, .int .i64 c.cache, .int .i64 c.slots, .int .i64 c.buckets] 45)).alloc (.cells #[h0, .slice A n k, h2, h3] 50) ∧
      Below w.heap.size w w0 ∧ w0.heap.size = w.heap.size + 2 ∧ Hid (∀ W, Below w0.heap.size w0 W → CfgAt c w.heap.size W) ∧ Hid (∀ W, Below w0.heap.size w0 W → RunC h0 h2 h3 A n k (w.heap.size + 1) W) ∧ Hid (∀ W, Below w0.heap.size w0 W → RunAt W w.heap.size A n k tr) := by
  refine ⟨_, rfl, ((Below.refl _ _).alloc (Nat.le_refl _) _).alloc (by simp) _, by simp, fun W hB => cfgAt_of ((Blk.new w 45 (cfgL c)).alloc _) hB, fun W hB => ?_, fun W hB => ?_⟩
  · have h1 := Blk.new (w.alloc (.cells (cfgL c).toArray 45)) 50 [h0, .slice A n k, h2, h3]
    rw [World.size_alloc] at h1
    have h2' := h1.below hB (by simp)
    exact ⟨h2'.cell rfl, h2'.cell rfl, h2'.cell rfl, h2'.cell rfl⟩
  · refine (h.keep (((Below.refl _ _).alloc (Nat.le_refl _) (.cells (cfgL c).toArray 45)).alloc (by simp) (.cells #[h0, .slice A n k, h2, h3] 50))).keep (hB.mono ?_)
    simp only [World.size_alloc]
    omega

theorem runErr_cfg {c : Cfg} (h : okC c = false) (tr : List Acc) : runErr c tr = 1 := by unfold runErr; rw [h]; rfl
theorem runErr_acc {c : Cfg} (h : okC c = true) {tr : List Acc} {j : Nat} {x : Acc} (hx : tr[j]? = some x) (hb : accB c x = false) : runErr c tr = 270 := by
  unfold runErr
  rw [if_pos h, if_neg]
  intro ha
  have := List.all_eq_true.1 ha x (List.mem_of_getElem? hx)
  rw [hb] at this
  cases this
theorem runErr_none {c : Cfg} (h : okC c = true) {tr : List Acc} (ha : (tr.take tr.length).all (accB c) = true) : runErr c tr = 0 := by
  unfold runErr
  rw [List.take_length] at ha
  rw [if_pos h, if_pos ha]
theorem all_next {c : Cfg} {tr : List Acc} {j : Nat} {x : Acc} (h : (tr.take j).all (accB c) = true) (hx : tr[j]? = some x) (hb : accB c x = true) : (tr.take (j + 1)).all (accB c) = true := by
  rw [take_snoc hx, List.all_append, h]
  simp [hb]
theorem accB_1 {c : Cfg} {x : Acc} (h : decide (x.thread < 0) = true) : accB c x = false := by
  have h' : decide (0 ≤ x.thread) = false := by simp at h; simp; omega
  unfold accB; rw [h']; rfl
theorem accB_2 {c : Cfg} {x : Acc} (h : decide (c.threads ≤ x.thread) = true) : accB c x = false := by
  have h' : decide (x.thread < c.threads) = false := by simp at h; simp; omega
  unfold accB; rw [h']; simp
theorem accB_3 {c : Cfg} {x : Acc} (h : decide (x.kind < 1) = true) : accB c x = false := by
  have h' : decide (1 ≤ x.kind) = false := by simp at h; simp; omega
  unfold accB; rw [h']; simp
theorem accB_4 {c : Cfg} {x : Acc} (h : decide (3 < x.kind) = true) : accB c x = false := by
  have h' : decide (x.kind ≤ 3) = false := by simp at h; simp; omega
  unfold accB; rw [h']; simp
theorem accB_5 {c : Cfg} {x : Acc} (h : decide (x.addr < 0) = true) : accB c x = false := by
  have h' : decide (0 ≤ x.addr) = false := by simp at h; simp; omega
  unfold accB; rw [h']; simp
theorem accB_ok {c : Cfg} {x : Acc} (h1 : decide (x.thread < 0) = false) (h2 : decide (c.threads ≤ x.thread) = false) (h3 : decide (x.kind < 1) = false) (h4 : decide (3 < x.kind) = false) (h5 : decide (x.addr < 0) = false) : accB c x = true := by
  simp at h1 h2 h3 h4 h5
  simp [accB]
  omega
/-- what is wrong with an access, test by test -/
theorem accB_cases (c : Cfg) (x : Acc) : (decide (x.thread < 0) = true ∧ accB c x = false) ∨ (decide (x.thread < 0) = false ∧ decide (c.threads ≤ x.thread) = true ∧ accB c x = false) ∨
    (decide (x.thread < 0) = false ∧ decide (c.threads ≤ x.thread) = false ∧ decide (x.kind < 1) = true ∧ accB c x = false) ∨ (decide (x.thread < 0) = false ∧ decide (c.threads ≤ x.thread) = false ∧ decide (x.kind < 1) = false ∧ decide (3 < x.kind) = true ∧ accB c x = false) ∨
    (decide (x.thread < 0) = false ∧ decide (c.threads ≤ x.thread) = false ∧ decide (x.kind < 1) = false ∧ decide (3 < x.kind) = false ∧ decide (x.addr < 0) = true ∧ accB c x = false) ∨
    (decide (x.thread < 0) = false ∧ decide (c.threads ≤ x.thread) = false ∧ decide (x.kind < 1) = false ∧ decide (3 < x.kind) = false ∧ decide (x.addr < 0) = false ∧ accB c x = true) := by
  cases h1 : decide (x.thread < 0) with
  | true => exact Or.inl ⟨rfl, accB_1 h1⟩
  | false =>
    cases h2 : decide (c.threads ≤ x.thread) with
    | true => exact Or.inr (Or.inl ⟨rfl, rfl, accB_2 h2⟩)
    | false =>
      cases h3 : decide (x.kind < 1) with
      | true => exact Or.inr (Or.inr (Or.inl ⟨rfl, rfl, rfl, accB_3 h3⟩))
      | false =>
        cases h4 : decide (3 < x.kind) with
        | true => exact Or.inr (Or.inr (Or.inr (Or.inl ⟨rfl, rfl, rfl, rfl, accB_4 h4⟩)))
        | false =>
          cases h5 : decide (x.addr < 0) with
          | true => exact Or.inr (Or.inr (Or.inr (Or.inr (Or.inl ⟨rfl, rfl, rfl, rfl, rfl, accB_5 h5⟩))))
          | false => exact Or.inr (Or.inr (Or.inr (Or.inr (Or.inr ⟨rfl, rfl, rfl, rfl, rfl, accB_ok h1 h2 h3 h4 h5⟩))))

set_option maxRecDepth 100000 in
set_option maxHeartbeats 4000000 in
theorem rcheck_any (c : Cfg) (h0 h2 h3 : Value) (A : Option Addr) (n k : Nat) (tr : List Acc) (w : World) (h : RunAt w w.heap.size A n k tr) :
    Calls Try.prog 22 #[cfgV c, .agg #[h0, .slice A n k, h2, h3]] w (IntR (runErr c tr) w) := by
  have hlen := h.len
  have hk1 := h.nk.1
  have hk2 := h.nk.2
  unfold maxLen at hk2
  obtain ⟨w0, hw0, hb0, hz0, HA, HR, HT⟩ := two_boxes c w h0 h2 h3 A n k tr h
  have HW0 := Lib.hid hw0
  have HLen := Lib.hid hlen
  clear hw0 h hlen
  obtain ⟨q0, q1, q2, q3, q4, q5, q6⟩ := HA.out w0 (Below.refl _ _)
  go_enter Try.func22, Try.ntmps22
  go_upto_region 1 with fail
  rw [← HW0.out]
  go_wp2_with fail
  refine (config_any c _).mono ?_
  rintro e w1 ⟨rfl, hb1⟩
  have hz1 := hb1.size
  clear q0 q1 q2 q3 q4 q5 q6
  cases hok : okC c with
  | false =>
    have HE := Lib.hid (runErr_cfg hok tr)
    clear hok
    go_wp2_with fail
    go_ret
    exact IntR.to (hb0.trans (hb1.mono (by omega))) HE.out.symm
  | true =>
    have HOK := Lib.hid hok
    clear hok
    go_wp2_with fail
    go_loopg [5] n (fun gk i wr => ∃ j : Nat, j + gk = n ∧ i = .int .i64 j ∧ Below w0.heap.size w0 wr ∧ Hid ((tr.take j).all (accB c) = true))
    case atStart => exact ⟨0, by omega, rfl, hb1, rfl⟩
    case round =>
      obtain ⟨j, hj, rfl, hbr, HJ⟩ := hrel
      obtain ⟨q0, q1, q2, q3, q4, q5, q6⟩ := HA.out wr hbr
      obtain ⟨p0, p1, p2, p3⟩ := HR.out wr hbr
      have hzr := hbr.size
      have hwl : w.heap.size < wr.heap.size := by omega
      by_cases hlt : j < n
      · obtain ⟨x, hx⟩ := at_lt (by rw [HLen.out]; exact hlt : j < tr.length)
        obtain ⟨b, o, rfl, hb, x0, x1, x2, x3, x4, x5, x6⟩ := (HT.out wr hbr).at_ hx
        have HX := Lib.hid hx
        have e1 : (j : Int) < n := by omega
        have e0 : (0 : Int) ≤ j := by omega
        clear hx
        rcases accB_cases c x with ⟨t1, ha⟩ | ⟨t1, t2, ha⟩ | ⟨t1, t2, t3, ha⟩ | ⟨t1, t2, t3, t4, ha⟩ | ⟨t1, t2, t3, t4, t5, ha⟩ | ⟨t1, t2, t3, t4, t5, ha⟩
        case inr.inr.inr.inr.inr =>
          have HN := Lib.hid (all_next HJ.out HX.out ha)
          clear ha
          go_wp2_with fail
          go_roundg (gk - 1)
          case measure => omega
          case rel => exact ⟨j + 1, by omega, by go_num, hbr.alloc hzr _, HN⟩
        all_goals (
          have HE := Lib.hid (runErr_acc HOK.out HX.out ha)
          clear ha
          go_wp2_with fail
          go_ret
          exact IntR.to (hb0.trans ((hbr.alloc hzr _).mono (by omega))) HE.out.symm)
      · obtain rfl : n = j := by omega
        have HE := Lib.hid (runErr_none HOK.out (by rw [HLen.out]; exact HJ.out))
        go_wp2_with fail
        go_ret
        exact IntR.to (hb0.trans (hbr.mono (by omega))) HE.out.symm
end Go.Proofs.Ytgbopmgeicokoaa
