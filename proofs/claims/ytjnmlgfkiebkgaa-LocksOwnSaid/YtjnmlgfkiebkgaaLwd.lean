/-
  locks.Words and reclaimref24.Words.
-/
import Derived.Test.YtjnmlgfkiebkgaaLck
import Derived.Test.YtjnmlgfkiebkgaaLmm
namespace Go.Proofs.Ytjnmlgfkiebkgaa
open Go.RowKit
set_option linter.unusedVariables false
set_option linter.unusedSimpArgs false

theorem info_wz : (Try.prog.info? 34).map (fun i => (i.zero, i.size, i.bytes)) = some (some (.int .u64 0), 1, 8) := by kernel_rfl
/-- the words at the beginning, in a block of their own -/
def WdsR (l : List Int) (f : Value → Value) (w : World) (e : Ending) (w' : World) : Prop := ∃ g, e = .returned (f (.slice (some ⟨g, 0, none⟩) l.length l.length)) ∧ Blk w' g 34 (u64s l) ∧ w.heap.size ≤ g ∧ Below w.heap.size w w'
theorem u64s_rep (n : Nat) (z : Int) : u64s (List.replicate n z) = List.replicate n (.int .u64 z) := by simp [u64s]
abbrev okV (v : Value) : Value := .tuple #[v, .int .i64 0]
abbrev idV (v : Value) : Value := v
set_option maxRecDepth 100000 in
set_option maxHeartbeats 2000000 in
theorem words_p1 (T : Nat) (h1 : 1 ≤ T) (h2 : T ≤ 16) (w : World) : Calls Try.prog 11 #[.agg #[.int .i64 T, .int .i64 1]] w (WdsR (lkWords 1 T) okV w) := by
  have e9 : lkWords 1 T = List.replicate 2 0 := rfl
  rw [e9]
  clear e9
  have hmk : ∀ W : World, (Instr.makeSlice 27 (.int .i64 (2)) (.int .i64 (2))).run Try.prog W = .ok (.slice (some ⟨W.heap.size, 0, none⟩) (2) (2)) (W.alloc (.cells (madeCells #[.int .u64 0] (2)) 34)) := by
    intro W
    have := run_make_row' (P := Try.prog) 27 34 (.int .u64 0) 8 Try.underlying27 info_wz rfl .i64 .i64 (2) (by omega) (by omega) W
    rw [show ((2 : Nat) : Int) = 2 by omega] at this
    exact this
  have a1 : (1 : Int) ≤ T := by omega
  have a2 : (T : Int) ≤ 16 := by omega
  go_enter Try.func11, Try.ntmps11
  go_wp2_with fail
  refine (locksck_any T 1 _).mono ?_
  rw [show rangeB T 1 1 7 = true by simp only [rangeB, Bool.and_eq_true, decide_eq_true_eq]; omega]
  rintro e w1 ⟨rfl, hb⟩
  have hz : w.heap.size < w1.heap.size := by have := hb.size; simp at this; omega
  have d0 : w1.cell? ⟨w.heap.size, 0, none⟩ = some (.int .i64 T) := (hb.cell (by simp)).trans (by simp)
  have d1 : w1.cell? ⟨w.heap.size, 1, none⟩ = some (.int .i64 1) := (hb.cell (by simp)).trans (by simp)
  have HBW : Hid (Below w.heap.size w w1) := ((Below.refl _ _).alloc (Nat.le_refl _) _).trans (hb.mono (by simp))
  clear hb
  go_wp2_with fail
  go_ret2
  have hN : (List.replicate 2 0 : List Int).length = 2 := List.length_replicate
  refine ⟨w1.heap.size, by rw [hN]; rfl, ?_, by omega, HBW.out.alloc (Nat.le_of_lt hz) _⟩
  have h9 := Blk.new w1 34 (u64s (List.replicate 2 0))
  rw [madeCells_one]
  rw [u64s_rep] at h9 ⊢
  exact h9
set_option maxRecDepth 100000 in
set_option maxHeartbeats 2000000 in
theorem words_p2 (T : Nat) (h1 : 1 ≤ T) (h2 : T ≤ 16) (w : World) : Calls Try.prog 11 #[.agg #[.int .i64 T, .int .i64 2]] w (WdsR (lkWords 2 T) okV w) := by
  have e9 : lkWords 2 T = List.replicate 3 0 := rfl
  rw [e9]
  clear e9
  have hmk : ∀ W : World, (Instr.makeSlice 27 (.int .i64 (3)) (.int .i64 (3))).run Try.prog W = .ok (.slice (some ⟨W.heap.size, 0, none⟩) (3) (3)) (W.alloc (.cells (madeCells #[.int .u64 0] (3)) 34)) := by
    intro W
    have := run_make_row' (P := Try.prog) 27 34 (.int .u64 0) 8 Try.underlying27 info_wz rfl .i64 .i64 (3) (by omega) (by omega) W
    rw [show ((3 : Nat) : Int) = 3 by omega] at this
    exact this
  have a1 : (1 : Int) ≤ T := by omega
  have a2 : (T : Int) ≤ 16 := by omega
  go_enter Try.func11, Try.ntmps11
  go_wp2_with fail
  refine (locksck_any T 2 _).mono ?_
  rw [show rangeB T 2 1 7 = true by simp only [rangeB, Bool.and_eq_true, decide_eq_true_eq]; omega]
  rintro e w1 ⟨rfl, hb⟩
  have hz : w.heap.size < w1.heap.size := by have := hb.size; simp at this; omega
  have d0 : w1.cell? ⟨w.heap.size, 0, none⟩ = some (.int .i64 T) := (hb.cell (by simp)).trans (by simp)
  have d1 : w1.cell? ⟨w.heap.size, 1, none⟩ = some (.int .i64 2) := (hb.cell (by simp)).trans (by simp)
  have HBW : Hid (Below w.heap.size w w1) := ((Below.refl _ _).alloc (Nat.le_refl _) _).trans (hb.mono (by simp))
  clear hb
  go_wp2_with fail
  go_ret2
  have hN : (List.replicate 3 0 : List Int).length = 3 := List.length_replicate
  refine ⟨w1.heap.size, by rw [hN]; rfl, ?_, by omega, HBW.out.alloc (Nat.le_of_lt hz) _⟩
  have h9 := Blk.new w1 34 (u64s (List.replicate 3 0))
  rw [madeCells_one]
  rw [u64s_rep] at h9 ⊢
  exact h9
set_option maxRecDepth 100000 in
set_option maxHeartbeats 2000000 in
theorem words_p3 (T : Nat) (h1 : 1 ≤ T) (h2 : T ≤ 16) (w : World) : Calls Try.prog 11 #[.agg #[.int .i64 T, .int .i64 3]] w (WdsR (lkWords 3 T) okV w) := by
  have e9 : lkWords 3 T = (List.replicate (3 + T) (0 : Int)).set 1 T := rfl
  rw [e9]
  clear e9
  have hmk : ∀ W : World, (Instr.makeSlice 27 (.int .i64 ((3 : Int) + T)) (.int .i64 ((3 : Int) + T))).run Try.prog W = .ok (.slice (some ⟨W.heap.size, 0, none⟩) (3 + T) (3 + T)) (W.alloc (.cells (madeCells #[.int .u64 0] (3 + T)) 34)) := by
    intro W
    have := run_make_row' (P := Try.prog) 27 34 (.int .u64 0) 8 Try.underlying27 info_wz rfl .i64 .i64 (3 + T) (by omega) (by omega) W
    rw [show ((3 + T : Nat) : Int) = (3 : Int) + T by omega] at this
    exact this
  have a1 : (1 : Int) ≤ T := by omega
  have hm1 : (madeCells #[Value.int .u64 0] (3 + T))[1]? = some (.int .u64 0) := by
    rw [madeCells_one, List.getElem?_toArray, List.getElem?_replicate, if_pos (by omega)]
  have a2 : (T : Int) ≤ 16 := by omega
  go_enter Try.func11, Try.ntmps11
  go_wp2_with fail
  refine (locksck_any T 3 _).mono ?_
  rw [show rangeB T 3 1 7 = true by simp only [rangeB, Bool.and_eq_true, decide_eq_true_eq]; omega]
  rintro e w1 ⟨rfl, hb⟩
  have hz : w.heap.size < w1.heap.size := by have := hb.size; simp at this; omega
  have d0 : w1.cell? ⟨w.heap.size, 0, none⟩ = some (.int .i64 T) := (hb.cell (by simp)).trans (by simp)
  have d1 : w1.cell? ⟨w.heap.size, 1, none⟩ = some (.int .i64 3) := (hb.cell (by simp)).trans (by simp)
  have HBW : Hid (Below w.heap.size w w1) := ((Below.refl _ _).alloc (Nat.le_refl _) _).trans (hb.mono (by simp))
  clear hb
  go_wp2_with fail
  go_ret2
  have hN : ((List.replicate (3 + T) (0 : Int)).set 1 T).length = 3 + T := by simp
  refine ⟨w1.heap.size, by rw [hN]; rfl, ?_, by omega, HBW.out.alloc (Nat.le_of_lt hz) _⟩
  have h9 := Blk.new w1 34 ((List.replicate (3 + T) (Value.int .u64 0)).set 1 (.int .u64 T))
  rw [madeCells_one, List.setIfInBounds_toArray]
  unfold u64s
  rw [List.map_set, List.map_replicate]
  exact h9
set_option maxRecDepth 100000 in
set_option maxHeartbeats 2000000 in
theorem words_p4 (T : Nat) (h1 : 1 ≤ T) (h2 : T ≤ 16) (w : World) : Calls Try.prog 11 #[.agg #[.int .i64 T, .int .i64 4]] w (WdsR (lkWords 4 T) okV w) := by
  have e9 : lkWords 4 T = List.replicate (2 + 2 * T) 0 := rfl
  rw [e9]
  clear e9
  have hmk : ∀ W : World, (Instr.makeSlice 27 (.int .i64 ((2 : Int) + 2 * T)) (.int .i64 ((2 : Int) + 2 * T))).run Try.prog W = .ok (.slice (some ⟨W.heap.size, 0, none⟩) (2 + 2 * T) (2 + 2 * T)) (W.alloc (.cells (madeCells #[.int .u64 0] (2 + 2 * T)) 34)) := by
    intro W
    have := run_make_row' (P := Try.prog) 27 34 (.int .u64 0) 8 Try.underlying27 info_wz rfl .i64 .i64 (2 + 2 * T) (by omega) (by omega) W
    rw [show ((2 + 2 * T : Nat) : Int) = (2 : Int) + 2 * T by omega] at this
    exact this
  have a1 : (1 : Int) ≤ T := by omega
  have a2 : (T : Int) ≤ 16 := by omega
  go_enter Try.func11, Try.ntmps11
  go_wp2_with fail
  refine (locksck_any T 4 _).mono ?_
  rw [show rangeB T 4 1 7 = true by simp only [rangeB, Bool.and_eq_true, decide_eq_true_eq]; omega]
  rintro e w1 ⟨rfl, hb⟩
  have hz : w.heap.size < w1.heap.size := by have := hb.size; simp at this; omega
  have d0 : w1.cell? ⟨w.heap.size, 0, none⟩ = some (.int .i64 T) := (hb.cell (by simp)).trans (by simp)
  have d1 : w1.cell? ⟨w.heap.size, 1, none⟩ = some (.int .i64 4) := (hb.cell (by simp)).trans (by simp)
  have HBW : Hid (Below w.heap.size w w1) := ((Below.refl _ _).alloc (Nat.le_refl _) _).trans (hb.mono (by simp))
  clear hb
  go_wp2_with fail
  go_ret2
  have hN : (List.replicate (2 + 2 * T) 0 : List Int).length = 2 + 2 * T := List.length_replicate
  refine ⟨w1.heap.size, by rw [hN]; rfl, ?_, by omega, HBW.out.alloc (Nat.le_of_lt hz) _⟩
  have h9 := Blk.new w1 34 (u64s (List.replicate (2 + 2 * T) 0))
  rw [madeCells_one]
  rw [u64s_rep] at h9 ⊢
  exact h9
set_option maxRecDepth 100000 in
set_option maxHeartbeats 2000000 in
theorem words_p5 (T : Nat) (h1 : 1 ≤ T) (h2 : T ≤ 16) (w : World) : Calls Try.prog 11 #[.agg #[.int .i64 T, .int .i64 5]] w (WdsR (lkWords 5 T) okV w) := by
  have e9 : lkWords 5 T = List.replicate (2 * T) 0 := rfl
  rw [e9]
  clear e9
  have hmk : ∀ W : World, (Instr.makeSlice 27 (.int .i64 ((2 : Int) * T)) (.int .i64 ((2 : Int) * T))).run Try.prog W = .ok (.slice (some ⟨W.heap.size, 0, none⟩) (2 * T) (2 * T)) (W.alloc (.cells (madeCells #[.int .u64 0] (2 * T)) 34)) := by
    intro W
    have := run_make_row' (P := Try.prog) 27 34 (.int .u64 0) 8 Try.underlying27 info_wz rfl .i64 .i64 (2 * T) (by omega) (by omega) W
    rw [show ((2 * T : Nat) : Int) = (2 : Int) * T by omega] at this
    exact this
  have a1 : (1 : Int) ≤ T := by omega
  have a2 : (T : Int) ≤ 16 := by omega
  go_enter Try.func11, Try.ntmps11
  go_wp2_with fail
  refine (locksck_any T 5 _).mono ?_
  rw [show rangeB T 5 1 7 = true by simp only [rangeB, Bool.and_eq_true, decide_eq_true_eq]; omega]
  rintro e w1 ⟨rfl, hb⟩
  have hz : w.heap.size < w1.heap.size := by have := hb.size; simp at this; omega
  have d0 : w1.cell? ⟨w.heap.size, 0, none⟩ = some (.int .i64 T) := (hb.cell (by simp)).trans (by simp)
  have d1 : w1.cell? ⟨w.heap.size, 1, none⟩ = some (.int .i64 5) := (hb.cell (by simp)).trans (by simp)
  have HBW : Hid (Below w.heap.size w w1) := ((Below.refl _ _).alloc (Nat.le_refl _) _).trans (hb.mono (by simp))
  clear hb
  go_wp2_with fail
  go_ret2
  have hN : (List.replicate (2 * T) 0 : List Int).length = 2 * T := List.length_replicate
  refine ⟨w1.heap.size, by rw [hN]; rfl, ?_, by omega, HBW.out.alloc (Nat.le_of_lt hz) _⟩
  have h9 := Blk.new w1 34 (u64s (List.replicate (2 * T) 0))
  rw [madeCells_one]
  rw [u64s_rep] at h9 ⊢
  exact h9
set_option maxRecDepth 100000 in
set_option maxHeartbeats 2000000 in
theorem words_p6 (T : Nat) (h1 : 1 ≤ T) (h2 : T ≤ 16) (w : World) : Calls Try.prog 11 #[.agg #[.int .i64 T, .int .i64 6]] w (WdsR (lkWords 6 T) okV w) := by
  have e9 : lkWords 6 T = List.replicate (1 + 2 * T) 0 := rfl
  rw [e9]
  clear e9
  have hmk : ∀ W : World, (Instr.makeSlice 27 (.int .i64 ((1 : Int) + 2 * T)) (.int .i64 ((1 : Int) + 2 * T))).run Try.prog W = .ok (.slice (some ⟨W.heap.size, 0, none⟩) (1 + 2 * T) (1 + 2 * T)) (W.alloc (.cells (madeCells #[.int .u64 0] (1 + 2 * T)) 34)) := by
    intro W
    have := run_make_row' (P := Try.prog) 27 34 (.int .u64 0) 8 Try.underlying27 info_wz rfl .i64 .i64 (1 + 2 * T) (by omega) (by omega) W
    rw [show ((1 + 2 * T : Nat) : Int) = (1 : Int) + 2 * T by omega] at this
    exact this
  have a1 : (1 : Int) ≤ T := by omega
  have a2 : (T : Int) ≤ 16 := by omega
  go_enter Try.func11, Try.ntmps11
  go_wp2_with fail
  refine (locksck_any T 6 _).mono ?_
  rw [show rangeB T 6 1 7 = true by simp only [rangeB, Bool.and_eq_true, decide_eq_true_eq]; omega]
  rintro e w1 ⟨rfl, hb⟩
  have hz : w.heap.size < w1.heap.size := by have := hb.size; simp at this; omega
  have d0 : w1.cell? ⟨w.heap.size, 0, none⟩ = some (.int .i64 T) := (hb.cell (by simp)).trans (by simp)
  have d1 : w1.cell? ⟨w.heap.size, 1, none⟩ = some (.int .i64 6) := (hb.cell (by simp)).trans (by simp)
  have HBW : Hid (Below w.heap.size w w1) := ((Below.refl _ _).alloc (Nat.le_refl _) _).trans (hb.mono (by simp))
  clear hb
  go_wp2_with fail
  go_ret2
  have hN : (List.replicate (1 + 2 * T) 0 : List Int).length = 1 + 2 * T := List.length_replicate
  refine ⟨w1.heap.size, by rw [hN]; rfl, ?_, by omega, HBW.out.alloc (Nat.le_of_lt hz) _⟩
  have h9 := Blk.new w1 34 (u64s (List.replicate (1 + 2 * T) 0))
  rw [madeCells_one]
  rw [u64s_rep] at h9 ⊢
  exact h9
set_option maxRecDepth 100000 in
set_option maxHeartbeats 2000000 in
theorem words_p7 (T : Nat) (h1 : 1 ≤ T) (h2 : T ≤ 16) (w : World) : Calls Try.prog 11 #[.agg #[.int .i64 T, .int .i64 7]] w (WdsR (lkWords 7 T) okV w) := by
  have e9 : lkWords 7 T = List.replicate 2 0 := rfl
  rw [e9]
  clear e9
  have hmk : ∀ W : World, (Instr.makeSlice 27 (.int .i64 (2)) (.int .i64 (2))).run Try.prog W = .ok (.slice (some ⟨W.heap.size, 0, none⟩) (2) (2)) (W.alloc (.cells (madeCells #[.int .u64 0] (2)) 34)) := by
    intro W
    have := run_make_row' (P := Try.prog) 27 34 (.int .u64 0) 8 Try.underlying27 info_wz rfl .i64 .i64 (2) (by omega) (by omega) W
    rw [show ((2 : Nat) : Int) = 2 by omega] at this
    exact this
  have a1 : (1 : Int) ≤ T := by omega
  have a2 : (T : Int) ≤ 16 := by omega
  go_enter Try.func11, Try.ntmps11
  go_wp2_with fail
  refine (locksck_any T 7 _).mono ?_
  rw [show rangeB T 7 1 7 = true by simp only [rangeB, Bool.and_eq_true, decide_eq_true_eq]; omega]
  rintro e w1 ⟨rfl, hb⟩
  have hz : w.heap.size < w1.heap.size := by have := hb.size; simp at this; omega
  have d0 : w1.cell? ⟨w.heap.size, 0, none⟩ = some (.int .i64 T) := (hb.cell (by simp)).trans (by simp)
  have d1 : w1.cell? ⟨w.heap.size, 1, none⟩ = some (.int .i64 7) := (hb.cell (by simp)).trans (by simp)
  have HBW : Hid (Below w.heap.size w w1) := ((Below.refl _ _).alloc (Nat.le_refl _) _).trans (hb.mono (by simp))
  clear hb
  go_wp2_with fail
  go_ret2
  have hN : (List.replicate 2 0 : List Int).length = 2 := List.length_replicate
  refine ⟨w1.heap.size, by rw [hN]; rfl, ?_, by omega, HBW.out.alloc (Nat.le_of_lt hz) _⟩
  have h9 := Blk.new w1 34 (u64s (List.replicate 2 0))
  rw [madeCells_one]
  rw [u64s_rep] at h9 ⊢
  exact h9
set_option maxRecDepth 100000 in
set_option maxHeartbeats 2000000 in
theorem words_r1 (T : Nat) (h1 : 1 ≤ T) (h2 : T ≤ 16) (w : World) : Calls Try.prog 15 #[.agg #[.int .i64 T, .int .i64 1]] w (WdsR (lkWords 1 T) idV w) := by
  have e9 : lkWords 1 T = List.replicate 2 0 := rfl
  rw [e9]
  clear e9
  have hmk : ∀ W : World, (Instr.makeSlice 27 (.int .i64 (2)) (.int .i64 (2))).run Try.prog W = .ok (.slice (some ⟨W.heap.size, 0, none⟩) (2) (2)) (W.alloc (.cells (madeCells #[.int .u64 0] (2)) 34)) := by
    intro W
    have := run_make_row' (P := Try.prog) 27 34 (.int .u64 0) 8 Try.underlying27 info_wz rfl .i64 .i64 (2) (by omega) (by omega) W
    rw [show ((2 : Nat) : Int) = 2 by omega] at this
    exact this
  have a1 : (1 : Int) ≤ T := by omega
  have a2 : (T : Int) ≤ 16 := by omega
  go_enter Try.func15, Try.ntmps15
  go_wp2_with fail
  go_ret
  have hN : (List.replicate 2 0 : List Int).length = 2 := List.length_replicate
  refine ⟨(w.heap.size + 1), by rw [hN]; rfl, ?_, by omega, ((Below.refl _ w).alloc (Nat.le_refl _) _).alloc (by rw [World.size_alloc]; omega) _⟩
  have h9 := Blk.new (w.alloc (.cells #[.int .i64 T, .int .i64 1] 24)) 34 (u64s (List.replicate 2 0))
  rw [World.size_alloc] at h9
  rw [madeCells_one]
  rw [u64s_rep] at h9 ⊢
  exact h9
set_option maxRecDepth 100000 in
set_option maxHeartbeats 2000000 in
theorem words_r2 (T : Nat) (h1 : 1 ≤ T) (h2 : T ≤ 16) (w : World) : Calls Try.prog 15 #[.agg #[.int .i64 T, .int .i64 2]] w (WdsR (lkWords 2 T) idV w) := by
  have e9 : lkWords 2 T = List.replicate 3 0 := rfl
  rw [e9]
  clear e9
  have hmk : ∀ W : World, (Instr.makeSlice 27 (.int .i64 (3)) (.int .i64 (3))).run Try.prog W = .ok (.slice (some ⟨W.heap.size, 0, none⟩) (3) (3)) (W.alloc (.cells (madeCells #[.int .u64 0] (3)) 34)) := by
    intro W
    have := run_make_row' (P := Try.prog) 27 34 (.int .u64 0) 8 Try.underlying27 info_wz rfl .i64 .i64 (3) (by omega) (by omega) W
    rw [show ((3 : Nat) : Int) = 3 by omega] at this
    exact this
  have a1 : (1 : Int) ≤ T := by omega
  have a2 : (T : Int) ≤ 16 := by omega
  go_enter Try.func15, Try.ntmps15
  go_wp2_with fail
  go_ret
  have hN : (List.replicate 3 0 : List Int).length = 3 := List.length_replicate
  refine ⟨(w.heap.size + 1), by rw [hN]; rfl, ?_, by omega, ((Below.refl _ w).alloc (Nat.le_refl _) _).alloc (by rw [World.size_alloc]; omega) _⟩
  have h9 := Blk.new (w.alloc (.cells #[.int .i64 T, .int .i64 2] 24)) 34 (u64s (List.replicate 3 0))
  rw [World.size_alloc] at h9
  rw [madeCells_one]
  rw [u64s_rep] at h9 ⊢
  exact h9
set_option maxRecDepth 100000 in
set_option maxHeartbeats 2000000 in
theorem words_r3 (T : Nat) (h1 : 1 ≤ T) (h2 : T ≤ 16) (w : World) : Calls Try.prog 15 #[.agg #[.int .i64 T, .int .i64 3]] w (WdsR (lkWords 3 T) idV w) := by
  have e9 : lkWords 3 T = (List.replicate (3 + T) (0 : Int)).set 1 T := rfl
  rw [e9]
  clear e9
  have hmk : ∀ W : World, (Instr.makeSlice 27 (.int .i64 ((3 : Int) + T)) (.int .i64 ((3 : Int) + T))).run Try.prog W = .ok (.slice (some ⟨W.heap.size, 0, none⟩) (3 + T) (3 + T)) (W.alloc (.cells (madeCells #[.int .u64 0] (3 + T)) 34)) := by
    intro W
    have := run_make_row' (P := Try.prog) 27 34 (.int .u64 0) 8 Try.underlying27 info_wz rfl .i64 .i64 (3 + T) (by omega) (by omega) W
    rw [show ((3 + T : Nat) : Int) = (3 : Int) + T by omega] at this
    exact this
  have a1 : (1 : Int) ≤ T := by omega
  have hm1 : (madeCells #[Value.int .u64 0] (3 + T))[1]? = some (.int .u64 0) := by
    rw [madeCells_one, List.getElem?_toArray, List.getElem?_replicate, if_pos (by omega)]
  have a2 : (T : Int) ≤ 16 := by omega
  go_enter Try.func15, Try.ntmps15
  go_wp2_with fail
  go_ret
  have hN : ((List.replicate (3 + T) (0 : Int)).set 1 T).length = 3 + T := by simp
  refine ⟨(w.heap.size + 1), by rw [hN]; rfl, ?_, by omega, ((Below.refl _ w).alloc (Nat.le_refl _) _).alloc (by rw [World.size_alloc]; omega) _⟩
  have h9 := Blk.new (w.alloc (.cells #[.int .i64 T, .int .i64 3] 24)) 34 ((List.replicate (3 + T) (Value.int .u64 0)).set 1 (.int .u64 T))
  rw [World.size_alloc] at h9
  rw [madeCells_one, List.setIfInBounds_toArray]
  unfold u64s
  rw [List.map_set, List.map_replicate]
  exact h9
set_option maxRecDepth 100000 in
set_option maxHeartbeats 2000000 in
theorem words_r4 (T : Nat) (h1 : 1 ≤ T) (h2 : T ≤ 16) (w : World) : Calls Try.prog 15 #[.agg #[.int .i64 T, .int .i64 4]] w (WdsR (lkWords 4 T) idV w) := by
  have e9 : lkWords 4 T = List.replicate (2 + 2 * T) 0 := rfl
  rw [e9]
  clear e9
  have hmk : ∀ W : World, (Instr.makeSlice 27 (.int .i64 ((2 : Int) + 2 * T)) (.int .i64 ((2 : Int) + 2 * T))).run Try.prog W = .ok (.slice (some ⟨W.heap.size, 0, none⟩) (2 + 2 * T) (2 + 2 * T)) (W.alloc (.cells (madeCells #[.int .u64 0] (2 + 2 * T)) 34)) := by
    intro W
    have := run_make_row' (P := Try.prog) 27 34 (.int .u64 0) 8 Try.underlying27 info_wz rfl .i64 .i64 (2 + 2 * T) (by omega) (by omega) W
    rw [show ((2 + 2 * T : Nat) : Int) = (2 : Int) + 2 * T by omega] at this
    exact this
  have a1 : (1 : Int) ≤ T := by omega
  have a2 : (T : Int) ≤ 16 := by omega
  go_enter Try.func15, Try.ntmps15
  go_wp2_with fail
  go_ret
  have hN : (List.replicate (2 + 2 * T) 0 : List Int).length = 2 + 2 * T := List.length_replicate
  refine ⟨(w.heap.size + 1), by rw [hN]; rfl, ?_, by omega, ((Below.refl _ w).alloc (Nat.le_refl _) _).alloc (by rw [World.size_alloc]; omega) _⟩
  have h9 := Blk.new (w.alloc (.cells #[.int .i64 T, .int .i64 4] 24)) 34 (u64s (List.replicate (2 + 2 * T) 0))
  rw [World.size_alloc] at h9
  rw [madeCells_one]
  rw [u64s_rep] at h9 ⊢
  exact h9
set_option maxRecDepth 100000 in
set_option maxHeartbeats 2000000 in
theorem words_r5 (T : Nat) (h1 : 1 ≤ T) (h2 : T ≤ 16) (w : World) : Calls Try.prog 15 #[.agg #[.int .i64 T, .int .i64 5]] w (WdsR (lkWords 5 T) idV w) := by
  have e9 : lkWords 5 T = List.replicate (2 * T) 0 := rfl
  rw [e9]
  clear e9
  have hmk : ∀ W : World, (Instr.makeSlice 27 (.int .i64 ((2 : Int) * T)) (.int .i64 ((2 : Int) * T))).run Try.prog W = .ok (.slice (some ⟨W.heap.size, 0, none⟩) (2 * T) (2 * T)) (W.alloc (.cells (madeCells #[.int .u64 0] (2 * T)) 34)) := by
    intro W
    have := run_make_row' (P := Try.prog) 27 34 (.int .u64 0) 8 Try.underlying27 info_wz rfl .i64 .i64 (2 * T) (by omega) (by omega) W
    rw [show ((2 * T : Nat) : Int) = (2 : Int) * T by omega] at this
    exact this
  have a1 : (1 : Int) ≤ T := by omega
  have a2 : (T : Int) ≤ 16 := by omega
  go_enter Try.func15, Try.ntmps15
  go_wp2_with fail
  go_ret
  have hN : (List.replicate (2 * T) 0 : List Int).length = 2 * T := List.length_replicate
  refine ⟨(w.heap.size + 1), by rw [hN]; rfl, ?_, by omega, ((Below.refl _ w).alloc (Nat.le_refl _) _).alloc (by rw [World.size_alloc]; omega) _⟩
  have h9 := Blk.new (w.alloc (.cells #[.int .i64 T, .int .i64 5] 24)) 34 (u64s (List.replicate (2 * T) 0))
  rw [World.size_alloc] at h9
  rw [madeCells_one]
  rw [u64s_rep] at h9 ⊢
  exact h9
set_option maxRecDepth 100000 in
set_option maxHeartbeats 2000000 in
theorem words_r6 (T : Nat) (h1 : 1 ≤ T) (h2 : T ≤ 16) (w : World) : Calls Try.prog 15 #[.agg #[.int .i64 T, .int .i64 6]] w (WdsR (lkWords 6 T) idV w) := by
  have e9 : lkWords 6 T = List.replicate (1 + 2 * T) 0 := rfl
  rw [e9]
  clear e9
  have hmk : ∀ W : World, (Instr.makeSlice 27 (.int .i64 ((1 : Int) + 2 * T)) (.int .i64 ((1 : Int) + 2 * T))).run Try.prog W = .ok (.slice (some ⟨W.heap.size, 0, none⟩) (1 + 2 * T) (1 + 2 * T)) (W.alloc (.cells (madeCells #[.int .u64 0] (1 + 2 * T)) 34)) := by
    intro W
    have := run_make_row' (P := Try.prog) 27 34 (.int .u64 0) 8 Try.underlying27 info_wz rfl .i64 .i64 (1 + 2 * T) (by omega) (by omega) W
    rw [show ((1 + 2 * T : Nat) : Int) = (1 : Int) + 2 * T by omega] at this
    exact this
  have a1 : (1 : Int) ≤ T := by omega
  have a2 : (T : Int) ≤ 16 := by omega
  go_enter Try.func15, Try.ntmps15
  go_wp2_with fail
  go_ret
  have hN : (List.replicate (1 + 2 * T) 0 : List Int).length = 1 + 2 * T := List.length_replicate
  refine ⟨(w.heap.size + 1), by rw [hN]; rfl, ?_, by omega, ((Below.refl _ w).alloc (Nat.le_refl _) _).alloc (by rw [World.size_alloc]; omega) _⟩
  have h9 := Blk.new (w.alloc (.cells #[.int .i64 T, .int .i64 6] 24)) 34 (u64s (List.replicate (1 + 2 * T) 0))
  rw [World.size_alloc] at h9
  rw [madeCells_one]
  rw [u64s_rep] at h9 ⊢
  exact h9
set_option maxRecDepth 100000 in
set_option maxHeartbeats 2000000 in
theorem words_r7 (T : Nat) (h1 : 1 ≤ T) (h2 : T ≤ 16) (w : World) : Calls Try.prog 15 #[.agg #[.int .i64 T, .int .i64 7]] w (WdsR (lkWords 7 T) idV w) := by
  have e9 : lkWords 7 T = List.replicate 2 0 := rfl
  rw [e9]
  clear e9
  have hmk : ∀ W : World, (Instr.makeSlice 27 (.int .i64 (2)) (.int .i64 (2))).run Try.prog W = .ok (.slice (some ⟨W.heap.size, 0, none⟩) (2) (2)) (W.alloc (.cells (madeCells #[.int .u64 0] (2)) 34)) := by
    intro W
    have := run_make_row' (P := Try.prog) 27 34 (.int .u64 0) 8 Try.underlying27 info_wz rfl .i64 .i64 (2) (by omega) (by omega) W
    rw [show ((2 : Nat) : Int) = 2 by omega] at this
    exact this
  have a1 : (1 : Int) ≤ T := by omega
  have a2 : (T : Int) ≤ 16 := by omega
  go_enter Try.func15, Try.ntmps15
  go_wp2_with fail
  go_ret
  have hN : (List.replicate 2 0 : List Int).length = 2 := List.length_replicate
  refine ⟨(w.heap.size + 1), by rw [hN]; rfl, ?_, by omega, ((Below.refl _ w).alloc (Nat.le_refl _) _).alloc (by rw [World.size_alloc]; omega) _⟩
  have h9 := Blk.new (w.alloc (.cells #[.int .i64 T, .int .i64 7] 24)) 34 (u64s (List.replicate 2 0))
  rw [World.size_alloc] at h9
  rw [madeCells_one]
  rw [u64s_rep] at h9 ⊢
  exact h9
end Go.Proofs.Ytjnmlgfkiebkgaa
