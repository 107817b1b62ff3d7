/-
  The first example's steps; small.
-/
import Derived.Test.YtjnmlgfkiebkgaaLho
namespace Go.Proofs.Ytjnmlgfkiebkgaa
open Go.RowKit
set_option linter.unusedVariables false
set_option linter.unusedSimpArgs false

theorem info_mov : (Try.prog.info? 78).map (fun i => (i.zero, i.size, i.bytes)) = some (some (.agg #[.int .i64 0, .int .i64 0, .int .i64 0, .int .i64 0]), 4, 32) := by kernel_rfl
theorem size_lks : (Try.prog.info? 24).map (·.size) = some 2 := by kernel_rfl
theorem moVals_app (l : List Mo) (v : Mo) : moVals l ++ moL v = moVals (l ++ [v]) := by simp [moVals]
theorem moL_one (v : Mo) : ∀ u ∈ moL v, u.oneCell' = true := by
  intro u hu
  simp at hu
  rcases hu with rfl | rfl | rfl | rfl <;> rfl
/-- moves in a row of one's own -/
def MovR (B n : Nat) (l : List Mo) (w : World) (e : Ending) (w' : World) : Prop := ∃ A c, e = .returned (.slice A n c) ∧ n = l.length ∧ w'.ownsRow B 78 4 (.slice A n c) n (moVals l) ∧ Below B w w'
set_option maxRecDepth 100000 in
set_option maxHeartbeats 2000000 in
theorem steps_any (ms : List Mo) (t : Int) (n B : Nat) (A : Option Addr) (c : Nat) (w : World) (hB : B ≤ w.heap.size) (h : w.ownsRow B 78 4 (.slice A ms.length c) ms.length (moVals ms)) (hn : ms.length + n ≤ 1000) :
    Calls Try.prog 31 #[.slice A ms.length c, .int .i64 t, .int .i64 n] w (MovR B (ms.length + n) (ms ++ List.replicate n ⟨t, 0, 0, 0⟩) w) := by
  obtain ⟨i1, hi1, hi1z, hi1s, hi1b⟩ := info_parts info_mov
  have HO := Lib.hid h
  clear h
  go_enter Try.func31, Try.ntmps31
  go_wp2_with fail
  go_loopg [0, 7] n (fun gk s0 i wr => ∃ (j : Nat) (A7 : Option Addr) (k7 : Nat), j + gk = n ∧ i = .int .i64 j ∧ s0 = .slice A7 (ms.length + j) k7 ∧ Hid (Below B w wr) ∧ B ≤ wr.heap.size ∧ Hid (wr.ownsRow B 78 4 s0 (ms.length + j) (moVals (ms ++ List.replicate j ⟨t, 0, 0, 0⟩))))
  case atStart => exact ⟨0, A, c, by omega, rfl, rfl, Below.refl _ _, hB, by show World.ownsRow _ _ _ _ _ _ _; simpa using HO.out⟩
  case round =>
    obtain ⟨j, A7, k7, hj, rfl, rfl, hBr, hzr, hO⟩ := hrel
    by_cases hlt : j < n
    · have e1 : (j : Int) < n := by omega
      go_wp2_with (at_builtin; go_must (refine wpList_app _ rfl _ _ 51 rfl B 78 i1 (.agg #[.int .i64 0, .int .i64 0, .int .i64 0, .int .i64 0]) 4 32 Try.underlying51 hi1 hi1z hi1s hi1b rfl (by decide) (.slice A7 (ms.length + j) k7) (ms.length + j) (moVals (ms ++ List.replicate j ⟨t, 0, 0, 0⟩)) rfl (hO.out.alloc _) (wr.heap.size + 1) (some ⟨wr.heap.size, 0, none⟩) 1 1 (moL ⟨t, 0, 0, 0⟩) rfl (((Blk.new wr 78 _).sl rfl).up (by simp)) (moL_one _) (ms.length + j + 1) rfl _ rfl _ rfl (by simp only [maxLen]; omega) (by omega) (by rw [World.size_alloc]; omega) ?_; intro A9 k9 w9 hown9 hg9 hat9 hk9 hk9'))
      go_roundg (gk - 1)
      case measure => omega
      case rel =>
        refine ⟨j + 1, A9, k9, by omega, by go_num, rfl, (hBr.out.alloc hzr _).grown hg9 (by rw [World.size_alloc]; omega) (fun r hr => (hO.out.lt r hr).1), ?_, ?_⟩
        · have := hg9.4; rw [World.size_alloc] at this; omega
        · show World.ownsRow _ _ _ _ _ _ _
          rw [List.replicate_succ', ← List.append_assoc, ← moVals_app]
          exact hown9
    · obtain rfl : j = n := by omega
      go_wp2_with fail
      go_ret
      exact ⟨A7, k7, rfl, by simp, hO.out, hBr.out⟩
set_option maxRecDepth 100000 in
theorem small_any (w : World) : Calls Try.prog 32 #[] w fun e w' => e = .returned (.agg #[.int .i64 2, .int .i64 2]) ∧ Below w.heap.size w w' := by
  go_enter Try.func32, Try.ntmps32
  go_wp2_with fail
  refine bodyPost_ret_by (results_cell_row rfl _ _ w.heap.size 24 #[.int .i64 2, .int .i64 2] (0, 0) _ rfl (Blk.new w 24 [.int .i64 2, .int .i64 2]) Try.underlying24 rfl size_lks) rfl ?_
  exact ⟨rfl, (Below.refl _ _).alloc (Nat.le_refl _) _⟩
end Go.Proofs.Ytjnmlgfkiebkgaa
