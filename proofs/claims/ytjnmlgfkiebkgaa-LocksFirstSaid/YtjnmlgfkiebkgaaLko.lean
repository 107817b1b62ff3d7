/-
  The next thread behind one, and a node's word.
-/
import Derived.Test.YtjnmlgfkiebkgaaLtk
import Derived.WalkMore
import Derived.ScopeJumps
namespace Go.Proofs.Ytjnmlgfkiebkgaa
open Go.RowKit
set_option linter.unusedVariables false
set_option linter.unusedSimpArgs false

section
variable {W : World} {lb : Nat} {l : Lk}
theorem lkb_zero (hl : LkB W lb l) : W.cell? ⟨lb, 0, none⟩ = some (.int .i64 l.me) ∧ W.cell? ⟨lb, 1, none⟩ = some (.int .i64 l.all) ∧ W.cell? ⟨lb, 2, none⟩ = some (.int .i64 l.at_) := ⟨Blk.cell hl rfl, Blk.cell hl rfl, Blk.cell hl rfl⟩
theorem iw_next (x : Int) : (iw (x + 1) == x) = false := by
  simp only [iw, wrap64]
  rw [beq_eq_false_iff_ne]
  omega
set_option maxRecDepth 100000 in
set_option maxHeartbeats 4000000 in
theorem others_any (l0 : W.cell? ⟨lb, 0, none⟩ = some (.int .i64 l.me)) (l1 : W.cell? ⟨lb, 1, none⟩ = some (.int .i64 l.all)) (k : Int) : Calls Try.prog 111 #[.pointer (some ⟨lb, 0, none⟩), .int .i64 k] W fun e w' => e = .returned (.int .i64 (l.oth k)) ∧ w' = W := by
  obtain ⟨kd, me, all, at_, x, y⟩ := l
  dsimp only at l0 l1
  cases h1 : iw (k + 1) == me with
  | false =>
    have e1 : Lk.oth ⟨kd, me, all, at_, x, y⟩ k = min (iw (k + 1)) all := by unfold Lk.oth; dsimp only; rw [h1]; rfl
    rw [e1]
    clear e1
    go_enter Try.func111, Try.ntmps111
    go_wp2_with fail
    go_step3
    go_wp2_with fail
    go_step3
    go_wp2_with fail
    all_goals (go_ret; refine ⟨congrArg (fun z => Ending.returned (.int .i64 z)) ?_, rfl⟩; dsimp only [iw] at *; omega)
  | true =>
    have e1 : Lk.oth ⟨kd, me, all, at_, x, y⟩ k = min (iw (iw (k + 1) + 1)) all := by unfold Lk.oth; dsimp only; rw [h1]; rfl
    have h2 : iw (k + 1) = me := by simpa using h1
    have h3 := iw_next me
    rw [e1]
    subst h2
    clear e1
    go_enter Try.func111, Try.ntmps111
    go_wp2_with fail
    refine wp_scope_jumps 0 (fun a' w' => w' = W ∧ ∃ (u5 u6 u7 u8 u9 u10 u11 u12 : Value), a' = { tmps := #[.pointer (some ⟨lb, 0, none⟩), .int .i64 (iw (k + 1)), undef, undef, .int .i64 0, u5, u6, u7, u8, u9, u10, u11, u12, undef, undef, undef, undef, undef, undef], defers := [] }) (fun _ _ => 0) rfl ?_ ?_
    · go_wp2_with fail
      go_step3
      go_wp2_with fail
      go_step3
      exact ⟨rfl, rfl, _, _, _, _, _, _, _, _, rfl⟩
    · rintro a' w' ⟨rfl, u5, u6, u7, u8, u9, u10, u11, u12, rfl⟩
      go_wp2_with fail
      all_goals (simp only [Exit.jump]; go_ret; refine ⟨congrArg (fun z => Ending.returned (.int .i64 z)) ?_, rfl⟩; dsimp only [iw] at *; omega)
theorem word_any (t : Int) (w : World) : Calls Try.prog 120 #[.int .i64 t] w fun e w' => e = .returned (.int .i64 (nword t)) ∧ w' = w := by
  go_enter Try.func120, Try.ntmps120
  go_wp2_with fail
  go_ret
  exact ⟨rfl, rfl⟩
end
end Go.Proofs.Ytjnmlgfkiebkgaa
