/-
  Two answers compared.
-/
import Derived.Test.YtjnmlgfkiebkgaaLsv
import Derived.Laws.StructEq
namespace Go.Proofs.Ytjnmlgfkiebkgaa
open Go.RowKit
set_option linter.unusedVariables false
set_option linter.unusedSimpArgs false

theorem ans_map : (Try.prog.fieldsOf 60).toList.map (fun f => (f.name, f.type, f.offset)) = [("Kind", 58, 0), ("Value", 3, 1)] := by kernel_rfl
theorem ans_fields : ∃ f g : Field, (Try.prog.fieldsOf 60).toList = [f, g] ∧ f.name = "Kind" ∧ g.name = "Value" ∧ f.offset = 0 ∧ g.offset = 1 ∧ f.type = 58 ∧ g.type = 3 := by
  have h := ans_map
  revert h
  generalize (Try.prog.fieldsOf 60).toList = l
  intro h
  match l with
  | [] => simp at h
  | [f] => simp at h
  | [f, g] =>
    simp at h
    exact ⟨f, g, rfl, h.1.1, h.2.1, h.1.2.2, h.2.2.2, h.1.2.1, h.2.2.1⟩
  | f :: g :: k :: r => simp at h
theorem ans_st : Try.prog.underlying 60 = some (.struct (Try.prog.fieldsOf 60)) := by kernel_rfl
theorem ans_held : Try.prog.stoodInHeld 60 = false := by kernel_rfl
theorem ans_guard : Try.prog.eqGuardType Try.prog.depth 60 = false := by kernel_rfl
theorem ans_k : Try.prog.underlying 58 = some (.int .i64) := by kernel_rfl
theorem ans_eqIn (a b c d : Int) (w : World) : (Op.equalIn 10000 60 (.agg #[.int .i64 a, .int .i64 b]) (.agg #[.int .i64 c, .int .i64 d])).run Try.prog w = .ok (a == c && b == d) w := by
  obtain ⟨f, g, h1, h2, h3, h4, h5, h6, h7⟩ := ans_fields
  have h8 : ∀ w, (isAgg 58).run Try.prog w = .ok false w := fun w => by simp [isAgg, run_underlying ans_k]
  have h9 := Try.isAgg3
  rw [run_equalIn_struct w 9999 _ _ _ ans_st ans_held, h1]
  simp only [Op.eqFields, h2, h3, h4, h5, h6, h7, part, Sem.run_bind, h8, h9, Result.andThen_ok]
  simp [run_equalIn_int w 9998 _ .i64 .i64 _ _ ans_k, run_equalIn_int w 9998 _ .i64 .i64 _ _ Try.underlying3, h9]
  by_cases e1 : a = c <;> by_cases e2 : b = d <;> simp [e1, e2]
theorem ans_neq (a b c d : Int) (w : World) : (binOp .neq 60 (.agg #[.int .i64 a, .int .i64 b]) (.agg #[.int .i64 c, .int .i64 d])).run Try.prog w = .ok (.bool (!(a == c && b == d))) w := by
  rw [run_neq_struct, ans_eqIn]
  rfl
theorem ans_eql (a b c d : Int) (w : World) : (binOp .eql 60 (.agg #[.int .i64 a, .int .i64 b]) (.agg #[.int .i64 c, .int .i64 d])).run Try.prog w = .ok (.bool (a == c && b == d)) w := by
  rw [run_eql_struct, ans_eqIn]
  rfl
end Go.Proofs.Ytjnmlgfkiebkgaa
