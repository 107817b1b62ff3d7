/-
  LocksOwn: for whatever locks and whatever moves, runs and stays are new memory, of one question and of the next: writing one of them leaves the others as they were; the arguments read behind the call as before it.
  No condition is asked beyond the statement's own.
-/
import Derived.Test.YtjnmlgfkiebkgaaLow
import Derived.Test.YtjnmlgfkiebkgaaLom
import Derived.Test.YtjnmlgfkiebkgaaLawKit
namespace Go.Proofs.Ytjnmlgfkiebkgaa
open Go.ChangeShapes Go.WideShapes Go.ChangeAt Go.RowKit
set_option linter.unusedVariables false
set_option linter.unusedSimpArgs false

set_option maxRecDepth 100000 in
theorem locksOwn_lifted (os : Os) (started : os.Started) (H : Type) (enc : TypeId × Value → H) :
    ReturnsInHanded {} Try.checked os 8 .any (Rows.locksOwnSpec.pre6 enc Try.prog Try.f8 Rows.locksOwnRow.domain false) (Rows.locksOwnSpec.post enc Try.prog Try.f8 false true false false) := by
  refine returnsInHanded_of_change (C := Try.checked) own started (by kernel_rfl) Try.func8
    (ChangeSpec.witness6 (enc := enc) (C := Try.checked) false ⟨#[], #[.agg #[.int .i64 0, .int .i64 0], .slice none 0 0], []⟩ 8 (by kernel_rfl) (by kernel_rfl) (by kernel_rfl) (by kernel_rfl)) ?_
  intro W base args ds gs before hval0 hW0 hcnd _
  have hW : DataW.Whole enc Try.prog Try.f8.params.toList Rows.locksOwnSpec.vars false W args.toList ds gs before := hW0
  have hval : ∀ (j : Nat) t v, Try.f8.params[j]? = some t → args[j]? = some v → Value.okWide Try.prog W .any base t v := hval0
  clear hval0 hW0
  have hP : ∀ {W'}, Below W.heap.size W W' → ∃ v, Ending.returned (.bool true) = .returned v ∧ Rows.locksOwnSpec.post enc Try.prog Try.f8 false true false false W args v W' := by
    intro W' hb
    refine ⟨_, rfl, law_post (t := 4) rfl rfl Try.underlying4 (by kernel_rfl) hW ?_ hb⟩
    obtain ⟨p, q, hA, hV, _⟩ := hW
    obtain ⟨rfl, rfl⟩ := trodVars_none hV
    have hA' : DataW.TrodAll enc Try.prog W 0 (fun _ => true) true [24, 51] args.toList ds p := hA
    obtain ⟨v0, v1, d0, d1, _, _, _, rfl, _⟩ := trodAll_two hA'
    rfl
  obtain ⟨p, q, hA0, hV, rfl, hfz, hnd⟩ := hW
  have hA : DataW.TrodAll enc Try.prog W 0 (fun _ => true) true [24, 51] args.toList ds p := hA0
  have hpar : Try.f8.params = #[24, 51] := Try.params8
  rw [hpar] at hval
  clear hA0
  obtain ⟨v0, v1, d0, d1, p0, p1, rfl, rfl, rfl, h0, h1⟩ := trodAll_two hA
  obtain ⟨T, k, rfl, _, _⟩ := open_lks (hval 0 24 v0 rfl rfl) h0
  obtain ⟨WA, wn, wk, rfl⟩ := okWide_slice Try.underlying51 (hval 1 51 v1 rfl rfl)
  obtain ⟨fuel, h1⟩ := h1
  obtain ⟨A, n, c, ms, hv1, b1, b2, b3, b4, b5⟩ := open_mos h1
  injection hv1 with e1 e2 e3
  subst e1; subst e2; subst e3
  exact (law_own T k ms WA wn wk b2 W b1 b3 b4 b5).mono fun e W' ⟨he, hb⟩ => by
    subst he
    exact hP hb

theorem locksOwn_holds : Rows.LocksOwnSaid :=
  OpenClaim.holds_of_wide 8 Try.f8 rfl rfl rfl rfl rfl rfl rfl ⟨rfl, rfl, rfl, rfl, rfl⟩ rfl rfl rfl rfl rfl (by kernel_rfl) Try.func8 (by kernel_rfl)
    (of_decide_eq_true (by kernel_rfl)) (by unfold Func.isWrapper; first | (rw [if_pos (by decide +kernel)]; kernel_rfl) | (rw [if_neg (by decide +kernel)]; exact ⟨rfl, rfl⟩))
    (fun os started H enc _ => locksOwn_lifted os started H enc)
#print axioms locksOwn_holds
end Go.Proofs.Ytjnmlgfkiebkgaa
