/-
  LocksFirst: for whatever locks and whatever moves, the ticket, the queue's and the node's lock let in by the order of their swaps, and the bakery lets nobody in ahead of one who had a number before the other came; the arguments read behind the call as before it.
  No condition is asked beyond the statement's own.
-/
import Derived.Test.YtjnmlgfkiebkgaaLfw
import Derived.Test.YtjnmlgfkiebkgaaLom
import Derived.Test.YtjnmlgfkiebkgaaLawKit
namespace Go.Proofs.Ytjnmlgfkiebkgaa
open Go.ChangeShapes Go.WideShapes Go.ChangeAt Go.RowKit
set_option linter.unusedVariables false
set_option linter.unusedSimpArgs false

set_option maxRecDepth 100000 in
theorem locksFirst_lifted (os : Os) (started : os.Started) (H : Type) (enc : TypeId × Value → H) :
    ReturnsInHanded {} Try.checked os 6 .any (Rows.locksFirstSpec.pre6 enc Try.prog Try.f6 Rows.locksFirstRow.domain false) (Rows.locksFirstSpec.post enc Try.prog Try.f6 false true false false) := by
  refine returnsInHanded_of_change (C := Try.checked) own started (by kernel_rfl) Try.func6
    (ChangeSpec.witness6 (enc := enc) (C := Try.checked) false ⟨#[], #[.agg #[.int .i64 0, .int .i64 0], .slice none 0 0], []⟩ 8 (by kernel_rfl) (by kernel_rfl) (by kernel_rfl) (by kernel_rfl)) ?_
  intro W base args ds gs before hval0 hW0 hcnd _
  have hW : DataW.Whole enc Try.prog Try.f6.params.toList Rows.locksFirstSpec.vars false W args.toList ds gs before := hW0
  have hval : ∀ (j : Nat) t v, Try.f6.params[j]? = some t → args[j]? = some v → Value.okWide Try.prog W .any base t v := hval0
  clear hval0 hW0
  have hP : ∀ {W'}, Below W.heap.size W W' → ∃ v, Ending.returned (.bool true) = .returned v ∧ Rows.locksFirstSpec.post enc Try.prog Try.f6 false true false false W args v W' := by
    intro W' hb
    refine ⟨_, rfl, law_post (t := 4) rfl rfl Try.underlying4 (by kernel_rfl) hW ?_ hb⟩
    obtain ⟨p, q, hA, hV, _⟩ := hW
    obtain ⟨rfl, rfl⟩ := trodVars_none hV
    have hA' : DataW.TrodAll enc Try.prog W 0 (fun _ => true) true [24, 51] args.toList ds p := hA
    obtain ⟨v0, v1, d0, d1, _, _, _, rfl, _⟩ := trodAll_two hA'
    rfl
  obtain ⟨p, q, hA0, hV, rfl, hfz, hnd⟩ := hW
  have hA : DataW.TrodAll enc Try.prog W 0 (fun _ => true) true [24, 51] args.toList ds p := hA0
  have hpar : Try.f6.params = #[24, 51] := Try.params6
  rw [hpar] at hval
  clear hA0
  obtain ⟨v0, v1, d0, d1, p0, p1, rfl, rfl, rfl, h0, h1⟩ := trodAll_two hA
  obtain ⟨T, k, rfl, _, _⟩ := open_lks (hval 0 24 v0 rfl rfl) h0
  obtain ⟨WA, wn, wk, rfl⟩ := okWide_slice Try.underlying51 (hval 1 51 v1 rfl rfl)
  obtain ⟨fuel, h1⟩ := h1
  obtain ⟨A, n, c, ms, hv1, b1, b2, b3, b4, b5⟩ := open_mos h1
  injection hv1 with e1 e2 e3
  subst e1; subst e2; subst e3
  exact (law_first T k ms WA wn wk b2 W b1 b3 b4 b5).mono fun e W' ⟨he, hb⟩ => by
    subst he
    exact hP hb

theorem locksFirst_holds : Rows.LocksFirstSaid :=
  OpenClaim.holds_of_wide 6 Try.f6 rfl rfl rfl rfl rfl rfl rfl ⟨rfl, rfl, rfl, rfl, rfl⟩ rfl rfl rfl rfl rfl (by kernel_rfl) Try.func6 (by kernel_rfl)
    (of_decide_eq_true (by kernel_rfl)) (by unfold Func.isWrapper; first | (rw [if_pos (by decide +kernel)]; kernel_rfl) | (rw [if_neg (by decide +kernel)]; exact ⟨rfl, rfl⟩))
    (fun os started H enc _ => locksFirst_lifted os started H enc)
#print axioms locksFirst_holds
end Go.Proofs.Ytjnmlgfkiebkgaa
