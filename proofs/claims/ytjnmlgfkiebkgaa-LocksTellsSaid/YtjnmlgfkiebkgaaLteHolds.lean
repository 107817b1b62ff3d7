/-
  LocksTells: for whatever locks and whatever run, locks.Stays and locks.Holds answer what the document's Stays and Holds answer, and the run stays as it was; the arguments read behind the call as before it.
  No condition is asked beyond the statement's own.
-/
import Derived.Test.YtjnmlgfkiebkgaaLte
import Derived.Test.YtjnmlgfkiebkgaaLom
import Derived.Test.YtjnmlgfkiebkgaaLawKit
namespace Go.Proofs.Ytjnmlgfkiebkgaa
open Go.ChangeShapes Go.WideShapes Go.ChangeAt Go.RowKit
set_option linter.unusedVariables false
set_option linter.unusedSimpArgs false

set_option maxRecDepth 100000 in
theorem locksTells_lifted (os : Os) (started : os.Started) (H : Type) (enc : TypeId × Value → H) :
    ReturnsInHanded {} Try.checked os 4 .any (Rows.locksTellsSpec.pre6 enc Try.prog Try.f4 Rows.locksTellsRow.domain false) (Rows.locksTellsSpec.post enc Try.prog Try.f4 false true false false) := by
  refine returnsInHanded_of_change_sized (C := Try.checked) own started (by kernel_rfl) Try.func4
    (ChangeSpec.witness6 (enc := enc) (C := Try.checked) false ⟨#[], #[.agg #[.int .i64 0, .int .i64 0], .agg #[.slice none 0 0, .slice none 0 0, .slice none 0 0, .slice none 0 0]], []⟩ 8 (by kernel_rfl) (by kernel_rfl) (by kernel_rfl) (by kernel_rfl)) ?_
  intro W base args ds gs before hval0 hW0 hcnd hsz _
  have hW : DataW.Whole enc Try.prog Try.f4.params.toList Rows.locksTellsSpec.vars false W args.toList ds gs before := hW0
  have hval : ∀ (j : Nat) t v, Try.f4.params[j]? = some t → args[j]? = some v → Value.okWide Try.prog W .any base t v := hval0
  clear hval0 hW0
  have hP : ∀ {W'}, Below W.heap.size W W' → ∃ v, Ending.returned (.bool true) = .returned v ∧ Rows.locksTellsSpec.post enc Try.prog Try.f4 false true false false W args v W' := by
    intro W' hb
    refine ⟨_, rfl, law_post (t := 4) rfl rfl Try.underlying4 (by kernel_rfl) hW ?_ hb⟩
    obtain ⟨p, q, hA, hV, _⟩ := hW
    obtain ⟨rfl, rfl⟩ := trodVars_none hV
    have hA' : DataW.TrodAll enc Try.prog W 0 (fun _ => true) true [24, 39] args.toList ds p := hA
    obtain ⟨v0, v1, d0, d1, _, _, _, rfl, _⟩ := trodAll_two hA'
    rfl
  obtain ⟨p, q, hA0, hV, rfl, hfz, hnd⟩ := hW
  have hA : DataW.TrodAll enc Try.prog W 0 (fun _ => true) true [24, 39] args.toList ds p := hA0
  have hpar : Try.f4.params = #[24, 39] := Try.params4
  rw [hpar] at hval
  clear hA0
  obtain ⟨v0, v1, d0, d1, p0, p1, rfl, rfl, rfl, h0, h1⟩ := trodAll_two hA
  obtain ⟨T, k, rfl, _, _⟩ := open_lks (hval 0 24 v0 rfl rfl) h0
  have L1 : Light Try.prog 39 d1 := Light.of_all (j := 1) hsz rfl rfl
  obtain ⟨calls, tr, sh, words, Ac, At, As, Aw, kc, kt, ks, kw, rfl, s0, s1, s2, s3, hk, hw, hL⟩ := open_run (hval 1 39 v1 rfl rfl) h1
  exact (law_tells T k calls tr sh words Ac At As Aw kc kt ks kw W s0 s1 s2 s3 (hL L1) hk hw).mono fun e W' ⟨he, hb⟩ => by
    subst he
    exact hP hb

theorem locksTells_holds : Rows.LocksTellsSaid :=
  OpenClaim.holds_of_wide 4 Try.f4 rfl rfl rfl rfl rfl rfl rfl ⟨rfl, rfl, rfl, rfl, rfl⟩ rfl rfl rfl rfl rfl (by kernel_rfl) Try.func4 (by kernel_rfl)
    (of_decide_eq_true (by kernel_rfl)) (by unfold Func.isWrapper; first | (rw [if_pos (by decide +kernel)]; kernel_rfl) | (rw [if_neg (by decide +kernel)]; exact ⟨rfl, rfl⟩))
    (fun os started H enc _ => locksTells_lifted os started H enc)
#print axioms locksTells_holds
end Go.Proofs.Ytjnmlgfkiebkgaa
