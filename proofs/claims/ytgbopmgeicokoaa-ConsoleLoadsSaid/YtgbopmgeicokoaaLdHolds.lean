/-
  ConsoleLoads: for every bytes, console.Load's session and error are the document's, the bytes stand as they stood, and the moves are new memory; the argument reads behind the call as before it.
  No condition is asked beyond the statement's own.
-/
import Derived.Test.YtgbopmgeicokoaaLdLaw
import Derived.Test.YtgbopmgeicokoaaSesOpen
import Derived.Test.YtgbopmgeicokoaaLawKit
namespace Go.Proofs.Ytgbopmgeicokoaa
open Go.ChangeShapes Go.WideShapes Go.ChangeAt Go.RowKit

set_option maxRecDepth 100000 in
theorem consoleLoads_lifted (os : Os) (started : os.Started) (H : Type) (enc : TypeId × Value → H) :
    ReturnsInHanded {} Try.checked os 8 .any (Rows.consoleLoadsSpec.pre6 enc Try.prog Try.f8 Rows.consoleLoadsRow.domain false) (Rows.consoleLoadsSpec.post enc Try.prog Try.f8 false true false false) := by
  refine returnsInHanded_of_change_sized (C := Try.checked) own started (by kernel_rfl) Try.func8
    (ChangeSpec.witness6 (enc := enc) (C := Try.checked) false ⟨#[], #[.slice none 0 0], []⟩ 8 (by kernel_rfl) (by kernel_rfl) (by kernel_rfl) (by kernel_rfl)) ?_
  intro W base args ds gs before hval0 hW0 hcnd hsz _
  have hW : DataW.Whole enc Try.prog Try.f8.params.toList Rows.consoleLoadsSpec.vars false W args.toList ds gs before := hW0
  have hval : ∀ (j : Nat) t v, Try.f8.params[j]? = some t → args[j]? = some v → Value.okWide Try.prog W .any base t v := hval0
  clear hval0 hW0
  have hP : ∀ {W'}, Below W.heap.size W W' → ∃ v, Ending.returned (.bool true) = .returned v ∧ Rows.consoleLoadsSpec.post enc Try.prog Try.f8 false true false false W args v W' := by
    intro W' hb
    refine ⟨_, rfl, law_post (t := 4) rfl rfl Try.underlying4 (by kernel_rfl) hW ?_ hb⟩
    obtain ⟨p, q, hA, hV, _⟩ := hW
    obtain ⟨rfl, rfl⟩ := trodVars_none hV
    have hA' : DataW.TrodAll enc Try.prog W 0 (fun _ => true) true [77] args.toList ds p := hA
    obtain ⟨v0, vs0, d0, ds0, p0, q0, _, rfl, _, _, r0⟩ := trodAll_cons hA'
    obtain ⟨rfl, rfl, rfl⟩ := trodAll_nil r0
    rfl
  obtain ⟨p, q, hA0, hV, rfl, hfz, hnd⟩ := hW
  have hA : DataW.TrodAll enc Try.prog W 0 (fun _ => true) true [77] args.toList ds p := hA0
  have hpar : Try.f8.params = #[77] := Try.params8
  rw [hpar] at hval
  clear hA0
  obtain ⟨v0, vs0, d0, ds0, p0, q0, hargs, rfl, rfl, h1, r0⟩ := trodAll_cons hA
  obtain ⟨rfl, rfl, rfl⟩ := trodAll_nil r0
  obtain rfl : args = #[v0] := by cases args; simp_all
  have L0 : Light Try.prog 77 d0 := Light.of_all (j := 0) hsz rfl rfl
  obtain ⟨WA, wn, wk, rfl⟩ := okWide_slice Try.underlying77 (hval 0 77 v0 rfl rfl)
  obtain ⟨fuel, h1⟩ := h1
  obtain ⟨WA', wn', wk', zs, hv1, b1, b2, b3, b4, b5, b6⟩ := open_nums Try.underlying77 Try.underlying5 (by kernel_rfl) h1
  injection hv1 with e1 e2 e3
  subst e1; subst e2; subst e3
  obtain ⟨ws, hz, hwl⟩ := bytes_of b5
  rw [hz] at b1
  have h32 := b6 L0
  rw [show Try.prog.bytesOf 5 = 1 from by kernel_rfl] at h32
  unfold reachBytes at h32
  exact (law_loads WA wn wk ws W b1 ⟨b3, b4⟩ hwl (by omega)).mono fun e W' ⟨he, hb⟩ => by
    subst he
    exact hP hb

theorem consoleLoads_holds : Rows.ConsoleLoadsSaid :=
  OpenClaim.holds_of_wide 8 Try.f8 rfl rfl rfl rfl rfl rfl rfl ⟨rfl, rfl, rfl, rfl, rfl⟩ rfl rfl rfl rfl rfl (by kernel_rfl) Try.func8 (by kernel_rfl)
    (of_decide_eq_true (by kernel_rfl)) (by unfold Func.isWrapper; first | (rw [if_pos (by decide +kernel)]; kernel_rfl) | (rw [if_neg (by decide +kernel)]; exact ⟨rfl, rfl⟩))
    (fun os started H enc _ => consoleLoads_lifted os started H enc)
#print axioms consoleLoads_holds
end Go.Proofs.Ytgbopmgeicokoaa
