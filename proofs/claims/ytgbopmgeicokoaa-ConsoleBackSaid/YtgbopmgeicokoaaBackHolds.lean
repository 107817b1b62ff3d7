/-
  ConsoleBack: what console.Save saves of any session that may be, console.Load loads as the same; and an image of which bytes are changed, all among four that stand side by side, is not loaded; the arguments read behind the call as before it.
  No condition is asked beyond the statement's own.
-/
import Derived.Test.YtgbopmgeicokoaaBack
import Derived.Test.YtgbopmgeicokoaaSesOpen
import Derived.Test.YtgbopmgeicokoaaLawKit
namespace Go.Proofs.Ytgbopmgeicokoaa
open Go.ChangeShapes Go.WideShapes Go.ChangeAt Go.RowKit

set_option maxRecDepth 100000 in
theorem consoleBack_lifted (os : Os) (started : os.Started) (H : Type) (enc : TypeId × Value → H) :
    ReturnsInHanded {} Try.checked os 9 .any (Rows.consoleBackSpec.pre6 enc Try.prog Try.f9 Rows.consoleBackRow.domain false) (Rows.consoleBackSpec.post enc Try.prog Try.f9 false true false false) := by
  refine returnsInHanded_of_change_sized (C := Try.checked) own started (by kernel_rfl) Try.func9
    (ChangeSpec.witness6 (enc := enc) (C := Try.checked) false ⟨#[], #[.agg #[.int .i64 0, .int .i64 0, .int .i64 0, .int .i64 0, .int .i64 0, .int .i64 0, .int .i64 0, .int .i64 0, .int .i64 0, .int .i64 0, .int .i64 0, .int .i64 0, .int .i64 0, .int .i64 0, .int .i64 0, .int .i64 0, .slice none 0 0], .int .i64 0, .int .u32 0], []⟩ 8 (by kernel_rfl) (by kernel_rfl) (by kernel_rfl) (by kernel_rfl)) ?_
  intro W base args ds gs before hval0 hW0 hcnd hsz _
  have hW : DataW.Whole enc Try.prog Try.f9.params.toList Rows.consoleBackSpec.vars false W args.toList ds gs before := hW0
  have hval : ∀ (j : Nat) t v, Try.f9.params[j]? = some t → args[j]? = some v → Value.okWide Try.prog W .any base t v := hval0
  clear hval0 hW0
  have hP : ∀ {W'}, Below W.heap.size W W' → ∃ v, Ending.returned (.bool true) = .returned v ∧ Rows.consoleBackSpec.post enc Try.prog Try.f9 false true false false W args v W' := by
    intro W' hb
    refine ⟨_, rfl, law_post (t := 4) rfl rfl Try.underlying4 (by kernel_rfl) hW ?_ hb⟩
    obtain ⟨p, q, hA, hV, _⟩ := hW
    obtain ⟨rfl, rfl⟩ := trodVars_none hV
    have hA' : DataW.TrodAll enc Try.prog W 0 (fun _ => true) true [76, 3, 83] args.toList ds p := hA
    obtain ⟨v0, vs0, d0, ds0, p0, q0, _, rfl, _, _, r0⟩ := trodAll_cons hA'
    obtain ⟨v1, vs1, d1, ds1, p1, q1, _, rfl, _, _, r1⟩ := trodAll_cons r0
    obtain ⟨v2, vs2, d2, ds2, p2, q2, _, rfl, _, _, r2⟩ := trodAll_cons r1
    obtain ⟨rfl, rfl, rfl⟩ := trodAll_nil r2
    rfl
  obtain ⟨p, q, hA0, hV, rfl, hfz, hnd⟩ := hW
  have hA : DataW.TrodAll enc Try.prog W 0 (fun _ => true) true [76, 3, 83] args.toList ds p := hA0
  have hpar : Try.f9.params = #[76, 3, 83] := Try.params9
  rw [hpar] at hval
  clear hA0
  obtain ⟨v0, vs0, d0, ds0, p0, q0, hargs, rfl, rfl, h0, r0⟩ := trodAll_cons hA
  obtain ⟨v1, vs1, d1, ds1, p1, q1, rfl, rfl, rfl, h1, r1⟩ := trodAll_cons r0
  obtain ⟨v2, vs2, d2, ds2, p2, q2, rfl, rfl, rfl, h2, r2⟩ := trodAll_cons r1
  obtain ⟨rfl, rfl, rfl⟩ := trodAll_nil r2
  obtain rfl : args = #[v0, v1, v2] := by cases args; simp_all
  obtain ⟨s, A, n, k, ms, rfl, hM, hO, hL⟩ := open_ses (hval 0 76 v0 rfl rfl) h0
  obtain ⟨i, rfl, rfl, rfl, wi⟩ := open_int Try.underlying3 (hval 1 3 v1 rfl rfl) h1
  obtain ⟨j, rfl, rfl, rfl, wj⟩ := open_int Try.underlying83 (hval 2 83 v2 rfl rfl) h2
  have hj := wf_int wj
  rw [show IntKind.u32.min = 0 from by decide, show IntKind.u32.max = 4294967295 from by decide] at hj
  obtain ⟨c, rfl⟩ : ∃ c : Nat, j = (c : Int) := ⟨j.toNat, by omega⟩
  exact (law_back s A n k ms i c W hM hO (wf_i64' wi) (by omega)).mono fun e W' ⟨he, hb⟩ => by
    subst he
    exact hP hb

theorem consoleBack_holds : Rows.ConsoleBackSaid :=
  OpenClaim.holds_of_wide 9 Try.f9 rfl rfl rfl rfl rfl rfl rfl ⟨rfl, rfl, rfl, rfl, rfl⟩ rfl rfl rfl rfl rfl (by kernel_rfl) Try.func9 (by kernel_rfl)
    (of_decide_eq_true (by kernel_rfl)) (by unfold Func.isWrapper; first | (rw [if_pos (by decide +kernel)]; kernel_rfl) | (rw [if_neg (by decide +kernel)]; exact ⟨rfl, rfl⟩))
    (fun os started H enc _ => consoleBack_lifted os started H enc)
#print axioms consoleBack_holds
end Go.Proofs.Ytgbopmgeicokoaa
