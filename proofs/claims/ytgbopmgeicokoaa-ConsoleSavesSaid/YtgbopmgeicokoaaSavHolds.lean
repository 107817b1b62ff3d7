/-
  ConsoleSaves: for every session and every bytes, console.Save's image is the document's, byte for byte, the sums are the same, and each image is new memory; the arguments read behind the call as before it.
  No condition is asked beyond the statement's own.
-/
import Derived.Test.YtgbopmgeicokoaaSavLaw
import Derived.Test.YtgbopmgeicokoaaSesOpen
import Derived.Test.YtgbopmgeicokoaaLawKit
namespace Go.Proofs.Ytgbopmgeicokoaa
open Go.ChangeShapes Go.WideShapes Go.ChangeAt Go.RowKit

set_option maxRecDepth 100000 in
theorem consoleSaves_lifted (os : Os) (started : os.Started) (H : Type) (enc : TypeId × Value → H) :
    ReturnsInHanded {} Try.checked os 7 .any (Rows.consoleSavesSpec.pre6 enc Try.prog Try.f7 Rows.consoleSavesRow.domain false) (Rows.consoleSavesSpec.post enc Try.prog Try.f7 false true false false) := by
  refine returnsInHanded_of_change_sized (C := Try.checked) own started (by kernel_rfl) Try.func7
    (ChangeSpec.witness6 (enc := enc) (C := Try.checked) false ⟨#[], #[.agg #[.int .i64 0, .int .i64 0, .int .i64 0, .int .i64 0, .int .i64 0, .int .i64 0, .int .i64 0, .int .i64 0, .int .i64 0, .int .i64 0, .int .i64 0, .int .i64 0, .int .i64 0, .int .i64 0, .int .i64 0, .int .i64 0, .slice none 0 0], .slice none 0 0], []⟩ 8 (by kernel_rfl) (by kernel_rfl) (by kernel_rfl) (by kernel_rfl)) ?_
  intro W base args ds gs before hval0 hW0 hcnd hsz _
  have hW : DataW.Whole enc Try.prog Try.f7.params.toList Rows.consoleSavesSpec.vars false W args.toList ds gs before := hW0
  have hval : ∀ (j : Nat) t v, Try.f7.params[j]? = some t → args[j]? = some v → Value.okWide Try.prog W .any base t v := hval0
  clear hval0 hW0
  have hP : ∀ {W'}, Below W.heap.size W W' → ∃ v, Ending.returned (.bool true) = .returned v ∧ Rows.consoleSavesSpec.post enc Try.prog Try.f7 false true false false W args v W' := by
    intro W' hb
    refine ⟨_, rfl, law_post (t := 4) rfl rfl Try.underlying4 (by kernel_rfl) hW ?_ hb⟩
    obtain ⟨p, q, hA, hV, _⟩ := hW
    obtain ⟨rfl, rfl⟩ := trodVars_none hV
    have hA' : DataW.TrodAll enc Try.prog W 0 (fun _ => true) true [76, 77] args.toList ds p := hA
    obtain ⟨v0, v1, d0, d1, p0, p1, _, rfl, _⟩ := trodAll_two hA'
    rfl
  obtain ⟨p, q, hA0, hV, rfl, hfz, hnd⟩ := hW
  have hA : DataW.TrodAll enc Try.prog W 0 (fun _ => true) true [76, 77] args.toList ds p := hA0
  have hpar : Try.f7.params = #[76, 77] := Try.params7
  rw [hpar] at hval
  clear hA0
  obtain ⟨v0, v1, d0, d1, p0, p1, rfl, rfl, rfl, h0, h1⟩ := trodAll_two hA
  have L0 : Light Try.prog 76 d0 := Light.of_all (j := 0) hsz rfl rfl
  obtain ⟨s, A, n, k, ms, rfl, hM, hO, hL⟩ := open_ses (hval 0 76 v0 rfl rfl) h0
  obtain ⟨WA, wn, wk, rfl⟩ := okWide_slice Try.underlying77 (hval 1 77 v1 rfl rfl)
  obtain ⟨fuel, h1⟩ := h1
  obtain ⟨WA', wn', wk', zs, hv1, b1, b2, b3, b4, b5, b6⟩ := open_nums Try.underlying77 Try.underlying5 (by kernel_rfl) h1
  injection hv1 with e1 e2 e3
  subst e1; subst e2; subst e3
  obtain ⟨ws, hz, hwl⟩ := bytes_of b5
  rw [hz] at b1
  have h32 := hL L0
  unfold reachBytes at h32
  exact (law_saves s A n k ms WA wn wk ws W hM hO (by omega) b1 ⟨b3, b4⟩ hwl).mono fun e W' ⟨he, hb⟩ => by
    subst he
    exact hP hb

theorem consoleSaves_holds : Rows.ConsoleSavesSaid :=
  OpenClaim.holds_of_wide 7 Try.f7 rfl rfl rfl rfl rfl rfl rfl ⟨rfl, rfl, rfl, rfl, rfl⟩ rfl rfl rfl rfl rfl (by kernel_rfl) Try.func7 (by kernel_rfl)
    (of_decide_eq_true (by kernel_rfl)) (by unfold Func.isWrapper; first | (rw [if_pos (by decide +kernel)]; kernel_rfl) | (rw [if_neg (by decide +kernel)]; exact ⟨rfl, rfl⟩))
    (fun os started H enc _ => consoleSaves_lifted os started H enc)
#print axioms consoleSaves_holds
end Go.Proofs.Ytgbopmgeicokoaa
