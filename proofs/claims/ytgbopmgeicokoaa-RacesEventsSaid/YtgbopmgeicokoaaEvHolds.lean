/-
  RacesEvents: for every litmus program and every list of turns, races.Events and races.Pairs answer what the document's events and pairs are; the arguments read behind the call as before it.
  No condition is asked beyond the statement's own.
-/
import Derived.Test.YtgbopmgeicokoaaEvL
import Derived.Test.YtgbopmgeicokoaaLitOpen
import Derived.Test.YtgbopmgeicokoaaLawKit
namespace Go.Proofs.Ytgbopmgeicokoaa
open Go.ChangeShapes Go.WideShapes Go.ChangeAt Go.RowKit
set_option linter.unusedVariables false
set_option linter.unusedSimpArgs false

theorem law_events (l : Lit) (A : Option Addr) (n k : Nat) (us : List Tn) (w : World) (h : LitAt w w.heap.size l) (hu : Sl w w.heap.size 3 A n (tnVals us)) (hn : n * 24 ≤ 140737488355328) (hk : n ≤ k ∧ k ≤ maxLen) :
    Calls Try.prog 10 #[litV l, .slice A n k] w (BoolR true w) := by
  cases hok : okLit l with
  | false => exact law_events_no l A n k us 190 w h hu hn hk (Or.inl ⟨hok, rfl⟩)
  | true =>
    by_cases hle : n ≤ 4096
    · exact law_events_ok l A n k us w h hu hk hok hle
    · exact law_events_no l A n k us 3 w h hu hn hk (Or.inr ⟨hok, by omega, rfl⟩)

set_option maxRecDepth 100000 in
theorem racesEvents_lifted (os : Os) (started : os.Started) (H : Type) (enc : TypeId × Value → H) :
    ReturnsInHanded {} Try.checked os 10 .any (Rows.racesEventsSpec.pre6 enc Try.prog Try.f10 Rows.racesEventsRow.domain false) (Rows.racesEventsSpec.post enc Try.prog Try.f10 false true false false) := by
  refine returnsInHanded_of_change_sized (C := Try.checked) own started (by kernel_rfl) Try.func10
    (ChangeSpec.witness6 (enc := enc) (C := Try.checked) false ⟨#[], #[.agg #[.slice none 0 0, .slice none 0 0], .slice none 0 0], []⟩ 8 (by kernel_rfl) (by kernel_rfl) (by kernel_rfl) (by kernel_rfl)) ?_
  intro W base args ds gs before hval0 hW0 hcnd hsz _
  have hW : DataW.Whole enc Try.prog Try.f10.params.toList Rows.racesEventsSpec.vars false W args.toList ds gs before := hW0
  have hval : ∀ (j : Nat) t v, Try.f10.params[j]? = some t → args[j]? = some v → Value.okWide Try.prog W .any base t v := hval0
  clear hval0 hW0
  have hP : ∀ {W'}, Below W.heap.size W W' → ∃ v, Ending.returned (.bool true) = .returned v ∧ Rows.racesEventsSpec.post enc Try.prog Try.f10 false true false false W args v W' := by
    intro W' hb
    refine ⟨_, rfl, law_post (t := 4) rfl rfl Try.underlying4 (by kernel_rfl) hW ?_ hb⟩
    obtain ⟨p, q, hA, hV, _⟩ := hW
    obtain ⟨rfl, rfl⟩ := trodVars_none hV
    have hA' : DataW.TrodAll enc Try.prog W 0 (fun _ => true) true [101, 102] args.toList ds p := hA
    obtain ⟨v0, v1, d0, d1, p0, p1, _, rfl, _⟩ := trodAll_two hA'
    rfl
  obtain ⟨p, q, hA0, hV, rfl, hfz, hnd⟩ := hW
  have hA : DataW.TrodAll enc Try.prog W 0 (fun _ => true) true [101, 102] args.toList ds p := hA0
  have hpar : Try.f10.params = #[101, 102] := Try.params10
  rw [hpar] at hval
  clear hA0
  obtain ⟨v0, v1, d0, d1, p0, p1, rfl, rfl, rfl, h0, h1⟩ := trodAll_two hA
  have L1 : Light Try.prog 102 d1 := Light.of_all (j := 1) hsz rfl rfl
  obtain ⟨l, rfl, hL⟩ := open_lit (hval 0 101 v0 rfl rfl) h0
  obtain ⟨TA, tn, tk, rfl⟩ := okWide_slice Try.underlying102 (hval 1 102 v1 rfl rfl)
  obtain ⟨fuel, h1⟩ := h1
  obtain ⟨TA', tn', tk', us, hv1, b1, b2, b3, b4⟩ := open_turns h1
  injection hv1 with e1 e2 e3
  subst e1; subst e2; subst e3
  have h8 := b4 L1
  unfold reachBytes at h8
  exact (law_events l TA tn tk us W hL b1 (by omega) ⟨b2, b3⟩).mono fun e W' ⟨he, hb⟩ => by
    subst he
    exact hP hb

theorem racesEvents_holds : Rows.RacesEventsSaid :=
  OpenClaim.holds_of_wide 10 Try.f10 rfl rfl rfl rfl rfl rfl rfl ⟨rfl, rfl, rfl, rfl, rfl⟩ rfl rfl rfl rfl rfl (by kernel_rfl) Try.func10 (by kernel_rfl)
    (of_decide_eq_true (by kernel_rfl)) (by unfold Func.isWrapper; first | (rw [if_pos (by decide +kernel)]; kernel_rfl) | (rw [if_neg (by decide +kernel)]; exact ⟨rfl, rfl⟩))
    (fun os started H enc _ => racesEvents_lifted os started H enc)
#print axioms racesEvents_holds
end Go.Proofs.Ytgbopmgeicokoaa
