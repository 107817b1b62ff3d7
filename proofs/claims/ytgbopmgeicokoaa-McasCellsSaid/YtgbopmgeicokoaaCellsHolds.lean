/-
  McasCells: for every memory and every words, mcas.Cells answers what the document's Cells answers; the arguments read behind the call as before it.
  No condition is asked beyond the statement's own.
-/
import Derived.Test.YtgbopmgeicokoaaCellsLaw
import Derived.Test.YtgbopmgeicokoaaMulOpen
import Derived.Test.YtgbopmgeicokoaaLawKit
namespace Go.Proofs.Ytgbopmgeicokoaa
open Go.ChangeShapes Go.WideShapes Go.ChangeAt Go.RowKit

theorem wf_u64 {z : Int} (h : (Lit.int .u64 z).wf = true) : 0 ≤ z ∧ z < 18446744073709551616 := by
  have h2 : (decide (IntKind.u64.min ≤ z) && decide (z ≤ IntKind.u64.max)) = true := h
  rw [show IntKind.u64.min = 0 from by decide, show IntKind.u64.max = 18446744073709551615 from by decide, Bool.and_eq_true, decide_eq_true_eq, decide_eq_true_eq] at h2
  omega
theorem nats_of {zs : List Int} (h : ∀ z ∈ zs, (Lit.int .u64 z).wf = true) : ∃ ws : List Nat, zs.map (Value.int .u64) = nats ws ∧ ∀ x ∈ ws, x < 18446744073709551616 := by
  refine ⟨zs.map Int.toNat, ?_, fun x hx => ?_⟩
  · unfold nats
    rw [List.map_map]
    refine List.map_congr_left fun z hz => ?_
    have h0 := wf_u64 (h z hz)
    simp [Int.toNat_of_nonneg h0.1]
  · obtain ⟨z, hz, rfl⟩ := List.mem_map.1 hx
    have h0 := wf_u64 (h z hz)
    omega

set_option maxRecDepth 100000 in
theorem mcasCells_lifted (os : Os) (started : os.Started) (H : Type) (enc : TypeId × Value → H) :
    ReturnsInHanded {} Try.checked os 4 .any (Rows.mcasCellsSpec.pre6 enc Try.prog Try.f4 Rows.mcasCellsRow.domain false) (Rows.mcasCellsSpec.post enc Try.prog Try.f4 false true false false) := by
  refine returnsInHanded_of_change_sized (C := Try.checked) own started (by kernel_rfl) Try.func4
    (ChangeSpec.witness6 (enc := enc) (C := Try.checked) false ⟨#[], #[.agg #[.int .i64 0, .slice none 0 0, .slice none 0 0, .int .i64 0], .slice none 0 0], []⟩ 8 (by kernel_rfl) (by kernel_rfl) (by kernel_rfl) (by kernel_rfl)) ?_
  intro W base args ds gs before hval0 hW0 hcnd hsz _
  have hW : DataW.Whole enc Try.prog Try.f4.params.toList Rows.mcasCellsSpec.vars false W args.toList ds gs before := hW0
  have hval : ∀ (j : Nat) t v, Try.f4.params[j]? = some t → args[j]? = some v → Value.okWide Try.prog W .any base t v := hval0
  clear hval0 hW0
  have hP : ∀ {W'}, Below W.heap.size W W' → ∃ v, Ending.returned (.bool true) = .returned v ∧ Rows.mcasCellsSpec.post enc Try.prog Try.f4 false true false false W args v W' := by
    intro W' hb
    refine ⟨_, rfl, law_post (t := 4) rfl rfl Try.underlying4 (by kernel_rfl) hW ?_ hb⟩
    obtain ⟨p, q, hA, hV, _⟩ := hW
    obtain ⟨rfl, rfl⟩ := trodVars_none hV
    have hA' : DataW.TrodAll enc Try.prog W 0 (fun _ => true) true [33, 34] args.toList ds p := hA
    obtain ⟨v0, v1, d0, d1, p0, p1, _, rfl, _⟩ := trodAll_two hA'
    rfl
  obtain ⟨p, q, hA0, hV, rfl, hfz, hnd⟩ := hW
  have hA : DataW.TrodAll enc Try.prog W 0 (fun _ => true) true [33, 34] args.toList ds p := hA0
  have hpar : Try.f4.params = #[33, 34] := Try.params4
  rw [hpar] at hval
  clear hA0
  obtain ⟨v0, v1, d0, d1, p0, p1, rfl, rfl, rfl, h0, h1⟩ := trodAll_two hA
  have L0 : Light Try.prog 33 d0 := Light.of_all (j := 0) hsz rfl rfl
  have L1 : Light Try.prog 34 d1 := Light.of_all (j := 1) hsz rfl rfl
  obtain ⟨c, A, n, k, S, m, l, rfl, hM, hL⟩ := open_mul (hval 0 33 v0 rfl rfl) h0
  obtain ⟨WA, wn, wk, rfl⟩ := okWide_slice Try.underlying34 (hval 1 34 v1 rfl rfl)
  obtain ⟨fuel, h1⟩ := h1
  obtain ⟨WA', wn', wk', zs, hv1, b1, b2, b3, b4, b5, b6⟩ := open_nums Try.underlying34 Try.underlying59 (by kernel_rfl) h1
  injection hv1 with e1 e2 e3
  subst e1; subst e2; subst e3
  obtain ⟨ws, hz, hwl⟩ := nats_of b5
  rw [hz] at b1
  obtain ⟨hA8, hS8, hE8⟩ := hL L0
  have hB8 : Try.prog.bytesOf 59 = 8 := by kernel_rfl
  have hW8 := b6 L1
  rw [hB8] at hW8
  unfold reachBytes at hA8 hS8 hE8 hW8
  exact (law_cells c A n k S m l WA wn wk ws W hM (by omega) (by omega) (fun es he => by have := hE8 es he; omega) b1 hwl (by omega)).mono fun e W' ⟨he, hb⟩ => by
    subst he
    exact hP hb

theorem mcasCells_holds : Rows.McasCellsSaid :=
  OpenClaim.holds_of_wide 4 Try.f4 rfl rfl rfl rfl rfl rfl rfl ⟨rfl, rfl, rfl, rfl, rfl⟩ rfl rfl rfl rfl rfl (by kernel_rfl) Try.func4 (by kernel_rfl)
    (of_decide_eq_true (by kernel_rfl)) (by unfold Func.isWrapper; first | (rw [if_pos (by decide +kernel)]; kernel_rfl) | (rw [if_neg (by decide +kernel)]; exact ⟨rfl, rfl⟩))
    (fun os started H enc _ => mcasCells_lifted os started H enc)
#print axioms mcasCells_holds
end Go.Proofs.Ytgbopmgeicokoaa
