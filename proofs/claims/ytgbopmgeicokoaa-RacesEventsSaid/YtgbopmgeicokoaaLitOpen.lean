/-
  The arguments api.Litmus and []api.Turn, opened to cells.
-/
import Derived.Test.YtgbopmgeicokoaaMulOpen
import Derived.Test.YtgbopmgeicokoaaEvt
namespace Go.Proofs.Ytgbopmgeicokoaa
open Go.Joins Go.ChangeShapes Go.WideShapes Go.RowKit Go.Deep

section
variable {H : Type} {enc : TypeId × Value → H} {w : World} {base : Nat} {held : Bool}
theorem wf_i64b {z : Int} (h : (Lit.int .i64 z).wf = true) : -9223372036854775808 ≤ z ∧ z ≤ 9223372036854775807 := by
  have h2 : (decide (IntKind.i64.min ≤ z) && decide (z ≤ IntKind.i64.max)) = true := h
  rw [show IntKind.i64.min = -9223372036854775808 from by decide, show IntKind.i64.max = 9223372036854775807 from by decide, Bool.and_eq_true, decide_eq_true_eq, decide_eq_true_eq] at h2
  exact h2
instance : Inhabited Ins := ⟨⟨0, 0, 0, 0, 0, 0, 0⟩⟩
instance : Inhabited Tn := ⟨⟨0, false, 0⟩⟩
/-- a thread's code -/
theorem open_code {fuel : Nat} {v : Value} {x : DataW H × List MemPlace} (h : DataW.trod enc Try.prog w base (fun _ => true) held fuel 201 [v] = some x) :
    ∃ (A : Option Addr) (n c : Nat) (is : List Ins), v = .slice A n c ∧ Sl w w.heap.size 7 A n (insVals is) ∧ n ≤ c ∧ c ≤ maxLen ∧ ∀ i ∈ is, SrcOk i := by
  rcases open_slice_fields Try.underlying201 Try.underlying204 (by kernel_rfl) (by kernel_rfl) h with ⟨hcs, hx⟩ | ⟨a, len, cap, m, D, Pl, hcs, hb, hl, hm, hmm, hx, hi⟩
  · have hv : v = .slice none 0 0 := by simpa using hcs
    exact ⟨none, 0, 0, [], hv, Sl.nil, Nat.le_refl _, Nat.zero_le _, by simp⟩
  · have hv : v = .slice (some a) len cap := by simpa using hcs
    simp only [if_true] at hmm
    have hmm' := hmm.symm
    subst hmm'
    have each : ∀ i, i < cap → ∃ y : Ins, SrcOk y ∧ ∀ j, j < 7 → w.cell? (a.add (i * 7 + j)) = (insL y)[j]? := by
      intro i hic
      obtain ⟨ys, n, _, _, _, hf⟩ := hi i hic
      obtain ⟨v0, y0, c0, _, t0⟩ := hf 0 _ rfl
      obtain ⟨v1, y1, c1, _, t1⟩ := hf 1 _ rfl
      obtain ⟨v2, y2, c2, _, t2⟩ := hf 2 _ rfl
      obtain ⟨v3, y3, c3, _, t3⟩ := hf 3 _ rfl
      obtain ⟨v4, y4, c4, _, t4⟩ := hf 4 _ rfl
      obtain ⟨v5, y5, c5, _, t5⟩ := hf 5 _ rfl
      obtain ⟨v6, y6, c6, _, t6⟩ := hf 6 _ rfl
      obtain ⟨z0, e0, _⟩ := DataW.trod_int Try.underlying118 t0
      obtain ⟨z1, e1, _⟩ := DataW.trod_int Try.underlying3 t1
      obtain ⟨z2, e2, _⟩ := DataW.trod_int Try.underlying3 t2
      obtain ⟨z3, e3, _⟩ := DataW.trod_int Try.underlying3 t3
      obtain ⟨z4, e4, _, wf4⟩ := DataW.trod_int Try.underlying3 t4
      obtain ⟨z5, e5, _⟩ := DataW.trod_int Try.underlying3 t5
      obtain ⟨z6, e6, _⟩ := DataW.trod_int Try.underlying3 t6
      have e0 : v0 = .int .i64 z0 := by simpa using e0
      have e1 : v1 = .int .i64 z1 := by simpa using e1
      have e2 : v2 = .int .i64 z2 := by simpa using e2
      have e3 : v3 = .int .i64 z3 := by simpa using e3
      have e4 : v4 = .int .i64 z4 := by simpa using e4
      have e5 : v5 = .int .i64 z5 := by simpa using e5
      have e6 : v6 = .int .i64 z6 := by simpa using e6
      subst e0; subst e1; subst e2; subst e3; subst e4; subst e5; subst e6
      refine ⟨⟨z0, z1, z2, z3, z4, z5, z6⟩, wf_i64b wf4, fun j hj => ?_⟩
      match j, hj with
      | 0, _ => exact c0
      | 1, _ => exact c1
      | 2, _ => exact c2
      | 3, _ => exact c3
      | 4, _ => exact c4
      | 5, _ => exact c5
      | 6, _ => exact c6
    obtain ⟨y, hy⟩ := choose_lt each
    refine ⟨some a, len, cap, (List.range len).map y, hv, ?_, hl, hm, ?_⟩
    · refine sl_of (by rw [insVals_len]; simp) (by omega) (fun j hj => ?_)
      have hk : j / 7 < len := by omega
      have hd : j = j / 7 * 7 + j % 7 := by omega
      have hg := insVals_get (l := (List.range len).map y) (j := j / 7) (x := y (j / 7)) (by simp [hk]) (j % 7) (by omega)
      rw [hd, hg]
      exact (hy (j / 7) (by omega)).2 (j % 7) (by omega)
    · intro q hq
      obtain ⟨i, hir, rfl⟩ := List.mem_map.1 hq
      have hlt : i < len := List.mem_range.1 hir
      exact (hy i (by omega)).1
/-- a slice of turns -/
theorem open_turns {fuel : Nat} {v : Value} {x : DataW H × List MemPlace} (h : DataW.trod enc Try.prog w base (fun _ => true) held fuel 102 [v] = some x) :
    ∃ (A : Option Addr) (n c : Nat) (us : List Tn), v = .slice A n c ∧ Sl w w.heap.size 3 A n (tnVals us) ∧ n ≤ c ∧ c ≤ maxLen ∧ (Light Try.prog 102 x.1 → n * 24 ≤ reachBytes) := by
  have B0 : Try.prog.bytesOf 131 = 24 := by kernel_rfl
  rcases open_slice_fields Try.underlying102 Try.underlying131 (by kernel_rfl) (by kernel_rfl) h with ⟨hcs, hx⟩ | ⟨a, len, cap, m, D, Pl, hcs, hb, hl, hm, hmm, hx, hi⟩
  · have hv : v = .slice none 0 0 := by simpa using hcs
    exact ⟨none, 0, 0, [], hv, Sl.nil, Nat.le_refl _, Nat.zero_le _, fun _ => by simp⟩
  · have hv : v = .slice (some a) len cap := by simpa using hcs
    simp only [if_true] at hmm
    have hmm' := hmm.symm
    subst hmm'
    have each : ∀ i, i < cap → ∃ y : Tn, ∀ j, j < 3 → w.cell? (a.add (i * 3 + j)) = (tnL y)[j]? := by
      intro i hic
      obtain ⟨ys, n, _, _, _, hf⟩ := hi i hic
      obtain ⟨v0, y0, c0, _, t0⟩ := hf 0 _ rfl
      obtain ⟨v1, y1, c1, _, t1⟩ := hf 1 _ rfl
      obtain ⟨v2, y2, c2, _, t2⟩ := hf 2 _ rfl
      obtain ⟨z0, e0, _⟩ := DataW.trod_int Try.underlying3 t0
      obtain ⟨b1, e1, _⟩ := DataW.trod_bool Try.underlying4 t1
      obtain ⟨z2, e2, _⟩ := DataW.trod_int Try.underlying3 t2
      have e0 : v0 = .int .i64 z0 := by simpa using e0
      have e1 : v1 = .bool b1 := by simpa using e1
      have e2 : v2 = .int .i64 z2 := by simpa using e2
      subst e0; subst e1; subst e2
      refine ⟨⟨z0, b1, z2⟩, fun j hj => ?_⟩
      match j, hj with
      | 0, _ => exact c0
      | 1, _ => exact c1
      | 2, _ => exact c2
    obtain ⟨y, hy⟩ := choose_lt each
    refine ⟨some a, len, cap, (List.range len).map y, hv, ?_, hl, hm, fun hL => ?_⟩
    · refine sl_of (by rw [tnVals_len]; simp) (by omega) (fun j hj => ?_)
      have hk : j / 3 < len := by omega
      have hd : j = j / 3 * 3 + j % 3 := by omega
      have hg := tnVals_get (l := (List.range len).map y) (j := j / 3) (x := y (j / 3)) (by simp [hk]) (j % 3) (by omega)
      rw [hd, hg]
      exact hy (j / 3) (by omega) (j % 3) (by omega)
    · rw [hx] at hL
      have := hL.slice Try.underlying102
      rw [B0] at this
      refine Nat.le_trans (Nat.mul_le_mul_right _ ?_) this
      simp
/-- the threads' codes -/
theorem open_threads {fuel : Nat} {v : Value} {x : DataW H × List MemPlace} (h : DataW.trod enc Try.prog w base (fun _ => true) held fuel 99 [v] = some x) :
    ∃ (A : Option Addr) (n c : Nat) (th : List (Hd × List Ins)), v = .slice A n c ∧ Sl w w.heap.size 1 A n (th.map fun x => hdV x.1) ∧ n ≤ c ∧ c ≤ maxLen ∧
      ∀ x ∈ th, Sl w w.heap.size 7 x.1.1 x.1.2.1 (insVals x.2) ∧ (x.1.2.1 ≤ x.1.2.2 ∧ x.1.2.2 ≤ maxLen) ∧ ∀ i ∈ x.2, SrcOk i := by
  rcases open_slice1 Try.underlying99 (by kernel_rfl) h with ⟨hcs, hx⟩ | ⟨a, len, cap, m, n, V, D, Pl, hcs, hb, hl, hm, hmm, hx, hi⟩
  · have hv : v = .slice none 0 0 := by simpa using hcs
    exact ⟨none, 0, 0, [], hv, Sl.nil, Nat.le_refl _, Nat.zero_le _, by simp⟩
  · have hv : v = .slice (some a) len cap := by simpa using hcs
    simp only [if_true] at hmm
    have hmm' := hmm.symm
    subst hmm'
    have each : ∀ i, i < cap → ∃ y : Hd × List Ins, V i = hdV y.1 ∧ Sl w w.heap.size 7 y.1.1 y.1.2.1 (insVals y.2) ∧ (y.1.2.1 ≤ y.1.2.2 ∧ y.1.2.2 ≤ maxLen) ∧ ∀ i ∈ y.2, SrcOk i := by
      intro i hic
      obtain ⟨A, n', c', is, e0, e1, e2, e3, e4⟩ := open_code (hi i hic).2
      exact ⟨((A, n', c'), is), e0, e1, ⟨e2, e3⟩, e4⟩
    obtain ⟨y, hy⟩ := choose_lt each
    refine ⟨some a, len, cap, (List.range len).map y, hv, ?_, hl, hm, ?_⟩
    · refine sl_of (by simp) (by omega) (fun j hj => ?_)
      rw [(hi j (by omega)).1, (hy j (by omega)).1]
      simp [List.getElem?_range (show j < len by omega)]
    · intro q hq
      obtain ⟨i, hir, rfl⟩ := List.mem_map.1 hq
      have hlt : i < len := List.mem_range.1 hir
      exact (hy i (by omega)).2
set_option maxRecDepth 100000 in
/-- The argument api.Litmus. -/
theorem open_lit {r : Reach} {b0 : Nat} {v : Value} {d : DataW H} {p : List MemPlace} (hv : Value.okWide Try.prog w r b0 101 v) (h : DataW.Trod enc Try.prog w base (fun _ => true) held 101 v d p) :
    ∃ l : Lit, v = litV l ∧ LitAt w w.heap.size l := by
  obtain ⟨v0, v1, y0, y1, nn, rfl, rfl, rfl, t0, t1⟩ := open_agg2 Try.underlying101 (by kernel_rfl) (by kernel_rfl) hv h
  obtain ⟨A, n, k, zs, rfl, a1, a2, a3, a4, _, a6⟩ := open_nums Try.underlying30 Try.underlying3 (by kernel_rfl) t0
  obtain ⟨T, m, c, th, rfl, b1, b2, b3, b4⟩ := open_threads t1
  exact ⟨⟨A, n, k, zs, T, m, c, th⟩, rfl, ⟨a1, ⟨a3, a4⟩, b1, ⟨b2, b3⟩, b4⟩⟩
end
end Go.Proofs.Ytgbopmgeicokoaa
