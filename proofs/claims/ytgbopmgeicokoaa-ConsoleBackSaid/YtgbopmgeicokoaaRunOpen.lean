/-
  The arguments api.Config and api.Run, opened to cells.
-/
import Derived.Test.YtgbopmgeicokoaaProg
import Derived.Test.YtgbopmgeicokoaaAcc
import Derived.Test.YtgbopmgeicokoaaMulOpen
namespace Go.Proofs.Ytgbopmgeicokoaa
open Go.Joins Go.ChangeShapes Go.WideShapes Go.RowKit Go.Deep

section
variable {H : Type} {enc : TypeId × Value → H} {w : World} {base : Nat} {spare : Nat → Bool} {held : Bool}
theorem open_agg7 {P : Program} {r : Reach} {b0 : Nat} {t : TypeId} {f0 f1 f2 f3 f4 f5 f6 : Field} {v : Value} {d : DataW H} {p : List MemPlace} (hs : P.underlying t = some (.struct #[f0, f1, f2, f3, f4, f5, f6])) (hone : oneCellFields P #[f0, f1, f2, f3, f4, f5, f6] = true) (hC : P.cellsOf t = 7)
    (hv : Value.okWide P w r b0 t v) (h : DataW.Trod enc P w base spare held t v d p) :
    ∃ (v0 v1 v2 v3 v4 v5 v6 : Value) (y0 y1 y2 y3 y4 y5 y6 : DataW H × List MemPlace) (n : Nat), v = .agg #[v0, v1, v2, v3, v4, v5, v6] ∧ DataW.trod enc P w base spare held n f0.type [v0] = some y0 ∧ DataW.trod enc P w base spare held n f1.type [v1] = some y1 ∧ DataW.trod enc P w base spare held n f2.type [v2] = some y2 ∧ DataW.trod enc P w base spare held n f3.type [v3] = some y3 ∧ DataW.trod enc P w base spare held n f4.type [v4] = some y4 ∧ DataW.trod enc P w base spare held n f5.type [v5] = some y5 ∧ DataW.trod enc P w base spare held n f6.type [v6] = some y6 := by
  obtain ⟨cs, rfl, hsz⟩ := okWide_struct hs hv
  obtain ⟨l⟩ := cs
  match l, hsz.trans hC with
  | [c0, c1, c2, c3, c4, c5, c6], _ =>
    obtain ⟨fuel, hf⟩ := h
    obtain ⟨xs, n, _, hx, _, hlen, hg⟩ := DataW.trod_struct hs hf
    obtain ⟨o0, k0⟩ := hone_of hone 0 f0 rfl
    obtain ⟨o1, k1⟩ := hone_of hone 1 f1 rfl
    obtain ⟨o2, k2⟩ := hone_of hone 2 f2 rfl
    obtain ⟨o3, k3⟩ := hone_of hone 3 f3 rfl
    obtain ⟨o4, k4⟩ := hone_of hone 4 f4 rfl
    obtain ⟨o5, k5⟩ := hone_of hone 5 f5 rfl
    obtain ⟨o6, k6⟩ := hone_of hone 6 f6 rfl
    match xs, hlen with
    | [y0, y1, y2, y3, y4, y5, y6], _ =>
      exact ⟨c0, c1, c2, c3, c4, c5, c6, y0, y1, y2, y3, y4, y5, y6, n, rfl, by simpa [Value.cells, o0, k0] using hg 0 f0 rfl, by simpa [Value.cells, o1, k1] using hg 1 f1 rfl, by simpa [Value.cells, o2, k2] using hg 2 f2 rfl, by simpa [Value.cells, o3, k3] using hg 3 f3 rfl, by simpa [Value.cells, o4, k4] using hg 4 f4 rfl, by simpa [Value.cells, o5, k5] using hg 5 f5 rfl, by simpa [Value.cells, o6, k6] using hg 6 f6 rfl⟩
set_option maxRecDepth 100000 in
theorem open_cfg {r : Reach} {b0 : Nat} {v : Value} {d : DataW H} {p : List MemPlace} (hv : Value.okWide Try.prog w r b0 45 v) (h : DataW.Trod enc Try.prog w base spare held 45 v d p) : ∃ c : Cfg, v = cfgV c := by
  obtain ⟨v0, v1, v2, v3, v4, v5, v6, y0, y1, y2, y3, y4, y5, y6, n, rfl, g0, g1, g2, g3, g4, g5, g6⟩ := open_agg7 Try.underlying45 (by kernel_rfl) (by kernel_rfl) hv h
  obtain ⟨z0, e0, _⟩ := DataW.trod_int Try.underlying3 g0
  have e0 : v0 = .int .i64 z0 := by simpa using e0
  obtain ⟨z1, e1, _⟩ := DataW.trod_int Try.underlying3 g1
  have e1 : v1 = .int .i64 z1 := by simpa using e1
  obtain ⟨z2, e2, _⟩ := DataW.trod_int Try.underlying3 g2
  have e2 : v2 = .int .i64 z2 := by simpa using e2
  obtain ⟨z3, e3, _⟩ := DataW.trod_int Try.underlying3 g3
  have e3 : v3 = .int .i64 z3 := by simpa using e3
  obtain ⟨z4, e4, _⟩ := DataW.trod_int Try.underlying3 g4
  have e4 : v4 = .int .i64 z4 := by simpa using e4
  obtain ⟨z5, e5, _⟩ := DataW.trod_int Try.underlying3 g5
  have e5 : v5 = .int .i64 z5 := by simpa using e5
  obtain ⟨z6, e6, _⟩ := DataW.trod_int Try.underlying3 g6
  have e6 : v6 = .int .i64 z6 := by simpa using e6
  exact ⟨⟨z0, z1, z2, z3, z4, z5, z6⟩, by rw [e0, e1, e2, e3, e4, e5, e6]⟩

instance : Inhabited Acc := ⟨⟨0, 0, 0, 0, 0, 0, 0⟩⟩
theorem wf_int {k : IntKind} {z : Int} (h : (Lit.int k z).wf = true) : k.min ≤ z ∧ z ≤ k.max := by
  have h2 : (decide (k.min ≤ z) && decide (z ≤ k.max)) = true := h
  rwa [Bool.and_eq_true, decide_eq_true_eq, decide_eq_true_eq] at h2
/-- a slice of accesses -/
theorem open_accs {fuel : Nat} {v : Value} {x : DataW H × List MemPlace} (h : DataW.trod enc Try.prog w base (fun _ => true) held fuel 47 [v] = some x) :
    ∃ (A : Option Addr) (n c : Nat) (tr : List Acc), v = .slice A n c ∧ RunAt w w.heap.size A n c tr ∧ (∀ a ∈ tr, a.addr ≤ 9223372036854775807) ∧ (∀ el sp, x.1 = .slice el sp → el.length = n) ∧ (x.1 = .nil → n = 0) ∧ (x.1 = .nil ∨ ∃ el sp, x.1 = .slice el sp) := by
  rcases open_slice_fields Try.underlying47 Try.underlying61 (by kernel_rfl) (by kernel_rfl) h with ⟨hcs, hx⟩ | ⟨a, len, cap, m, D, Pl, hcs, hb, hl, hm, hmm, hx, hi⟩
  · have hv : v = .slice none 0 0 := by simpa using hcs
    exact ⟨none, 0, 0, [], hv, ⟨Sl.nil, Nat.le_refl _, Nat.zero_le _⟩, by simp, (by rw [hx]; intro el sp he; cases he), fun _ => rfl, Or.inl (by rw [hx])⟩
  · have hv : v = .slice (some a) len cap := by simpa using hcs
    simp only [if_true] at hmm
    have hmm' := hmm.symm
    subst hmm'
    have each : ∀ i, i < cap → ∃ y : Acc, y.addr ≤ 9223372036854775807 ∧ ∀ j, j < 7 → w.cell? (a.add (i * 7 + j)) = (accL y)[j]? := by
      intro i hic
      obtain ⟨ys, n, _, _, _, hf⟩ := hi i hic
      obtain ⟨v0, y0, c0, _, t0⟩ := hf 0 _ rfl
      obtain ⟨v1, y1, c1, _, t1⟩ := hf 1 _ rfl
      obtain ⟨v2, y2, c2, _, t2⟩ := hf 2 _ rfl
      obtain ⟨v3, y3, c3, _, t3⟩ := hf 3 _ rfl
      obtain ⟨v4, y4, c4, _, t4⟩ := hf 4 _ rfl
      obtain ⟨v5, y5, c5, _, t5⟩ := hf 5 _ rfl
      obtain ⟨v6, y6, c6, _, t6⟩ := hf 6 _ rfl
      obtain ⟨z0, e0, _⟩ := DataW.trod_int Try.underlying3 t0
      obtain ⟨z1, e1, _⟩ := DataW.trod_int Try.underlying3 t1
      obtain ⟨z2, e2, _⟩ := DataW.trod_int Try.underlying58 t2
      obtain ⟨z3, e3, _, wf3⟩ := DataW.trod_int Try.underlying3 t3
      obtain ⟨z4, e4, _⟩ := DataW.trod_int Try.underlying59 t4
      obtain ⟨z5, e5, _⟩ := DataW.trod_int Try.underlying59 t5
      obtain ⟨z6, e6, _⟩ := DataW.trod_int Try.underlying59 t6
      have e0 : v0 = .int .i64 z0 := by simpa using e0
      have e1 : v1 = .int .i64 z1 := by simpa using e1
      have e2 : v2 = .int .i64 z2 := by simpa using e2
      have e3 : v3 = .int .i64 z3 := by simpa using e3
      have e4 : v4 = .int .u64 z4 := by simpa using e4
      have e5 : v5 = .int .u64 z5 := by simpa using e5
      have e6 : v6 = .int .u64 z6 := by simpa using e6
      subst e0; subst e1; subst e2; subst e3; subst e4; subst e5; subst e6
      refine ⟨⟨z0, z1, z2, z3, z4, z5, z6⟩, ?_, fun j hj => ?_⟩
      · have := (wf_int wf3).2
        rw [show IntKind.i64.max = 9223372036854775807 from by decide] at this
        exact this
      · match j, hj with
        | 0, _ => exact c0
        | 1, _ => exact c1
        | 2, _ => exact c2
        | 3, _ => exact c3
        | 4, _ => exact c4
        | 5, _ => exact c5
        | 6, _ => exact c6
    obtain ⟨y, hy⟩ := choose_lt each
    refine ⟨some a, len, cap, (List.range len).map y, hv, ⟨?_, hl, hm⟩, ?_, ?_, ?_, Or.inr ⟨_, _, by rw [hx]⟩⟩
    · refine sl_of (by rw [accVals_len]; simp) (by omega) (fun j hj => ?_)
      have hk : j / 7 < len := by omega
      have hd : j = j / 7 * 7 + j % 7 := by omega
      rw [hd, accVals_get _ (j / 7) (y (j / 7)) (by simp [hk]) (j % 7) (by omega)]
      exact (hy (j / 7) (by omega)).2 (j % 7) (by omega)
    · intro q hq
      obtain ⟨i, hir, rfl⟩ := List.mem_map.1 hq
      have hlt : i < len := List.mem_range.1 hir
      exact (hy i (by omega)).1
    · rw [hx]
      intro el sp he
      injection he with he _
      subst he
      simp
    · rw [hx]
      intro he
      cases he
set_option maxRecDepth 100000 in
/-- the argument api.Run -/
theorem open_run {r : Reach} {b0 : Nat} {v : Value} {d : DataW H} {p : List MemPlace} (hv : Value.okWide Try.prog w r b0 50 v) (h : DataW.Trod enc Try.prog w base (fun _ => true) held 50 v d p) :
    ∃ (h0 h2 h3 : Value) (A : Option Addr) (n k : Nat) (tr : List Acc) (e0 e1 e2 e3 : DataW H), v = .agg #[h0, .slice A n k, h2, h3] ∧ RunAt w w.heap.size A n k tr ∧ (∀ a ∈ tr, a.addr ≤ 9223372036854775807) ∧ d = .agg [e0, e1, e2, e3] ∧ ((e1 = .nil ∧ n = 0) ∨ ∃ el sp, e1 = .slice el sp ∧ el.length = n) := by
  obtain ⟨v0, v1, v2, v3, y0, y1, y2, y3, nn, rfl, rfl, rfl, t0, t1, t2, t3⟩ := open_agg4 Try.underlying50 (by kernel_rfl) (by kernel_rfl) hv h
  obtain ⟨A, n, k, tr, rfl, a1, a2, a3, a4, a5⟩ := open_accs t1
  refine ⟨v0, v2, v3, A, n, k, tr, y0.1, y1.1, y2.1, y3.1, rfl, a1, a2, rfl, ?_⟩
  rcases a5 with h5 | ⟨el, sp, h5⟩
  · exact Or.inl ⟨h5, a4 h5⟩
  · exact Or.inr ⟨el, sp, h5, a3 el sp h5⟩
end
end Go.Proofs.Ytgbopmgeicokoaa
