/-
  A slice of api.Move, opened to cells.
-/
import Derived.Test.YtjnmlgfkiebkgaaProg
import Derived.Test.YtjnmlgfkiebkgaaLm
import Derived.Deep.Slices
import Derived.Deep.Fields
import Derived.ChangeSame
import Derived.Lib.SmallJoins
import Derived.SizedLaws
import Derived.Test.YtjnmlgfkiebkgaaLpl
namespace Go.Proofs.Ytjnmlgfkiebkgaa
open Go.Joins Go.ChangeShapes Go.WideShapes Go.RowKit Go.Deep
set_option linter.unusedVariables false
set_option linter.unusedSimpArgs false

section
variable {H : Type} {enc : TypeId × Value → H} {w : World} {base : Nat} {spare : Nat → Bool} {held : Bool}
theorem open_agg2 {P : Program} {r : Reach} {b0 : Nat} {t : TypeId} {f0 f1 : Field} {v : Value} {d : DataW H} {p : List MemPlace} (hs : P.underlying t = some (.struct #[f0, f1])) (hone : oneCellFields P #[f0, f1] = true) (hC : P.cellsOf t = 2)
    (hv : Value.okWide P w r b0 t v) (h : DataW.Trod enc P w base spare held t v d p) :
    ∃ (v0 v1 : Value) (y0 y1 : DataW H × List MemPlace) (n : Nat), v = .agg #[v0, v1] ∧ DataW.trod enc P w base spare held n f0.type [v0] = some y0 ∧ DataW.trod enc P w base spare held n f1.type [v1] = some y1 := by
  obtain ⟨cs, rfl, hsz⟩ := okWide_struct hs hv
  obtain ⟨l⟩ := cs
  match l, hsz.trans hC with
  | [c0, c1], _ =>
    obtain ⟨fuel, hf⟩ := h
    obtain ⟨xs, n, _, hx, _, hlen, hg⟩ := DataW.trod_struct hs hf
    obtain ⟨o0, k0⟩ := hone_of hone 0 f0 rfl
    obtain ⟨o1, k1⟩ := hone_of hone 1 f1 rfl
    match xs, hlen with
    | [y0, y1], _ => exact ⟨c0, c1, y0, y1, n, rfl, by simpa [Value.cells, o0, k0] using hg 0 f0 rfl, by simpa [Value.cells, o1, k1] using hg 1 f1 rfl⟩
theorem wf_intl {k : IntKind} {z : Int} (h : (Lit.int k z).wf = true) : k.min ≤ z ∧ z ≤ k.max := by
  have h2 : (decide (k.min ≤ z) && decide (z ≤ k.max)) = true := h
  rwa [Bool.and_eq_true, decide_eq_true_eq, decide_eq_true_eq] at h2
theorem wf_i64l {z : Int} (h : (Lit.int .i64 z).wf = true) : -9223372036854775808 ≤ z ∧ z ≤ 9223372036854775807 := by
  have h2 := wf_intl h
  rw [show IntKind.i64.min = -9223372036854775808 from by decide, show IntKind.i64.max = 9223372036854775807 from by decide] at h2
  exact h2
set_option maxRecDepth 100000 in
theorem open_lks {r : Reach} {b0 : Nat} {v : Value} {d : DataW H} {p : List MemPlace} (hv : Value.okWide Try.prog w r b0 24 v) (h : DataW.Trod enc Try.prog w base spare held 24 v d p) :
    ∃ T k : Int, v = .agg #[.int .i64 T, .int .i64 k] ∧ (-9223372036854775808 ≤ T ∧ T ≤ 9223372036854775807) ∧ (-9223372036854775808 ≤ k ∧ k ≤ 9223372036854775807) := by
  obtain ⟨v0, v1, y0, y1, n, rfl, g0, g1⟩ := open_agg2 Try.underlying24 (by kernel_rfl) (by kernel_rfl) hv h
  obtain ⟨z0, e0, _, w0⟩ := DataW.trod_int Try.underlying3 g0
  have e0 : v0 = .int .i64 z0 := by simpa using e0
  obtain ⟨z1, e1, _, w1⟩ := DataW.trod_int Try.underlying22 g1
  have e1 : v1 = .int .i64 z1 := by simpa using e1
  subst e0 e1
  exact ⟨z0, z1, rfl, wf_i64l w0, wf_i64l w1⟩
end
end Go.Proofs.Ytjnmlgfkiebkgaa
namespace Go.Proofs.Ytjnmlgfkiebkgaa
open Go.Joins Go.ChangeShapes Go.WideShapes Go.RowKit Go.Deep
set_option linter.unusedVariables false
set_option linter.unusedSimpArgs false

section
variable {H : Type} {enc : TypeId × Value → H} {P : Program} {w : World} {base : Nat} {spare : Nat → Bool} {held : Bool}
theorem cell_spot {a : Addr} {v : Value} (h : w.cell? a = some v) : a = ⟨a.block, a.off, none⟩ := by
  obtain ⟨b, o, s⟩ := a
  unfold World.cell? at h
  cases s with
  | none => rfl
  | some x =>
    dsimp only at h
    split at h <;> simp at h
theorem sl_of {a : Addr} {n sz : Nat} {xs : List Value} (hl : xs.length = n * sz) (hsz : 0 < sz) (hc : ∀ j, j < n * sz → w.cell? (a.add j) = xs[j]?) : Sl w w.heap.size sz (some a) n xs := by
  refine ⟨hl, fun hn => ?_⟩
  have hp : 0 < n * sz := Nat.mul_pos hn hsz
  have h0 := hc 0 hp
  obtain ⟨x, hx⟩ := at_lt (l := xs) (j := 0) (by omega)
  rw [hx] at h0
  have h0' : w.cell? a = some x := by simpa [Addr.add] using h0
  have ha := cell_spot h0'
  have hlt := World.block_lt_of_cell? w _ h0'
  obtain ⟨b, o, s⟩ := a
  have hs : s = none := by injection ha
  subst hs
  refine ⟨b, o, rfl, hlt, fun j u hu => ?_⟩
  have hj := (List.getElem?_eq_some_iff.1 hu).1
  have := hc j (by omega)
  rw [hu] at this
  unfold Addr.add at this
  split at this
  · rename_i hj0; subst hj0; exact this
  · exact this
theorem open_slice_fields {t e : TypeId} {fs : Array Field} {fuel : Nat} {cs : List Value} {x : DataW H × List MemPlace} (ht : P.underlying t = some (.slice e)) (he : P.underlying e = some (.struct fs))
    (hone : oneCellFields P fs = true) (hC : P.cellsOf e = fs.size) (h : DataW.trod enc P w base spare held fuel t cs = some x) :
    (cs = [.slice none 0 0] ∧ x = (.nil, [])) ∨
    ∃ (a : Addr) (len cap m : Nat) (D : Nat → DataW H) (Pl : Nat → List MemPlace), cs = [.slice (some a) len cap] ∧ base ≤ a.block ∧ len ≤ cap ∧ cap ≤ maxLen ∧ m = (if spare a.block then cap else len) ∧
      x = (.slice ((List.range len).map D) ((List.range (m - len)).map fun j => D (len + j)), MemPlace.row a (m * fs.size) ++ (List.range m).flatMap Pl) ∧
      ∀ i, i < m → ∃ (ys : List (DataW H × List MemPlace)) (n : Nat), D i = .agg (ys.map (·.1)) ∧ Pl i = ys.flatMap (·.2) ∧ ys.length = fs.size ∧
        ∀ (j : Nat) (f : Field), fs[j]? = some f → ∃ (v : Value) (y : DataW H × List MemPlace), w.cell? (a.add (i * fs.size + j)) = some v ∧ ys[j]? = some y ∧ DataW.trod enc P w base spare held n f.type [v] = some y := by
  rcases open_slice ht h with h0 | ⟨a, len, cap, m, n, D, Pl, hcs, hb, hl, hm, hmm, hx, hi⟩
  · exact .inl h0
  · refine .inr ⟨a, len, cap, m, D, Pl, hcs, hb, hl, hm, hmm, by rw [hC] at hx; exact hx, fun i him => ?_⟩
    obtain ⟨cs', hc, ht'⟩ := hi i him
    rw [hC] at hc
    obtain ⟨ys, n', hn', hy, hlen, hyl, hf⟩ := DataW.trod_struct he ht'
    obtain ⟨_, hcl, hat⟩ := World.cells?_some hc
    simp only [Prod.mk.injEq] at hy
    refine ⟨ys, n', hy.1, hy.2, hyl, fun j f hj => ?_⟩
    obtain ⟨ho, hk⟩ := hone_of hone j f hj
    have hjl : j < fs.size := (Array.getElem?_eq_some_iff.1 hj).1
    have hcell := hat j hjl
    have hv : cs'[j]? = some (cs'[j]'(by omega)) := List.getElem?_eq_getElem (by omega)
    have h1 := hf j f hj
    rw [ho, hk] at h1
    have hone' : (cs'.drop j).take 1 = [cs'[j]'(by omega)] := by
      rw [List.drop_eq_getElem_cons (by omega)]
      rfl
    rw [hone'] at h1
    have hys : ys[j]? = some (ys[j]'(by omega)) := List.getElem?_eq_getElem (by omega)
    refine ⟨_, _, ?_, hys, h1.trans hys⟩
    rw [← Go.Deep.add_add, hcell, hv]
instance : Inhabited Mo := ⟨⟨0, 0, 0, 0⟩⟩
theorem open_mos {fuel : Nat} {v : Value} {x : DataW H × List MemPlace} (h : DataW.trod enc Try.prog w base (fun _ => true) held fuel 51 [v] = some x) :
    ∃ (A : Option Addr) (n c : Nat) (ms : List Mo), v = .slice A n c ∧ Sl w w.heap.size 4 A n (moVals ms) ∧ ms.length = n ∧ (n ≤ c ∧ c ≤ maxLen) ∧ (n = 0 ∨ ∃ b o, A = some ⟨b, o, none⟩) ∧ (∀ a ∈ ms, -9223372036854775808 ≤ a.op ∧ a.op ≤ 9223372036854775807) := by
  rcases open_slice_fields Try.underlying51 Try.underlying78 (by kernel_rfl) (by kernel_rfl) h with ⟨hcs, hx⟩ | ⟨a, len, cap, m, D, Pl, hcs, hb, hl, hm, hmm, hx, hi⟩
  · have hv : v = .slice none 0 0 := by simpa using hcs
    exact ⟨none, 0, 0, [], hv, Sl.nil, rfl, ⟨Nat.le_refl _, Nat.zero_le _⟩, Or.inl rfl, by simp⟩
  · have hv : v = .slice (some a) len cap := by simpa using hcs
    simp only [if_true] at hmm
    have hmm' := hmm.symm
    subst hmm'
    have each : ∀ i, i < cap → ∃ y : Mo, (-9223372036854775808 ≤ y.op ∧ y.op ≤ 9223372036854775807) ∧ ∀ j, j < 4 → w.cell? (a.add (i * 4 + j)) = (moL y)[j]? := by
      intro i hic
      obtain ⟨ys, n, _, _, _, hf⟩ := hi i hic
      obtain ⟨v0, y0, c0, _, t0⟩ := hf 0 _ rfl
      obtain ⟨v1, y1, c1, _, t1⟩ := hf 1 _ rfl
      obtain ⟨v2, y2, c2, _, t2⟩ := hf 2 _ rfl
      obtain ⟨v3, y3, c3, _, t3⟩ := hf 3 _ rfl
      obtain ⟨z0, e0, _, w0⟩ := DataW.trod_int Try.underlying3 t0
      obtain ⟨z1, e1, _, w1⟩ := DataW.trod_int Try.underlying57 t1
      obtain ⟨z2, e2, _, w2⟩ := DataW.trod_int Try.underlying3 t2
      obtain ⟨z3, e3, _, w3⟩ := DataW.trod_int Try.underlying3 t3
      have e0 : v0 = .int .i64 z0 := by simpa using e0
      have e1 : v1 = .int .i64 z1 := by simpa using e1
      have e2 : v2 = .int .i64 z2 := by simpa using e2
      have e3 : v3 = .int .i64 z3 := by simpa using e3
      subst e0; subst e1; subst e2; subst e3
      refine ⟨⟨z0, z1, z2, z3⟩, wf_i64l w1, fun j hj => ?_⟩
      match j, hj with
      | 0, _ => exact c0
      | 1, _ => exact c1
      | 2, _ => exact c2
      | 3, _ => exact c3
    obtain ⟨y, hy⟩ := choose_lt each
    refine ⟨some a, len, cap, (List.range len).map y, hv, ?_, by simp, ⟨hl, hm⟩, ?_, ?_⟩
    · refine sl_of (by rw [moVals_len]; simp) (by omega) (fun j hj => ?_)
      have hk : j / 4 < len := by omega
      have hd : j = j / 4 * 4 + j % 4 := by omega
      rw [hd, moVals_get (t := j / 4) (c := y (j / 4)) (by simp [hk]) (j % 4) (by omega)]
      exact (hy (j / 4) (by omega)).2 (j % 4) (by omega)
    · by_cases h0 : len = 0
      · exact Or.inl h0
      · obtain ⟨z, hz⟩ : ∃ z, w.cell? (a.add (0 * 4 + 0)) = some z := ⟨_, (hy 0 (by omega)).2 0 (by omega)⟩
        have h9 : w.cell? a = some z := by simpa [Addr.add] using hz
        exact Or.inr ⟨_, _, congrArg some (cell_spot h9)⟩
    · intro q hq
      obtain ⟨i, hir, rfl⟩ := List.mem_map.1 hq
      have hlt : i < len := List.mem_range.1 hir
      exact (hy i (by omega)).1
end
/-- a shorter slice -/
theorem Sl.tak {w : World} {B n N : Nat} {A : Option Addr} {ms : List Mo} (h : Sl w B 4 A n (moVals ms)) (hl : ms.length = n) (hN : N ≤ n) : Sl w B 4 A N (moVals (ms.take N)) := by
  refine ⟨by rw [moVals_len, List.length_take]; omega, fun h0 => ?_⟩
  obtain ⟨b, o, e, hb, hc⟩ := h.2 (by omega)
  refine ⟨b, o, e, hb, fun j u hu => hc j u ?_⟩
  have e9 : moVals ms = moVals (ms.take N) ++ moVals (ms.drop N) := by
    unfold moVals
    rw [← List.flatMap_append, List.take_append_drop]
  rw [e9, List.getElem?_append_left (List.getElem?_eq_some_iff.1 hu).1]
  exact hu
end Go.Proofs.Ytjnmlgfkiebkgaa
