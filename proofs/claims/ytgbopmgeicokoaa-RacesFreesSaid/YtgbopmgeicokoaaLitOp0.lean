/-
  The argument api.Multi, and slices of numbers, opened to cells: from the reading of an argument to the plain data.
  The arguments api.Litmus and []api.Turn, opened to cells.
  What every law's claim shares: a call that answers true and turns nothing that was there meets the law's post.
-/
import Derived.Test.YtgbopmgeicokoaaProg
import Derived.Test.YtgbopmgeicokoaaMem0
import Derived.Deep.Slices
import Derived.Deep.Fields
import Derived.ChangeSame
import Derived.Lib.SmallJoins
import Derived.SizedLaws
import Derived.Test.YtgbopmgeicokoaaEvt0
import Derived.Test.YtgbopmgeicokoaaRows
import Derived.ProofKit
namespace Go.Proofs.Ytgbopmgeicokoaa
open Go.Joins Go.ChangeShapes Go.WideShapes Go.RowKit Go.Deep

section
variable {H : Type} {enc : TypeId × Value → H} {P : Program} {w : World} {base : Nat} {spare : Nat → Bool} {held : Bool}

/-- no number of the weights is beyond the reach -/
def Light (P : Program) (t : TypeId) (d : DataW H) : Prop := ∀ n ∈ d.weights P t, n ≤ reachBytes

theorem Light.slice {t e : TypeId} {el sp : List (DataW H)} (ht : P.underlying t = some (.slice e)) (h : Light P t (.slice el sp)) : (el.length + sp.length) * P.bytesOf e ≤ reachBytes :=
  h _ (by simp [DataW.weights, ht])
theorem cell_spot {a : Addr} {v : Value} (h : w.cell? a = some v) : a = ⟨a.block, a.off, none⟩ := by
  obtain ⟨b, o, s⟩ := a
  unfold World.cell? at h
  cases s with
  | none => rfl
  | some x =>
    dsimp only at h
    split at h <;> simp at h
/-- cells in a row, as a slice of memory -/
theorem sl_of {a : Addr} {n sz : Nat} {xs : List Value} (hl : xs.length = n * sz) (hsz : 0 < sz) (hc : ∀ j, j < n * sz → w.cell? (a.add j) = xs[j]?) : Sl w w.heap.size sz (some a) n xs := by
  refine ⟨hl, fun hn => ?_⟩
  have hp : 0 < n * sz := Nat.mul_pos hn hsz
  have h0 := hc 0 hp
  obtain ⟨x, hx⟩ := at_lt (l := xs) (j := 0) (by omega)
  rw [hx] at h0
  have h0' : w.cell? a = some x := by simpa [Addr.add] using h0
  have ha := cell_spot h0'
  have hlt := World.block_lt_of_cell? w _ h0'
  obtain ⟨b, o, s⟩ := a
  have hs : s = none := by injection ha
  subst hs
  refine ⟨b, o, rfl, hlt, fun j u hu => ?_⟩
  have hj := (List.getElem?_eq_some_iff.1 hu).1
  have := hc j (by omega)
  rw [hu] at this
  unfold Addr.add at this
  split at this
  · rename_i hj0; subst hj0; exact this
  · exact this

/-- A slice of numbers. -/
theorem open_nums {t e : TypeId} {k : IntKind} {fuel : Nat} {v : Value} {x : DataW H × List MemPlace} (ht : P.underlying t = some (.slice e)) (he : P.underlying e = some (.int k)) (hc : P.cellsOf e = 1)
    (h : DataW.trod enc P w base (fun _ => true) held fuel t [v] = some x) :
    ∃ (A : Option Addr) (n c : Nat) (zs : List Int), v = .slice A n c ∧ Sl w w.heap.size 1 A n (zs.map (Value.int k)) ∧ zs.length = n ∧ n ≤ c ∧ c ≤ maxLen ∧ (∀ z ∈ zs, (Lit.int k z).wf = true) ∧
      (Light P t x.1 → n * P.bytesOf e ≤ reachBytes) := by
  rcases open_ints ht he hc h with ⟨hcs, hx⟩ | ⟨a, len, cap, zs, hcs, hb, hl, hm, hz, hx, hcell, hw⟩
  · have hv : v = .slice none 0 0 := by simpa using hcs
    exact ⟨none, 0, 0, [], hv, Sl.nil, rfl, Nat.le_refl _, Nat.zero_le _, by simp, fun _ => by simp⟩
  · have hv : v = .slice (some a) len cap := by simpa using hcs
    simp only [if_true] at hz
    refine ⟨some a, len, cap, zs.take len, hv, ?_, by simp [hz]; omega, hl, hm, fun z hzm => hw z (List.mem_of_mem_take hzm), fun hL => ?_⟩
    · refine sl_of (by simp [hz]; omega) (by omega) (fun j hj => ?_)
      rw [hcell j (by omega), List.getElem?_map, List.getElem?_take_of_lt (by omega)]
      rw [List.getD_eq_getElem?_getD, List.getElem?_eq_getElem (by omega : j < zs.length)]
      rfl
    · rw [hx] at hL
      have := hL.slice ht
      refine Nat.le_trans (Nat.mul_le_mul_right _ ?_) this
      simp [lits, hz]
      omega

theorem open_slice_fields {t e : TypeId} {fs : Array Field} {fuel : Nat} {cs : List Value} {x : DataW H × List MemPlace} (ht : P.underlying t = some (.slice e)) (he : P.underlying e = some (.struct fs))
    (hone : oneCellFields P fs = true) (hC : P.cellsOf e = fs.size) (h : DataW.trod enc P w base spare held fuel t cs = some x) :
    (cs = [.slice none 0 0] ∧ x = (.nil, [])) ∨
    ∃ (a : Addr) (len cap m : Nat) (D : Nat → DataW H) (Pl : Nat → List MemPlace), cs = [.slice (some a) len cap] ∧ base ≤ a.block ∧ len ≤ cap ∧ cap ≤ maxLen ∧ m = (if spare a.block then cap else len) ∧
      x = (.slice ((List.range len).map D) ((List.range (m - len)).map fun j => D (len + j)), MemPlace.row a (m * fs.size) ++ (List.range m).flatMap Pl) ∧
      ∀ i, i < m → ∃ (ys : List (DataW H × List MemPlace)) (n : Nat), D i = .agg (ys.map (·.1)) ∧ Pl i = ys.flatMap (·.2) ∧ ys.length = fs.size ∧
        ∀ (j : Nat) (f : Field), fs[j]? = some f → ∃ (v : Value) (y : DataW H × List MemPlace), w.cell? (a.add (i * fs.size + j)) = some v ∧ ys[j]? = some y ∧ DataW.trod enc P w base spare held n f.type [v] = some y := by
  rcases open_slice ht h with h0 | ⟨a, len, cap, m, n, D, Pl, hcs, hb, hl, hm, hmm, hx, hi⟩
  · exact .inl h0
  · refine .inr ⟨a, len, cap, m, D, Pl, hcs, hb, hl, hm, hmm, by rw [hC] at hx; exact hx, fun i him => ?_⟩
    obtain ⟨cs', hc, ht'⟩ := hi i him
    rw [hC] at hc
    obtain ⟨ys, n', hn', hy, hlen, hyl, hf⟩ := DataW.trod_struct he ht'
    obtain ⟨_, hcl, hat⟩ := World.cells?_some hc
    simp only [Prod.mk.injEq] at hy
    refine ⟨ys, n', hy.1, hy.2, hyl, fun j f hj => ?_⟩
    obtain ⟨ho, hk⟩ := hone_of hone j f hj
    have hjl : j < fs.size := (Array.getElem?_eq_some_iff.1 hj).1
    have hcell := hat j hjl
    have hv : cs'[j]? = some (cs'[j]'(by omega)) := List.getElem?_eq_getElem (by omega)
    have h1 := hf j f hj
    rw [ho, hk] at h1
    have hone' : (cs'.drop j).take 1 = [cs'[j]'(by omega)] := by
      rw [List.drop_eq_getElem_cons (by omega)]
      rfl
    rw [hone'] at h1
    have hys : ys[j]? = some (ys[j]'(by omega)) := List.getElem?_eq_getElem (by omega)
    refine ⟨_, _, ?_, hys, h1.trans hys⟩
    rw [← Go.Deep.add_add, hcell, hv]

end

end Go.Proofs.Ytgbopmgeicokoaa
namespace Go.Proofs.Ytgbopmgeicokoaa
open Go.Joins Go.ChangeShapes Go.WideShapes Go.RowKit Go.Deep

section
variable {H : Type} {enc : TypeId × Value → H} {w : World} {base : Nat} {held : Bool}
theorem wf_i64b {z : Int} (h : (Lit.int .i64 z).wf = true) : -9223372036854775808 ≤ z ∧ z ≤ 9223372036854775807 := by
  have h2 : (decide (IntKind.i64.min ≤ z) && decide (z ≤ IntKind.i64.max)) = true := h
  rw [show IntKind.i64.min = -9223372036854775808 from by decide, show IntKind.i64.max = 9223372036854775807 from by decide, Bool.and_eq_true, decide_eq_true_eq, decide_eq_true_eq] at h2
  exact h2
instance : Inhabited Ins := ⟨⟨0, 0, 0, 0, 0, 0, 0⟩⟩
instance : Inhabited Tn := ⟨⟨0, false, 0⟩⟩
/-- an instruction as the caller may hand it: its source and its value fit -/
def InOk (i : Ins) : Prop := SrcOk i ∧ (Lit.int .i64 i.value).wf = true
/-- a thread's code -/
theorem open_code {fuel : Nat} {v : Value} {x : DataW H × List MemPlace} (h : DataW.trod enc Try.prog w base (fun _ => true) held fuel 201 [v] = some x) :
    ∃ (A : Option Addr) (n c : Nat) (is : List Ins), v = .slice A n c ∧ Sl w w.heap.size 7 A n (insVals is) ∧ n ≤ c ∧ c ≤ maxLen ∧ ∀ i ∈ is, InOk i := by
  rcases open_slice_fields Try.underlying201 Try.underlying204 (by kernel_rfl) (by kernel_rfl) h with ⟨hcs, hx⟩ | ⟨a, len, cap, m, D, Pl, hcs, hb, hl, hm, hmm, hx, hi⟩
  · have hv : v = .slice none 0 0 := by simpa using hcs
    exact ⟨none, 0, 0, [], hv, Sl.nil, Nat.le_refl _, Nat.zero_le _, by simp⟩
  · have hv : v = .slice (some a) len cap := by simpa using hcs
    simp only [if_true] at hmm
    have hmm' := hmm.symm
    subst hmm'
    have each : ∀ i, i < cap → ∃ y : Ins, InOk y ∧ ∀ j, j < 7 → w.cell? (a.add (i * 7 + j)) = (insL y)[j]? := by
      intro i hic
      obtain ⟨ys, n, _, _, _, hf⟩ := hi i hic
      obtain ⟨v0, y0, c0, _, t0⟩ := hf 0 _ rfl
      obtain ⟨v1, y1, c1, _, t1⟩ := hf 1 _ rfl
      obtain ⟨v2, y2, c2, _, t2⟩ := hf 2 _ rfl
      obtain ⟨v3, y3, c3, _, t3⟩ := hf 3 _ rfl
      obtain ⟨v4, y4, c4, _, t4⟩ := hf 4 _ rfl
      obtain ⟨v5, y5, c5, _, t5⟩ := hf 5 _ rfl
      obtain ⟨v6, y6, c6, _, t6⟩ := hf 6 _ rfl
      obtain ⟨z0, e0, _⟩ := DataW.trod_int Try.underlying118 t0
      obtain ⟨z1, e1, _⟩ := DataW.trod_int Try.underlying3 t1
      obtain ⟨z2, e2, _⟩ := DataW.trod_int Try.underlying3 t2
      obtain ⟨z3, e3, _, wf3⟩ := DataW.trod_int Try.underlying3 t3
      obtain ⟨z4, e4, _, wf4⟩ := DataW.trod_int Try.underlying3 t4
      obtain ⟨z5, e5, _⟩ := DataW.trod_int Try.underlying3 t5
      obtain ⟨z6, e6, _⟩ := DataW.trod_int Try.underlying3 t6
      have e0 : v0 = .int .i64 z0 := by simpa using e0
      have e1 : v1 = .int .i64 z1 := by simpa using e1
      have e2 : v2 = .int .i64 z2 := by simpa using e2
      have e3 : v3 = .int .i64 z3 := by simpa using e3
      have e4 : v4 = .int .i64 z4 := by simpa using e4
      have e5 : v5 = .int .i64 z5 := by simpa using e5
      have e6 : v6 = .int .i64 z6 := by simpa using e6
      subst e0; subst e1; subst e2; subst e3; subst e4; subst e5; subst e6
      refine ⟨⟨z0, z1, z2, z3, z4, z5, z6⟩, ⟨wf_i64b wf4, wf3⟩, fun j hj => ?_⟩
      match j, hj with
      | 0, _ => exact c0
      | 1, _ => exact c1
      | 2, _ => exact c2
      | 3, _ => exact c3
      | 4, _ => exact c4
      | 5, _ => exact c5
      | 6, _ => exact c6
    obtain ⟨y, hy⟩ := choose_lt each
    refine ⟨some a, len, cap, (List.range len).map y, hv, ?_, hl, hm, ?_⟩
    · refine sl_of (by rw [insVals_len]; simp) (by omega) (fun j hj => ?_)
      have hk : j / 7 < len := by omega
      have hd : j = j / 7 * 7 + j % 7 := by omega
      have hg := insVals_get (l := (List.range len).map y) (j := j / 7) (x := y (j / 7)) (by simp [hk]) (j % 7) (by omega)
      rw [hd, hg]
      exact (hy (j / 7) (by omega)).2 (j % 7) (by omega)
    · intro q hq
      obtain ⟨i, hir, rfl⟩ := List.mem_map.1 hq
      have hlt : i < len := List.mem_range.1 hir
      exact (hy i (by omega)).1
/-- the threads' codes -/
theorem open_threads {fuel : Nat} {v : Value} {x : DataW H × List MemPlace} (h : DataW.trod enc Try.prog w base (fun _ => true) held fuel 99 [v] = some x) :
    ∃ (A : Option Addr) (n c : Nat) (th : List (Hd × List Ins)), v = .slice A n c ∧ Sl w w.heap.size 1 A n (th.map fun x => hdV x.1) ∧ n ≤ c ∧ c ≤ maxLen ∧
      ∀ x ∈ th, Sl w w.heap.size 7 x.1.1 x.1.2.1 (insVals x.2) ∧ (x.1.2.1 ≤ x.1.2.2 ∧ x.1.2.2 ≤ maxLen) ∧ ∀ i ∈ x.2, InOk i := by
  rcases open_slice1 Try.underlying99 (by kernel_rfl) h with ⟨hcs, hx⟩ | ⟨a, len, cap, m, n, V, D, Pl, hcs, hb, hl, hm, hmm, hx, hi⟩
  · have hv : v = .slice none 0 0 := by simpa using hcs
    exact ⟨none, 0, 0, [], hv, Sl.nil, Nat.le_refl _, Nat.zero_le _, by simp⟩
  · have hv : v = .slice (some a) len cap := by simpa using hcs
    simp only [if_true] at hmm
    have hmm' := hmm.symm
    subst hmm'
    have each : ∀ i, i < cap → ∃ y : Hd × List Ins, V i = hdV y.1 ∧ Sl w w.heap.size 7 y.1.1 y.1.2.1 (insVals y.2) ∧ (y.1.2.1 ≤ y.1.2.2 ∧ y.1.2.2 ≤ maxLen) ∧ ∀ i ∈ y.2, InOk i := by
      intro i hic
      obtain ⟨A, n', c', is, e0, e1, e2, e3, e4⟩ := open_code (hi i hic).2
      exact ⟨((A, n', c'), is), e0, e1, ⟨e2, e3⟩, e4⟩
    obtain ⟨y, hy⟩ := choose_lt each
    refine ⟨some a, len, cap, (List.range len).map y, hv, ?_, hl, hm, ?_⟩
    · refine sl_of (by simp) (by omega) (fun j hj => ?_)
      rw [(hi j (by omega)).1, (hy j (by omega)).1]
      simp [List.getElem?_range (show j < len by omega)]
    · intro q hq
      obtain ⟨i, hir, rfl⟩ := List.mem_map.1 hq
      have hlt : i < len := List.mem_range.1 hir
      exact (hy i (by omega)).2
set_option maxRecDepth 100000 in
/-- The argument api.Litmus: words and values fit. -/
theorem open_lit2 {r : Reach} {b0 : Nat} {v : Value} {d : DataW H} {p : List MemPlace} (hv : Value.okWide Try.prog w r b0 101 v) (h : DataW.Trod enc Try.prog w base (fun _ => true) held 101 v d p) :
    ∃ l : Lit, v = litV l ∧ LitAt w w.heap.size l ∧ (∀ z ∈ l.ws, (Lit.int .i64 z).wf = true) ∧ ∀ y ∈ l.th, ∀ i ∈ y.2, (Lit.int .i64 i.value).wf = true := by
  obtain ⟨v0, v1, y0, y1, nn, rfl, rfl, rfl, t0, t1⟩ := open_agg2 Try.underlying101 (by kernel_rfl) (by kernel_rfl) hv h
  obtain ⟨A, n, k, zs, rfl, a1, a2, a3, a4, a5, a6⟩ := open_nums Try.underlying30 Try.underlying3 (by kernel_rfl) t0
  obtain ⟨T, m, c, th, rfl, b1, b2, b3, b4⟩ := open_threads t1
  exact ⟨⟨A, n, k, zs, T, m, c, th⟩, rfl, ⟨a1, ⟨a3, a4⟩, b1, ⟨b2, b3⟩, fun x hx => ⟨(b4 x hx).1, (b4 x hx).2.1, fun i hi => ((b4 x hx).2.2 i hi).1⟩⟩, a5, fun y hy i hi => ((b4 y hy).2.2 i hi).2⟩
end
end Go.Proofs.Ytgbopmgeicokoaa
namespace Go.Proofs.Ytgbopmgeicokoaa
open Go.ChangeShapes Go.WideShapes Go.ChangeAt Go.RowKit

theorem own : ownKnob Try.prog.godebug = none := by kernel_rfl
theorem laidOut : laidOutB Try.prog = true := by kernel_rfl

theorem trodAll_later {H : Type} {enc : TypeId × Value → H} {P : Program} (hl : laidOutB P = true) {W W' : World} (hb : Below W.heap.size W W') :
    ∀ {ts : List TypeId} {vs : List Value} {ds : List (DataW H)} {ps : List MemPlace}, (ts.all fun t => P.readableRec t && decide (t < P.types.size)) = true →
      DataW.TrodAll enc P W 0 (fun _ => true) true ts vs ds ps → (∀ x ∈ ps, x.block < W.heap.size) → DataW.TrodAll enc P W' 0 (fun b => decide (b < W.heap.size)) true ts vs ds ps
  | [], [], [], _, _, h, _ => h
  | t :: ts, v :: vs, d :: ds, ps, hr, h, hlt => by
    obtain ⟨p, q, h0, h1, rfl⟩ := h
    simp only [List.all_cons, Bool.and_eq_true, decide_eq_true_eq] at hr
    exact ⟨p, q, Below.trod hl hr.1.1 hr.1.2 h0 hb (fun x hx => hlt x (by simp [hx])), trodAll_later hl hb hr.2 h1 (fun x hx => hlt x (by simp [hx])), rfl⟩
  | [], _ :: _, _, _, _, h, _ => h.elim
  | [], [], _ :: _, _, _, h, _ => h.elim
  | _ :: _, [], _, _, _, h, _ => h.elim
  | _ :: _, _ :: _, [], _, _, h, _ => h.elim

/-- The post of a law. -/
theorem law_post {H : Type} {enc : TypeId × Value → H} {f : Func} {s : ChangeSpec} {W W' : World} {args : Array Value} {ds gs : List (DataW H)} {before : List MemPlace} {t : TypeId}
    (hvars : s.vars = []) (hres : f.resultTypes = #[t]) (ht : Try.prog.underlying t = some .bool) (hr : (f.params.toList.all fun t => Try.prog.readableRec t && decide (t < Try.prog.types.size)) = true)
    (hW : DataW.Whole enc Try.prog f.params.toList s.vars false W args.toList ds gs before)
    (hs : s.fn H (ds ++ gs) = { results := [.lit (.bool true)], args := ds }) (hb : Below W.heap.size W W') :
    s.post enc Try.prog f false true false false W args (.bool true) W' := by
  have hlt : ∀ p ∈ before, p.block < W.heap.size := fun p hp => hW.lt p hp
  have hW0 := hW
  obtain ⟨p, q, hA, hV, rfl, hfz, hnd⟩ := hW0
  rw [hvars] at hV
  obtain ⟨rfl, rfl⟩ := trodVars_none hV
  refine ⟨ds, [], p ++ [], [], p, [], hW, ?_, ?_, ?_, World.keptBut_mono (fun x hx => ⟨hx, Or.inr (Or.inl (by simpa using hx))⟩) (hb.frame (· ∈ p ++ [])), fun h => by cases h⟩
  · rw [hs, hres]
    exact trodAll_mk1 (shut_bool ht true)
  · rw [hs]
    exact trodAll_later laidOut hb hr hA (fun x hx => hlt x (by simp [hx]))
  · rw [hs, hvars]
    rfl
end Go.Proofs.Ytgbopmgeicokoaa
