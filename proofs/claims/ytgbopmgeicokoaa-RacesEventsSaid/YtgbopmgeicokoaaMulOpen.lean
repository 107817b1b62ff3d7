/-
  The argument api.Multi, and slices of numbers, opened to cells: from the reading of an argument to the plain data.
-/
import Derived.Test.YtgbopmgeicokoaaProg
import Derived.Test.YtgbopmgeicokoaaMul
import Derived.Deep.Slices
import Derived.Deep.Fields
import Derived.ChangeSame
import Derived.Lib.SmallJoins
import Derived.SizedLaws
namespace Go.Proofs.Ytgbopmgeicokoaa
open Go.Joins Go.ChangeShapes Go.WideShapes Go.RowKit Go.Deep

section
variable {H : Type} {enc : TypeId × Value → H} {P : Program} {w : World} {base : Nat} {spare : Nat → Bool} {held : Bool}

/-- no number of the weights is beyond the reach -/
def Light (P : Program) (t : TypeId) (d : DataW H) : Prop := ∀ n ∈ d.weights P t, n ≤ reachBytes

theorem Light.slice {t e : TypeId} {el sp : List (DataW H)} (ht : P.underlying t = some (.slice e)) (h : Light P t (.slice el sp)) : (el.length + sp.length) * P.bytesOf e ≤ reachBytes :=
  h _ (by simp [DataW.weights, ht])
theorem weightsAll_mem {e : TypeId} {d : DataW H} {n : Nat} : ∀ {l : List (DataW H)}, d ∈ l → n ∈ d.weights P e → n ∈ DataW.weightsAll P e l
  | a :: l, hd, hn => by
    simp only [DataW.weightsAll, List.mem_append]
    rcases List.mem_cons.1 hd with rfl | hd
    · exact Or.inl hn
    · exact Or.inr (weightsAll_mem hd hn)
theorem Light.each {t e : TypeId} {el sp : List (DataW H)} (ht : P.underlying t = some (.slice e)) (h : Light P t (.slice el sp)) {d : DataW H} (hd : d ∈ el) : Light P e d :=
  fun n hn => h n (by simp only [DataW.weights, ht, List.mem_cons, List.mem_append]; exact Or.inr (Or.inl (weightsAll_mem hd hn)))
theorem Light.field {t : TypeId} {fs : Array Field} {ds : List (DataW H)} (ht : P.underlying t = some (.struct fs)) (h : Light P t (.agg ds)) {j : Nat} {f : Field} {d : DataW H} (hf : fs[j]? = some f) (hd : ds[j]? = some d) : Light P f.type d :=
  fun n hn => h n (by simp only [DataW.weights, ht]; exact DataW.weights_mem_each (j := j) (t := f.type) (by simp [hf]) hd n hn)
theorem Light.of_all {ts : List TypeId} {ds : List (DataW H)} (h : (DataW.weightsEach P ts ds).all (· ≤ reachBytes) = true) {j : Nat} {t : TypeId} {d : DataW H} (ht : ts[j]? = some t) (hd : ds[j]? = some d) : Light P t d :=
  fun n hn => by simpa using List.all_eq_true.1 h n (DataW.weights_mem_each ht hd n hn)

theorem cell_spot {a : Addr} {v : Value} (h : w.cell? a = some v) : a = ⟨a.block, a.off, none⟩ := by
  obtain ⟨b, o, s⟩ := a
  unfold World.cell? at h
  cases s with
  | none => rfl
  | some x =>
    dsimp only at h
    split at h <;> simp at h
/-- cells in a row, as a slice of memory -/
theorem sl_of {a : Addr} {n sz : Nat} {xs : List Value} (hl : xs.length = n * sz) (hsz : 0 < sz) (hc : ∀ j, j < n * sz → w.cell? (a.add j) = xs[j]?) : Sl w w.heap.size sz (some a) n xs := by
  refine ⟨hl, fun hn => ?_⟩
  have hp : 0 < n * sz := Nat.mul_pos hn hsz
  have h0 := hc 0 hp
  obtain ⟨x, hx⟩ := at_lt (l := xs) (j := 0) (by omega)
  rw [hx] at h0
  have h0' : w.cell? a = some x := by simpa [Addr.add] using h0
  have ha := cell_spot h0'
  have hlt := World.block_lt_of_cell? w _ h0'
  obtain ⟨b, o, s⟩ := a
  have hs : s = none := by injection ha
  subst hs
  refine ⟨b, o, rfl, hlt, fun j u hu => ?_⟩
  have hj := (List.getElem?_eq_some_iff.1 hu).1
  have := hc j (by omega)
  rw [hu] at this
  unfold Addr.add at this
  split at this
  · rename_i hj0; subst hj0; exact this
  · exact this

/-- A slice of numbers. -/
theorem open_nums {t e : TypeId} {k : IntKind} {fuel : Nat} {v : Value} {x : DataW H × List MemPlace} (ht : P.underlying t = some (.slice e)) (he : P.underlying e = some (.int k)) (hc : P.cellsOf e = 1)
    (h : DataW.trod enc P w base (fun _ => true) held fuel t [v] = some x) :
    ∃ (A : Option Addr) (n c : Nat) (zs : List Int), v = .slice A n c ∧ Sl w w.heap.size 1 A n (zs.map (Value.int k)) ∧ zs.length = n ∧ n ≤ c ∧ c ≤ maxLen ∧ (∀ z ∈ zs, (Lit.int k z).wf = true) ∧
      (Light P t x.1 → n * P.bytesOf e ≤ reachBytes) := by
  rcases open_ints ht he hc h with ⟨hcs, hx⟩ | ⟨a, len, cap, zs, hcs, hb, hl, hm, hz, hx, hcell, hw⟩
  · have hv : v = .slice none 0 0 := by simpa using hcs
    exact ⟨none, 0, 0, [], hv, Sl.nil, rfl, Nat.le_refl _, Nat.zero_le _, by simp, fun _ => by simp⟩
  · have hv : v = .slice (some a) len cap := by simpa using hcs
    simp only [if_true] at hz
    refine ⟨some a, len, cap, zs.take len, hv, ?_, by simp [hz]; omega, hl, hm, fun z hzm => hw z (List.mem_of_mem_take hzm), fun hL => ?_⟩
    · refine sl_of (by simp [hz]; omega) (by omega) (fun j hj => ?_)
      rw [hcell j (by omega), List.getElem?_map, List.getElem?_take_of_lt (by omega)]
      rw [List.getD_eq_getElem?_getD, List.getElem?_eq_getElem (by omega : j < zs.length)]
      rfl
    · rw [hx] at hL
      have := hL.slice ht
      refine Nat.le_trans (Nat.mul_le_mul_right _ ?_) this
      simp [lits, hz]
      omega

theorem open_slice_fields {t e : TypeId} {fs : Array Field} {fuel : Nat} {cs : List Value} {x : DataW H × List MemPlace} (ht : P.underlying t = some (.slice e)) (he : P.underlying e = some (.struct fs))
    (hone : oneCellFields P fs = true) (hC : P.cellsOf e = fs.size) (h : DataW.trod enc P w base spare held fuel t cs = some x) :
    (cs = [.slice none 0 0] ∧ x = (.nil, [])) ∨
    ∃ (a : Addr) (len cap m : Nat) (D : Nat → DataW H) (Pl : Nat → List MemPlace), cs = [.slice (some a) len cap] ∧ base ≤ a.block ∧ len ≤ cap ∧ cap ≤ maxLen ∧ m = (if spare a.block then cap else len) ∧
      x = (.slice ((List.range len).map D) ((List.range (m - len)).map fun j => D (len + j)), MemPlace.row a (m * fs.size) ++ (List.range m).flatMap Pl) ∧
      ∀ i, i < m → ∃ (ys : List (DataW H × List MemPlace)) (n : Nat), D i = .agg (ys.map (·.1)) ∧ Pl i = ys.flatMap (·.2) ∧ ys.length = fs.size ∧
        ∀ (j : Nat) (f : Field), fs[j]? = some f → ∃ (v : Value) (y : DataW H × List MemPlace), w.cell? (a.add (i * fs.size + j)) = some v ∧ ys[j]? = some y ∧ DataW.trod enc P w base spare held n f.type [v] = some y := by
  rcases open_slice ht h with h0 | ⟨a, len, cap, m, n, D, Pl, hcs, hb, hl, hm, hmm, hx, hi⟩
  · exact .inl h0
  · refine .inr ⟨a, len, cap, m, D, Pl, hcs, hb, hl, hm, hmm, by rw [hC] at hx; exact hx, fun i him => ?_⟩
    obtain ⟨cs', hc, ht'⟩ := hi i him
    rw [hC] at hc
    obtain ⟨ys, n', hn', hy, hlen, hyl, hf⟩ := DataW.trod_struct he ht'
    obtain ⟨_, hcl, hat⟩ := World.cells?_some hc
    simp only [Prod.mk.injEq] at hy
    refine ⟨ys, n', hy.1, hy.2, hyl, fun j f hj => ?_⟩
    obtain ⟨ho, hk⟩ := hone_of hone j f hj
    have hjl : j < fs.size := (Array.getElem?_eq_some_iff.1 hj).1
    have hcell := hat j hjl
    have hv : cs'[j]? = some (cs'[j]'(by omega)) := List.getElem?_eq_getElem (by omega)
    have h1 := hf j f hj
    rw [ho, hk] at h1
    have hone' : (cs'.drop j).take 1 = [cs'[j]'(by omega)] := by
      rw [List.drop_eq_getElem_cons (by omega)]
      rfl
    rw [hone'] at h1
    have hys : ys[j]? = some (ys[j]'(by omega)) := List.getElem?_eq_getElem (by omega)
    refine ⟨_, _, ?_, hys, h1.trans hys⟩
    rw [← Go.Deep.add_add, hcell, hv]

theorem entVals_snd (l : List Ent) (j : Nat) : ∀ k r, j = k * 3 + r → r < 3 → (entVals l)[j]? = (l[k]?).map fun x => (match r with | 0 => Value.int .i64 x.1 | 1 => .int .i64 x.2.1 | _ => .int .i64 x.2.2) := by
  intro k r hj hr
  subst hj
  cases hx : l[k]? with
  | none =>
    rw [List.getElem?_eq_none]
    · rfl
    · rw [entVals_len]
      have := List.getElem?_eq_none_iff.1 hx
      omega
  | some x =>
    obtain ⟨a0, a1, a2⟩ := entVals_get l k x hx
    match r, hr with
    | 0, _ => exact a0
    | 1, _ => exact a1
    | 2, _ => exact a2

/-- A slice of structs of three numbers. -/
theorem open_ents {t e : TypeId} {f0 f1 f2 : Field} {fuel : Nat} {v : Value} {x : DataW H × List MemPlace} (ht : P.underlying t = some (.slice e)) (he : P.underlying e = some (.struct #[f0, f1, f2]))
    (hone : oneCellFields P #[f0, f1, f2] = true) (hC : P.cellsOf e = 3) (h0 : P.underlying f0.type = some (.int .i64)) (h1 : P.underlying f1.type = some (.int .i64)) (h2 : P.underlying f2.type = some (.int .i64))
    (h : DataW.trod enc P w base (fun _ => true) held fuel t [v] = some x) :
    ∃ (A : Option Addr) (n c : Nat) (es : List Ent), v = .slice A n c ∧ Sl w w.heap.size 3 A n (entVals es) ∧ es.length = n ∧ n ≤ c ∧ c ≤ maxLen ∧ (Light P t x.1 → n * P.bytesOf e ≤ reachBytes) := by
  rcases open_slice_fields ht he hone hC h with ⟨hcs, hx⟩ | ⟨a, len, cap, m, D, Pl, hcs, hb, hl, hm, hmm, hx, hi⟩
  · have hv : v = .slice none 0 0 := by simpa using hcs
    exact ⟨none, 0, 0, [], hv, Sl.nil, rfl, Nat.le_refl _, Nat.zero_le _, fun _ => by simp⟩
  · have hv : v = .slice (some a) len cap := by simpa using hcs
    simp only [if_true] at hmm
    have hmm' := hmm.symm
    subst hmm'
    have each : ∀ i, i < cap → ∃ y : Ent, w.cell? (a.add (i * 3)) = some (.int .i64 y.1) ∧ w.cell? (a.add (i * 3 + 1)) = some (.int .i64 y.2.1) ∧ w.cell? (a.add (i * 3 + 2)) = some (.int .i64 y.2.2) := by
      intro i hic
      obtain ⟨ys, n, _, _, _, hf⟩ := hi i hic
      obtain ⟨v0, y0, c0, _, t0⟩ := hf 0 f0 rfl
      obtain ⟨v1, y1, c1, _, t1⟩ := hf 1 f1 rfl
      obtain ⟨v2, y2, c2, _, t2⟩ := hf 2 f2 rfl
      obtain ⟨z0, e0, _⟩ := DataW.trod_int h0 t0
      obtain ⟨z1, e1, _⟩ := DataW.trod_int h1 t1
      obtain ⟨z2, e2, _⟩ := DataW.trod_int h2 t2
      have e0 : v0 = .int .i64 z0 := by simpa using e0
      have e1 : v1 = .int .i64 z1 := by simpa using e1
      have e2 : v2 = .int .i64 z2 := by simpa using e2
      subst e0; subst e1; subst e2
      exact ⟨(z0, z1, z2), c0, c1, c2⟩
    obtain ⟨y, hy⟩ := choose_lt each
    refine ⟨some a, len, cap, (List.range len).map y, hv, ?_, by simp, hl, hm, fun hL => ?_⟩
    · refine sl_of (by rw [entVals_len]; simp) (by omega) (fun j hj => ?_)
      have hk : j / 3 < len := by omega
      obtain ⟨a0, a1, a2⟩ := hy (j / 3) (by omega)
      have hd : j = j / 3 * 3 + j % 3 := by omega
      have hr : j % 3 < 3 := by omega
      rw [entVals_snd _ j (j / 3) (j % 3) hd hr, List.getElem?_map, List.getElem?_range hk]
      generalize hq : j / 3 = q at *
      generalize hs : j % 3 = s at *
      subst hd
      match s, hr with
      | 0, _ => exact a0
      | 1, _ => exact a1
      | 2, _ => exact a2
    · rw [hx] at hL
      have := hL.slice ht
      refine Nat.le_trans (Nat.mul_le_mul_right _ ?_) this
      simp

/-- A slice of such slices. -/
theorem open_rows {t q e : TypeId} {f0 f1 f2 : Field} {fuel : Nat} {v : Value} {x : DataW H × List MemPlace} (ht : P.underlying t = some (.slice q)) (hq : P.cellsOf q = 1) (hu : P.underlying q = some (.slice e)) (he : P.underlying e = some (.struct #[f0, f1, f2]))
    (hone : oneCellFields P #[f0, f1, f2] = true) (hC : P.cellsOf e = 3) (h0 : P.underlying f0.type = some (.int .i64)) (h1 : P.underlying f1.type = some (.int .i64)) (h2 : P.underlying f2.type = some (.int .i64))
    (h : DataW.trod enc P w base (fun _ => true) held fuel t [v] = some x) :
    ∃ (S : Option Addr) (m l : Nat) (sw : List (List Ent)), v = .slice S m l ∧ SlSl w w.heap.size 3 S m (sw.map entVals) ∧ sw.length = m ∧ m ≤ l ∧ l ≤ maxLen ∧
      (Light P t x.1 → m * P.bytesOf q ≤ reachBytes ∧ ∀ es ∈ sw, es.length * P.bytesOf e ≤ reachBytes) := by
  rcases open_slice1 ht hq h with ⟨hcs, hx⟩ | ⟨a, len, cap, m, n, V, D, Pl, hcs, hb, hl, hm, hmm, hx, hi⟩
  · have hv : v = .slice none 0 0 := by simpa using hcs
    exact ⟨none, 0, 0, [], hv, SlSl.nil, rfl, Nat.le_refl _, Nat.zero_le _, fun _ => by simp⟩
  · have hv : v = .slice (some a) len cap := by simpa using hcs
    simp only [if_true] at hmm
    have hmm' := hmm.symm
    subst hmm'
    have each : ∀ i, i < cap → ∃ y : (Option Addr × Nat × Nat) × List Ent, V i = hdV y.1 ∧ Sl w w.heap.size 3 y.1.1 y.1.2.1 (entVals y.2) ∧ y.2.length = y.1.2.1 ∧ y.1.2.1 ≤ y.1.2.2 ∧ y.1.2.2 ≤ maxLen ∧ (Light P q (D i) → y.1.2.1 * P.bytesOf e ≤ reachBytes) := by
      intro i hic
      obtain ⟨A, n', c', es, e0, e1, e2, e3, e4, e5⟩ := open_ents hu he hone hC h0 h1 h2 (hi i hic).2
      exact ⟨((A, n', c'), es), e0, e1, e2, e3, e4, e5⟩
    obtain ⟨y, hy⟩ := choose_lt each
    refine ⟨some a, len, cap, (List.range len).map fun i => (y i).2, hv, ⟨(List.range len).map fun i => (y i).1, by simp, ?_, ?_⟩, by simp, hl, hm, fun hL => ⟨?_, fun es hes => ?_⟩⟩
    · refine sl_of (by simp) (by omega) (fun j hj => ?_)
      rw [(hi j (by omega)).1, (hy j (by omega)).1]
      simp [List.getElem?_range (show j < len by omega)]
    · intro i hd r hx1 hx2
      have hlt : i < len := by
        have := (List.getElem?_eq_some_iff.1 hx1).1
        simpa using this
      simp [List.getElem?_range hlt] at hx1 hx2
      subst hx1
      subst hx2
      obtain ⟨_, a1, _, a3, a4, _⟩ := hy i (by omega)
      exact ⟨a1, a3, a4⟩
    · rw [hx] at hL
      have := hL.slice ht
      refine Nat.le_trans (Nat.mul_le_mul_right _ ?_) this
      simp
    · obtain ⟨i, hir, rfl⟩ := List.mem_map.1 hes
      have hlt : i < len := List.mem_range.1 hir
      obtain ⟨_, _, a2, _, _, a5⟩ := hy i (by omega)
      rw [hx] at hL
      rw [a2]
      exact a5 (hL.each ht (List.mem_map.2 ⟨i, hir, rfl⟩))
end

section
variable {H : Type} {enc : TypeId × Value → H} {w : World} {base : Nat} {held : Bool}
set_option maxRecDepth 100000 in
/-- The argument api.Multi. -/
theorem open_mul {r : Reach} {b0 : Nat} {v : Value} {d : DataW H} {p : List MemPlace} (hv : Value.okWide Try.prog w r b0 33 v) (h : DataW.Trod enc Try.prog w base (fun _ => true) held 33 v d p) :
    ∃ (c : Mul) (A : Option Addr) (n k : Nat) (S : Option Addr) (m l : Nat), v = mulV c A n k S m l ∧ MulAt w w.heap.size A n k S m l c ∧
      (Light Try.prog 33 d → n * 8 ≤ reachBytes ∧ m * 24 ≤ reachBytes ∧ ∀ es ∈ c.swaps, es.length * 24 ≤ reachBytes) := by
  obtain ⟨v0, v1, v2, v3, y0, y1, y2, y3, nn, rfl, rfl, rfl, t0, t1, t2, t3⟩ := open_agg4 Try.underlying33 (by kernel_rfl) (by kernel_rfl) hv h
  obtain ⟨z0, e0, _⟩ := DataW.trod_int Try.underlying3 t0
  obtain ⟨z3, e3, _⟩ := DataW.trod_int Try.underlying3 t3
  have e0 : v0 = .int .i64 z0 := by simpa using e0
  have e3 : v3 = .int .i64 z3 := by simpa using e3
  obtain ⟨A, n, k, zs, rfl, a1, a2, a3, a4, _, a6⟩ := open_nums Try.underlying30 Try.underlying3 (by kernel_rfl) t1
  obtain ⟨S, m, l, sw, rfl, b1, b2, b3, b4, b5⟩ := open_rows Try.underlying31 (by kernel_rfl) Try.underlying143 Try.underlying232 (by kernel_rfl) (by kernel_rfl) Try.underlying3 Try.underlying3 Try.underlying3 t2
  subst e0
  subst e3
  have B0 : Try.prog.bytesOf 3 = 8 := by kernel_rfl
  have B1 : Try.prog.bytesOf 143 = 24 := by kernel_rfl
  have B2 : Try.prog.bytesOf 232 = 24 := by kernel_rfl
  refine ⟨⟨z0, zs, sw, z3⟩, A, n, k, S, m, l, rfl, ⟨a1, b1, ⟨a3, a4⟩, ⟨b3, b4⟩⟩, fun hL => ?_⟩
  have h1 := a6 (hL.field (j := 1) Try.underlying33 rfl rfl)
  have h2 := b5 (hL.field (j := 2) Try.underlying33 rfl rfl)
  rw [B0] at h1
  rw [B1, B2] at h2
  exact ⟨h1, h2.1, h2.2⟩
end
end Go.Proofs.Ytgbopmgeicokoaa
