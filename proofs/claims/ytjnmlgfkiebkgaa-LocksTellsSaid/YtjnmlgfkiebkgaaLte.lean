/-
  LocksTells's law.
-/
import Derived.Test.YtjnmlgfkiebkgaaLcr
import Derived.Test.YtjnmlgfkiebkgaaLss
import Derived.Test.YtjnmlgfkiebkgaaLom
import Derived.SizedLaws
namespace Go.Proofs.Ytjnmlgfkiebkgaa
open Go.Joins Go.ChangeShapes Go.WideShapes Go.RowKit Go.Deep
set_option linter.unusedVariables false
set_option linter.unusedSimpArgs false

section
variable {H : Type} {enc : TypeId × Value → H} {P : Program} {w : World} {base : Nat} {spare : Nat → Bool} {held : Bool}
/-- no number of the weights is beyond the reach -/
def Light (P : Program) (t : TypeId) (d : DataW H) : Prop := ∀ n ∈ d.weights P t, n ≤ reachBytes

theorem Light.slice {t e : TypeId} {el sp : List (DataW H)} (ht : P.underlying t = some (.slice e)) (h : Light P t (.slice el sp)) : (el.length + sp.length) * P.bytesOf e ≤ reachBytes :=
  h _ (by simp [DataW.weights, ht])
theorem weightsAll_mem {e : TypeId} {d : DataW H} {n : Nat} : ∀ {l : List (DataW H)}, d ∈ l → n ∈ d.weights P e → n ∈ DataW.weightsAll P e l
  | a :: l, hd, hn => by
    simp only [DataW.weightsAll, List.mem_append]
    rcases List.mem_cons.1 hd with rfl | hd
    · exact Or.inl hn
    · exact Or.inr (weightsAll_mem hd hn)
theorem Light.each {t e : TypeId} {el sp : List (DataW H)} (ht : P.underlying t = some (.slice e)) (h : Light P t (.slice el sp)) {d : DataW H} (hd : d ∈ el) : Light P e d :=
  fun n hn => h n (by simp only [DataW.weights, ht, List.mem_cons, List.mem_append]; exact Or.inr (Or.inl (weightsAll_mem hd hn)))
theorem Light.field {t : TypeId} {fs : Array Field} {ds : List (DataW H)} (ht : P.underlying t = some (.struct fs)) (h : Light P t (.agg ds)) {j : Nat} {f : Field} {d : DataW H} (hf : fs[j]? = some f) (hd : ds[j]? = some d) : Light P f.type d :=
  fun n hn => h n (by simp only [DataW.weights, ht]; exact DataW.weights_mem_each (j := j) (t := f.type) (by simp [hf]) hd n hn)
theorem Light.of_all {ts : List TypeId} {ds : List (DataW H)} (h : (DataW.weightsEach P ts ds).all (· ≤ reachBytes) = true) {j : Nat} {t : TypeId} {d : DataW H} (ht : ts[j]? = some t) (hd : ds[j]? = some d) : Light P t d :=
  fun n hn => by simpa using List.all_eq_true.1 h n (DataW.weights_mem_each ht hd n hn)

/-- a slice of elements of several cells, each read by a reader -/
theorem open_elems {α : Type} [Inhabited α] (ec : α → List Value) (sz : Nat) (Pr : α → Prop) {t e : TypeId} {fuel : Nat} {v : Value} {x : DataW H × List MemPlace} (ht : P.underlying t = some (.slice e)) (hC : P.cellsOf e = sz) (hsz : 0 < sz) (hlen : ∀ y, (ec y).length = sz)
    (hr : ∀ (n : Nat) (cs : List Value) (y : DataW H × List MemPlace), DataW.trod enc P w base (fun _ => true) held n e cs = some y → ∃ a, cs = ec a ∧ Pr a) (h : DataW.trod enc P w base (fun _ => true) held fuel t [v] = some x) :
    ∃ (A : Option Addr) (n c : Nat) (l : List α), v = .slice A n c ∧ Sl w w.heap.size sz A n (l.flatMap ec) ∧ l.length = n ∧ (n ≤ c ∧ c ≤ maxLen) ∧ (∀ a ∈ l, Pr a) ∧ (Light P t x.1 → n * P.bytesOf e ≤ reachBytes) := by
  rcases open_slice ht h with ⟨hcs, hx⟩ | ⟨a, len, cap, m, n, D, Pl, hcs, hb, hl, hm, hmm, hx, hi⟩
  · have hv : v = .slice none 0 0 := by simpa using hcs
    exact ⟨none, 0, 0, [], hv, Sl.nil, rfl, ⟨Nat.le_refl _, Nat.zero_le _⟩, by simp, fun _ => by simp⟩
  · have hv : v = .slice (some a) len cap := by simpa using hcs
    simp only [if_true] at hmm
    have hmm' := hmm.symm
    subst hmm'
    have each : ∀ i, i < cap → ∃ y : α, Pr y ∧ ∀ j, j < sz → w.cell? (a.add (i * sz + j)) = (ec y)[j]? := by
      intro i hic
      obtain ⟨cs', hc, ht'⟩ := hi i hic
      rw [hC] at hc
      obtain ⟨y, rfl, hp⟩ := hr _ _ _ ht'
      obtain ⟨_, hcl, hat⟩ := World.cells?_some hc
      refine ⟨y, hp, fun j hj => ?_⟩
      have := hat j hj
      rw [Go.Deep.add_add] at this
      exact this
    obtain ⟨y, hy⟩ := choose_lt each
    refine ⟨some a, len, cap, (List.range len).map y, hv, ?_, by simp, ⟨hl, hm⟩, ?_, ?_⟩
    · refine sl_of (by rw [flat_lenL (enc := ec) hlen]; simp) hsz (fun j hj => ?_)
      have hk : j / sz < len := (Nat.div_lt_iff_lt_mul hsz).2 hj
      have hd : j / sz * sz + j % sz = j := by rw [Nat.mul_comm]; exact Nat.div_add_mod j sz
      have h9 := flat_getL (enc := ec) hlen (l := (List.range len).map y) (t := j / sz) (x := y (j / sz)) (by simp [hk]) (j % sz) (Nat.mod_lt _ hsz)
      have h8 := (hy (j / sz) (by omega)).2 (j % sz) (Nat.mod_lt _ hsz)
      rw [hd] at h9 h8
      rw [h9, h8]
    · intro q hq
      obtain ⟨i, hir, rfl⟩ := List.mem_map.1 hq
      have hlt : i < len := List.mem_range.1 hir
      exact (hy i (by omega)).1
    · intro hL
      rw [hx] at hL
      have h9 := hL.slice ht
      refine Nat.le_trans (Nat.mul_le_mul_right _ ?_) h9
      simp
end
section
variable {H : Type} {enc : TypeId × Value → H} {w : World} {base : Nat} {spare : Nat → Bool} {held : Bool}
theorem rd_ans {fuel : Nat} {a b : Value} {y : DataW H × List MemPlace} (h : DataW.trod enc Try.prog w base spare held fuel 60 [a, b] = some y) : ∃ z0 z1, a = .int .i64 z0 ∧ b = .int .i64 z1 := by
  obtain ⟨xs, n, _, _, _, hlen, hg⟩ := DataW.trod_struct Try.underlying60 h
  match xs, hlen with
  | [y0, y1], _ =>
    have g0 := hg 0 _ rfl
    have g1 := hg 1 _ rfl
    have k0 : Try.prog.cellsOf 58 = 1 := by kernel_rfl
    have k1 : Try.prog.cellsOf 3 = 1 := by kernel_rfl
    simp only [List.getElem_toArray, List.getElem_cons_zero, List.getElem_cons_succ, k0, k1] at g0 g1
    obtain ⟨z0, r0, _⟩ := DataW.trod_int Try.underlying58 g0
    obtain ⟨z1, r1, _⟩ := DataW.trod_int Try.underlying3 g1
    exact ⟨z0, z1, by simpa using r0, by simpa using r1⟩
instance : Inhabited Ac := ⟨⟨0, 0, 0, 0, 0, 0, 0⟩⟩
instance : Inhabited Sf := ⟨⟨0, 0, 0, 0, 0⟩⟩
theorem len9 {cs : List Value} (h : cs.length = 9) : ∃ a b c d e f g i j, cs = [a, b, c, d, e, f, g, i, j] := by
  match cs, h with
  | [a, b, c, d, e, f, g, i, j], _ => exact ⟨a, b, c, d, e, f, g, i, j, rfl⟩
theorem len7 {cs : List Value} (h : cs.length = 7) : ∃ a b c d e f g, cs = [a, b, c, d, e, f, g] := by
  match cs, h with
  | [a, b, c, d, e, f, g], _ => exact ⟨a, b, c, d, e, f, g, rfl⟩
theorem len5 {cs : List Value} (h : cs.length = 5) : ∃ a b c d e, cs = [a, b, c, d, e] := by
  match cs, h with
  | [a, b, c, d, e], _ => exact ⟨a, b, c, d, e, rfl⟩
theorem rd_call (n : Nat) (cs : List Value) (y : DataW H × List MemPlace) (h : DataW.trod enc Try.prog w base spare held n 62 cs = some y) : ∃ a : Cal, cs = calL a ∧ True := by
  obtain ⟨xs, m, _, _, hcl, hlen, hg⟩ := DataW.trod_struct Try.underlying62 h
  have hC : Try.prog.cellsOf 62 = 9 := by kernel_rfl
  rw [hC] at hcl
  obtain ⟨c0, c1, c2, c3, c4, c5, c6, c7, c8, rfl⟩ := len9 hcl
  match xs, hlen with
  | [x0, x1, x2, x3, x4, x5, x6, x7], _ =>
    have g0 := hg 0 _ rfl
    have g1 := hg 1 _ rfl
    have g2 := hg 2 _ rfl
    have g3 := hg 3 _ rfl
    have g4 := hg 4 _ rfl
    have g5 := hg 5 _ rfl
    have g6 := hg 6 _ rfl
    have g7 := hg 7 _ rfl
    have k0 : Try.prog.cellsOf 3 = 1 := by kernel_rfl
    have k1 : Try.prog.cellsOf 57 = 1 := by kernel_rfl
    have k2 : Try.prog.cellsOf 60 = 2 := by kernel_rfl
    simp only [List.getElem_toArray, List.getElem_cons_zero, List.getElem_cons_succ, k0, k1, k2] at g0 g1 g2 g3 g4 g5 g6 g7
    obtain ⟨z0, r0, _⟩ := DataW.trod_int Try.underlying3 g0
    obtain ⟨z1, r1, _⟩ := DataW.trod_int Try.underlying57 g1
    obtain ⟨z2, r2, _⟩ := DataW.trod_int Try.underlying3 g2
    obtain ⟨z3, r3, _⟩ := DataW.trod_int Try.underlying3 g3
    obtain ⟨z4, r4, _⟩ := DataW.trod_int Try.underlying3 g4
    obtain ⟨z5, r5, _⟩ := DataW.trod_int Try.underlying3 g5
    obtain ⟨z6, r6, _⟩ := DataW.trod_int Try.underlying3 g6
    obtain ⟨z7, z8, e7, e8⟩ := rd_ans (a := c7) (b := c8) g7
    have e0 : c0 = .int .i64 z0 := by simpa using r0
    clear r0
    have e1 : c1 = .int .i64 z1 := by simpa using r1
    clear r1
    have e2 : c2 = .int .i64 z2 := by simpa using r2
    clear r2
    have e3 : c3 = .int .i64 z3 := by simpa using r3
    clear r3
    have e4 : c4 = .int .i64 z4 := by simpa using r4
    clear r4
    have e5 : c5 = .int .i64 z5 := by simpa using r5
    clear r5
    have e6 : c6 = .int .i64 z6 := by simpa using r6
    clear r6
    subst e0 e1 e2 e3 e4 e5 e6 e7 e8
    exact ⟨⟨z0, z1, z2, z3, z4, z5, z6, z7, z8⟩, rfl, trivial⟩
theorem rd_acc (n : Nat) (cs : List Value) (y : DataW H × List MemPlace) (h : DataW.trod enc Try.prog w base spare held n 66 cs = some y) : ∃ a : Ac, cs = acL a ∧ True := by
  obtain ⟨xs, m, _, _, hcl, hlen, hg⟩ := DataW.trod_struct Try.underlying66 h
  have hC : Try.prog.cellsOf 66 = 7 := by kernel_rfl
  rw [hC] at hcl
  obtain ⟨c0, c1, c2, c3, c4, c5, c6, rfl⟩ := len7 hcl
  match xs, hlen with
  | [x0, x1, x2, x3, x4, x5, x6], _ =>
    have g0 := hg 0 _ rfl
    have g1 := hg 1 _ rfl
    have g2 := hg 2 _ rfl
    have g3 := hg 3 _ rfl
    have g4 := hg 4 _ rfl
    have g5 := hg 5 _ rfl
    have g6 := hg 6 _ rfl
    have k0 : Try.prog.cellsOf 3 = 1 := by kernel_rfl
    have k1 : Try.prog.cellsOf 64 = 1 := by kernel_rfl
    have k2 : Try.prog.cellsOf 34 = 1 := by kernel_rfl
    simp only [List.getElem_toArray, List.getElem_cons_zero, List.getElem_cons_succ, k0, k1, k2] at g0 g1 g2 g3 g4 g5 g6
    obtain ⟨z0, r0, _⟩ := DataW.trod_int Try.underlying3 g0
    obtain ⟨z1, r1, _⟩ := DataW.trod_int Try.underlying3 g1
    obtain ⟨z2, r2, _⟩ := DataW.trod_int Try.underlying64 g2
    obtain ⟨z3, r3, _⟩ := DataW.trod_int Try.underlying3 g3
    obtain ⟨z4, r4, _⟩ := DataW.trod_int Try.underlying34 g4
    obtain ⟨z5, r5, _⟩ := DataW.trod_int Try.underlying34 g5
    obtain ⟨z6, r6, _⟩ := DataW.trod_int Try.underlying34 g6
    have e0 : c0 = .int .i64 z0 := by simpa using r0
    clear r0
    have e1 : c1 = .int .i64 z1 := by simpa using r1
    clear r1
    have e2 : c2 = .int .i64 z2 := by simpa using r2
    clear r2
    have e3 : c3 = .int .i64 z3 := by simpa using r3
    clear r3
    have e4 : c4 = .int .u64 z4 := by simpa using r4
    clear r4
    have e5 : c5 = .int .u64 z5 := by simpa using r5
    clear r5
    have e6 : c6 = .int .u64 z6 := by simpa using r6
    clear r6
    subst e0 e1 e2 e3 e4 e5 e6
    exact ⟨⟨z0, z1, z2, z3, z4, z5, z6⟩, rfl, trivial⟩
theorem rd_shift (n : Nat) (cs : List Value) (y : DataW H × List MemPlace) (h : DataW.trod enc Try.prog w base spare held n 94 cs = some y) : ∃ a : Sf, cs = sfL a ∧ True := by
  obtain ⟨xs, m, _, _, hcl, hlen, hg⟩ := DataW.trod_struct Try.underlying94 h
  have hC : Try.prog.cellsOf 94 = 5 := by kernel_rfl
  rw [hC] at hcl
  obtain ⟨c0, c1, c2, c3, c4, rfl⟩ := len5 hcl
  match xs, hlen with
  | [x0, x1, x2, x3, x4], _ =>
    have g0 := hg 0 _ rfl
    have g1 := hg 1 _ rfl
    have g2 := hg 2 _ rfl
    have g3 := hg 3 _ rfl
    have g4 := hg 4 _ rfl
    have k0 : Try.prog.cellsOf 3 = 1 := by kernel_rfl
    have k1 : Try.prog.cellsOf 92 = 1 := by kernel_rfl
    simp only [List.getElem_toArray, List.getElem_cons_zero, List.getElem_cons_succ, k0, k1] at g0 g1 g2 g3 g4
    obtain ⟨z0, r0, _⟩ := DataW.trod_int Try.underlying3 g0
    obtain ⟨z1, r1, _⟩ := DataW.trod_int Try.underlying3 g1
    obtain ⟨z2, r2, _⟩ := DataW.trod_int Try.underlying3 g2
    obtain ⟨z3, r3, _⟩ := DataW.trod_int Try.underlying92 g3
    obtain ⟨z4, r4, _⟩ := DataW.trod_int Try.underlying92 g4
    have e0 : c0 = .int .i64 z0 := by simpa using r0
    clear r0
    have e1 : c1 = .int .i64 z1 := by simpa using r1
    clear r1
    have e2 : c2 = .int .i64 z2 := by simpa using r2
    clear r2
    have e3 : c3 = .int .i64 z3 := by simpa using r3
    clear r3
    have e4 : c4 = .int .i64 z4 := by simpa using r4
    clear r4
    subst e0 e1 e2 e3 e4
    exact ⟨⟨z0, z1, z2, z3, z4⟩, rfl, trivial⟩
theorem rd_u64 (n : Nat) (cs : List Value) (y : DataW H × List MemPlace) (h : DataW.trod enc Try.prog w base spare held n 34 cs = some y) : ∃ a : Int, cs = [.int .u64 a] ∧ (0 ≤ a ∧ a ≤ 18446744073709551615) := by
  obtain ⟨z, e, _, hw⟩ := DataW.trod_int Try.underlying34 h
  have h2 := wf_intl hw
  rw [show IntKind.u64.min = 0 from by decide, show IntKind.u64.max = 18446744073709551615 from by decide] at h2
  exact ⟨z, e, h2⟩
theorem u64s_flat (l : List Int) : l.flatMap (fun x : Int => [Value.int .u64 x]) = u64s l := by
  unfold u64s
  induction l with
  | nil => rfl
  | cons a l ih => rw [List.flatMap_cons, ih]; rfl
theorem len4 {cs : List Value} (h : cs.length = 4) : ∃ a b c d, cs = [a, b, c, d] := by
  match cs, h with
  | [a, b, c, d], _ => exact ⟨a, b, c, d, rfl⟩
set_option maxRecDepth 100000 in
/-- the argument api.Run -/
theorem open_run {r : Reach} {b0 : Nat} {v : Value} {d : DataW H} {p : List MemPlace} (hv : Value.okWide Try.prog w r b0 39 v) (h : DataW.Trod enc Try.prog w base (fun _ => true) held 39 v d p) :
    ∃ (calls : List Cal) (tr : List Ac) (sh : List Sf) (words : List Int) (Ac At As Aw : Option Addr) (kc kt ks kw : Nat), v = .agg #[.slice Ac calls.length kc, .slice At tr.length kt, .slice As sh.length ks, .slice Aw words.length kw] ∧
      Sl w w.heap.size 9 Ac calls.length (calVals calls) ∧ Sl w w.heap.size 7 At tr.length (acVals tr) ∧ Sl w w.heap.size 5 As sh.length (sfVals sh) ∧ Sl w w.heap.size 1 Aw words.length (u64s words) ∧ (calls.length ≤ kc ∧ kc ≤ maxLen) ∧ (∀ v ∈ words, 0 ≤ v ∧ v ≤ 18446744073709551615) ∧
      (Light Try.prog 39 d → calls.length * 72 ≤ 140737488351232 ∧ tr.length * 56 ≤ 140737488351232 ∧ sh.length * 40 ≤ 140737488351232 ∧ words.length * 8 ≤ 140737488351232) := by
  obtain ⟨cs, rfl, hsz⟩ := okWide_struct Try.underlying39 hv
  obtain ⟨l⟩ := cs
  have hC : Try.prog.cellsOf 39 = 4 := by kernel_rfl
  obtain ⟨c0, c1, c2, c3, rfl⟩ := len4 (hsz.trans hC)
  obtain ⟨fuel, hf⟩ := h
  obtain ⟨xs, n, _, hx, _, hlen, hg⟩ := DataW.trod_struct Try.underlying39 hf
  injection hx with hx _
  subst hx
  match xs, hlen with
  | [x0, x1, x2, x3], _ =>
    have g0 := hg 0 _ rfl
    have g1 := hg 1 _ rfl
    have g2 := hg 2 _ rfl
    have g3 := hg 3 _ rfl
    have k0 : Try.prog.cellsOf 35 = 1 := by kernel_rfl
    have k1 : Try.prog.cellsOf 36 = 1 := by kernel_rfl
    have k2 : Try.prog.cellsOf 37 = 1 := by kernel_rfl
    have k3 : Try.prog.cellsOf 27 = 1 := by kernel_rfl
    simp only [List.getElem_toArray, List.getElem_cons_zero, List.getElem_cons_succ, k0, k1, k2, k3] at g0 g1 g2 g3
    obtain ⟨A0, n0, q0, l0, e0, s0, m0, b0, p0, t0⟩ := open_elems (fun x => calL x) 9 (fun _ => True) (v := c0) Try.underlying35 (by kernel_rfl) (by decide) (fun _ => rfl) (fun n cs y h => rd_call n cs y h) g0
    obtain ⟨A1, n1, q1, l1, e1, s1, m1, b1, p1, t1⟩ := open_elems (fun x => acL x) 7 (fun _ => True) (v := c1) Try.underlying36 (by kernel_rfl) (by decide) (fun _ => rfl) (fun n cs y h => rd_acc n cs y h) g1
    obtain ⟨A2, n2, q2, l2, e2, s2, m2, b2, p2, t2⟩ := open_elems (fun x => sfL x) 5 (fun _ => True) (v := c2) Try.underlying37 (by kernel_rfl) (by decide) (fun _ => rfl) (fun n cs y h => rd_shift n cs y h) g2
    obtain ⟨A3, n3, q3, l3, e3, s3, m3, b3, p3, t3⟩ := open_elems (fun x : Int => [Value.int .u64 x]) 1 (fun a => 0 ≤ a ∧ a ≤ 18446744073709551615) (v := c3) Try.underlying27 (by kernel_rfl) (by decide) (fun _ => rfl) (fun n cs y h => rd_u64 n cs y h) g3
    subst e0 e1 e2 e3 m0 m1 m2 m3
    have hu := u64s_flat l3
    rw [hu] at s3
    refine ⟨l0, l1, l2, l3, A0, A1, A2, A3, q0, q1, q2, q3, rfl, s0, s1, s2, s3, b0, p3, fun hL => ?_⟩
    have h0 := t0 (hL.field (j := 0) Try.underlying39 rfl rfl)
    have h1 := t1 (hL.field (j := 1) Try.underlying39 rfl rfl)
    have h2 := t2 (hL.field (j := 2) Try.underlying39 rfl rfl)
    have h3 := t3 (hL.field (j := 3) Try.underlying39 rfl rfl)
    rw [show Try.prog.bytesOf 62 = 72 from by kernel_rfl] at h0
    rw [show Try.prog.bytesOf 66 = 56 from by kernel_rfl] at h1
    rw [show Try.prog.bytesOf 94 = 40 from by kernel_rfl] at h2
    rw [show Try.prog.bytesOf 34 = 8 from by kernel_rfl] at h3
    unfold reachBytes at h0 h1 h2 h3
    exact ⟨h0, h1, h2, h3⟩
end
end Go.Proofs.Ytjnmlgfkiebkgaa
namespace Go.Proofs.Ytjnmlgfkiebkgaa
open Go.RowKit
open Go.Sort (HoldsK)
set_option linter.unusedVariables false
set_option linter.unusedSimpArgs false

theorem rstays_sorted (calls : List Cal) : (Sort.insertionSort (ltOf styC) (stays0 calls).toArray 0 (stays0 calls).length).toList = rstays calls := by
  rw [sty_klt, insS_list]
  rfl
theorem rtouch_sorted (calls : List Cal) : (Sort.insertionSort (ltOf calC) (calls.filter Cal.isTouch).toArray 0 (calls.filter Cal.isTouch).length).toList = rtouch calls := by
  rw [cal_klt, insS_list]
  rfl
theorem rstays_len (calls : List Cal) : (rstays calls).length = (stays0 calls).length := by rw [rstays, foldl_ins_len]; simp
theorem sty_all (calls : List Cal) (hn : calls.length ≤ 1954687338211) : styS (stays0 calls) (rstays calls) := by
  have h := sty_sorts (stays0 calls) (by have := stays0_len calls; omega)
  rw [rstays_sorted] at h
  exact h
theorem cal_all (calls : List Cal) (hn : calls.length ≤ 1954687338211) : calS (calls.filter Cal.isTouch) (rtouch calls) := by
  have h := cal_sorts (calls.filter Cal.isTouch) (by have := List.length_filter_le Cal.isTouch calls; omega)
  rw [rtouch_sorted] at h
  exact h
set_option maxRecDepth 100000 in
theorem stays_no (T k : Int) (hk : rangeB T k 1 7 = false) (v0 v1 v2 v3 : Value) (w : World) : Calls Try.prog 17 #[.agg #[.int .i64 T, .int .i64 k], .agg #[v0, v1, v2, v3]] w fun e w' => e = .returned (.tuple #[.slice none 0 0, .int .i64 240]) ∧ Below w.heap.size w w' := by
  go_enter Try.func17, Try.ntmps17
  go_wp2_with fail
  refine (locksck_any T k _).mono ?_
  rw [hk]
  rintro e w1 ⟨rfl, hb⟩
  have HBW : Hid (Below w.heap.size w w1) := (((Below.refl _ _).alloc (Nat.le_refl _) _).alloc (by simp) _).trans (hb.mono (by simp; omega))
  clear hb hk
  go_wp2_with fail
  go_ret2
  exact ⟨rfl, HBW.out⟩
set_option maxRecDepth 100000 in
theorem holds_no (T k : Int) (hk : rangeB T k 1 7 = false) (v0 v1 v2 v3 : Value) (w : World) : Calls Try.prog 18 #[.agg #[.int .i64 T, .int .i64 k], .agg #[v0, v1, v2, v3]] w fun e w' => e = .returned (.tuple #[.bool false, .int .i64 240]) ∧ Below w.heap.size w w' := by
  have HS : Hid (∀ w, Calls Try.prog 17 #[.agg #[.int .i64 T, .int .i64 k], .agg #[v0, v1, v2, v3]] w fun e w' => e = .returned (.tuple #[.slice none 0 0, .int .i64 240]) ∧ Below w.heap.size w w') := fun w => stays_no T k hk v0 v1 v2 v3 w
  clear hk
  go_enter Try.func18, Try.ntmps18
  go_upto_region 1 with fail
  have hb0 : Below w.heap.size w ((w.alloc (.cells #[.int .i64 T, .int .i64 k] 24)).alloc (.cells #[v0, v1, v2, v3] 39)) := ((Below.refl _ _).alloc (Nat.le_refl _) _).alloc (by simp) _
  have hr0 : Blk ((w.alloc (.cells #[.int .i64 T, .int .i64 k] 24)).alloc (.cells #[v0, v1, v2, v3] 39)) (w.heap.size + 1) 39 [v0, v1, v2, v3] := new1_blk' _ _ _ _
  have hl0 : Blk ((w.alloc (.cells #[.int .i64 T, .int .i64 k] 24)).alloc (.cells #[v0, v1, v2, v3] 39)) w.heap.size 24 [.int .i64 T, .int .i64 k] := (Blk.new w _ _).alloc _
  generalize (w.alloc (.cells #[.int .i64 T, .int .i64 k] 24)).alloc (.cells #[v0, v1, v2, v3] 39) = w0 at hb0 hr0 hl0 ⊢
  have r0 : w0.cell? ⟨w.heap.size + 1, 0, none⟩ = some v0 := hr0.cell rfl
  have r1 : w0.cell? ⟨w.heap.size + 1, 1, none⟩ = some v1 := hr0.cell rfl
  have r2 : w0.cell? ⟨w.heap.size + 1, 2, none⟩ = some v2 := hr0.cell rfl
  have r3 : w0.cell? ⟨w.heap.size + 1, 3, none⟩ = some v3 := hr0.cell rfl
  have l0 : w0.cell? ⟨w.heap.size, 0, none⟩ = some (.int .i64 T) := hl0.cell rfl
  have l1 : w0.cell? ⟨w.heap.size, 1, none⟩ = some (.int .i64 k) := hl0.cell rfl
  have HB0 := Lib.hid hb0
  clear hr0 hl0 hb0
  go_wp2_with fail
  refine (HS.out _).mono ?_
  rintro e w1 ⟨rfl, hb⟩
  have HBW : Hid (Below w.heap.size w w1) := HB0.out.trans (hb.mono HB0.out.size)
  clear hb
  go_wp2_with fail
  go_ret2
  exact ⟨rfl, HBW.out⟩
set_option maxRecDepth 100000 in
theorem samerun_any (calls : List Cal) (tr : List Ac) (sh : List Sf) (words : List Int) (Ac At As Aw Bc Bt Bs Bw : Option Addr) (kc kt ks kw lc lt ls lw : Nat) (w : World)
    (hc : Sl w w.heap.size 9 Ac calls.length (calVals calls)) (ht : Sl w w.heap.size 7 At tr.length (acVals tr)) (hs : Sl w w.heap.size 5 As sh.length (sfVals sh)) (hw : Sl w w.heap.size 1 Aw words.length (u64s words))
    (gc : Sl w w.heap.size 9 Bc calls.length (calVals calls)) (gt : Sl w w.heap.size 7 Bt tr.length (acVals tr)) (gs : Sl w w.heap.size 5 Bs sh.length (sfVals sh)) (gw : Sl w w.heap.size 1 Bw words.length (u64s words))
    (hn : calls.length * 72 ≤ 140737488355328 ∧ tr.length * 56 ≤ 140737488355328 ∧ sh.length * 40 ≤ 140737488355328 ∧ words.length * 8 ≤ 140737488355328) :
    Calls Try.prog 19 #[.agg #[.slice Ac calls.length kc, .slice At tr.length kt, .slice As sh.length ks, .slice Aw words.length kw], .agg #[.slice Bc calls.length lc, .slice Bt tr.length lt, .slice Bs sh.length ls, .slice Bw words.length lw]] w (BoolR true w) := by
  obtain ⟨n1, n2, n3, n4⟩ := hn
  have HC : Hid (∀ W, Below w.heap.size w W → Calls Try.prog 39 #[.slice Ac calls.length kc, .slice Bc calls.length lc] W (BoolR true W)) := Lib.hid fun W hW => cal_same calls Ac Bc kc lc W ((hc.below hW).up hW.size) ((gc.below hW).up hW.size) (by omega)
  have HT : Hid (∀ W, Below w.heap.size w W → Calls Try.prog 40 #[.slice At tr.length kt, .slice Bt tr.length lt] W (BoolR true W)) := Lib.hid fun W hW => acc_same tr At Bt kt lt W ((ht.below hW).up hW.size) ((gt.below hW).up hW.size) (by omega)
  have HF : Hid (∀ W, Below w.heap.size w W → Calls Try.prog 41 #[.slice As sh.length ks, .slice Bs sh.length ls] W (BoolR true W)) := Lib.hid fun W hW => shf_same sh As Bs ks ls W ((hs.below hW).up hW.size) ((gs.below hW).up hW.size) (by omega)
  have HW : Hid (∀ W, Below w.heap.size w W → Calls Try.prog 14 #[.slice Aw words.length kw, .slice Bw words.length lw] W (BoolR true W)) := Lib.hid fun W hW => samew_any words Aw Bw kw lw W ((hw.below hW).up hW.size) ((gw.below hW).up hW.size) (by omega)
  clear hc ht hs hw gc gt gs gw n1 n2 n3 n4
  go_enter Try.func19, Try.ntmps19
  go_upto_region 1 with fail
  have hb0 : Below w.heap.size w ((w.alloc (.cells #[.slice Ac calls.length kc, .slice At tr.length kt, .slice As sh.length ks, .slice Aw words.length kw] 39)).alloc (.cells #[.slice Bc calls.length lc, .slice Bt tr.length lt, .slice Bs sh.length ls, .slice Bw words.length lw] 39)) := ((Below.refl _ _).alloc (Nat.le_refl _) _).alloc (by simp) _
  have ha : Blk ((w.alloc (.cells #[.slice Ac calls.length kc, .slice At tr.length kt, .slice As sh.length ks, .slice Aw words.length kw] 39)).alloc (.cells #[.slice Bc calls.length lc, .slice Bt tr.length lt, .slice Bs sh.length ls, .slice Bw words.length lw] 39)) w.heap.size 39 [.slice Ac calls.length kc, .slice At tr.length kt, .slice As sh.length ks, .slice Aw words.length kw] := (Blk.new w _ _).alloc _
  have hb : Blk ((w.alloc (.cells #[.slice Ac calls.length kc, .slice At tr.length kt, .slice As sh.length ks, .slice Aw words.length kw] 39)).alloc (.cells #[.slice Bc calls.length lc, .slice Bt tr.length lt, .slice Bs sh.length ls, .slice Bw words.length lw] 39)) (w.heap.size + 1) 39 [.slice Bc calls.length lc, .slice Bt tr.length lt, .slice Bs sh.length ls, .slice Bw words.length lw] := new1_blk' _ _ _ _
  generalize (w.alloc (.cells #[.slice Ac calls.length kc, .slice At tr.length kt, .slice As sh.length ks, .slice Aw words.length kw] 39)).alloc (.cells #[.slice Bc calls.length lc, .slice Bt tr.length lt, .slice Bs sh.length ls, .slice Bw words.length lw] 39) = w0 at hb0 ha hb ⊢
  have HB0 := Lib.hid hb0
  have HA0 := Lib.hid ha
  have HD0 := Lib.hid hb
  have a0 : w0.cell? ⟨w.heap.size, 0, none⟩ = some (.slice Ac calls.length kc) := ha.cell rfl
  have b0 : w0.cell? ⟨w.heap.size + 1, 0, none⟩ = some (.slice Bc calls.length lc) := hb.cell rfl
  clear hb0 ha hb
  go_wp2_with fail
  refine (HC.out _ HB0.out).mono ?_
  rintro e w1 ⟨rfl, hb1⟩
  have HB1 := Lib.hid (HB0.out.trans (hb1.mono HB0.out.size))
  have HA1 := Lib.hid (HA0.out.below hb1 HA0.out.lt)
  have HD1 := Lib.hid (HD0.out.below hb1 HD0.out.lt)
  have a1 : w1.cell? ⟨w.heap.size, 1, none⟩ = some (.slice At tr.length kt) := HA1.out.cell rfl
  have b1 : w1.cell? ⟨w.heap.size + 1, 1, none⟩ = some (.slice Bt tr.length lt) := HD1.out.cell rfl
  clear hb1 a0 b0
  go_wp2_with fail
  refine (HT.out _ HB1.out).mono ?_
  rintro e w2 ⟨rfl, hb2⟩
  have HB2 := Lib.hid (HB1.out.trans (hb2.mono HB1.out.size))
  have HA2 := Lib.hid (HA1.out.below hb2 HA1.out.lt)
  have HD2 := Lib.hid (HD1.out.below hb2 HD1.out.lt)
  have a2 : w2.cell? ⟨w.heap.size, 2, none⟩ = some (.slice As sh.length ks) := HA2.out.cell rfl
  have b2 : w2.cell? ⟨w.heap.size + 1, 2, none⟩ = some (.slice Bs sh.length ls) := HD2.out.cell rfl
  clear hb2 a1 b1
  go_wp2_with fail
  refine (HF.out _ HB2.out).mono ?_
  rintro e w3 ⟨rfl, hb3⟩
  have HB3 := Lib.hid (HB2.out.trans (hb3.mono HB2.out.size))
  have HA3 := Lib.hid (HA2.out.below hb3 HA2.out.lt)
  have HD3 := Lib.hid (HD2.out.below hb3 HD2.out.lt)
  have a3 : w3.cell? ⟨w.heap.size, 3, none⟩ = some (.slice Aw words.length kw) := HA3.out.cell rfl
  have b3 : w3.cell? ⟨w.heap.size + 1, 3, none⟩ = some (.slice Bw words.length lw) := HD3.out.cell rfl
  clear hb3 a2 b2
  go_wp2_with fail
  refine (HW.out _ HB3.out).mono ?_
  rintro e w4 ⟨rfl, hb4⟩
  have HB4 := Lib.hid (HB3.out.trans (hb4.mono HB3.out.size))
  have HA4 := Lib.hid (HA3.out.below hb4 HA3.out.lt)
  have HD4 := Lib.hid (HD3.out.below hb4 HD3.out.lt)
  clear hb4 a3 b3
  go_wp2_with fail
  go_ret
  exact ⟨rfl, HB4.out⟩

set_option maxRecDepth 100000 in
set_option maxHeartbeats 8000000 in
theorem law_tells_no (T k : Int) (hk : rangeB T k 1 7 = false) (calls : List Cal) (tr : List Ac) (sh : List Sf) (words : List Int) (Ac At As Aw : Option Addr) (kc kt ks kw : Nat) (w : World) (hc : Sl w w.heap.size 9 Ac calls.length (calVals calls)) (ht : Sl w w.heap.size 7 At tr.length (acVals tr)) (hs : Sl w w.heap.size 5 As sh.length (sfVals sh)) (hw : Sl w w.heap.size 1 Aw words.length (u64s words))
    (hn : calls.length * 72 ≤ 140737488351232 ∧ tr.length * 56 ≤ 140737488351232 ∧ sh.length * 40 ≤ 140737488351232 ∧ words.length * 8 ≤ 140737488351232) (hkc : calls.length ≤ kc ∧ kc ≤ maxLen) (hwf : ∀ v ∈ words, 0 ≤ v ∧ v ≤ 18446744073709551615) :
    Calls Try.prog 4 #[.agg #[.int .i64 T, .int .i64 k], .agg #[.slice Ac calls.length kc, .slice At tr.length kt, .slice As sh.length ks, .slice Aw words.length kw]] w (BoolR true w) := by
  have hn' : calls.length * 72 ≤ 140737488355328 ∧ tr.length * 56 ≤ 140737488355328 ∧ sh.length * 40 ≤ 140737488355328 ∧ words.length * 8 ≤ 140737488355328 := by omega
  have hc1 : calls.length ≤ 1954687338211 := by omega
  have HMay : Hid (∀ W, Calls Try.prog 13 #[.agg #[.int .i64 T, .int .i64 k]] W (BoolR false W)) := Lib.hid fun W => by have h9 := rlocks_any T k W; rwa [hk] at h9
  have HCop : Hid (∀ W, Below w.heap.size w W → Calls Try.prog 16 #[.agg #[.slice Ac calls.length kc, .slice At tr.length kt, .slice As sh.length ks, .slice Aw words.length kw]] W (CopR calls tr sh words W)) := Lib.hid fun W hW => copyrun_any calls tr sh words Ac At As Aw kc kt ks kw W ((hc.below hW).up hW.size) ((ht.below hW).up hW.size) ((hs.below hW).up hW.size) ((hw.below hW).up hW.size) hn'
  have HSame : Hid (∀ W Bc Bt Bs Bw lc lt ls lw, Below w.heap.size w W → Sl W W.heap.size 9 Bc calls.length (calVals calls) → Sl W W.heap.size 7 Bt tr.length (acVals tr) → Sl W W.heap.size 5 Bs sh.length (sfVals sh) → Sl W W.heap.size 1 Bw words.length (u64s words) → Calls Try.prog 19 #[.agg #[.slice Ac calls.length kc, .slice At tr.length kt, .slice As sh.length ks, .slice Aw words.length kw], .agg #[.slice Bc calls.length lc, .slice Bt tr.length lt, .slice Bs sh.length ls, .slice Bw words.length lw]] W (BoolR true W)) := Lib.hid fun W Bc Bt Bs Bw lc lt ls lw hW gc gt gs gw => samerun_any calls tr sh words Ac At As Aw Bc Bt Bs Bw kc kt ks kw lc lt ls lw W ((hc.below hW).up hW.size) ((ht.below hW).up hW.size) ((hs.below hW).up hW.size) ((hw.below hW).up hW.size) gc gt gs gw hn'
  have HSty : Hid (∀ W, Calls Try.prog 17 #[.agg #[.int .i64 T, .int .i64 k], .agg #[.slice Ac calls.length kc, .slice At tr.length kt, .slice As sh.length ks, .slice Aw words.length kw]] W fun e w' => e = .returned (.tuple #[.slice none 0 0, .int .i64 240]) ∧ Below W.heap.size W w') := Lib.hid fun W => stays_no T k hk _ _ _ _ W
  have HHol : Hid (∀ W, Calls Try.prog 18 #[.agg #[.int .i64 T, .int .i64 k], .agg #[.slice Ac calls.length kc, .slice At tr.length kt, .slice As sh.length ks, .slice Aw words.length kw]] W fun e w' => e = .returned (.tuple #[.bool false, .int .i64 240]) ∧ Below W.heap.size W w') := Lib.hid fun W => holds_no T k hk _ _ _ _ W
  clear hc ht hs hw hn hn' hkc hwf hk
  go_enter Try.func4, Try.ntmps4
  go_upto_region 1 with fail
  have hb0 : Below w.heap.size w ((w.alloc (.cells #[.int .i64 T, .int .i64 k] 24)).alloc (.cells #[.slice Ac calls.length kc, .slice At tr.length kt, .slice As sh.length ks, .slice Aw words.length kw] 39)) := ((Below.refl _ _).alloc (Nat.le_refl _) _).alloc (by simp) _
  have hr0 : Blk ((w.alloc (.cells #[.int .i64 T, .int .i64 k] 24)).alloc (.cells #[.slice Ac calls.length kc, .slice At tr.length kt, .slice As sh.length ks, .slice Aw words.length kw] 39)) (w.heap.size + 1) 39 [.slice Ac calls.length kc, .slice At tr.length kt, .slice As sh.length ks, .slice Aw words.length kw] := new1_blk' _ _ _ _
  have hl0 : Blk ((w.alloc (.cells #[.int .i64 T, .int .i64 k] 24)).alloc (.cells #[.slice Ac calls.length kc, .slice At tr.length kt, .slice As sh.length ks, .slice Aw words.length kw] 39)) w.heap.size 24 [.int .i64 T, .int .i64 k] := (Blk.new w _ _).alloc _
  generalize (w.alloc (.cells #[.int .i64 T, .int .i64 k] 24)).alloc (.cells #[.slice Ac calls.length kc, .slice At tr.length kt, .slice As sh.length ks, .slice Aw words.length kw] 39) = w0 at hb0 hr0 hl0 ⊢
  have HB0 := Lib.hid hb0
  have HR0 := Lib.hid hr0
  have HL0 := Lib.hid hl0
  clear hb0 hr0 hl0
  have l0 : w0.cell? ⟨w.heap.size, 0, none⟩ = some (.int .i64 T) := HL0.out.cell rfl
  have l1 : w0.cell? ⟨w.heap.size, 1, none⟩ = some (.int .i64 k) := HL0.out.cell rfl
  have r0 : w0.cell? ⟨w.heap.size + 1, 0, none⟩ = some (.slice Ac calls.length kc) := HR0.out.cell rfl
  have r1 : w0.cell? ⟨w.heap.size + 1, 1, none⟩ = some (.slice At tr.length kt) := HR0.out.cell rfl
  have r2 : w0.cell? ⟨w.heap.size + 1, 2, none⟩ = some (.slice As sh.length ks) := HR0.out.cell rfl
  have r3 : w0.cell? ⟨w.heap.size + 1, 3, none⟩ = some (.slice Aw words.length kw) := HR0.out.cell rfl

  go_wp2_with fail
  refine (HCop.out _ HB0.out).mono ?_
  rintro e w1 ⟨Dc, dc, Dt, dt, Ds, ds, Dw, dw, rfl, o0, o1, o2, o3, hb1⟩
  clear l0 l1 r0 r1 r2 r3
  have hB1 := HB0.out.trans (hb1.mono HB0.out.size)
  have hR1 := HR0.out.below hb1 HR0.out.lt
  have hL1 := HL0.out.below hb1 HL0.out.lt
  clear hb1
  go_upto_region 2 with fail
  obtain ⟨w2, hw2, HK2, HB2, HR2, HL2, HO0_2, HO1_2, HO2_2, HO3_2⟩ : ∃ w2, w2 = w1.alloc (.cells #[.slice Dc calls.length dc, .slice Dt tr.length dt, .slice Ds sh.length ds, .slice Dw words.length dw] 39) ∧ Hid (Blk w2 w1.heap.size 39 [.slice Dc calls.length dc, .slice Dt tr.length dt, .slice Ds sh.length ds, .slice Dw words.length dw]) ∧ Hid (Below w.heap.size w w2) ∧ Hid (Blk w2 (w.heap.size + 1) 39 [.slice Ac calls.length kc, .slice At tr.length kt, .slice As sh.length ks, .slice Aw words.length kw]) ∧ Hid (Blk w2 w.heap.size 24 [.int .i64 T, .int .i64 k]) ∧ Hid (w2.ownsRow w0.heap.size 62 9 (.slice Dc calls.length dc) calls.length (calVals calls)) ∧ Hid (w2.ownsRow w0.heap.size 66 7 (.slice Dt tr.length dt) tr.length (acVals tr)) ∧ Hid (w2.ownsRow w0.heap.size 94 5 (.slice Ds sh.length ds) sh.length (sfVals sh)) ∧ Hid (w2.ownsRow w0.heap.size 34 1 (.slice Dw words.length dw) words.length (u64s words)) := ⟨_, rfl, Blk.new _ _ _, hB1.alloc hB1.size _, hR1.alloc _, hL1.alloc _, o0.alloc _, o1.alloc _, o2.alloc _, o3.alloc _⟩
  rw [← hw2]
  obtain ⟨gq, hgq⟩ : ∃ gq, gq = w1.heap.size := ⟨_, rfl⟩
  rw [← hgq] at HK2 ⊢
  clear hw2 hgq o0 o1 o2 o3 hB1 hR1 hL1 HB0 HR0 HL0 HCop
  have l0 : w2.cell? ⟨w.heap.size, 0, none⟩ = some (.int .i64 T) := HL2.out.cell rfl
  have l1 : w2.cell? ⟨w.heap.size, 1, none⟩ = some (.int .i64 k) := HL2.out.cell rfl
  have r0 : w2.cell? ⟨w.heap.size + 1, 0, none⟩ = some (.slice Ac calls.length kc) := HR2.out.cell rfl
  have r1 : w2.cell? ⟨w.heap.size + 1, 1, none⟩ = some (.slice At tr.length kt) := HR2.out.cell rfl
  have r2 : w2.cell? ⟨w.heap.size + 1, 2, none⟩ = some (.slice As sh.length ks) := HR2.out.cell rfl
  have r3 : w2.cell? ⟨w.heap.size + 1, 3, none⟩ = some (.slice Aw words.length kw) := HR2.out.cell rfl
  have q0 : w2.cell? ⟨gq, 0, none⟩ = some (.slice Dc calls.length dc) := HK2.out.cell rfl
  have q1 : w2.cell? ⟨gq, 1, none⟩ = some (.slice Dt tr.length dt) := HK2.out.cell rfl
  have q2 : w2.cell? ⟨gq, 2, none⟩ = some (.slice Ds sh.length ds) := HK2.out.cell rfl
  have q3 : w2.cell? ⟨gq, 3, none⟩ = some (.slice Dw words.length dw) := HK2.out.cell rfl

  go_wp2_with fail
  refine (HSty.out _).mono ?_
  rintro e w3 ⟨rfl, hb3⟩
  clear l0 l1 r0 r1 r2 r3 q0 q1 q2 q3
  have HB3 := Lib.hid (HB2.out.trans (hb3.mono HB2.out.size))
  have HL3 := Lib.hid (HL2.out.below hb3 HL2.out.lt)
  have HR3 := Lib.hid (HR2.out.below hb3 HR2.out.lt)
  have HK3 := Lib.hid (HK2.out.below hb3 HK2.out.lt)
  have HO0_3 := Lib.hid (HO0_2.out.below hb3)
  have HO1_3 := Lib.hid (HO1_2.out.below hb3)
  have HO2_3 := Lib.hid (HO2_2.out.below hb3)
  have HO3_3 := Lib.hid (HO3_2.out.below hb3)
  have l0 : w3.cell? ⟨w.heap.size, 0, none⟩ = some (.int .i64 T) := HL3.out.cell rfl
  have l1 : w3.cell? ⟨w.heap.size, 1, none⟩ = some (.int .i64 k) := HL3.out.cell rfl
  have r0 : w3.cell? ⟨w.heap.size + 1, 0, none⟩ = some (.slice Ac calls.length kc) := HR3.out.cell rfl
  have r1 : w3.cell? ⟨w.heap.size + 1, 1, none⟩ = some (.slice At tr.length kt) := HR3.out.cell rfl
  have r2 : w3.cell? ⟨w.heap.size + 1, 2, none⟩ = some (.slice As sh.length ks) := HR3.out.cell rfl
  have r3 : w3.cell? ⟨w.heap.size + 1, 3, none⟩ = some (.slice Aw words.length kw) := HR3.out.cell rfl
  have q0 : w3.cell? ⟨gq, 0, none⟩ = some (.slice Dc calls.length dc) := HK3.out.cell rfl
  have q1 : w3.cell? ⟨gq, 1, none⟩ = some (.slice Dt tr.length dt) := HK3.out.cell rfl
  have q2 : w3.cell? ⟨gq, 2, none⟩ = some (.slice Ds sh.length ds) := HK3.out.cell rfl
  have q3 : w3.cell? ⟨gq, 3, none⟩ = some (.slice Dw words.length dw) := HK3.out.cell rfl
  clear hb3

  go_wp2_with fail
  refine (HHol.out _).mono ?_
  rintro e w4 ⟨rfl, hb4⟩
  clear l0 l1 r0 r1 r2 r3 q0 q1 q2 q3
  have HB4 := Lib.hid (HB3.out.trans (hb4.mono HB3.out.size))
  have HL4 := Lib.hid (HL3.out.below hb4 HL3.out.lt)
  have HR4 := Lib.hid (HR3.out.below hb4 HR3.out.lt)
  have HK4 := Lib.hid (HK3.out.below hb4 HK3.out.lt)
  have HO0_4 := Lib.hid (HO0_3.out.below hb4)
  have HO1_4 := Lib.hid (HO1_3.out.below hb4)
  have HO2_4 := Lib.hid (HO2_3.out.below hb4)
  have HO3_4 := Lib.hid (HO3_3.out.below hb4)
  have l0 : w4.cell? ⟨w.heap.size, 0, none⟩ = some (.int .i64 T) := HL4.out.cell rfl
  have l1 : w4.cell? ⟨w.heap.size, 1, none⟩ = some (.int .i64 k) := HL4.out.cell rfl
  have r0 : w4.cell? ⟨w.heap.size + 1, 0, none⟩ = some (.slice Ac calls.length kc) := HR4.out.cell rfl
  have r1 : w4.cell? ⟨w.heap.size + 1, 1, none⟩ = some (.slice At tr.length kt) := HR4.out.cell rfl
  have r2 : w4.cell? ⟨w.heap.size + 1, 2, none⟩ = some (.slice As sh.length ks) := HR4.out.cell rfl
  have r3 : w4.cell? ⟨w.heap.size + 1, 3, none⟩ = some (.slice Aw words.length kw) := HR4.out.cell rfl
  have q0 : w4.cell? ⟨gq, 0, none⟩ = some (.slice Dc calls.length dc) := HK4.out.cell rfl
  have q1 : w4.cell? ⟨gq, 1, none⟩ = some (.slice Dt tr.length dt) := HK4.out.cell rfl
  have q2 : w4.cell? ⟨gq, 2, none⟩ = some (.slice Ds sh.length ds) := HK4.out.cell rfl
  have q3 : w4.cell? ⟨gq, 3, none⟩ = some (.slice Dw words.length dw) := HK4.out.cell rfl
  clear hb4

  go_wp2_with fail
  refine (awake_any _).mono ?_
  rintro e w5 ⟨rfl, hb5⟩
  clear l0 l1 r0 r1 r2 r3 q0 q1 q2 q3
  have HB5 := Lib.hid (HB4.out.trans (hb5.mono HB4.out.size))
  have HL5 := Lib.hid (HL4.out.below hb5 HL4.out.lt)
  have HR5 := Lib.hid (HR4.out.below hb5 HR4.out.lt)
  have HK5 := Lib.hid (HK4.out.below hb5 HK4.out.lt)
  have HO0_5 := Lib.hid (HO0_4.out.below hb5)
  have HO1_5 := Lib.hid (HO1_4.out.below hb5)
  have HO2_5 := Lib.hid (HO2_4.out.below hb5)
  have HO3_5 := Lib.hid (HO3_4.out.below hb5)
  have l0 : w5.cell? ⟨w.heap.size, 0, none⟩ = some (.int .i64 T) := HL5.out.cell rfl
  have l1 : w5.cell? ⟨w.heap.size, 1, none⟩ = some (.int .i64 k) := HL5.out.cell rfl
  have r0 : w5.cell? ⟨w.heap.size + 1, 0, none⟩ = some (.slice Ac calls.length kc) := HR5.out.cell rfl
  have r1 : w5.cell? ⟨w.heap.size + 1, 1, none⟩ = some (.slice At tr.length kt) := HR5.out.cell rfl
  have r2 : w5.cell? ⟨w.heap.size + 1, 2, none⟩ = some (.slice As sh.length ks) := HR5.out.cell rfl
  have r3 : w5.cell? ⟨w.heap.size + 1, 3, none⟩ = some (.slice Aw words.length kw) := HR5.out.cell rfl
  have q0 : w5.cell? ⟨gq, 0, none⟩ = some (.slice Dc calls.length dc) := HK5.out.cell rfl
  have q1 : w5.cell? ⟨gq, 1, none⟩ = some (.slice Dt tr.length dt) := HK5.out.cell rfl
  have q2 : w5.cell? ⟨gq, 2, none⟩ = some (.slice Ds sh.length ds) := HK5.out.cell rfl
  have q3 : w5.cell? ⟨gq, 3, none⟩ = some (.slice Dw words.length dw) := HK5.out.cell rfl
  clear hb5

  go_wp2_with fail
  refine (HSame.out _ _ _ _ _ _ _ _ _ HB5.out (Sl.of_own HO0_5.out) (Sl.of_own HO1_5.out) (Sl.of_own HO2_5.out) (Sl.of_own HO3_5.out)).mono ?_
  rintro e w6 ⟨rfl, hb6⟩
  clear l0 l1 r0 r1 r2 r3 q0 q1 q2 q3
  have HB6 := Lib.hid (HB5.out.trans (hb6.mono HB5.out.size))
  have HL6 := Lib.hid (HL5.out.below hb6 HL5.out.lt)
  have HR6 := Lib.hid (HR5.out.below hb6 HR5.out.lt)
  have HK6 := Lib.hid (HK5.out.below hb6 HK5.out.lt)
  have l0 : w6.cell? ⟨w.heap.size, 0, none⟩ = some (.int .i64 T) := HL6.out.cell rfl
  have l1 : w6.cell? ⟨w.heap.size, 1, none⟩ = some (.int .i64 k) := HL6.out.cell rfl
  have r0 : w6.cell? ⟨w.heap.size + 1, 0, none⟩ = some (.slice Ac calls.length kc) := HR6.out.cell rfl
  have r1 : w6.cell? ⟨w.heap.size + 1, 1, none⟩ = some (.slice At tr.length kt) := HR6.out.cell rfl
  have r2 : w6.cell? ⟨w.heap.size + 1, 2, none⟩ = some (.slice As sh.length ks) := HR6.out.cell rfl
  have r3 : w6.cell? ⟨w.heap.size + 1, 3, none⟩ = some (.slice Aw words.length kw) := HR6.out.cell rfl
  have q0 : w6.cell? ⟨gq, 0, none⟩ = some (.slice Dc calls.length dc) := HK6.out.cell rfl
  have q1 : w6.cell? ⟨gq, 1, none⟩ = some (.slice Dt tr.length dt) := HK6.out.cell rfl
  have q2 : w6.cell? ⟨gq, 2, none⟩ = some (.slice Ds sh.length ds) := HK6.out.cell rfl
  have q3 : w6.cell? ⟨gq, 3, none⟩ = some (.slice Dw words.length dw) := HK6.out.cell rfl
  clear hb6

  go_wp2_with fail
  refine (HMay.out _).mono ?_
  rintro e w7 ⟨rfl, hb7⟩
  clear l0 l1 r0 r1 r2 r3 q0 q1 q2 q3
  have HB7 := Lib.hid (HB6.out.trans (hb7.mono HB6.out.size))
  clear hb7
  go_wp2_with fail
  go_ret
  exact ⟨rfl, HB7.out⟩

set_option maxRecDepth 100000 in
set_option maxHeartbeats 8000000 in
theorem law_tells_yes (T k : Int) (hk : rangeB T k 1 7 = true) (calls : List Cal) (tr : List Ac) (sh : List Sf) (words : List Int) (Ac At As Aw : Option Addr) (kc kt ks kw : Nat) (w : World) (hc : Sl w w.heap.size 9 Ac calls.length (calVals calls)) (ht : Sl w w.heap.size 7 At tr.length (acVals tr)) (hs : Sl w w.heap.size 5 As sh.length (sfVals sh)) (hw : Sl w w.heap.size 1 Aw words.length (u64s words))
    (hn : calls.length * 72 ≤ 140737488351232 ∧ tr.length * 56 ≤ 140737488351232 ∧ sh.length * 40 ≤ 140737488351232 ∧ words.length * 8 ≤ 140737488351232) (hkc : calls.length ≤ kc ∧ kc ≤ maxLen) (hwf : ∀ v ∈ words, 0 ≤ v ∧ v ≤ 18446744073709551615) :
    Calls Try.prog 4 #[.agg #[.int .i64 T, .int .i64 k], .agg #[.slice Ac calls.length kc, .slice At tr.length kt, .slice As sh.length ks, .slice Aw words.length kw]] w (BoolR true w) := by
  have hn' : calls.length * 72 ≤ 140737488355328 ∧ tr.length * 56 ≤ 140737488355328 ∧ sh.length * 40 ≤ 140737488355328 ∧ words.length * 8 ≤ 140737488355328 := by omega
  have hc1 : calls.length ≤ 1954687338211 := by omega
  have HMay : Hid (∀ W, Calls Try.prog 13 #[.agg #[.int .i64 T, .int .i64 k]] W (BoolR true W)) := Lib.hid fun W => by have h9 := rlocks_any T k W; rwa [hk] at h9
  have HCop : Hid (∀ W, Below w.heap.size w W → Calls Try.prog 16 #[.agg #[.slice Ac calls.length kc, .slice At tr.length kt, .slice As sh.length ks, .slice Aw words.length kw]] W (CopR calls tr sh words W)) := Lib.hid fun W hW => copyrun_any calls tr sh words Ac At As Aw kc kt ks kw W ((hc.below hW).up hW.size) ((ht.below hW).up hW.size) ((hs.below hW).up hW.size) ((hw.below hW).up hW.size) hn'
  have HSame : Hid (∀ W Bc Bt Bs Bw lc lt ls lw, Below w.heap.size w W → Sl W W.heap.size 9 Bc calls.length (calVals calls) → Sl W W.heap.size 7 Bt tr.length (acVals tr) → Sl W W.heap.size 5 Bs sh.length (sfVals sh) → Sl W W.heap.size 1 Bw words.length (u64s words) → Calls Try.prog 19 #[.agg #[.slice Ac calls.length kc, .slice At tr.length kt, .slice As sh.length ks, .slice Aw words.length kw], .agg #[.slice Bc calls.length lc, .slice Bt tr.length lt, .slice Bs sh.length ls, .slice Bw words.length lw]] W (BoolR true W)) := Lib.hid fun W Bc Bt Bs Bw lc lt ls lw hW gc gt gs gw => samerun_any calls tr sh words Ac At As Aw Bc Bt Bs Bw kc kt ks kw lc lt ls lw W ((hc.below hW).up hW.size) ((ht.below hW).up hW.size) ((hs.below hW).up hW.size) ((hw.below hW).up hW.size) gc gt gs gw hn'
  obtain ⟨l, hl⟩ : ∃ l, l = rstays calls := ⟨_, rfl⟩
  obtain ⟨bh, hbh⟩ : ∃ b, b = holdsP (rstays calls) (rtouch calls) words := ⟨_, rfl⟩
  have hll : (stays0 calls).length = l.length := by rw [hl, rstays_len]
  have hlc : l.length ≤ calls.length := by rw [← hll]; exact stays0_len calls
  have HSty : Hid (∀ W, Below w.heap.size w W → Calls Try.prog 17 #[.agg #[.int .i64 T, .int .i64 k], .agg #[.slice Ac calls.length kc, .slice At tr.length kt, .slice As sh.length ks, .slice Aw words.length kw]] W (StaysR l.length l W)) := Lib.hid fun W hW => by
    have h9 := stays_any T k hk calls Ac At As Aw kc tr.length kt sh.length ks words.length kw W ((hc.below hW).up hW.size) hc1 hkc (rstays calls) (sty_all calls hc1)
    rw [hll, ← hl] at h9
    exact h9
  have HHol : Hid (∀ W, Below w.heap.size w W → Calls Try.prog 18 #[.agg #[.int .i64 T, .int .i64 k], .agg #[.slice Ac calls.length kc, .slice At tr.length kt, .slice As sh.length ks, .slice Aw words.length kw]] W (HoldsR bh W)) := Lib.hid fun W hW => by
    rw [hbh]
    exact holds_any T k hk calls words Ac At As Aw kc tr.length kt sh.length ks kw W ((hc.below hW).up hW.size) ((hw.below hW).up hW.size) hc1 (by omega) hkc (rstays calls) (sty_all calls hc1) (rtouch calls) (cal_all calls hc1)
  have HRs : Hid (∀ W, Below w.heap.size w W → Calls Try.prog 21 #[.agg #[.slice Ac calls.length kc, .slice At tr.length kt, .slice As sh.length ks, .slice Aw words.length kw]] W (RStaysR l W)) := Lib.hid fun W hW => by
    rw [hl]
    exact rstays_any calls Ac At As Aw kc tr.length kt sh.length ks words.length kw W ((hc.below hW).up hW.size) hc1
  have HRh : Hid (∀ W, Below w.heap.size w W → Calls Try.prog 22 #[.agg #[.slice Ac calls.length kc, .slice At tr.length kt, .slice As sh.length ks, .slice Aw words.length kw]] W (BoolR bh W)) := Lib.hid fun W hW => by
    rw [hbh]
    exact rholds_any calls words Ac At As Aw kc tr.length kt sh.length ks kw W ((hc.below hW).up hW.size) ((hw.below hW).up hW.size) hc1 (by omega) hwf
  clear hl hbh hll
  clear hc ht hs hw hn hn' hkc hwf hk
  go_enter Try.func4, Try.ntmps4
  go_upto_region 1 with fail
  have hb0 : Below w.heap.size w ((w.alloc (.cells #[.int .i64 T, .int .i64 k] 24)).alloc (.cells #[.slice Ac calls.length kc, .slice At tr.length kt, .slice As sh.length ks, .slice Aw words.length kw] 39)) := ((Below.refl _ _).alloc (Nat.le_refl _) _).alloc (by simp) _
  have hr0 : Blk ((w.alloc (.cells #[.int .i64 T, .int .i64 k] 24)).alloc (.cells #[.slice Ac calls.length kc, .slice At tr.length kt, .slice As sh.length ks, .slice Aw words.length kw] 39)) (w.heap.size + 1) 39 [.slice Ac calls.length kc, .slice At tr.length kt, .slice As sh.length ks, .slice Aw words.length kw] := new1_blk' _ _ _ _
  have hl0 : Blk ((w.alloc (.cells #[.int .i64 T, .int .i64 k] 24)).alloc (.cells #[.slice Ac calls.length kc, .slice At tr.length kt, .slice As sh.length ks, .slice Aw words.length kw] 39)) w.heap.size 24 [.int .i64 T, .int .i64 k] := (Blk.new w _ _).alloc _
  generalize (w.alloc (.cells #[.int .i64 T, .int .i64 k] 24)).alloc (.cells #[.slice Ac calls.length kc, .slice At tr.length kt, .slice As sh.length ks, .slice Aw words.length kw] 39) = w0 at hb0 hr0 hl0 ⊢
  have HB0 := Lib.hid hb0
  have HR0 := Lib.hid hr0
  have HL0 := Lib.hid hl0
  clear hb0 hr0 hl0
  have l0 : w0.cell? ⟨w.heap.size, 0, none⟩ = some (.int .i64 T) := HL0.out.cell rfl
  have l1 : w0.cell? ⟨w.heap.size, 1, none⟩ = some (.int .i64 k) := HL0.out.cell rfl
  have r0 : w0.cell? ⟨w.heap.size + 1, 0, none⟩ = some (.slice Ac calls.length kc) := HR0.out.cell rfl
  have r1 : w0.cell? ⟨w.heap.size + 1, 1, none⟩ = some (.slice At tr.length kt) := HR0.out.cell rfl
  have r2 : w0.cell? ⟨w.heap.size + 1, 2, none⟩ = some (.slice As sh.length ks) := HR0.out.cell rfl
  have r3 : w0.cell? ⟨w.heap.size + 1, 3, none⟩ = some (.slice Aw words.length kw) := HR0.out.cell rfl

  go_wp2_with fail
  refine (HCop.out _ HB0.out).mono ?_
  rintro e w1 ⟨Dc, dc, Dt, dt, Ds, ds, Dw, dw, rfl, o0, o1, o2, o3, hb1⟩
  clear l0 l1 r0 r1 r2 r3
  have hB1 := HB0.out.trans (hb1.mono HB0.out.size)
  have hR1 := HR0.out.below hb1 HR0.out.lt
  have hL1 := HL0.out.below hb1 HL0.out.lt
  clear hb1
  go_upto_region 2 with fail
  obtain ⟨w2, hw2, HK2, HB2, HR2, HL2, HO0_2, HO1_2, HO2_2, HO3_2⟩ : ∃ w2, w2 = w1.alloc (.cells #[.slice Dc calls.length dc, .slice Dt tr.length dt, .slice Ds sh.length ds, .slice Dw words.length dw] 39) ∧ Hid (Blk w2 w1.heap.size 39 [.slice Dc calls.length dc, .slice Dt tr.length dt, .slice Ds sh.length ds, .slice Dw words.length dw]) ∧ Hid (Below w.heap.size w w2) ∧ Hid (Blk w2 (w.heap.size + 1) 39 [.slice Ac calls.length kc, .slice At tr.length kt, .slice As sh.length ks, .slice Aw words.length kw]) ∧ Hid (Blk w2 w.heap.size 24 [.int .i64 T, .int .i64 k]) ∧ Hid (w2.ownsRow w0.heap.size 62 9 (.slice Dc calls.length dc) calls.length (calVals calls)) ∧ Hid (w2.ownsRow w0.heap.size 66 7 (.slice Dt tr.length dt) tr.length (acVals tr)) ∧ Hid (w2.ownsRow w0.heap.size 94 5 (.slice Ds sh.length ds) sh.length (sfVals sh)) ∧ Hid (w2.ownsRow w0.heap.size 34 1 (.slice Dw words.length dw) words.length (u64s words)) := ⟨_, rfl, Blk.new _ _ _, hB1.alloc hB1.size _, hR1.alloc _, hL1.alloc _, o0.alloc _, o1.alloc _, o2.alloc _, o3.alloc _⟩
  rw [← hw2]
  obtain ⟨gq, hgq⟩ : ∃ gq, gq = w1.heap.size := ⟨_, rfl⟩
  rw [← hgq] at HK2 ⊢
  clear hw2 hgq o0 o1 o2 o3 hB1 hR1 hL1 HB0 HR0 HL0 HCop
  have l0 : w2.cell? ⟨w.heap.size, 0, none⟩ = some (.int .i64 T) := HL2.out.cell rfl
  have l1 : w2.cell? ⟨w.heap.size, 1, none⟩ = some (.int .i64 k) := HL2.out.cell rfl
  have r0 : w2.cell? ⟨w.heap.size + 1, 0, none⟩ = some (.slice Ac calls.length kc) := HR2.out.cell rfl
  have r1 : w2.cell? ⟨w.heap.size + 1, 1, none⟩ = some (.slice At tr.length kt) := HR2.out.cell rfl
  have r2 : w2.cell? ⟨w.heap.size + 1, 2, none⟩ = some (.slice As sh.length ks) := HR2.out.cell rfl
  have r3 : w2.cell? ⟨w.heap.size + 1, 3, none⟩ = some (.slice Aw words.length kw) := HR2.out.cell rfl
  have q0 : w2.cell? ⟨gq, 0, none⟩ = some (.slice Dc calls.length dc) := HK2.out.cell rfl
  have q1 : w2.cell? ⟨gq, 1, none⟩ = some (.slice Dt tr.length dt) := HK2.out.cell rfl
  have q2 : w2.cell? ⟨gq, 2, none⟩ = some (.slice Ds sh.length ds) := HK2.out.cell rfl
  have q3 : w2.cell? ⟨gq, 3, none⟩ = some (.slice Dw words.length dw) := HK2.out.cell rfl

  go_wp2_with fail
  refine (HSty.out _ HB2.out).mono ?_
  rintro e w3 ⟨A6, k6, rfl, ho6, hb3⟩
  clear l0 l1 r0 r1 r2 r3 q0 q1 q2 q3
  have HO6_3 := Lib.hid ho6
  clear ho6
  have HB3 := Lib.hid (HB2.out.trans (hb3.mono HB2.out.size))
  have HL3 := Lib.hid (HL2.out.below hb3 HL2.out.lt)
  have HR3 := Lib.hid (HR2.out.below hb3 HR2.out.lt)
  have HK3 := Lib.hid (HK2.out.below hb3 HK2.out.lt)
  have HO0_3 := Lib.hid (HO0_2.out.below hb3)
  have HO1_3 := Lib.hid (HO1_2.out.below hb3)
  have HO2_3 := Lib.hid (HO2_2.out.below hb3)
  have HO3_3 := Lib.hid (HO3_2.out.below hb3)
  have l0 : w3.cell? ⟨w.heap.size, 0, none⟩ = some (.int .i64 T) := HL3.out.cell rfl
  have l1 : w3.cell? ⟨w.heap.size, 1, none⟩ = some (.int .i64 k) := HL3.out.cell rfl
  have r0 : w3.cell? ⟨w.heap.size + 1, 0, none⟩ = some (.slice Ac calls.length kc) := HR3.out.cell rfl
  have r1 : w3.cell? ⟨w.heap.size + 1, 1, none⟩ = some (.slice At tr.length kt) := HR3.out.cell rfl
  have r2 : w3.cell? ⟨w.heap.size + 1, 2, none⟩ = some (.slice As sh.length ks) := HR3.out.cell rfl
  have r3 : w3.cell? ⟨w.heap.size + 1, 3, none⟩ = some (.slice Aw words.length kw) := HR3.out.cell rfl
  have q0 : w3.cell? ⟨gq, 0, none⟩ = some (.slice Dc calls.length dc) := HK3.out.cell rfl
  have q1 : w3.cell? ⟨gq, 1, none⟩ = some (.slice Dt tr.length dt) := HK3.out.cell rfl
  have q2 : w3.cell? ⟨gq, 2, none⟩ = some (.slice Ds sh.length ds) := HK3.out.cell rfl
  have q3 : w3.cell? ⟨gq, 3, none⟩ = some (.slice Dw words.length dw) := HK3.out.cell rfl
  clear hb3

  go_wp2_with fail
  refine (HHol.out _ HB3.out).mono ?_
  rintro e w4 ⟨rfl, hb4⟩
  clear l0 l1 r0 r1 r2 r3 q0 q1 q2 q3
  have HB4 := Lib.hid (HB3.out.trans (hb4.mono HB3.out.size))
  have HL4 := Lib.hid (HL3.out.below hb4 HL3.out.lt)
  have HR4 := Lib.hid (HR3.out.below hb4 HR3.out.lt)
  have HK4 := Lib.hid (HK3.out.below hb4 HK3.out.lt)
  have HO0_4 := Lib.hid (HO0_3.out.below hb4)
  have HO1_4 := Lib.hid (HO1_3.out.below hb4)
  have HO2_4 := Lib.hid (HO2_3.out.below hb4)
  have HO3_4 := Lib.hid (HO3_3.out.below hb4)
  have HO6_4 := Lib.hid (HO6_3.out.below hb4)
  have l0 : w4.cell? ⟨w.heap.size, 0, none⟩ = some (.int .i64 T) := HL4.out.cell rfl
  have l1 : w4.cell? ⟨w.heap.size, 1, none⟩ = some (.int .i64 k) := HL4.out.cell rfl
  have r0 : w4.cell? ⟨w.heap.size + 1, 0, none⟩ = some (.slice Ac calls.length kc) := HR4.out.cell rfl
  have r1 : w4.cell? ⟨w.heap.size + 1, 1, none⟩ = some (.slice At tr.length kt) := HR4.out.cell rfl
  have r2 : w4.cell? ⟨w.heap.size + 1, 2, none⟩ = some (.slice As sh.length ks) := HR4.out.cell rfl
  have r3 : w4.cell? ⟨w.heap.size + 1, 3, none⟩ = some (.slice Aw words.length kw) := HR4.out.cell rfl
  have q0 : w4.cell? ⟨gq, 0, none⟩ = some (.slice Dc calls.length dc) := HK4.out.cell rfl
  have q1 : w4.cell? ⟨gq, 1, none⟩ = some (.slice Dt tr.length dt) := HK4.out.cell rfl
  have q2 : w4.cell? ⟨gq, 2, none⟩ = some (.slice Ds sh.length ds) := HK4.out.cell rfl
  have q3 : w4.cell? ⟨gq, 3, none⟩ = some (.slice Dw words.length dw) := HK4.out.cell rfl
  clear hb4

  go_wp2_with fail
  refine (awake_any _).mono ?_
  rintro e w5 ⟨rfl, hb5⟩
  clear l0 l1 r0 r1 r2 r3 q0 q1 q2 q3
  have HB5 := Lib.hid (HB4.out.trans (hb5.mono HB4.out.size))
  have HL5 := Lib.hid (HL4.out.below hb5 HL4.out.lt)
  have HR5 := Lib.hid (HR4.out.below hb5 HR4.out.lt)
  have HK5 := Lib.hid (HK4.out.below hb5 HK4.out.lt)
  have HO0_5 := Lib.hid (HO0_4.out.below hb5)
  have HO1_5 := Lib.hid (HO1_4.out.below hb5)
  have HO2_5 := Lib.hid (HO2_4.out.below hb5)
  have HO3_5 := Lib.hid (HO3_4.out.below hb5)
  have HO6_5 := Lib.hid (HO6_4.out.below hb5)
  have l0 : w5.cell? ⟨w.heap.size, 0, none⟩ = some (.int .i64 T) := HL5.out.cell rfl
  have l1 : w5.cell? ⟨w.heap.size, 1, none⟩ = some (.int .i64 k) := HL5.out.cell rfl
  have r0 : w5.cell? ⟨w.heap.size + 1, 0, none⟩ = some (.slice Ac calls.length kc) := HR5.out.cell rfl
  have r1 : w5.cell? ⟨w.heap.size + 1, 1, none⟩ = some (.slice At tr.length kt) := HR5.out.cell rfl
  have r2 : w5.cell? ⟨w.heap.size + 1, 2, none⟩ = some (.slice As sh.length ks) := HR5.out.cell rfl
  have r3 : w5.cell? ⟨w.heap.size + 1, 3, none⟩ = some (.slice Aw words.length kw) := HR5.out.cell rfl
  have q0 : w5.cell? ⟨gq, 0, none⟩ = some (.slice Dc calls.length dc) := HK5.out.cell rfl
  have q1 : w5.cell? ⟨gq, 1, none⟩ = some (.slice Dt tr.length dt) := HK5.out.cell rfl
  have q2 : w5.cell? ⟨gq, 2, none⟩ = some (.slice Ds sh.length ds) := HK5.out.cell rfl
  have q3 : w5.cell? ⟨gq, 3, none⟩ = some (.slice Dw words.length dw) := HK5.out.cell rfl
  clear hb5

  go_wp2_with fail
  refine (HSame.out _ _ _ _ _ _ _ _ _ HB5.out (Sl.of_own HO0_5.out) (Sl.of_own HO1_5.out) (Sl.of_own HO2_5.out) (Sl.of_own HO3_5.out)).mono ?_
  rintro e w6 ⟨rfl, hb6⟩
  clear l0 l1 r0 r1 r2 r3 q0 q1 q2 q3
  have HB6 := Lib.hid (HB5.out.trans (hb6.mono HB5.out.size))
  have HL6 := Lib.hid (HL5.out.below hb6 HL5.out.lt)
  have HR6 := Lib.hid (HR5.out.below hb6 HR5.out.lt)
  have HK6 := Lib.hid (HK5.out.below hb6 HK5.out.lt)
  have HO6_6 := Lib.hid (HO6_5.out.below hb6)
  have l0 : w6.cell? ⟨w.heap.size, 0, none⟩ = some (.int .i64 T) := HL6.out.cell rfl
  have l1 : w6.cell? ⟨w.heap.size, 1, none⟩ = some (.int .i64 k) := HL6.out.cell rfl
  have r0 : w6.cell? ⟨w.heap.size + 1, 0, none⟩ = some (.slice Ac calls.length kc) := HR6.out.cell rfl
  have r1 : w6.cell? ⟨w.heap.size + 1, 1, none⟩ = some (.slice At tr.length kt) := HR6.out.cell rfl
  have r2 : w6.cell? ⟨w.heap.size + 1, 2, none⟩ = some (.slice As sh.length ks) := HR6.out.cell rfl
  have r3 : w6.cell? ⟨w.heap.size + 1, 3, none⟩ = some (.slice Aw words.length kw) := HR6.out.cell rfl
  have q0 : w6.cell? ⟨gq, 0, none⟩ = some (.slice Dc calls.length dc) := HK6.out.cell rfl
  have q1 : w6.cell? ⟨gq, 1, none⟩ = some (.slice Dt tr.length dt) := HK6.out.cell rfl
  have q2 : w6.cell? ⟨gq, 2, none⟩ = some (.slice Ds sh.length ds) := HK6.out.cell rfl
  have q3 : w6.cell? ⟨gq, 3, none⟩ = some (.slice Dw words.length dw) := HK6.out.cell rfl
  clear hb6

  go_wp2_with fail
  refine (HMay.out _).mono ?_
  rintro e w7 ⟨rfl, hb7⟩
  clear l0 l1 r0 r1 r2 r3 q0 q1 q2 q3
  have HB7 := Lib.hid (HB6.out.trans (hb7.mono HB6.out.size))
  have HL7 := Lib.hid (HL6.out.below hb7 HL6.out.lt)
  have HR7 := Lib.hid (HR6.out.below hb7 HR6.out.lt)
  have HK7 := Lib.hid (HK6.out.below hb7 HK6.out.lt)
  have HO6_7 := Lib.hid (HO6_6.out.below hb7)
  have l0 : w7.cell? ⟨w.heap.size, 0, none⟩ = some (.int .i64 T) := HL7.out.cell rfl
  have l1 : w7.cell? ⟨w.heap.size, 1, none⟩ = some (.int .i64 k) := HL7.out.cell rfl
  have r0 : w7.cell? ⟨w.heap.size + 1, 0, none⟩ = some (.slice Ac calls.length kc) := HR7.out.cell rfl
  have r1 : w7.cell? ⟨w.heap.size + 1, 1, none⟩ = some (.slice At tr.length kt) := HR7.out.cell rfl
  have r2 : w7.cell? ⟨w.heap.size + 1, 2, none⟩ = some (.slice As sh.length ks) := HR7.out.cell rfl
  have r3 : w7.cell? ⟨w.heap.size + 1, 3, none⟩ = some (.slice Aw words.length kw) := HR7.out.cell rfl
  have q0 : w7.cell? ⟨gq, 0, none⟩ = some (.slice Dc calls.length dc) := HK7.out.cell rfl
  have q1 : w7.cell? ⟨gq, 1, none⟩ = some (.slice Dt tr.length dt) := HK7.out.cell rfl
  have q2 : w7.cell? ⟨gq, 2, none⟩ = some (.slice Ds sh.length ds) := HK7.out.cell rfl
  have q3 : w7.cell? ⟨gq, 3, none⟩ = some (.slice Dw words.length dw) := HK7.out.cell rfl
  clear hb7

  go_wp2_with fail
  refine (HRs.out _ HB7.out).mono ?_
  rintro e w8 ⟨A8, k8, rfl, ho8, hb8⟩
  clear l0 l1 r0 r1 r2 r3 q0 q1 q2 q3
  have HO8_8 := Lib.hid ho8
  clear ho8
  have HB8 := Lib.hid (HB7.out.trans (hb8.mono HB7.out.size))
  have HL8 := Lib.hid (HL7.out.below hb8 HL7.out.lt)
  have HR8 := Lib.hid (HR7.out.below hb8 HR7.out.lt)
  have HK8 := Lib.hid (HK7.out.below hb8 HK7.out.lt)
  have HO6_8 := Lib.hid (HO6_7.out.below hb8)
  have l0 : w8.cell? ⟨w.heap.size, 0, none⟩ = some (.int .i64 T) := HL8.out.cell rfl
  have l1 : w8.cell? ⟨w.heap.size, 1, none⟩ = some (.int .i64 k) := HL8.out.cell rfl
  have r0 : w8.cell? ⟨w.heap.size + 1, 0, none⟩ = some (.slice Ac calls.length kc) := HR8.out.cell rfl
  have r1 : w8.cell? ⟨w.heap.size + 1, 1, none⟩ = some (.slice At tr.length kt) := HR8.out.cell rfl
  have r2 : w8.cell? ⟨w.heap.size + 1, 2, none⟩ = some (.slice As sh.length ks) := HR8.out.cell rfl
  have r3 : w8.cell? ⟨w.heap.size + 1, 3, none⟩ = some (.slice Aw words.length kw) := HR8.out.cell rfl
  have q0 : w8.cell? ⟨gq, 0, none⟩ = some (.slice Dc calls.length dc) := HK8.out.cell rfl
  have q1 : w8.cell? ⟨gq, 1, none⟩ = some (.slice Dt tr.length dt) := HK8.out.cell rfl
  have q2 : w8.cell? ⟨gq, 2, none⟩ = some (.slice Ds sh.length ds) := HK8.out.cell rfl
  have q3 : w8.cell? ⟨gq, 3, none⟩ = some (.slice Dw words.length dw) := HK8.out.cell rfl
  clear hb8

  go_wp2_with fail
  refine (sty_same l A6 A8 k6 k8 _ (Sl.of_own HO6_8.out) (Sl.of_own HO8_8.out) (by omega)).mono ?_
  rintro e w9 ⟨rfl, hb9⟩
  clear l0 l1 r0 r1 r2 r3 q0 q1 q2 q3
  have HB9 := Lib.hid (HB8.out.trans (hb9.mono HB8.out.size))
  have HL9 := Lib.hid (HL8.out.below hb9 HL8.out.lt)
  have HR9 := Lib.hid (HR8.out.below hb9 HR8.out.lt)
  have HK9 := Lib.hid (HK8.out.below hb9 HK8.out.lt)
  have l0 : w9.cell? ⟨w.heap.size, 0, none⟩ = some (.int .i64 T) := HL9.out.cell rfl
  have l1 : w9.cell? ⟨w.heap.size, 1, none⟩ = some (.int .i64 k) := HL9.out.cell rfl
  have r0 : w9.cell? ⟨w.heap.size + 1, 0, none⟩ = some (.slice Ac calls.length kc) := HR9.out.cell rfl
  have r1 : w9.cell? ⟨w.heap.size + 1, 1, none⟩ = some (.slice At tr.length kt) := HR9.out.cell rfl
  have r2 : w9.cell? ⟨w.heap.size + 1, 2, none⟩ = some (.slice As sh.length ks) := HR9.out.cell rfl
  have r3 : w9.cell? ⟨w.heap.size + 1, 3, none⟩ = some (.slice Aw words.length kw) := HR9.out.cell rfl
  have q0 : w9.cell? ⟨gq, 0, none⟩ = some (.slice Dc calls.length dc) := HK9.out.cell rfl
  have q1 : w9.cell? ⟨gq, 1, none⟩ = some (.slice Dt tr.length dt) := HK9.out.cell rfl
  have q2 : w9.cell? ⟨gq, 2, none⟩ = some (.slice Ds sh.length ds) := HK9.out.cell rfl
  have q3 : w9.cell? ⟨gq, 3, none⟩ = some (.slice Dw words.length dw) := HK9.out.cell rfl
  clear hb9

  go_wp2_with fail
  refine (HRh.out _ HB9.out).mono ?_
  rintro e w10 ⟨rfl, hb10⟩
  clear l0 l1 r0 r1 r2 r3 q0 q1 q2 q3
  have HB10 := Lib.hid (HB9.out.trans (hb10.mono HB9.out.size))
  clear hb10
  cases bh
  all_goals (
    go_wp2_with fail
    go_ret
    exact ⟨rfl, HB10.out⟩)

theorem law_tells (T k : Int) (calls : List Cal) (tr : List Ac) (sh : List Sf) (words : List Int) (Ac At As Aw : Option Addr) (kc kt ks kw : Nat) (w : World) (hc : Sl w w.heap.size 9 Ac calls.length (calVals calls)) (ht : Sl w w.heap.size 7 At tr.length (acVals tr)) (hs : Sl w w.heap.size 5 As sh.length (sfVals sh)) (hw : Sl w w.heap.size 1 Aw words.length (u64s words))
    (hn : calls.length * 72 ≤ 140737488351232 ∧ tr.length * 56 ≤ 140737488351232 ∧ sh.length * 40 ≤ 140737488351232 ∧ words.length * 8 ≤ 140737488351232) (hkc : calls.length ≤ kc ∧ kc ≤ maxLen) (hwf : ∀ v ∈ words, 0 ≤ v ∧ v ≤ 18446744073709551615) :
    Calls Try.prog 4 #[.agg #[.int .i64 T, .int .i64 k], .agg #[.slice Ac calls.length kc, .slice At tr.length kt, .slice As sh.length ks, .slice Aw words.length kw]] w (BoolR true w) := by
  cases hk : rangeB T k 1 7
  · exact law_tells_no T k hk calls tr sh words Ac At As Aw kc kt ks kw w hc ht hs hw hn hkc hwf
  · exact law_tells_yes T k hk calls tr sh words Ac At As Aw kc kt ks kw w hc ht hs hw hn hkc hwf
end Go.Proofs.Ytjnmlgfkiebkgaa
