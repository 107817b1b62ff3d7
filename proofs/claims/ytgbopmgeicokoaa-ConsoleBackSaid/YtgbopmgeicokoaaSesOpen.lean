/-
  The arguments api.Session and slices of bytes, opened to cells.
-/
import Derived.Test.YtgbopmgeicokoaaRunOpen
import Derived.Test.YtgbopmgeicokoaaImg
namespace Go.Proofs.Ytgbopmgeicokoaa
open Go.Joins Go.ChangeShapes Go.WideShapes Go.RowKit Go.Deep

section
variable {H : Type} {enc : TypeId × Value → H} {w : World} {base : Nat} {spare : Nat → Bool} {held : Bool}
theorem two_ints {t : TypeId} {f0 f1 : Field} {fuel : Nat} {a b : Value} {y : DataW H × List MemPlace} (hs : Try.prog.underlying t = some (.struct #[f0, f1])) (o0 : f0.offset = 0) (o1 : f1.offset = 1) (k0 : Try.prog.cellsOf f0.type = 1) (k1 : Try.prog.cellsOf f1.type = 1)
    (u0 : Try.prog.underlying f0.type = some (.int .i64)) (u1 : Try.prog.underlying f1.type = some (.int .i64)) (h : DataW.trod enc Try.prog w base spare held fuel t [a, b] = some y) : ∃ z0 z1, a = .int .i64 z0 ∧ b = .int .i64 z1 := by
  obtain ⟨xs, n, _, _, _, hlen, hg⟩ := DataW.trod_struct hs h
  match xs, hlen with
  | [y0, y1], _ =>
    have g0 := hg 0 f0 rfl
    have g1 := hg 1 f1 rfl
    rw [o0, k0] at g0
    rw [o1, k1] at g1
    obtain ⟨z0, e0, _⟩ := DataW.trod_int u0 g0
    obtain ⟨z1, e1, _⟩ := DataW.trod_int u1 g1
    exact ⟨z0, z1, by simpa using e0, by simpa using e1⟩
instance : Inhabited Mv := ⟨⟨0, 0, 0, 0⟩⟩
theorem wf_i64' {z : Int} (h : (Lit.int .i64 z).wf = true) : -9223372036854775808 ≤ z ∧ z ≤ 9223372036854775807 := by
  have h2 := wf_int h
  rw [show IntKind.i64.min = -9223372036854775808 from by decide, show IntKind.i64.max = 9223372036854775807 from by decide] at h2
  exact h2
/-- a slice of moves -/
theorem open_moves {fuel : Nat} {v : Value} {x : DataW H × List MemPlace} (h : DataW.trod enc Try.prog w base (fun _ => true) held fuel 74 [v] = some x) :
    ∃ (A : Option Addr) (n c : Nat) (ms : List Mv), v = .slice A n c ∧ MvsAt w w.heap.size A n c ms ∧ (∀ a ∈ ms, MvOk a) ∧ (Light Try.prog 74 x.1 → n * 32 ≤ reachBytes) := by
  rcases open_slice_fields Try.underlying74 Try.underlying95 (by kernel_rfl) (by kernel_rfl) h with ⟨hcs, hx⟩ | ⟨a, len, cap, m, D, Pl, hcs, hb, hl, hm, hmm, hx, hi⟩
  · have hv : v = .slice none 0 0 := by simpa using hcs
    exact ⟨none, 0, 0, [], hv, ⟨Sl.nil, Nat.le_refl _, Nat.zero_le _⟩, by simp, fun _ => by simp⟩
  · have hv : v = .slice (some a) len cap := by simpa using hcs
    simp only [if_true] at hmm
    have hmm' := hmm.symm
    subst hmm'
    have each : ∀ i, i < cap → ∃ y : Mv, MvOk y ∧ ∀ j, j < 4 → w.cell? (a.add (i * 4 + j)) = (mvL y)[j]? := by
      intro i hic
      obtain ⟨ys, n, _, _, _, hf⟩ := hi i hic
      obtain ⟨v0, y0, c0, _, t0⟩ := hf 0 _ rfl
      obtain ⟨v1, y1, c1, _, t1⟩ := hf 1 _ rfl
      obtain ⟨v2, y2, c2, _, t2⟩ := hf 2 _ rfl
      obtain ⟨v3, y3, c3, _, t3⟩ := hf 3 _ rfl
      obtain ⟨z0, e0, _, w0⟩ := DataW.trod_int Try.underlying3 t0
      obtain ⟨z1, e1, _, w1⟩ := DataW.trod_int Try.underlying22 t1
      obtain ⟨z2, e2, _, w2⟩ := DataW.trod_int Try.underlying3 t2
      obtain ⟨z3, e3, _, w3⟩ := DataW.trod_int Try.underlying3 t3
      have e0 : v0 = .int .i64 z0 := by simpa using e0
      have e1 : v1 = .int .i64 z1 := by simpa using e1
      have e2 : v2 = .int .i64 z2 := by simpa using e2
      have e3 : v3 = .int .i64 z3 := by simpa using e3
      subst e0; subst e1; subst e2; subst e3
      refine ⟨⟨z0, z1, z2, z3⟩, ?_, fun j hj => ?_⟩
      · intro z hz
        simp at hz
        rcases hz with rfl | rfl | rfl | rfl
        · exact wf_i64' w0
        · exact wf_i64' w1
        · exact wf_i64' w2
        · exact wf_i64' w3
      · match j, hj with
        | 0, _ => exact c0
        | 1, _ => exact c1
        | 2, _ => exact c2
        | 3, _ => exact c3
    obtain ⟨y, hy⟩ := choose_lt each
    refine ⟨some a, len, cap, (List.range len).map y, hv, ⟨?_, hl, hm⟩, ?_, ?_⟩
    · refine sl_of (by rw [mvVals_len]; simp) (by omega) (fun j hj => ?_)
      have hk : j / 4 < len := by omega
      have hd : j = j / 4 * 4 + j % 4 := by omega
      rw [hd, mvVals_get _ (j / 4) (y (j / 4)) (by simp [hk]) (j % 4) (by omega)]
      exact (hy (j / 4) (by omega)).2 (j % 4) (by omega)
    · intro q hq
      obtain ⟨i, hir, rfl⟩ := List.mem_map.1 hq
      have hlt : i < len := List.mem_range.1 hir
      exact (hy i (by omega)).1
    · intro hL
      rw [hx] at hL
      have h9 := hL.slice Try.underlying74
      rw [show Try.prog.bytesOf 95 = 32 from by kernel_rfl] at h9
      refine Nat.le_trans (Nat.mul_le_mul_right _ ?_) h9
      simp
set_option maxRecDepth 100000 in
/-- the argument api.Session -/
theorem open_ses {r : Reach} {b0 : Nat} {v : Value} {d : DataW H} {p : List MemPlace} (hv : Value.okWide Try.prog w r b0 76 v) (h : DataW.Trod enc Try.prog w base (fun _ => true) held 76 v d p) :
    ∃ (s : Ses) (A : Option Addr) (n k : Nat) (ms : List Mv), v = sesV s (.slice A n k) ∧ MvsAt w w.heap.size A n k ms ∧ (∀ x ∈ ms, MvOk x) ∧ (Light Try.prog 76 d → n * 32 ≤ reachBytes) := by
  obtain ⟨cs, rfl, hsz⟩ := okWide_struct Try.underlying76 hv
  obtain ⟨l⟩ := cs
  have hC : Try.prog.cellsOf 76 = 17 := by kernel_rfl
  match l, hsz.trans hC with
  | [c0, c1, c2, c3, c4, c5, c6, c7, c8, c9, c10, c11, c12, c13, c14, c15, c16], _ =>
    obtain ⟨fuel, hf⟩ := h
    obtain ⟨xs, n, _, hx, _, hlen, hg⟩ := DataW.trod_struct Try.underlying76 hf
    injection hx with hx _
    subst hx
    match xs, hlen with
    | [y0, y1, y2, y3, y4, y5, y6], _ =>
      have g0 : DataW.trod enc Try.prog w base (fun _ => true) held n 25 [c0] = some y0 := by
        have h9 := hg 0 _ rfl
        have h8 : Try.prog.cellsOf 25 = 1 := by kernel_rfl
        simp only [List.getElem_toArray, List.getElem_cons_zero, h8] at h9
        exact h9
      have g1 : DataW.trod enc Try.prog w base (fun _ => true) held n 45 [c1, c2, c3, c4, c5, c6, c7] = some y1 := by
        have h9 := hg 1 _ rfl
        have h8 : Try.prog.cellsOf 45 = 7 := by kernel_rfl
        simp only [List.getElem_toArray, List.getElem_cons_zero, List.getElem_cons_succ, h8] at h9
        exact h9
      have g2 : DataW.trod enc Try.prog w base (fun _ => true) held n 66 [c8, c9] = some y2 := by
        have h9 := hg 2 _ rfl
        have h8 : Try.prog.cellsOf 66 = 2 := by kernel_rfl
        simp only [List.getElem_toArray, List.getElem_cons_zero, List.getElem_cons_succ, h8] at h9
        exact h9
      have g3 : DataW.trod enc Try.prog w base (fun _ => true) held n 68 [c10, c11] = some y3 := by
        have h9 := hg 3 _ rfl
        have h8 : Try.prog.cellsOf 68 = 2 := by kernel_rfl
        simp only [List.getElem_toArray, List.getElem_cons_zero, List.getElem_cons_succ, h8] at h9
        exact h9
      have g4 : DataW.trod enc Try.prog w base (fun _ => true) held n 71 [c12, c13] = some y4 := by
        have h9 := hg 4 _ rfl
        have h8 : Try.prog.cellsOf 71 = 2 := by kernel_rfl
        simp only [List.getElem_toArray, List.getElem_cons_zero, List.getElem_cons_succ, h8] at h9
        exact h9
      have g5 : DataW.trod enc Try.prog w base (fun _ => true) held n 73 [c14, c15] = some y5 := by
        have h9 := hg 5 _ rfl
        have h8 : Try.prog.cellsOf 73 = 2 := by kernel_rfl
        simp only [List.getElem_toArray, List.getElem_cons_zero, List.getElem_cons_succ, h8] at h9
        exact h9
      have g6 : DataW.trod enc Try.prog w base (fun _ => true) held n 74 [c16] = some y6 := by
        have h9 := hg 6 _ rfl
        have h8 : Try.prog.cellsOf 74 = 1 := by kernel_rfl
        simp only [List.getElem_toArray, List.getElem_cons_zero, List.getElem_cons_succ, h8] at h9
        exact h9
      obtain ⟨z0, e0, _⟩ := DataW.trod_int Try.underlying25 g0
      have e0 : c0 = .int .i64 z0 := by simpa using e0
      obtain ⟨xs1, n1, _, _, _, hlen1, hg1⟩ := DataW.trod_struct Try.underlying45 g1
      match xs1, hlen1 with
      | [u0, u1, u2, u3, u4, u5, u6], _ =>
        have k0 : DataW.trod enc Try.prog w base (fun _ => true) held n1 3 [c1] = some u0 := by
          have h9 := hg1 0 _ rfl
          have h8 : Try.prog.cellsOf 3 = 1 := by kernel_rfl
          simp only [List.getElem_toArray, List.getElem_cons_zero, h8] at h9
          exact h9
        obtain ⟨z1, e1, _⟩ := DataW.trod_int Try.underlying3 k0
        have e1 : c1 = .int .i64 z1 := by simpa using e1
        have k1 : DataW.trod enc Try.prog w base (fun _ => true) held n1 3 [c2] = some u1 := by
          have h9 := hg1 1 _ rfl
          have h8 : Try.prog.cellsOf 3 = 1 := by kernel_rfl
          simp only [List.getElem_toArray, List.getElem_cons_zero, List.getElem_cons_succ, h8] at h9
          exact h9
        obtain ⟨z2, e2, _⟩ := DataW.trod_int Try.underlying3 k1
        have e2 : c2 = .int .i64 z2 := by simpa using e2
        have k2 : DataW.trod enc Try.prog w base (fun _ => true) held n1 3 [c3] = some u2 := by
          have h9 := hg1 2 _ rfl
          have h8 : Try.prog.cellsOf 3 = 1 := by kernel_rfl
          simp only [List.getElem_toArray, List.getElem_cons_zero, List.getElem_cons_succ, h8] at h9
          exact h9
        obtain ⟨z3, e3, _⟩ := DataW.trod_int Try.underlying3 k2
        have e3 : c3 = .int .i64 z3 := by simpa using e3
        have k3 : DataW.trod enc Try.prog w base (fun _ => true) held n1 3 [c4] = some u3 := by
          have h9 := hg1 3 _ rfl
          have h8 : Try.prog.cellsOf 3 = 1 := by kernel_rfl
          simp only [List.getElem_toArray, List.getElem_cons_zero, List.getElem_cons_succ, h8] at h9
          exact h9
        obtain ⟨z4, e4, _⟩ := DataW.trod_int Try.underlying3 k3
        have e4 : c4 = .int .i64 z4 := by simpa using e4
        have k4 : DataW.trod enc Try.prog w base (fun _ => true) held n1 3 [c5] = some u4 := by
          have h9 := hg1 4 _ rfl
          have h8 : Try.prog.cellsOf 3 = 1 := by kernel_rfl
          simp only [List.getElem_toArray, List.getElem_cons_zero, List.getElem_cons_succ, h8] at h9
          exact h9
        obtain ⟨z5, e5, _⟩ := DataW.trod_int Try.underlying3 k4
        have e5 : c5 = .int .i64 z5 := by simpa using e5
        have k5 : DataW.trod enc Try.prog w base (fun _ => true) held n1 3 [c6] = some u5 := by
          have h9 := hg1 5 _ rfl
          have h8 : Try.prog.cellsOf 3 = 1 := by kernel_rfl
          simp only [List.getElem_toArray, List.getElem_cons_zero, List.getElem_cons_succ, h8] at h9
          exact h9
        obtain ⟨z6, e6, _⟩ := DataW.trod_int Try.underlying3 k5
        have e6 : c6 = .int .i64 z6 := by simpa using e6
        have k6 : DataW.trod enc Try.prog w base (fun _ => true) held n1 3 [c7] = some u6 := by
          have h9 := hg1 6 _ rfl
          have h8 : Try.prog.cellsOf 3 = 1 := by kernel_rfl
          simp only [List.getElem_toArray, List.getElem_cons_zero, List.getElem_cons_succ, h8] at h9
          exact h9
        obtain ⟨z7, e7, _⟩ := DataW.trod_int Try.underlying3 k6
        have e7 : c7 = .int .i64 z7 := by simpa using e7
        obtain ⟨z8, z9, e8, e9⟩ := two_ints Try.underlying66 rfl rfl (by kernel_rfl) (by kernel_rfl) Try.underlying3 Try.underlying3 g2
        obtain ⟨z10, z11, e10, e11⟩ := two_ints Try.underlying68 rfl rfl (by kernel_rfl) (by kernel_rfl) Try.underlying3 Try.underlying3 g3
        obtain ⟨z12, z13, e12, e13⟩ := two_ints Try.underlying71 rfl rfl (by kernel_rfl) (by kernel_rfl) Try.underlying3 Try.underlying69 g4
        obtain ⟨z14, z15, e14, e15⟩ := two_ints Try.underlying73 rfl rfl (by kernel_rfl) (by kernel_rfl) Try.underlying3 Try.underlying3 g5
        obtain ⟨A, m, k, ms, e16, hM, hO, hL⟩ := open_moves g6
        refine ⟨⟨z0, ⟨z1, z2, z3, z4, z5, z6, z7⟩, z8, z9, z10, z11, z12, z13, z14, z15⟩, A, m, k, ms, ?_, hM, hO, fun hl => hL (hl.field Try.underlying76 (j := 6) rfl rfl)⟩
        rw [e0, e1, e2, e3, e4, e5, e6, e7, e8, e9, e10, e11, e12, e13, e14, e15, e16]
/-- a slice of bytes -/
theorem bytes_of {zs : List Int} (h : ∀ z ∈ zs, (Lit.int .u8 z).wf = true) : ∃ ws : List Nat, zs.map (Value.int .u8) = u8s ws ∧ ∀ x ∈ ws, x < 256 := by
  have hw : ∀ z ∈ zs, 0 ≤ z ∧ z < 256 := fun z hz => by
    have h2 := wf_int (h z hz)
    rw [show IntKind.u8.min = 0 from by decide, show IntKind.u8.max = 255 from by decide] at h2
    omega
  refine ⟨zs.map Int.toNat, ?_, fun x hx => ?_⟩
  · unfold u8s
    rw [List.map_map]
    refine List.map_congr_left fun z hz => ?_
    simp [Int.toNat_of_nonneg (hw z hz).1]
  · obtain ⟨z, hz, rfl⟩ := List.mem_map.1 hx
    have h0 := hw z hz
    omega
end
end Go.Proofs.Ytgbopmgeicokoaa
