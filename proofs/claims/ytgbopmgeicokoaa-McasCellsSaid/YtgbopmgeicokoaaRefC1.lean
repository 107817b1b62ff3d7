/-
  reclaimref25.cell: a cell whose word is a mark.
-/
import Derived.Test.YtgbopmgeicokoaaRefC2
namespace Go.Proofs.Ytgbopmgeicokoaa
open Go.RowKit

theorem ents_lt {n : Nat} {last : Int} {es : List Ent} (h : entsB n last es = true) : ∀ (i j : Nat) (x y : Ent), es[i]? = some x → es[j]? = some y → i < j → x.1 < y.1 := by
  induction es generalizing last with
  | nil => intro i j x y hx; simp at hx
  | cons a r ih =>
    intro i j x y hx hy hij
    have h0 := h
    simp only [entsB, Bool.and_eq_true, decide_eq_true_eq] at h0
    obtain ⟨_, _, _, _, h5⟩ := h0
    obtain ⟨j', rfl⟩ : ∃ j', j = j' + 1 := ⟨j - 1, by omega⟩
    have hy' : r[j']? = some y := by simpa using hy
    cases i with
    | zero =>
      have ha : a = x := by simpa using hx
      subst ha
      exact (entsB_mem h5 y (List.mem_of_getElem? hy')).1
    | succ i => exact ih h5 i j' x y (by simpa using hx) hy' (by omega)
theorem ents_uniq {n : Nat} {es : List Ent} (h : swapB n es = true) {i j : Nat} {x y : Ent} (hx : es[i]? = some x) (hy : es[j]? = some y) (hxy : x.1 = y.1) : i = j := by
  unfold swapB at h
  simp only [Bool.and_eq_true, decide_eq_true_eq] at h
  obtain ⟨_, _, h⟩ := h
  rcases Nat.lt_trichotomy i j with hl | hl | hl
  · have := ents_lt h i j x y hx hy hl; omega
  · exact hl
  · have := ents_lt h j i y x hy hx hl; omega

/-- the mark's value by the entry found -/
theorem val1_none {c : Mul} {t q r num : Nat} {cell : Int} (h : entFound c num cell = none) : val1 c t q r num cell = none := by
  unfold val1
  split
  · rfl
  split
  · rfl
  split
  · rfl
  · rename_i e he
    split
    · rename_i hc
      unfold entFound at h
      rw [List.find?_eq_none] at h
      exact absurd hc (h e (List.mem_of_getElem? he))
    · rfl
theorem val1_some {c : Mul} {t q r num i : Nat} {cell : Int} {x : Ent} (hF : OkF c) (h : entFound c num cell = some x) (hi : (c.swaps.getD num [])[i]? = some x) (h1 : ¬ (c.threads ≤ (t : Int) ∨ q = 0)) (h2 : ¬ (r / 4096 ≠ q ∨ c.threads * c.uses ≤ ((r / 4 % 1024 : Nat) : Int))) :
    val1 c t q r num cell = if i = r % 4 then some x.2.1 else none := by
  obtain ⟨es, hes, hg⟩ := entFound_some h
  have hsw := hF.sw es (List.mem_of_getElem? hes)
  have hxc : x.1 = cell := by
    unfold entFound at h
    simpa using List.find?_some h
  unfold val1
  rw [if_neg h1, if_neg h2]
  rw [hg] at hi ⊢
  by_cases hir : i = r % 4
  · rw [if_pos hir, ← hir, hi]
    simp [hxc]
  · rw [if_neg hir]
    cases he : es[r % 4]? with
    | none => rfl
    | some e =>
      show (if e.1 == cell then some e.2.1 else none) = none
      rw [if_neg]
      intro hc
      have hc : e.1 = cell := by simpa using hc
      exact hir (ents_uniq hsw hi he (hxc.trans hc.symm))

set_option maxRecDepth 100000 in
set_option maxHeartbeats 1000000 in
theorem rcell_1 (c : Mul) (A : Option Addr) (n k : Nat) (S : Option Addr) (m l : Nat) (wb wo wn wk : Nat) (w : World) (h : MulAt w w.heap.size A n k S m l c) (hF : OkF c) (cell x r num : Nat)
    (hx : w.cell? ⟨wb, wo + cell, none⟩ = some (.int .u64 (x : Int))) (hcell : cell < n) (hx2 : x % 4 = 1) (hxl : Hid (x < 18446744073709551616)) (hrl : Hid (r < 18446744073709551616))
    (hwn : (wn : Int) = n + c.threads + 2 * c.threads * c.uses)
    (hr : ((x / 4 % 16 : Nat) : Int) < c.threads → w.cell? ⟨wb, wo + (n + x / 4 % 16), none⟩ = some (.int .u64 (r : Int)))
    (at_ : Nat) (hat : (at_ : Int) = n + c.threads + 2 * ((r / 4 % 1024 : Nat) : Int))
    (hnum : ((r / 4 % 1024 : Nat) : Int) < c.threads * c.uses → w.cell? ⟨wb, wo + (at_ + 1), none⟩ = some (.int .u64 (num : Int))) :
    Calls Try.prog 57 #[mulV c A n k S m l, .slice (some ⟨wb, wo, none⟩) wn wk, .int .i64 (cell : Int)] w (HeldR (val1 c (x / 4 % 16) (x / 64) r num cell) w) := by
  have hn := h.n_eq
  have hm := h.m_eq
  have hT1 := hF.t1
  have hT2 := hF.t2
  have hn2 := hF.n2
  have hm2 := hF.m2
  have hTU2 := hF.tu2
  rw [← hn] at hn2
  rw [← hm] at hm2
  have hP := hF.tu
  have hP1 := hP.1
  have hP2 := hP.2
  have h' := h.below ((Below.refl _ _).alloc (Nat.le_refl _) (.cells #[.int .i64 c.threads, .slice A n k, .slice S m l, .int .i64 c.uses] 33))
  have r0 : ((x : Int) % 4 == 0) = false := by rw [beq_eq_false_iff_ne]; omega
  have r1 : ((x : Int) % 4 == 2) = false := by rw [beq_eq_false_iff_ne]; omega
  have r2 : ((x : Int) % 4 == 1) = true := by rw [beq_iff_eq]; omega
  have hwx : wb < w.heap.size := World.block_lt_of_cell? w _ hx
  have e5 : (cell : Int) < wn := by rw [hwn]; omega
  have e6 : cell < wn := by omega
  have t0 : 0 ≤ (x : Int) / 4 % 16 := by omega
  have t1 : (x : Int) / 4 % 16 < 16 := by omega
  have u1 : IntKind.u64.wrap ((x : Int) / 4) = (x : Int) / 4 := u64_div hxl (by omega)
  have u2 : IntKind.u64.wrap ((x : Int) / 4 / 16) = (x : Int) / 4 / 16 := by
    rw [show (x : Int) / 4 / 16 = (x : Int) / 64 by omega]; exact u64_div hxl (by omega)
  have u3 : ((x : Int) / 4).tmod 16 = (x : Int) / 4 % 16 := Int.tmod_eq_emod_of_nonneg (by omega)
  have u3' : ((x : Int) / 4).tdiv 16 = (x : Int) / 4 / 16 := Int.tdiv_eq_ediv_of_nonneg (by omega)
  have u4 : IntKind.u64.wrap ((r : Int) / 4096) = (r : Int) / 4096 := u64_div hrl (by omega)
  by_cases ht : c.threads ≤ (x : Int) / 4 % 16
  · have hv : val1 c (x / 4 % 16) (x / 64) r num cell = none := by unfold val1; rw [if_pos (Or.inl (by omega))]
    have hB : decide (c.threads ≤ (x : Int) / 4 % 16) = true := decide_eq_true ht
    have Hv := Lib.hid hv
    clear hv h h' hn hm hwn hat hnum hr hP hF hTU2
    go_enter Try.func57, Try.ntmps57
    go_wp2_with fail
    go_ret2
    exact HeldR.no Hv.out ((Below.refl _ _).alloc (Nat.le_refl _) _) _
  have hB : decide (c.threads ≤ (x : Int) / 4 % 16) = false := decide_eq_false ht
  by_cases hq : x / 64 = 0
  · have hq' : ((x : Int) / 4 / 16 == 0) = true := by rw [beq_iff_eq]; omega
    have hv : val1 c (x / 4 % 16) (x / 64) r num cell = none := by unfold val1; rw [if_pos (Or.inr hq)]
    have Hv := Lib.hid hv
    clear hv h h' hn hm hwn hat hnum hr hP hF hq hTU2
    go_enter Try.func57, Try.ntmps57
    go_wp2_with fail
    go_ret2
    exact HeldR.no Hv.out ((Below.refl _ _).alloc (Nat.le_refl _) _) _
  have hq' : ((x : Int) / 4 / 16 == 0) = false := by rw [beq_eq_false_iff_ne]; omega
  have hr' := hr (by omega)
  obtain ⟨ri, hri⟩ : ∃ ri, ri = n + x / 4 % 16 := ⟨_, rfl⟩
  rw [← hri] at hr'
  have hri1 : (n : Int) + (x : Int) / 4 % 16 = (ri : Int) := by omega
  have hri2 : (ri : Int) < wn := by rw [hwn]; omega
  have hri3 : ri < wn := by omega
  have hri4 : (0 : Int) ≤ (ri : Int) := Int.natCast_nonneg _
  have Hri := Lib.hid hri1
  have t16 : (x : Int) / 4 % 16 < 65536 := by omega
  have rd0 : 0 ≤ (r : Int) % 4096 / 4 := by omega
  have rd1 : (r : Int) % 4096 / 4 < 1024 := by omega
  have rd2 : (r : Int) % 4096 / 4 < 65536 := by omega
  have hc1 : ¬ (c.threads ≤ ((x / 4 % 16 : Nat) : Int) ∨ x / 64 = 0) := by omega
  by_cases hrq : r / 4096 ≠ x / 64
  · have hrq' : ((r : Int) / 4096 != (x : Int) / 4 / 16) = true := by rw [bne_iff_ne]; omega
    have hv : val1 c (x / 4 % 16) (x / 64) r num cell = none := by unfold val1; rw [if_neg hc1, if_pos (Or.inl hrq)]
    have Hv := Lib.hid hv
    clear hv h h' hn hm hwn hat hnum hr hP hF hq hrq hri hri1 hTU2 hc1
    go_enter Try.func57, Try.ntmps57
    go_wp2_with fail
    refine (rrecord_any c A n k S m l _ _ hn2 t0 t16).mono ?_
    rw [Hri.out]
    rintro e w1 ⟨rfl, hb⟩
    have s1 : w1.cell? ⟨wb, wo + ri, none⟩ = some (.int .u64 (r : Int)) := (hb.cell (by simp; omega)).trans ((World.cell?_alloc_lt _ _ _ hwx).trans hr')
    go_wp2_with fail
    go_ret2
    exact HeldR.no Hv.out (box_below _ _ hb) _
  have hrq' : ((r : Int) / 4096 != (x : Int) / 4 / 16) = false := by rw [bne_eq_false_iff_eq]; omega
  by_cases hd : c.threads * c.uses ≤ (r : Int) % 4096 / 4
  · have hdB : decide (c.threads * c.uses ≤ (r : Int) % 4096 / 4) = true := decide_eq_true hd
    have hv : val1 c (x / 4 % 16) (x / 64) r num cell = none := by unfold val1; rw [if_neg hc1, if_pos (Or.inr (by omega))]
    have Hv := Lib.hid hv
    clear hv h h' hn hm hwn hat hnum hr hP hF hq hrq hri hri1 hTU2 hc1
    go_enter Try.func57, Try.ntmps57
    go_wp2_with fail
    refine (rrecord_any c A n k S m l _ _ hn2 t0 t16).mono ?_
    rw [Hri.out]
    rintro e w1 ⟨rfl, hb⟩
    have s1 : w1.cell? ⟨wb, wo + ri, none⟩ = some (.int .u64 (r : Int)) := (hb.cell (by simp; omega)).trans ((World.cell?_alloc_lt _ _ _ hwx).trans hr')
    go_wp2_with fail
    go_ret2
    exact HeldR.no Hv.out (box_below _ _ hb) _
  have hdB : decide (c.threads * c.uses ≤ (r : Int) % 4096 / 4) = false := decide_eq_false hd
  have hc2 : ¬ (r / 4096 ≠ x / 64 ∨ c.threads * c.uses ≤ ((r / 4 % 1024 : Nat) : Int)) := by omega
  have hnum' := hnum (by omega)
  have hatx : (n : Int) + c.threads + 2 * ((r : Int) % 4096 / 4) = (at_ : Int) := by omega
  have hat2 : (at_ : Int) + 1 < wn := by rw [hwn, Int.mul_assoc]; omega
  have hat3 : at_ + 1 < wn := by omega
  have hat4 : (at_ : Int) < 65536 := by omega
  have q1 : IntKind.i64.wrap ((at_ : Int) + 1) = (at_ : Int) + 1 := IntWalk.i64_in _ (by omega)
  have q2 : (0 : Int) ≤ (at_ : Int) + 1 := by omega
  have q3 : ((at_ : Int) + 1).toNat = at_ + 1 := by omega
  have Hatx := Lib.hid hatx
  have HE : Hid (∀ W, Below (w.alloc (.cells #[.int .i64 c.threads, .slice A n k, .slice S m l, .int .i64 c.uses] 33)).heap.size (w.alloc (.cells #[.int .i64 c.threads, .slice A n k, .slice S m l, .int .i64 c.uses] 33)) W → Calls Try.prog 109 #[mulV c A n k S m l, .slice (some ⟨wb, wo, none⟩) wn wk, .int .i64 ((r : Int) % 4096 / 4), .int .i64 (cell : Int)] W (EntryR c num cell W)) := by
    intro W hW
    have hz := hW.size
    simp at hz
    exact entry_any c A n k S m l wb wo wn wk W ((h'.below (hW.mono (by simp))).up (by omega)) hF _ rd0 (by omega) cell num hwn at_ hatx.symm ((hW.cell (by simp; omega)).trans ((World.cell?_alloc_lt _ _ _ hwx).trans hnum'))
  have Hm := Lib.hid hm
  have HM := Lib.hid h'
  have HFF := Lib.hid hF
  have HC1 := Lib.hid hc1
  have HC2 := Lib.hid hc2
  have hnw : (w.alloc (.cells #[.int .i64 c.threads, .slice A n k, .slice S m l, .int .i64 c.uses] 33)).cell? ⟨wb, wo + (at_ + 1), none⟩ = some (.int .u64 (num : Int)) := (World.cell?_alloc_lt _ _ _ hwx).trans hnum'
  have HNW := Lib.hid hnw
  clear hn hm hwn hat hatx hF hP hTU2 h h' hnum hnum' hnw hd hc1 hc2 hq hrq hri hri1 hr
  go_enter Try.func57, Try.ntmps57
  go_wp2_with fail
  refine (rrecord_any c A n k S m l _ _ hn2 t0 t16).mono ?_
  rw [Hri.out]
  rintro e w1 ⟨rfl, hb⟩
  have s1 : w1.cell? ⟨wb, wo + ri, none⟩ = some (.int .u64 (r : Int)) := (hb.cell (by simp; omega)).trans ((World.cell?_alloc_lt _ _ _ hwx).trans hr')
  have hz : w.heap.size < w1.heap.size := by have := hb.size; simp at this; omega
  have d0 : w1.cell? ⟨w.heap.size, 0, none⟩ = some (.int .i64 c.threads) := (hb.cell (by simp)).trans (by simp)
  have d1 : w1.cell? ⟨w.heap.size, 1, none⟩ = some (.slice A n k) := (hb.cell (by simp)).trans (by simp)
  have d2 : w1.cell? ⟨w.heap.size, 2, none⟩ = some (.slice S m l) := (hb.cell (by simp)).trans (by simp)
  have d3 : w1.cell? ⟨w.heap.size, 3, none⟩ = some (.int .i64 c.uses) := (hb.cell (by simp)).trans (by simp)
  have HB := Lib.hid hb
  clear hb hx hr'
  go_wp2_with fail
  refine (HE.out _ HB.out).mono ?_
  rintro e w2 ⟨i, rfl, hb2, hi⟩
  have hz2 : w1.heap.size ≤ w2.heap.size := hb2.size
  have hbb : Below (w.alloc (.cells #[.int .i64 c.threads, .slice A n k, .slice S m l, .int .i64 c.uses] 33)).heap.size (w.alloc (.cells #[.int .i64 c.threads, .slice A n k, .slice S m l, .int .i64 c.uses] 33)) w2 := HB.out.trans (hb2.mono HB.out.size)
  have n2 : w2.cell? ⟨wb, wo + (at_ + 1), none⟩ = some (.int .u64 (num : Int)) := (hbb.cell (by simp; omega)).trans HNW.out
  have z0 : w2.cell? ⟨w.heap.size, 0, none⟩ = some (.int .i64 c.threads) := (hb2.cell hz).trans d0
  have z1 : w2.cell? ⟨w.heap.size, 1, none⟩ = some (.slice A n k) := (hb2.cell hz).trans d1
  have z2 : w2.cell? ⟨w.heap.size, 2, none⟩ = some (.slice S m l) := (hb2.cell hz).trans d2
  have z3 : w2.cell? ⟨w.heap.size, 3, none⟩ = some (.int .i64 c.uses) := (hb2.cell hz).trans d3
  have hM2 := HM.out.below (hbb.mono (by simp))
  have HM2 := Lib.hid hM2
  have HBW := Lib.hid (box_below _ _ hbb)
  have hwb2 : wb < w2.heap.size := by omega
  have hw2 : w.heap.size < w2.heap.size := by omega
  have Hi := Lib.hid hi
  clear d0 d1 d2 d3 hb2 HB HM HNW hM2 hbb HE s1 hi
  go_upto_region 28 with fail
  cases hfe : entFound c num cell with
  | none =>
    have Hv := Lib.hid (val1_none (t := x / 4 % 16) (q := x / 64) (r := r) hfe)
    clear hfe
    go_wp2_with fail
    go_ret2
    exact HeldR.no Hv.out HBW.out _
  | some ex =>
    obtain ⟨e0, e1, e2⟩ := ex
    obtain ⟨es, hes, hg⟩ := entFound_some hfe
    have hie := Hi.out _ hfe
    have hv := val1_some HFF.out hfe hie HC1.out HC2.out
    rw [hg] at hie
    have hnm : num < m := by rw [Hm.out]; exact (List.getElem?_eq_some_iff.1 hes).1
    obtain ⟨bb, o, A', n', c', rfl, hbb, hc0, hsl, hn', hc1, hc2⟩ := HM2.out.swap hes
    have hin : i < n' := by rw [hn']; exact (List.getElem?_eq_some_iff.1 hie).1
    obtain ⟨b1, o1, rfl, hb1, hc⟩ := hsl.2 (by omega)
    obtain ⟨-, g1, -⟩ := entVals_get _ _ _ hie
    have c1 : w2.cell? ⟨b1, o1 + i * 3 + 1, none⟩ = some (.int .i64 e1) := hc _ _ g1
    unfold maxLen at hc2
    by_cases hir : i = r % 4
    case neg =>
      have hB2 : ((i : Int) != (r : Int) % 4) = true := by rw [bne_iff_ne]; omega
      rw [if_neg hir] at hv
      have Hv := Lib.hid hv
      clear hv hir hfe hes hg hie hsl hn' hc g1 Hi HM2
      go_wp2_with fail
      go_ret2
      exact HeldR.no Hv.out HBW.out _
    have hB2 : ((i : Int) != (r : Int) % 4) = false := by rw [bne_eq_false_iff_eq]; omega
    rw [if_pos hir] at hv
    have Hv := Lib.hid hv
    have HS : Hid (∀ W, Below w2.heap.size w2 W → Below w2.heap.size w2 W ∧ W.cell? ⟨w.heap.size, 0, none⟩ = some (.int .i64 c.threads) ∧ W.cell? ⟨w.heap.size, 1, none⟩ = some (.slice A n k) ∧ W.cell? ⟨w.heap.size, 2, none⟩ = some (.slice (some ⟨bb, o, none⟩) m l) ∧ W.cell? ⟨w.heap.size, 3, none⟩ = some (.int .i64 c.uses) ∧ W.cell? ⟨wb, wo + (at_ + 1), none⟩ = some (.int .u64 (num : Int)) ∧ W.cell? ⟨bb, o + num, none⟩ = some (.slice (some ⟨b1, o1, none⟩) n' c') ∧ W.cell? ⟨b1, o1 + i * 3 + 1, none⟩ = some (.int .i64 e1)) :=
      fun W hB => ⟨hB, (hB.cell (by dsimp only; omega)).trans z0, (hB.cell (by dsimp only; omega)).trans z1, (hB.cell (by dsimp only; omega)).trans z2, (hB.cell (by dsimp only; omega)).trans z3, (hB.cell (by dsimp only; omega)).trans n2, (hB.cell (by dsimp only; omega)).trans hc0, (hB.cell (by dsimp only; omega)).trans c1⟩
    have p1 : (0 : Int) ≤ (num : Int) := Int.natCast_nonneg _
    have p2 : (num : Int) < (m : Int) := by omega
    have p3 : IntKind.i64.wrap (num : Int) = (num : Int) := IntWalk.i64_in _ (by omega)
    have p4 : (0 : Int) ≤ (i : Int) := Int.natCast_nonneg _
    have p5 : (i : Int) < (n' : Int) := by omega
    clear hv hir hfe hes hg hie hsl hn' hc g1 Hi HM2
    go_upto_region 30 with fail
    go_region_held3 (fun W => Below w2.heap.size w2 W ∧ W.cell? ⟨w.heap.size, 0, none⟩ = some (.int .i64 c.threads) ∧ W.cell? ⟨w.heap.size, 1, none⟩ = some (.slice A n k) ∧ W.cell? ⟨w.heap.size, 2, none⟩ = some (.slice (some ⟨bb, o, none⟩) m l) ∧ W.cell? ⟨w.heap.size, 3, none⟩ = some (.int .i64 c.uses) ∧ W.cell? ⟨wb, wo + (at_ + 1), none⟩ = some (.int .u64 (num : Int)) ∧ W.cell? ⟨bb, o + num, none⟩ = some (.slice (some ⟨b1, o1, none⟩) n' c') ∧ W.cell? ⟨b1, o1 + i * 3 + 1, none⟩ = some (.int .i64 e1))
      ((refine HS.out _ ?_; go_split_ands; first | assumption | exact (Below.refl _ _).drew | exact Below.trans ‹Below w2.heap.size w2 _› (hb3.mono (‹Below w2.heap.size w2 _›).size)))
      ((go_at_call 110; refine (rstatus_any c A n k (some ⟨bb, o, none⟩) m l _ _ hT1 hT2 hn2 rd0 rd2).mono ?_; rw [Hatx.out]; rintro e w3 ⟨rfl, hb3⟩))
    go_split_ands
    have hbf : Below w2.heap.size w2 _ := ‹Below w2.heap.size w2 _›
    go_wp2_with fail
    go_ret2
    exact HeldR.yes Hv.out (HBW.out.trans (hbf.mono (by omega)))
end Go.Proofs.Ytgbopmgeicokoaa
