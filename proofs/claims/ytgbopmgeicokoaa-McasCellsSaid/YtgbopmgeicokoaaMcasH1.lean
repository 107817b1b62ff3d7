/-
  mcas.held: a cell whose word is a mark.
-/
import Derived.Test.YtgbopmgeicokoaaMcasH2
namespace Go.Proofs.Ytgbopmgeicokoaa
open Go.RowKit

/-- what a marked cell holds -/
def val1 (c : Mul) (t q r num : Nat) (cell : Int) : Option Int :=
  if c.threads ≤ (t : Int) ∨ q = 0 then none else if r / 4096 ≠ q ∨ c.threads * c.uses ≤ ((r / 4 % 1024 : Nat) : Int) then none else
    match (c.swaps.getD num [])[r % 4]? with
    | none => none
    | some e => if e.1 == cell then some e.2.1 else none

theorem u64_div {x : Nat} {k : Int} (h : Hid (x < 18446744073709551616)) (hk : 1 ≤ k) : IntKind.u64.wrap ((x : Int) / k) = (x : Int) / k := by
  have h := h.out
  have h1 : 0 ≤ (x : Int) / k := Int.ediv_nonneg (by omega) (by omega)
  have h2 : (x : Int) / k ≤ x := Int.ediv_le_self _ (by omega)
  show ((x : Int) / k) % 18446744073709551616 = _
  omega
theorem HeldR.no {r : Option Int} {w w' : World} (h : r = none) (hb : Below w.heap.size w w') (v : Int) : HeldR r w (.returned (.tuple #[.int .i64 v, .bool false])) w' :=
  ⟨v, by rw [h]; rfl, fun y hy => by (rw [h] at hy; cases hy), hb⟩
theorem HeldR.yes {r : Option Int} {w w' : World} {v : Int} (h : r = some v) (hb : Below w.heap.size w w') : HeldR r w (.returned (.tuple #[.int .i64 v, .bool true])) w' :=
  ⟨v, by rw [h]; rfl, fun y hy => by (rw [h] at hy; injection hy), hb⟩

theorem box_below (w : World) (o : Obj) {w1 : World} (h : Below (w.alloc o).heap.size (w.alloc o) w1) : Below w.heap.size w w1 :=
  ((Below.refl _ _).alloc (Nat.le_refl _) o).trans (h.mono (by simp))

set_option maxRecDepth 100000 in
set_option maxHeartbeats 1000000 in
theorem held_1 (c : Mul) (A : Option Addr) (n k : Nat) (S : Option Addr) (m l : Nat) (wb wo wn wk : Nat) (w : World) (h : MulAt w w.heap.size A n k S m l c) (hF : OkF c) (cell x r num : Nat)
    (hx : w.cell? ⟨wb, wo + cell, none⟩ = some (.int .u64 (x : Int))) (hcell : cell < n) (hx2 : x % 4 = 1) (hxl : Hid (x < 18446744073709551616)) (hrl : Hid (r < 18446744073709551616))
    (hwn : (wn : Int) = n + c.threads + 2 * c.threads * c.uses)
    (hr : ((x / 4 % 16 : Nat) : Int) < c.threads → w.cell? ⟨wb, wo + (n + x / 4 % 16), none⟩ = some (.int .u64 (r : Int)))
    (at_ : Nat) (hat : (at_ : Int) = n + c.threads + 2 * ((r / 4 % 1024 : Nat) : Int))
    (hnum : ((r / 4 % 1024 : Nat) : Int) < c.threads * c.uses → w.cell? ⟨wb, wo + (at_ + 1), none⟩ = some (.int .u64 (num : Int))) :
    Calls Try.prog 55 #[mulV c A n k S m l, .slice (some ⟨wb, wo, none⟩) wn wk, .int .i64 (cell : Int)] w (HeldR (val1 c (x / 4 % 16) (x / 64) r num cell) w) := by
  have hn := h.n_eq
  have hm := h.m_eq
  have hT1 := hF.t1
  have hT2 := hF.t2
  have hn2 := hF.n2
  have hm2 := hF.m2
  rw [← hn] at hn2
  rw [← hm] at hm2
  have hP := hF.tu
  have hP1 := hP.1
  have hP2 := hP.2
  have h' := h.below ((Below.refl _ _).alloc (Nat.le_refl _) (.cells #[.int .i64 c.threads, .slice A n k, .slice S m l, .int .i64 c.uses] 33))
  have r0 : ((x : Int) % 4 == 0) = false := by rw [beq_eq_false_iff_ne]; omega
  have r1 : ((x : Int) % 4 == 2) = false := by rw [beq_eq_false_iff_ne]; omega
  have r2 : ((x : Int) % 4 == 1) = true := by rw [beq_iff_eq]; omega
  have hwx := World.block_lt_of_cell? w _ hx
  have e5 : (cell : Int) < wn := by rw [hwn]; have := hF.tu2; omega
  have t0 : 0 ≤ (x : Int) / 4 % 16 := by omega
  have t1 : (x : Int) / 4 % 16 < 16 := by omega
  have w1 : IntKind.u64.wrap ((x : Int) / 4) = (x : Int) / 4 := u64_div hxl (by omega)
  have w2 : IntKind.u64.wrap ((x : Int) / 64) = (x : Int) / 64 := u64_div hxl (by omega)
  have w3 : ((x : Int) / 4).tmod 16 = (x : Int) / 4 % 16 := Int.tmod_eq_emod_of_nonneg (by omega)
  have w4 : IntKind.u64.wrap ((r : Int) / 4) = (r : Int) / 4 := u64_div hrl (by omega)
  have w5 : IntKind.u64.wrap ((r : Int) / 4096) = (r : Int) / 4096 := u64_div hrl (by omega)
  have w6 : ((r : Int) / 4).tmod 1024 = (r : Int) / 4 % 1024 := Int.tmod_eq_emod_of_nonneg (by omega)
  by_cases ht : c.threads ≤ (x : Int) / 4 % 16
  · have hv : val1 c (x / 4 % 16) (x / 64) r num cell = none := by unfold val1; rw [if_pos (Or.inl (by omega))]
    have Hv := Lib.hid hv
    clear hv h h' hn hm hwn hat hnum hr hP hF
    go_enter Try.func55, Try.ntmps55
    go_wp2_with fail
    go_ret2
    exact HeldR.no Hv.out ((Below.refl _ _).alloc (Nat.le_refl _) _) _
  by_cases hq : x / 64 = 0
  · have hq' : ((x : Int) / 64 == 0) = true := by rw [beq_iff_eq]; omega
    have hv : val1 c (x / 4 % 16) (x / 64) r num cell = none := by unfold val1; rw [if_pos (Or.inr hq)]
    have Hv := Lib.hid hv
    clear hv h h' hn hm hwn hat hnum hr hP hF hq
    go_enter Try.func55, Try.ntmps55
    go_wp2_with fail
    go_ret2
    exact HeldR.no Hv.out ((Below.refl _ _).alloc (Nat.le_refl _) _) _
  have hq' : ((x : Int) / 64 == 0) = false := by rw [beq_eq_false_iff_ne]; omega
  have hr' := hr (by omega)
  obtain ⟨ri, hri⟩ : ∃ ri, ri = n + x / 4 % 16 := ⟨_, rfl⟩
  rw [← hri] at hr'
  have hri1 : (n : Int) + (x : Int) / 4 % 16 = (ri : Int) := by omega
  have hri2 : (ri : Int) < wn := by rw [hwn]; have := hF.tu2; omega
  have Hri := Lib.hid hri1
  have ht' : (x : Int) / 4 % 16 < c.threads := by omega
  have t16 : (x : Int) / 4 % 16 < 65536 := by omega
  -- the record's word
  have rq0 : 0 ≤ (r : Int) / 4 % 1024 := by omega
  have rq1 : (r : Int) / 4 % 1024 < 1024 := by omega
  have rq2 : (r : Int) / 4 % 1024 < 65536 := by omega
  by_cases hrq : r / 4096 ≠ x / 64
  · have hrq' : ((r : Int) / 4096 != (x : Int) / 64) = true := by rw [bne_iff_ne]; omega
    have hv : val1 c (x / 4 % 16) (x / 64) r num cell = none := by unfold val1; rw [if_neg (by omega), if_pos (Or.inl hrq)]
    have Hv := Lib.hid hv
    clear hv h h' hn hm hwn hat hnum hr hP hF hq hrq hri hri1
    go_enter Try.func55, Try.ntmps55
    go_wp2_with fail
    refine (record_any c A n k S m l _ _ hn2 t0 t16).mono ?_
    rw [Hri.out]
    rintro e w1 ⟨rfl, hb⟩
    have s1 : w1.cell? ⟨wb, wo + ri, none⟩ = some (.int .u64 (r : Int)) := (hb.cell (by simp; omega)).trans ((World.cell?_alloc_lt _ _ _ hwx).trans hr')
    go_wp2_with fail
    go_ret2
    exact HeldR.no Hv.out (box_below _ _ hb) _
  have hrq' : ((r : Int) / 4096 != (x : Int) / 64) = false := by rw [bne_eq_false_iff_eq]; omega
  by_cases hd : c.threads * c.uses ≤ (r : Int) / 4 % 1024
  · have hv : val1 c (x / 4 % 16) (x / 64) r num cell = none := by unfold val1; rw [if_neg (by omega), if_pos (Or.inr (by omega))]
    have Hv := Lib.hid hv
    clear hv h h' hn hm hwn hat hnum hr hP hF hq hrq hri hri1
    go_enter Try.func55, Try.ntmps55
    go_wp2_with fail
    refine (record_any c A n k S m l _ _ hn2 t0 t16).mono ?_
    rw [Hri.out]
    rintro e w1 ⟨rfl, hb⟩
    have s1 : w1.cell? ⟨wb, wo + ri, none⟩ = some (.int .u64 (r : Int)) := (hb.cell (by simp; omega)).trans ((World.cell?_alloc_lt _ _ _ hwx).trans hr')
    go_wp2_with fail
    go_ret2
    exact HeldR.no Hv.out (box_below _ _ hb) _
  have hd' : (r : Int) / 4 % 1024 < c.threads * c.uses := by omega
  have hnum' := hnum (by omega)
  have hdB : decide (c.threads * c.uses ≤ (r : Int) / 4 % 1024) = false := by rw [decide_eq_false_iff_not]; omega
  have hat1 : (n : Int) + c.threads + 2 * ((r : Int) / 4 % 1024) = (at_ : Int) := by omega
  have Hat := Lib.hid hat1
  have hat2 : (at_ : Int) + 1 < wn := by rw [hwn, Int.mul_assoc]; omega
  have hat3 : at_ + 1 < wn := by omega
  have hat4 : (at_ : Int) < 65536 := by omega
  have hval : val1 c (x / 4 % 16) (x / 64) r num cell = match (c.swaps.getD num [])[r % 4]? with
    | none => none
    | some e => if e.1 == (cell : Int) then some e.2.1 else none := by unfold val1; rw [if_neg (by omega), if_neg (by omega)]
  have Hval := Lib.hid hval
  have Hm := Lib.hid hm
  have Hrq := Lib.hid hrq
  clear hn hm hwn hat hnum hr hP hF hq hri hri1 hrq hat1 hval
  go_enter Try.func55, Try.ntmps55
  go_wp2_with fail
  refine (record_any c A n k S m l _ _ hn2 t0 t16).mono ?_
  rw [Hri.out]
  rintro e w1 ⟨rfl, hb⟩
  have s1 : w1.cell? ⟨wb, wo + ri, none⟩ = some (.int .u64 (r : Int)) := (hb.cell (by simp; omega)).trans ((World.cell?_alloc_lt _ _ _ hwx).trans hr')
  have n1 : w1.cell? ⟨wb, wo + (at_ + 1), none⟩ = some (.int .u64 (num : Int)) := (hb.cell (by simp; omega)).trans ((World.cell?_alloc_lt _ _ _ hwx).trans hnum')
  have hz : w.heap.size < w1.heap.size := by have := hb.size; simp at this; omega
  have d0 : w1.cell? ⟨w.heap.size, 0, none⟩ = some (.int .i64 c.threads) := (hb.cell (by simp)).trans (by simp)
  have d1 : w1.cell? ⟨w.heap.size, 1, none⟩ = some (.slice A n k) := (hb.cell (by simp)).trans (by simp)
  have d2 : w1.cell? ⟨w.heap.size, 2, none⟩ = some (.slice S m l) := (hb.cell (by simp)).trans (by simp)
  have d3 : w1.cell? ⟨w.heap.size, 3, none⟩ = some (.int .i64 c.uses) := (hb.cell (by simp)).trans (by simp)
  have h1 := h'.below (hb.mono (by simp))
  clear h' h hx hr' hnum'
  go_wp2_with fail
  refine (status_any c A n k S m l _ _ hT1 hT2 hn2 rq0 rq2).mono ?_
  rw [Hat.out]
  rintro e w2 ⟨rfl, hb2⟩
  have n2 : w2.cell? ⟨wb, wo + (at_ + 1), none⟩ = some (.int .u64 (num : Int)) := (hb2.cell (by dsimp only; omega)).trans n1
  have z2 : w2.cell? ⟨w.heap.size, 2, none⟩ = some (.slice S m l) := (hb2.cell (by dsimp only; omega)).trans d2
  have hz2 : w1.heap.size ≤ w2.heap.size := hb2.size
  have h2 := (h1.below (hb2.mono (by omega)))
  have hbw : Below w.heap.size w w2 := (box_below _ _ hb).trans (hb2.mono (by omega))
  have HBW := Lib.hid hbw
  clear d0 d1 d2 d3 s1 n1 h1 hbw hb hb2
  by_cases hnm : num < m
  · obtain ⟨es, hes⟩ := at_lt (l := c.swaps) (j := num) (by rw [← Hm.out]; exact hnm)
    obtain ⟨bb, o, A', n', c', rfl, hbb, hc0, hsl, hn', hc1, hc2⟩ := h2.swap hes
    have hg : c.swaps.getD num [] = es := by rw [List.getD_eq_getElem?_getD, hes]; rfl
    unfold maxLen at hc2
    have hnm' : decide (m ≤ num) = false := by simp; omega
    by_cases hi : r % 4 < n'
    · obtain ⟨⟨e0, e1, e2⟩, hxe⟩ := at_lt (l := es) (j := r % 4) (by omega)
      obtain ⟨g0, g1, g2⟩ := entVals_get _ _ _ hxe
      obtain ⟨b1, o1, rfl, hb1, hc⟩ := hsl.2 (by omega)
      obtain ⟨i, hi_⟩ : ∃ i, i = r % 4 := ⟨_, rfl⟩
      rw [← hi_] at hi g0 g1 g2 hxe
      have hii : (r : Int) % 4 = (i : Int) := by omega
      have hiB : decide (n' ≤ i) = false := by simp; omega
      have hi3 : (i : Int) < (n' : Int) := by omega
      have c0 : w2.cell? ⟨b1, o1 + i * 3, none⟩ = some (.int .i64 e0) := hc _ _ g0
      have c1 : w2.cell? ⟨b1, o1 + i * 3 + 1, none⟩ = some (.int .i64 e1) := hc _ _ g1
      have c2 : w2.cell? ⟨b1, o1 + i * 3 + 2, none⟩ = some (.int .i64 e2) := hc _ _ g2
      by_cases hce : e0 = (cell : Int)
      · have hv : val1 c (x / 4 % 16) (x / 64) r num cell = some e1 := by rw [Hval.out, hg, ← hi_, hxe]; simp [hce]
        have hce' : (e0 == (cell : Int)) = true := by rw [beq_iff_eq]; exact hce
        have Hv := Lib.hid hv
        clear hv hc hsl hes hg hn' g0 g1 g2 hxe h2 hce hi_
        go_wp2_with fail
        go_quiet (fail)
        go_wp2_with fail
        go_ret2
        exact HeldR.yes Hv.out (((HBW.out).alloc (by omega) _).drewN _)
      · have hv : val1 c (x / 4 % 16) (x / 64) r num cell = none := by rw [Hval.out, hg, ← hi_, hxe]; simp [hce]
        have hce' : (e0 == (cell : Int)) = false := by rw [beq_eq_false_iff_ne]; exact hce
        have Hv := Lib.hid hv
        clear hv hc hsl hes hg hn' g0 g1 g2 hxe h2 hce hi_
        go_wp2_with fail
        go_quiet (fail)
        go_wp2_with fail
        go_ret2
        exact HeldR.no Hv.out (((HBW.out).alloc (by omega) _).drewN _) _
    · have hv : val1 c (x / 4 % 16) (x / 64) r num cell = none := by rw [Hval.out, hg, List.getElem?_eq_none (by omega)]
      have Hv := Lib.hid hv
      have hi' : (n' : Int) ≤ (r : Int) % 4 := by omega
      clear hv hsl hes hg hn' h2
      go_wp2_with fail
      go_ret2
      exact HeldR.no Hv.out HBW.out _
  · have hv : val1 c (x / 4 % 16) (x / 64) r num cell = none := by
      have hm3 := Hm.out
      rw [Hval.out, List.getD_eq_getElem?_getD, List.getElem?_eq_none (l := c.swaps) (by omega)]
      rfl
    have Hv := Lib.hid hv
    clear hv h2
    go_wp2_with fail
    go_ret2
    exact HeldR.no Hv.out HBW.out _
end Go.Proofs.Ytgbopmgeicokoaa
