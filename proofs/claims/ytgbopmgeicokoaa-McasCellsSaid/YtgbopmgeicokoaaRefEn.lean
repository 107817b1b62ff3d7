/-
  reclaimref25.Status, Record, entry.
-/
import Derived.Test.YtgbopmgeicokoaaMcasCl
namespace Go.Proofs.Ytgbopmgeicokoaa
open Go.RowKit

theorem rstatus_any (c : Mul) (A : Option Addr) (n k : Nat) (S : Option Addr) (m l : Nat) (d : Int) (w : World) (h1 : 1 ≤ c.threads) (h2 : c.threads ≤ 16) (h3 : n ≤ 32) (h4 : 0 ≤ d) (h5 : d < 65536) :
    Calls Try.prog 110 #[mulV c A n k S m l, .int .i64 d] w fun e w' => e = .returned (.int .i64 (n + c.threads + 2 * d)) ∧ Below w.heap.size w w' := by
  go_enter Try.func110, Try.ntmps110
  go_wp2
  go_ret
  exact ⟨rfl, (Below.refl _ _).alloc (Nat.le_refl _) _⟩
theorem rrecord_any (c : Mul) (A : Option Addr) (n k : Nat) (S : Option Addr) (m l : Nat) (t : Int) (w : World) (h3 : n ≤ 32) (h4 : 0 ≤ t) (h5 : t < 65536) :
    Calls Try.prog 111 #[mulV c A n k S m l, .int .i64 t] w fun e w' => e = .returned (.int .i64 (n + t)) ∧ Below w.heap.size w w' := by
  go_enter Try.func111, Try.ntmps111
  go_wp2
  go_ret
  exact ⟨rfl, (Below.refl _ _).alloc (Nat.le_refl _) _⟩

/-- what entry answers -/
def EntryR (c : Mul) (num : Nat) (cell : Int) (w : World) (e : Ending) (w' : World) : Prop :=
  ∃ i : Nat, e = .returned (.tuple #[.int .i64 (i : Int), .bool (entFound c num cell).isSome]) ∧ Below w.heap.size w w' ∧ ∀ x, entFound c num cell = some x → (c.swaps.getD num [])[i]? = some x
theorem EntryR.no {c : Mul} {num : Nat} {cell : Int} {w w' : World} (h : entFound c num cell = none) (hb : Below w.heap.size w w') : EntryR c num cell w (.returned (.tuple #[.int .i64 0, .bool false])) w' :=
  ⟨0, by rw [h]; rfl, hb, fun x hx => by (rw [h] at hx; cases hx)⟩
theorem EntryR.yes {c : Mul} {num : Nat} {cell : Int} {w w' : World} {x : Ent} {i : Nat} (h : entFound c num cell = some x) (hi : (c.swaps.getD num [])[i]? = some x) (hb : Below w.heap.size w w') :
    EntryR c num cell w (.returned (.tuple #[.int .i64 (i : Int), .bool true])) w' :=
  ⟨i, by rw [h]; rfl, hb, fun y hy => by (rw [h] at hy; injection hy with hy; rw [← hy]; exact hi)⟩

set_option maxRecDepth 100000 in
set_option maxHeartbeats 1000000 in
theorem entry_any (c : Mul) (A : Option Addr) (n k : Nat) (S : Option Addr) (m l : Nat) (wb wo wn wk : Nat) (w : World) (h : MulAt w w.heap.size A n k S m l c) (hF : OkF c) (d : Int) (hd0 : 0 ≤ d) (hd1 : d < c.threads * c.uses) (cell : Int) (num : Nat)
    (hwn : (wn : Int) = n + c.threads + 2 * c.threads * c.uses) (at_ : Nat) (hat : (at_ : Int) = n + c.threads + 2 * d)
    (hnum : w.cell? ⟨wb, wo + (at_ + 1), none⟩ = some (.int .u64 (num : Int))) :
    Calls Try.prog 109 #[mulV c A n k S m l, .slice (some ⟨wb, wo, none⟩) wn wk, .int .i64 d, .int .i64 cell] w (EntryR c num cell w) := by
  have hn := h.n_eq
  have hm := h.m_eq
  have hT1 := hF.t1
  have hT2 := hF.t2
  have hn2 := hF.n2
  have hm2 := hF.m2
  rw [← hn] at hn2
  rw [← hm] at hm2
  have hP := hF.tu
  have hd2 : d < 65536 := by omega
  have hwx := World.block_lt_of_cell? w _ hnum
  have hatx : (n : Int) + c.threads + 2 * d = (at_ : Int) := hat.symm
  have hat2 : (at_ : Int) + 1 < wn := by rw [hwn, Int.mul_assoc]; omega
  have hat3 : at_ + 1 < wn := by omega
  have hat4 : (at_ : Int) < 65536 := by omega
  have Hatx := Lib.hid hatx
  have Hm := Lib.hid hm
  have h' := h.below ((Below.refl _ _).alloc (Nat.le_refl _) (.cells #[.int .i64 c.threads, .slice A n k, .slice S m l, .int .i64 c.uses] 33))
  clear hn hm hP hF hwn hat hatx hd1
  go_enter Try.func109, Try.ntmps109
  go_wp2_with fail
  refine (rstatus_any c A n k S m l _ _ hT1 hT2 hn2 hd0 hd2).mono ?_
  rw [Hatx.out]
  rintro e w1 ⟨rfl, hb⟩
  have hz : w.heap.size < w1.heap.size := by have := hb.size; simp at this; omega
  have d2 : w1.cell? ⟨w.heap.size, 2, none⟩ = some (.slice S m l) := (hb.cell (by simp)).trans (by simp)
  have n1 : w1.cell? ⟨wb, wo + (at_ + 1), none⟩ = some (.int .u64 (num : Int)) := (hb.cell (by simp; omega)).trans ((World.cell?_alloc_lt _ _ _ hwx).trans hnum)
  have h1 := h'.below (hb.mono (by simp))
  have hbw : Below w.heap.size w w1 := box_below _ _ hb
  have HBW := Lib.hid hbw
  clear h' h hnum hb hbw
  by_cases hnm : num < m
  · obtain ⟨es, hes⟩ := at_lt (l := c.swaps) (j := num) (by rw [← Hm.out]; exact hnm)
    obtain ⟨bb, o, A', n', c', rfl, hbb, hc0, hsl, hn', hc1, hc2⟩ := h1.swap hes
    have hg : c.swaps.getD num [] = es := by rw [List.getD_eq_getElem?_getD, hes]; rfl
    have hfe : entFound c num cell = es.find? (fun e => e.1 == cell) := by unfold entFound; rw [hg]
    have Hg := Lib.hid hg
    have Hfe := Lib.hid hfe
    have Hn' := Lib.hid hn'
    have HSL := Lib.hid hsl
    unfold maxLen at hc2
    have hnm' : decide (m ≤ num) = false := by simp; omega
    clear h1 hg hfe hn' hsl hes
    go_wp2_with fail
    go_loopg [12] n' (fun g i wr => ∃ j : Nat, j + g = n' ∧ i = .int .i64 j ∧ w1 = wr ∧ Hid (∀ i y, i < j → es[i]? = some y → (y.1 == cell) = false))
    case atStart => exact ⟨0, by omega, rfl, rfl, fun i y hi _ => absurd hi (by omega)⟩
    case round =>
      obtain ⟨j, hj, rfl, rfl, hno⟩ := hrel
      by_cases hlt : j < n'
      · obtain ⟨⟨e0, e1, e2⟩, hx⟩ := at_lt (l := es) (j := j) (by rw [← Hn'.out]; exact hlt)
        obtain ⟨g0, -, -⟩ := entVals_get _ _ _ hx
        obtain ⟨b1, o1, rfl, hb1, hc⟩ := HSL.out.2 (by omega)
        have c0 : w1.cell? ⟨b1, o1 + j * 3, none⟩ = some (.int .i64 e0) := hc _ _ g0
        have Hx := Lib.hid hx
        clear hc hx g0 HSL
        by_cases hee : e0 = cell
        · have he : (e0 == cell) = true := by rw [beq_iff_eq]; exact hee
          clear hee
          go_wp2_with fail
          go_ret2
          exact EntryR.yes (Hfe.out.trans (find_at' Hx.out he hno.out)) (by rw [Hg.out]; exact Hx.out) HBW.out
        · have he : (e0 == cell) = false := by rw [beq_eq_false_iff_ne]; exact hee
          clear hee
          go_wp2_with fail
          go_roundg (gk - 1)
          case measure => omega
          case rel =>
            refine ⟨j + 1, by omega, by go_num, rfl, fun i y hi hy => ?_⟩
            by_cases hij : i = j
            · subst hij
              rw [Hx.out] at hy
              injection hy with hy
              subst hy
              exact he
            · exact hno.out i y (by omega) hy
      · obtain rfl : n' = j := by omega
        go_wp2_with fail
        go_ret2
        exact EntryR.no (Hfe.out.trans (find_no' (by rw [← Hn'.out]; exact hno.out))) HBW.out
  · have hfe : entFound c num cell = none := by
      unfold entFound
      have := Hm.out
      rw [List.getD_eq_getElem?_getD, List.getElem?_eq_none (by omega)]; rfl
    have Hfe := Lib.hid hfe
    have hnm' : decide (m ≤ num) = true := by simp; omega
    clear h1 hfe
    go_wp2_with fail
    go_ret2
    exact EntryR.no Hfe.out HBW.out
end Go.Proofs.Ytgbopmgeicokoaa
