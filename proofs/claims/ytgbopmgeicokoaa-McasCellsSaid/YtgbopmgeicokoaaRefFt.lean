/-
  reclaimref25.fits.
-/
import Derived.Test.YtgbopmgeicokoaaMcasCl
namespace Go.Proofs.Ytgbopmgeicokoaa
open Go.RowKit

theorem entsB_cons (cells : Nat) (last e0 e1 e2 : Int) (r : List Ent) : entsB cells last ((e0, e1, e2) :: r) = (decide (last < e0) && (decide (e0 < cells) && (valB e1 && (valB e2 && entsB cells e0 r)))) := rfl
theorem entsB_no {cells : Nat} {last e0 e1 e2 : Int} {r : List Ent} (h : ¬ (last < e0 ∧ e0 < cells ∧ 0 ≤ e1 ∧ e1 ≤ 1048575 ∧ 0 ≤ e2 ∧ e2 ≤ 1048575)) : entsB cells last ((e0, e1, e2) :: r) = false := by
  rw [Bool.eq_false_iff]
  intro hh
  rw [entsB_cons] at hh
  simp only [Bool.and_eq_true, decide_eq_true_eq, valB_iff] at hh
  obtain ⟨h1, h2, ⟨h3, h4⟩, ⟨h5, h6⟩, _⟩ := hh
  exact h ⟨h1, h2, h3, h4, h5, h6⟩
theorem entsB_yes {cells : Nat} {last e0 e1 e2 : Int} {r : List Ent} (h : last < e0 ∧ e0 < cells ∧ 0 ≤ e1 ∧ e1 ≤ 1048575 ∧ 0 ≤ e2 ∧ e2 ≤ 1048575) : entsB cells last ((e0, e1, e2) :: r) = entsB cells e0 r := by
  obtain ⟨h1, h2, h3, h4, h5, h6⟩ := h
  rw [entsB_cons, decide_eq_true h1, decide_eq_true h2, valB_iff.2 ⟨h3, h4⟩, valB_iff.2 ⟨h5, h6⟩]
  rfl

set_option maxRecDepth 100000 in
set_option maxHeartbeats 2000000 in
theorem fits_any (cells : Nat) (A : Option Addr) (n k : Nat) (es : List Ent) (w : World) (hs : Sl w w.heap.size 3 A n (entVals es)) (hk1 : n ≤ k) (hk2 : k ≤ maxLen) :
    Calls Try.prog 108 #[.slice A n k, .int .i64 (cells : Int)] w fun e w' => e = .returned (.bool (swapB cells es)) ∧ Below w.heap.size w w' := by
  have hn : n = es.length := by have := hs.1; rw [entVals_len] at this; omega
  unfold maxLen at hk2
  by_cases hlen : 1 ≤ n ∧ n ≤ 4
  case neg =>
    have hf : swapB cells es = false := by
      unfold swapB
      rw [← hn]
      by_cases h1 : 1 ≤ n
      · rw [decide_eq_false (p := n ≤ 4) (by omega)]; simp
      · rw [decide_eq_false (p := 1 ≤ n) (by omega)]; rfl
    have HF := Lib.hid hf
    clear hf hn hs
    by_cases h1 : 1 ≤ n
    · have h4 : 4 < n := by omega
      clear hlen
      go_enter Try.func108, Try.ntmps108
      go_wp2_with fail
      go_ret
      exact ⟨by rw [HF.out]; rfl, Below.refl _ _⟩
    · have h4 : n < 1 := by omega
      clear hlen h1
      go_enter Try.func108, Try.ntmps108
      go_wp2_with fail
      go_ret
      exact ⟨by rw [HF.out]; rfl, Below.refl _ _⟩
  obtain ⟨hl1, hl4⟩ := hlen
  have hsw : swapB cells es = entsB cells (-1) es := by
    unfold swapB
    rw [← hn, decide_eq_true hl1, decide_eq_true hl4]; rfl
  rw [hsw]
  have hB1 : decide ((n : Int) < 1) = false := by rw [decide_eq_false_iff_not]; omega
  have hB4 : decide ((4 : Int) < (n : Int)) = false := by rw [decide_eq_false_iff_not]; omega
  generalize hK : entsB cells (-1) es = K
  have HK0 := Lib.hid hK
  have Hn := Lib.hid hn
  obtain ⟨b1, o1, rfl, hb1, hc⟩ := hs.2 (by omega)
  have Hc := Lib.hid hc
  clear hK hn hs hsw hc
  go_enter Try.func108, Try.ntmps108
  go_wp2_with fail
  go_loopg [5] n (fun g i wr => ∃ (j : Nat) (last : Int), j + g = n ∧ i = .int .i64 j ∧ Below w.heap.size w wr ∧ Hid (entsB cells last (es.drop j) = K) ∧ Hid ((j = 0 ∧ last = -1) ∨ (0 ≤ last ∧ ∃ q x, j = q + 1 ∧ es[q]? = some x ∧ x.1 = last)))
  case atStart => exact ⟨0, -1, by omega, rfl, Below.refl _ _, HK0.out, Or.inl ⟨rfl, rfl⟩⟩
  case round =>
    obtain ⟨j, last, hj, rfl, hbw, HK, HL⟩ := hrel
    by_cases hlt : j < n
    · obtain ⟨⟨e0, e1, e2⟩, hx⟩ := at_lt (l := es) (j := j) (by rw [← Hn.out]; exact hlt)
      obtain ⟨g0, g1, g2⟩ := entVals_get _ _ _ hx
      have hd := drop_cons hx
      have HK' := HK.out
      rw [hd] at HK'
      have HK := Lib.hid HK'
      have c0 : wr.cell? ⟨b1, o1 + j * 3, none⟩ = some (.int .i64 e0) := (hbw.cell hb1).trans (Hc.out _ _ g0)
      have c1 : wr.cell? ⟨b1, o1 + j * 3 + 1, none⟩ = some (.int .i64 e1) := (hbw.cell hb1).trans (Hc.out _ _ g1)
      have c2 : wr.cell? ⟨b1, o1 + j * 3 + 2, none⟩ = some (.int .i64 e2) := (hbw.cell hb1).trans (Hc.out _ _ g2)
      have Hx := Lib.hid hx
      have hsz := hbw.size
      have hb1r : b1 < wr.heap.size := by omega
      clear HK' hd hx g0 g1 g2
      rcases HL.out with ⟨hj0, hl0⟩ | ⟨hl0, q, ⟨x0, x1, x2⟩, hj0, hx0, hxl⟩
      · subst hj0
        subst hl0
        clear HL
        simp only [Nat.zero_mul, Nat.add_zero] at c0 c1 c2
        by_cases ht : e0 < 0
        · have hf := entsB_no (cells := cells) (last := -1) (e0 := e0) (e1 := e1) (e2 := e2) (r := es.drop (0 + 1)) (by omega)
          have hbt : decide (e0 < 0) = true := decide_eq_true ht
          have HF := Lib.hid hf
          clear hf
          go_wp2_with fail
          go_quiet (fail)
          go_wp2_with fail
          go_ret
          exact ⟨by rw [← HK.out, HF.out]; rfl, (hbw.alloc hbw.size _).drewN _⟩
        have hb0 : decide (e0 < 0) = false := decide_eq_false ht
        replace ht : 0 ≤ e0 := by omega
        have h0 := ht
        clear ht
        by_cases ht : (cells : Int) ≤ e0
        · have hf := entsB_no (cells := cells) (last := -1) (e0 := e0) (e1 := e1) (e2 := e2) (r := es.drop (0 + 1)) (by omega)
          have hbt : decide ((cells : Int) ≤ e0) = true := decide_eq_true ht
          have HF := Lib.hid hf
          clear hf
          go_wp2_with fail
          go_quiet (fail)
          go_wp2_with fail
          go_ret
          exact ⟨by rw [← HK.out, HF.out]; rfl, (hbw.alloc hbw.size _).drewN _⟩
        have hb1 : decide ((cells : Int) ≤ e0) = false := decide_eq_false ht
        replace ht : e0 < (cells : Int) := by omega
        have h1 := ht
        clear ht
        by_cases ht : e1 < 0
        · have hf := entsB_no (cells := cells) (last := -1) (e0 := e0) (e1 := e1) (e2 := e2) (r := es.drop (0 + 1)) (by omega)
          have hbt : decide (e1 < 0) = true := decide_eq_true ht
          have HF := Lib.hid hf
          clear hf
          go_wp2_with fail
          go_quiet (fail)
          go_wp2_with fail
          go_ret
          exact ⟨by rw [← HK.out, HF.out]; rfl, (hbw.alloc hbw.size _).drewN _⟩
        have hb2 : decide (e1 < 0) = false := decide_eq_false ht
        replace ht : 0 ≤ e1 := by omega
        have h2 := ht
        clear ht
        by_cases ht : 1048575 < e1
        · have hf := entsB_no (cells := cells) (last := -1) (e0 := e0) (e1 := e1) (e2 := e2) (r := es.drop (0 + 1)) (by omega)
          have hbt : decide (1048575 < e1) = true := decide_eq_true ht
          have HF := Lib.hid hf
          clear hf
          go_wp2_with fail
          go_quiet (fail)
          go_wp2_with fail
          go_ret
          exact ⟨by rw [← HK.out, HF.out]; rfl, (hbw.alloc hbw.size _).drewN _⟩
        have hb3 : decide (1048575 < e1) = false := decide_eq_false ht
        replace ht : e1 ≤ 1048575 := by omega
        have h3 := ht
        clear ht
        by_cases ht : e2 < 0
        · have hf := entsB_no (cells := cells) (last := -1) (e0 := e0) (e1 := e1) (e2 := e2) (r := es.drop (0 + 1)) (by omega)
          have hbt : decide (e2 < 0) = true := decide_eq_true ht
          have HF := Lib.hid hf
          clear hf
          go_wp2_with fail
          go_quiet (fail)
          go_wp2_with fail
          go_ret
          exact ⟨by rw [← HK.out, HF.out]; rfl, (hbw.alloc hbw.size _).drewN _⟩
        have hb4 : decide (e2 < 0) = false := decide_eq_false ht
        replace ht : 0 ≤ e2 := by omega
        have h4 := ht
        clear ht
        by_cases ht : 1048575 < e2
        · have hf := entsB_no (cells := cells) (last := -1) (e0 := e0) (e1 := e1) (e2 := e2) (r := es.drop (0 + 1)) (by omega)
          have hbt : decide (1048575 < e2) = true := decide_eq_true ht
          have HF := Lib.hid hf
          clear hf
          go_wp2_with fail
          go_quiet (fail)
          go_wp2_with fail
          go_ret
          exact ⟨by rw [← HK.out, HF.out]; rfl, (hbw.alloc hbw.size _).drewN _⟩
        have hb5 : decide (1048575 < e2) = false := decide_eq_false ht
        replace ht : e2 ≤ 1048575 := by omega
        have h5 := ht
        clear ht
        have hy := entsB_yes (cells := cells) (last := -1) (e0 := e0) (e1 := e1) (e2 := e2) (r := es.drop (0 + 1)) (by omega)
        have HY := Lib.hid hy
        clear hy
        go_wp2_with fail
        go_quiet (fail)
        go_wp2_with fail
        go_roundg (gk - 1)
        case measure => omega
        case rel => exact ⟨0 + 1, e0, by omega, by go_num, (hbw.alloc hsz _).drewN _, by (have := HK.out; rw [HY.out] at this; exact this), Or.inr ⟨h0, 0, (e0, e1, e2), rfl, Hx.out, rfl⟩⟩
      · subst hj0
        have hxl' : x0 = last := hxl
        subst hxl'
        obtain ⟨k0, -, -⟩ := entVals_get _ _ _ hx0
        have p0 : wr.cell? ⟨b1, o1 + q * 3, none⟩ = some (.int .i64 x0) := (hbw.cell hb1).trans (Hc.out _ _ k0)
        have Hx0 := Lib.hid hx0
        have hxl2 : 0 ≤ x0 := hl0
        have hq1 : (q : Int) < (n : Int) := by omega
        have hq0 : (0 : Int) ≤ (q : Int) := Int.natCast_nonneg _
        have hq2 : (0 : Int) < (q : Int) + 1 := by omega
        have hq6 : q < n := by omega
        have hq4 : IntKind.i64.wrap (q : Int) = (q : Int) := IntWalk.i64_in _ (by omega)
        have hq5 : IntKind.i64.wrap ((q : Int) + 1 - 1) = (q : Int) := by rw [show (q : Int) + 1 - 1 = (q : Int) from by omega]; exact hq4
        have hq3 : decide ((0 : Int) < (q : Int) + 1) = true := decide_eq_true hq2
        clear HL hxl hx0 k0 hl0
        by_cases ht : e0 < 0
        · have hf := entsB_no (cells := cells) (last := x0) (e0 := e0) (e1 := e1) (e2 := e2) (r := es.drop ((q + 1) + 1)) (by omega)
          have hbt : decide (e0 < 0) = true := decide_eq_true ht
          have HF := Lib.hid hf
          clear hf
          go_wp2_with fail
          go_quiet (fail)
          go_wp2_with fail
          go_ret
          exact ⟨by rw [← HK.out, HF.out]; rfl, (hbw.alloc hbw.size _).drewN _⟩
        have hb0 : decide (e0 < 0) = false := decide_eq_false ht
        replace ht : 0 ≤ e0 := by omega
        have h0 := ht
        clear ht
        by_cases ht : (cells : Int) ≤ e0
        · have hf := entsB_no (cells := cells) (last := x0) (e0 := e0) (e1 := e1) (e2 := e2) (r := es.drop ((q + 1) + 1)) (by omega)
          have hbt : decide ((cells : Int) ≤ e0) = true := decide_eq_true ht
          have HF := Lib.hid hf
          clear hf
          go_wp2_with fail
          go_quiet (fail)
          go_wp2_with fail
          go_ret
          exact ⟨by rw [← HK.out, HF.out]; rfl, (hbw.alloc hbw.size _).drewN _⟩
        have hb1 : decide ((cells : Int) ≤ e0) = false := decide_eq_false ht
        replace ht : e0 < (cells : Int) := by omega
        have h1 := ht
        clear ht
        by_cases ht : e1 < 0
        · have hf := entsB_no (cells := cells) (last := x0) (e0 := e0) (e1 := e1) (e2 := e2) (r := es.drop ((q + 1) + 1)) (by omega)
          have hbt : decide (e1 < 0) = true := decide_eq_true ht
          have HF := Lib.hid hf
          clear hf
          go_wp2_with fail
          go_quiet (fail)
          go_wp2_with fail
          go_ret
          exact ⟨by rw [← HK.out, HF.out]; rfl, (hbw.alloc hbw.size _).drewN _⟩
        have hb2 : decide (e1 < 0) = false := decide_eq_false ht
        replace ht : 0 ≤ e1 := by omega
        have h2 := ht
        clear ht
        by_cases ht : 1048575 < e1
        · have hf := entsB_no (cells := cells) (last := x0) (e0 := e0) (e1 := e1) (e2 := e2) (r := es.drop ((q + 1) + 1)) (by omega)
          have hbt : decide (1048575 < e1) = true := decide_eq_true ht
          have HF := Lib.hid hf
          clear hf
          go_wp2_with fail
          go_quiet (fail)
          go_wp2_with fail
          go_ret
          exact ⟨by rw [← HK.out, HF.out]; rfl, (hbw.alloc hbw.size _).drewN _⟩
        have hb3 : decide (1048575 < e1) = false := decide_eq_false ht
        replace ht : e1 ≤ 1048575 := by omega
        have h3 := ht
        clear ht
        by_cases ht : e2 < 0
        · have hf := entsB_no (cells := cells) (last := x0) (e0 := e0) (e1 := e1) (e2 := e2) (r := es.drop ((q + 1) + 1)) (by omega)
          have hbt : decide (e2 < 0) = true := decide_eq_true ht
          have HF := Lib.hid hf
          clear hf
          go_wp2_with fail
          go_quiet (fail)
          go_wp2_with fail
          go_ret
          exact ⟨by rw [← HK.out, HF.out]; rfl, (hbw.alloc hbw.size _).drewN _⟩
        have hb4 : decide (e2 < 0) = false := decide_eq_false ht
        replace ht : 0 ≤ e2 := by omega
        have h4 := ht
        clear ht
        by_cases ht : 1048575 < e2
        · have hf := entsB_no (cells := cells) (last := x0) (e0 := e0) (e1 := e1) (e2 := e2) (r := es.drop ((q + 1) + 1)) (by omega)
          have hbt : decide (1048575 < e2) = true := decide_eq_true ht
          have HF := Lib.hid hf
          clear hf
          go_wp2_with fail
          go_quiet (fail)
          go_wp2_with fail
          go_ret
          exact ⟨by rw [← HK.out, HF.out]; rfl, (hbw.alloc hbw.size _).drewN _⟩
        have hb5 : decide (1048575 < e2) = false := decide_eq_false ht
        replace ht : e2 ≤ 1048575 := by omega
        have h5 := ht
        clear ht
        by_cases ht : e0 ≤ x0
        · have hf := entsB_no (cells := cells) (last := x0) (e0 := e0) (e1 := e1) (e2 := e2) (r := es.drop ((q + 1) + 1)) (by omega)
          have hbt : decide (e0 ≤ x0) = true := decide_eq_true ht
          have HF := Lib.hid hf
          clear hf
          go_wp2_with fail
          go_quiet (fail)
          go_wp2_with fail
          go_ret
          exact ⟨by rw [← HK.out, HF.out]; rfl, (hbw.alloc hbw.size _).drewN _⟩
        have hb6 : decide (e0 ≤ x0) = false := decide_eq_false ht
        replace ht : x0 < e0 := by omega
        have hy := entsB_yes (cells := cells) (last := x0) (e0 := e0) (e1 := e1) (e2 := e2) (r := es.drop ((q + 1) + 1)) (by omega)
        have HY := Lib.hid hy
        clear hy
        go_wp2_with fail
        go_quiet (fail)
        go_wp2_with fail
        go_roundg (gk - 1)
        case measure => omega
        case rel => exact ⟨(q + 1) + 1, e0, by omega, by go_num, (hbw.alloc hsz _).drewN _, by (have := HK.out; rw [HY.out] at this; exact this), Or.inr ⟨h0, (q + 1), (e0, e1, e2), rfl, Hx.out, rfl⟩⟩
    · obtain rfl : n = j := by omega
      have hk : K = true := by
        have := HK.out
        rw [Hn.out, List.drop_length] at this
        exact this.symm
      have Hk := Lib.hid hk
      clear hk HK HL
      go_wp2_with fail
      go_ret
      exact ⟨by rw [Hk.out]; rfl, hbw⟩
end Go.Proofs.Ytgbopmgeicokoaa
