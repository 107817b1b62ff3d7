/-
  reclaimref25.Check.
-/
import Derived.Test.YtgbopmgeicokoaaRefFt
import Derived.Deep.RegionHeld3
namespace Go.Proofs.Ytgbopmgeicokoaa
open Go.RowKit

theorem headB_iff {c : Mul} : headB c = true ↔ 1 ≤ c.threads ∧ c.threads ≤ 16 ∧ 1 ≤ c.cells.length ∧ c.cells.length ≤ 32 ∧ c.swaps.length ≤ 16 ∧ 1 ≤ c.uses ∧ c.uses ≤ 64 := by
  simp only [headB, Bool.and_eq_true, decide_eq_true_eq]

set_option maxRecDepth 100000 in
set_option maxHeartbeats 1000000 in
theorem rcheck_any (c : Mul) (A : Option Addr) (n k : Nat) (S : Option Addr) (m l : Nat) (w : World) (h : MulAt w w.heap.size A n k S m l c) :
    Calls Try.prog 56 #[mulV c A n k S m l] w fun e w' => e = .returned (.bool (okB c)) ∧ Below w.heap.size w w' := by
  have hn := h.n_eq
  have hm := h.m_eq
  have hk1 := h.nk.1
  have hk2 := h.nk.2
  have hl1 := h.ml.1
  have hl2 := h.ml.2
  unfold maxLen at hk2 hl2
  have Hn := Lib.hid hn
  have Hm := Lib.hid hm
  by_cases hh : headB c = true
  case neg =>
    have hok : okB c = false := by unfold okB; rw [Bool.eq_false_iff.2 hh]; rfl
    have hh2 : ¬ (1 ≤ c.threads ∧ c.threads ≤ 16 ∧ 1 ≤ n ∧ n ≤ 32 ∧ m ≤ 16 ∧ 1 ≤ c.uses ∧ c.uses ≤ 64) := by rw [hn, hm]; exact fun hx => hh (headB_iff.2 hx)
    have Hok := Lib.hid hok
    have HH := Lib.hid hh2
    have hb := (Below.refl w.heap.size w).alloc (Nat.le_refl _) (.cells #[.int .i64 c.threads, .slice A n k, .slice S m l, .int .i64 c.uses] 33)
    clear hok hh hn hm h hh2
    by_cases a1 : c.threads < 1
    · go_enter Try.func56, Try.ntmps56
      go_wp2_with fail
      go_ret
      exact ⟨by rw [Hok.out]; rfl, hb⟩
    by_cases a2 : 16 < c.threads
    · go_enter Try.func56, Try.ntmps56
      go_wp2_with fail
      go_ret
      exact ⟨by rw [Hok.out]; rfl, hb⟩
    by_cases a3 : c.uses < 1
    · go_enter Try.func56, Try.ntmps56
      go_wp2_with fail
      go_ret
      exact ⟨by rw [Hok.out]; rfl, hb⟩
    by_cases a4 : 64 < c.uses
    · go_enter Try.func56, Try.ntmps56
      go_wp2_with fail
      go_ret
      exact ⟨by rw [Hok.out]; rfl, hb⟩
    by_cases a5 : n < 1
    · go_enter Try.func56, Try.ntmps56
      go_wp2_with fail
      go_ret
      exact ⟨by rw [Hok.out]; rfl, hb⟩
    by_cases a6 : 32 < n
    · go_enter Try.func56, Try.ntmps56
      go_wp2_with fail
      go_ret
      exact ⟨by rw [Hok.out]; rfl, hb⟩
    by_cases a7 : 16 < m
    · go_enter Try.func56, Try.ntmps56
      go_wp2_with fail
      go_ret
      exact ⟨by rw [Hok.out]; rfl, hb⟩
    exact absurd ⟨by omega, by omega, by omega, by omega, by omega, by omega, by omega⟩ HH.out
  have hh2 := headB_iff.1 hh
  rw [← hn, ← hm] at hh2
  obtain ⟨a1, a2, a3, a4, a5, a6, a7⟩ := hh2
  have b1 : decide (c.threads < 1) = false := decide_eq_false (by omega)
  have b2 : decide (16 < c.threads) = false := decide_eq_false (by omega)
  have b3 : decide (c.uses < 1) = false := decide_eq_false (by omega)
  have b4 : decide (64 < c.uses) = false := decide_eq_false (by omega)
  have b5 : decide ((n : Int) < 1) = false := decide_eq_false (by omega)
  have b6 : decide ((32 : Int) < (n : Int)) = false := decide_eq_false (by omega)
  have b7 : decide ((16 : Int) < (m : Int)) = false := decide_eq_false (by omega)
  have hok : okB c = (c.cells.all valB && c.swaps.all (swapB c.cells.length)) := by unfold okB; rw [hh]; rfl
  have Hok := Lib.hid hok
  obtain ⟨w0, hw0⟩ : ∃ w0 : World, w0 = w.alloc (.cells #[.int .i64 c.threads, .slice A n k, .slice S m l, .int .i64 c.uses] 33) := ⟨_, rfl⟩
  have hb0 : Below w.heap.size w w0 := by rw [hw0]; exact (Below.refl _ _).alloc (Nat.le_refl _) _
  have hz0 : w.heap.size < w0.heap.size := by rw [hw0]; simp
  have e1 : w0.cell? ⟨w.heap.size, 1, none⟩ = some (.slice A n k) := by rw [hw0]; simp
  have e2 : w0.cell? ⟨w.heap.size, 2, none⟩ = some (.slice S m l) := by rw [hw0]; simp
  have h0 := (h.below hb0).up hb0.size
  have HM := Lib.hid h0
  have HW0 := Lib.hid hw0
  clear hok hh hn hm h h0
  clear hw0
  go_enter Try.func56, Try.ntmps56
  go_wp2_with fail
  rw [← HW0.out]
  clear HW0
  go_loopg [3] n (fun g i wr => ∃ j : Nat, j + g = n ∧ i = .int .i64 j ∧ w0 = wr ∧ Hid ((c.cells.drop j).all valB = c.cells.all valB))
  case atStart => exact ⟨0, by omega, rfl, rfl, rfl⟩
  case round =>
    obtain ⟨j, hj, rfl, rfl, HA⟩ := hrel
    by_cases hlt : j < n
    · obtain ⟨x, hx⟩ := at_lt (l := c.cells) (j := j) (by rw [← Hn.out]; exact hlt)
      have hd := drop_cons hx
      obtain ⟨bb, o, rfl, hbb, hc⟩ := HM.out.cells.2 (by omega)
      have c0 : w0.cell? ⟨bb, o + j, none⟩ = some (.int .i64 x) := hc _ _ (ints_get hx)
      have Hd := Lib.hid hd
      clear hc hx hd
      by_cases hx0 : 0 ≤ x ∧ x ≤ 1048575
      · obtain ⟨x1, x2⟩ := hx0
        have y1 : decide (x < 0) = false := decide_eq_false (by omega)
        have y2 : decide (1048575 < x) = false := decide_eq_false (by omega)
        go_wp2_with fail
        go_roundg (gk - 1)
        case measure => omega
        case rel =>
          refine ⟨j + 1, by omega, by go_num, rfl, ?_⟩
          have := HA.out
          rw [Hd.out, List.all_cons, valB_iff.2 ⟨x1, x2⟩] at this
          exact this
      · have hv : valB x = false := by rw [Bool.eq_false_iff]; exact fun hh => hx0 (valB_iff.1 hh)
        have hf : okB c = false := by
          have := HA.out
          rw [Hd.out, List.all_cons, hv] at this
          rw [Hok.out, ← this]; rfl
        have Hf := Lib.hid hf
        clear hv hf
        by_cases x1 : x < 0
        · have y1 : decide (x < 0) = true := decide_eq_true x1
          clear hx0
          go_wp2_with fail
          go_ret
          exact ⟨by rw [Hf.out]; rfl, hb0⟩
        · have y1 : decide (x < 0) = false := decide_eq_false x1
          have x2 : 1048575 < x := by omega
          have y2 : decide (1048575 < x) = true := decide_eq_true x2
          clear hx0
          go_wp2_with fail
          go_ret
          exact ⟨by rw [Hf.out]; rfl, hb0⟩
    · obtain rfl : n = j := by omega
      have hA : c.cells.all valB = true := by
        have := HA.out
        rw [Hn.out, List.drop_length] at this
        exact this.symm
      have HA2 := Lib.hid hA
      clear hA HA
      go_wp2_with fail
      go_loopg [4] m (fun g i wr => ∃ j : Nat, j + g = m ∧ i = .int .i64 j ∧ Below w0.heap.size w0 wr ∧ Hid ((c.swaps.drop j).all (swapB c.cells.length) = c.swaps.all (swapB c.cells.length)))
      case atStart => exact ⟨0, by omega, rfl, Below.refl _ _, rfl⟩
      case round =>
        obtain ⟨j, hj, rfl, hbr, HB⟩ := hrel
        have hbw : Below w.heap.size w wr := hb0.trans (hbr.mono (by omega))
        have d1 : wr.cell? ⟨w.heap.size, 1, none⟩ = some (.slice A n k) := (hbr.cell hz0).trans e1
        have d2 : wr.cell? ⟨w.heap.size, 2, none⟩ = some (.slice S m l) := (hbr.cell hz0).trans e2
        by_cases hlt : j < m
        · obtain ⟨es, hx⟩ := at_lt (l := c.swaps) (j := j) (by rw [← Hm.out]; exact hlt)
          have hd := drop_cons hx
          obtain ⟨bb, o, A', n', c', rfl, hbb, hc0, hsl, hn', hc1, hc2⟩ := (HM.out.below hbr).swap hx
          have Hd := Lib.hid hd
          have hsr := hbr.size
          have HF : Hid (∀ W, Below wr.heap.size wr W → Calls Try.prog 108 #[.slice A' n' c', .int .i64 (n : Int)] W fun e w' => e = .returned (.bool (swapB c.cells.length es)) ∧ Below W.heap.size W w') := by
            intro W hW
            have hf := fits_any c.cells.length A' n' c' es W (((hsl.up hsr).below hW).up hW.size) hc1 hc2
            rw [Hn.out]
            exact hf
          have HS : Hid (∀ W, Below wr.heap.size wr W → Below wr.heap.size wr W ∧ W.cell? ⟨w.heap.size, 1, none⟩ = some (.slice A n k) ∧ W.cell? ⟨w.heap.size, 2, none⟩ = some (.slice (some ⟨bb, o, none⟩) m l) ∧ W.cell? ⟨bb, o + j, none⟩ = some (.slice A' n' c')) :=
            fun W hB => ⟨hB, (hB.cell (by dsimp only; omega)).trans d1, (hB.cell (by dsimp only; omega)).trans d2, (hB.cell (by dsimp only; omega)).trans hc0⟩
          have q1 : (0 : Int) ≤ (j : Int) := Int.natCast_nonneg _
          have q2 : (j : Int) < (m : Int) := by omega
          clear hx hd hsl hn' hc1 hc2
          go_upto_region 11 with fail
          go_cut [78] (fun s wc => s = .bool (!(swapB c.cells.length es)) ∧ Below wr.heap.size wr wc)
          case first =>
            go_region_held3 (fun w' => Below wr.heap.size wr w' ∧ w'.cell? ⟨w.heap.size, 1, none⟩ = some (.slice A n k) ∧ w'.cell? ⟨w.heap.size, 2, none⟩ = some (.slice (some ⟨bb, o, none⟩) m l) ∧ w'.cell? ⟨bb, o + j, none⟩ = some (.slice A' n' c'))
              ((refine HS.out _ ?_; go_split_ands; first | assumption | exact (Below.refl _ _).drew | exact Below.trans ‹Below wr.heap.size wr _› (hb2.mono (‹Below wr.heap.size wr _›).size)))
              ((go_at_call 108; refine (HF.out _ (by go_split_ands; assumption)).mono ?_; rintro e w2 ⟨rfl, hb2⟩))
            all_goals (go_wp2_with fail; go_meet; go_split_ands; exact ⟨rfl, by assumption⟩)
          case rest =>
            obtain ⟨rfl, hbc⟩ := hcut
            clear HS HF d1 d2
            cases hsb : swapB c.cells.length es with
            | true =>
              have Hsb := Lib.hid hsb
              clear hsb
              go_wp2_with fail
              go_roundg (gk - 1)
              case measure => omega
              case rel =>
                refine ⟨j + 1, by omega, by go_num, hbr.trans (hbc.mono hsr), ?_⟩
                have := HB.out
                rw [Hd.out, List.all_cons, Hsb.out] at this
                exact this
            | false =>
              have hf : okB c = false := by
                have := HB.out
                rw [Hd.out, List.all_cons, hsb] at this
                rw [Hok.out, ← this]; simp
              have Hf := Lib.hid hf
              clear hf hsb
              go_wp2_with fail
              go_ret
              exact ⟨by rw [Hf.out]; rfl, hbw.trans (hbc.mono (by omega))⟩
        · obtain rfl : m = j := by omega
          have hf : okB c = true := by
            have := HB.out
            rw [Hm.out, List.drop_length] at this
            rw [Hok.out, ← this, HA2.out]; rfl
          have Hf := Lib.hid hf
          clear hf
          go_wp2_with fail
          go_ret
          exact ⟨by rw [Hf.out]; rfl, hbw⟩
end Go.Proofs.Ytgbopmgeicokoaa
