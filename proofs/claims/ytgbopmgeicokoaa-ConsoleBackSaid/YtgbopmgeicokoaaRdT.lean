/-
  The document's reader: numbers and signed numbers.
-/
import Derived.Test.YtgbopmgeicokoaaRdR
namespace Go.Proofs.Ytgbopmgeicokoaa
open Go.RowKit

def numT (s : Rs) : Nat × Rs := if 9223372036854775808 ≤ (cntT s).1 then (0, (cntT s).2.1, true) else cntT s
theorem cntQ_lt : ∀ {l : List Nat} {i n m : Nat} {l' : List Nat} {b : Bool}, n < 128 ^ i → cntQ i n l = some (m, l', b) → m < 18446744073709551616 ∧ l'.length < l.length
  | [], i, n, m, l', b, _, h => by cases h
  | x :: l, i, n, m, l', b, hn, h => by
    by_cases hb : 9 < i ∨ (i = 9 ∧ 1 < x)
    · rw [cntQ_bad hb] at h
      cases h
    · have hY : n + x % 128 * 128 ^ i < 18446744073709551616 := by
        have h9 : (128 : Nat) ^ i ≤ 128 ^ 9 := Nat.pow_le_pow_right (by omega) (by omega)
        rcases Nat.lt_or_ge i 9 with h8 | h8
        · have h7 : (128 : Nat) ^ i ≤ 128 ^ 8 := Nat.pow_le_pow_right (by omega) (by omega)
          have h6 : x % 128 * 128 ^ i ≤ 127 * 128 ^ 8 := Nat.mul_le_mul (by omega) h7
          omega
        · have h6 : x % 128 * 128 ^ i ≤ 1 * 128 ^ 9 := Nat.mul_le_mul (by omega) h9
          omega
      have hM : n + x % 128 * 128 ^ i < 128 ^ (i + 1) := by
        rw [Nat.pow_succ]
        have : x % 128 * 128 ^ i ≤ 127 * 128 ^ i := Nat.mul_le_mul (by omega) (Nat.le_refl _)
        omega
      by_cases hx : x < 128
      · rw [cntQ_last hb hx] at h
        injection h with h
        injection h with h1 h2
        injection h2 with h2 h3
        subst h1 h2
        exact ⟨hY, by simp⟩
      · rw [cntQ_more hb hx] at h
        have ih := cntQ_lt hM h
        exact ⟨ih.1, by have := ih.2; simp; omega⟩
theorem cntT_lt (s : Rs) : (cntT s).1 < 18446744073709551616 := by
  unfold cntT
  cases h : cntQ 0 0 s.1 with
  | none => simp
  | some p => exact (cntQ_lt (by simp) h).1
def RNumR (B gr : Nat) (z : Int) (s : Rs) (w : World) (e : Ending) (w' : World) : Prop := ∃ A n k, e = .returned (.int .i64 z) ∧ RdAt w' B gr 190 A n k s ∧ w.grownBy w' (some gr)

set_option maxRecDepth 100000 in
set_option maxHeartbeats 4000000 in
theorem rrdnumber_any (B gr : Nat) (A : Option Addr) (n k : Nat) (s : Rs) (w : World) (h : RdAt w B gr 190 A n k s) (hB : B ≤ gr) :
    Calls Try.prog 85 #[.pointer (some ⟨gr, 0, none⟩)] w (RNumR B gr (numT s).1 (numT s).2 w) := by
  have H := Lib.hid h
  have hlt := cntT_lt s
  have hdef : numT s = if 9223372036854775808 ≤ (cntT s).1 then (0, (cntT s).2.1, true) else cntT s := rfl
  have HD := Lib.hid hdef
  obtain ⟨m, hm⟩ : ∃ m, m = (cntT s).1 := ⟨_, rfl⟩
  have HM := Lib.hid hm
  rw [← hm] at hlt
  clear h hdef hm
  go_enter Try.func85, Try.ntmps85
  go_wp2_with fail
  refine (rrdcount_any B gr A n k s _ H.out hB).mono ?_
  rintro e w1 ⟨A1, n1, k1, rfl, hr1, hg1⟩
  rw [← HM.out]
  have HR1 := Lib.hid hr1
  have HG1 := Lib.hid hg1
  clear hr1 hg1
  by_cases hb : 9223372036854775808 ≤ m
  · have d1 : decide ((9223372036854775807 : Int) < m) = true := by simp; omega
    have d2 : (9223372036854775807 : Int) < m := by omega
    have d3 : decide (9223372036854775807 < m) = true := by simp; omega
    have HN := Lib.hid (show numT s = (0, (cntT s).2.1, true) by rw [HD.out, ← HM.out, if_pos hb])
    have c1 : w1.cell? ⟨gr, 1, none⟩ = some (.bool (cntT s).2.2) := HR1.out.blk.cell rfl
    have f1 := HR1.out.blk.frozen 1
    go_wp2_with fail
    go_ret
    refine ⟨A1, n1, k1, by rw [HN.out]; rfl, by rw [HN.out]; exact HR1.out.spoil' hB, gb_set HG1.out 1 _⟩
  · have d1 : decide ((9223372036854775807 : Int) < m) = false := by simp; omega
    have d2 : ¬ (9223372036854775807 : Int) < m := by omega
    have d3 : decide (9223372036854775807 < m) = false := by simp; omega
    have HN := Lib.hid (show numT s = cntT s by rw [HD.out, ← HM.out, if_neg hb])
    have b1 : IntKind.i64.wrap (m : Int) = m := IntWalk.i64_in _ (by omega)
    go_wp2_with fail
    go_ret
    refine ⟨A1, n1, k1, by rw [HN.out, ← HM.out]; rfl, by rw [HN.out]; exact HR1.out, HG1.out⟩

set_option maxRecDepth 100000 in
set_option maxHeartbeats 4000000 in
theorem rrdsigned_any (B gr : Nat) (A : Option Addr) (n k : Nat) (s : Rs) (w : World) (h : RdAt w B gr 190 A n k s) (hB : B ≤ gr) :
    Calls Try.prog 87 #[.pointer (some ⟨gr, 0, none⟩)] w (RNumR B gr (unsg (cntT s).1) (cntT s).2 w) := by
  have H := Lib.hid h
  have hlt := cntT_lt s
  obtain ⟨m, hm⟩ : ∃ m, m = (cntT s).1 := ⟨_, rfl⟩
  have HM := Lib.hid hm
  rw [← hm] at hlt ⊢
  clear h hm
  go_enter Try.func87, Try.ntmps87
  go_wp2_with fail
  refine (rrdcount_any B gr A n k s _ H.out hB).mono ?_
  rintro e w1 ⟨A1, n1, k1, rfl, hr1, hg1⟩
  rw [← HM.out]
  have HR1 := Lib.hid hr1
  have HG1 := Lib.hid hg1
  clear hr1 hg1
  have b1 : IntKind.i64.wrap ((m : Int) / 2) = (m : Int) / 2 := IntWalk.i64_in _ (by omega)
  by_cases hb : m % 2 = 0
  · have d1 : (m : Int) % 2 = 0 := by omega
    have HU := Lib.hid (show unsg m = (m : Int) / 2 by unfold unsg; rw [if_pos hb]; omega)
    clear hb
    go_wp2_with fail
    go_ret
    exact ⟨A1, n1, k1, by rw [HU.out]; rfl, HR1.out, HG1.out⟩
  · have d1 : (m : Int) % 2 = 1 := by omega
    have HU := Lib.hid (show unsg m = -((m : Int) / 2) - 1 by unfold unsg; rw [if_neg hb]; omega)
    have b2 : IntKind.i64.wrap (-((m : Int) / 2)) = -((m : Int) / 2) := IntWalk.i64_in _ (by omega)
    have b3 : IntKind.i64.wrap (-((m : Int) / 2) - 1) = -((m : Int) / 2) - 1 := IntWalk.i64_in _ (by omega)
    clear hb
    go_wp2_with fail
    go_ret
    exact ⟨A1, n1, k1, by rw [HU.out]; rfl, HR1.out, HG1.out⟩
end Go.Proofs.Ytgbopmgeicokoaa
