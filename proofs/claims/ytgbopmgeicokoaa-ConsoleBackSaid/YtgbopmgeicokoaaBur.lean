/-
  Four bytes that stand side by side, changed: the checksum fits no more.
-/
import Derived.Test.YtgbopmgeicokoaaImg
namespace Go.Proofs.Ytgbopmgeicokoaa
open Go.RowKit

theorem xor_cancel {a b c : Nat} (h : a ^^^ c = b ^^^ c) : a = b := by
  have := congrArg (· ^^^ c) h
  simpa [Nat.xor_assoc] using this
theorem xor_cancel' {a b c : Nat} (h : c ^^^ a = c ^^^ b) : a = b := xor_cancel (c := c) (by rw [Nat.xor_comm a, Nat.xor_comm b]; exact h)
theorem xor_eq_left {a b c : Nat} (h : a ^^^ c = b) : c = a ^^^ b := by
  rw [← h, ← Nat.xor_assoc, Nat.xor_self, Nat.zero_xor]
theorem crc1_inj {a b : Nat} (ha : a < 4294967296) (hb : b < 4294967296) (h : crc1 a = crc1 b) : a = b := by
  unfold crc1 at h
  have hlt : a / 2 ^^^ b / 2 < 2147483648 := Nat.xor_lt_two_pow (n := 31) (by omega) (by omega)
  by_cases h1 : a % 2 = 1
  · by_cases h2 : b % 2 = 1
    · rw [if_pos h1, if_pos h2] at h
      have := xor_cancel h
      omega
    · rw [if_pos h1, if_neg h2] at h
      have := xor_eq_left h
      omega
  · by_cases h2 : b % 2 = 1
    · rw [if_neg h1, if_pos h2] at h
      have := xor_eq_left h.symm
      rw [Nat.xor_comm] at this
      omega
    · rw [if_neg h1, if_neg h2] at h
      omega
theorem crcN_inj : ∀ (k : Nat) {a b : Nat}, a < 4294967296 → b < 4294967296 → crcN k a = crcN k b → a = b
  | 0, _, _, _, _, h => h
  | k + 1, _, _, ha, hb, h => crc1_inj ha hb (crcN_inj k (crc1_lt ha) (crc1_lt hb) h)
theorem xor_half (s z : Nat) : (s ^^^ 2 * z) / 2 = s / 2 ^^^ z ∧ (s ^^^ 2 * z) % 2 = s % 2 := by
  have h1 := Nat.xor_div_two_pow (a := s) (b := 2 * z) (n := 1)
  have h2 := Nat.xor_mod_two_pow (a := s) (b := 2 * z) (n := 1)
  rw [Nat.pow_one] at h1 h2
  rw [h1, h2, Nat.mul_div_cancel_left _ (by omega), Nat.mul_mod_right, Nat.xor_zero]
  exact ⟨rfl, rfl⟩
theorem crc1_shift (s z : Nat) : crc1 (s ^^^ 2 * z) = crc1 s ^^^ z := by
  unfold crc1
  rw [(xor_half s z).1, (xor_half s z).2]
  split
  · rw [Nat.xor_assoc, Nat.xor_assoc, Nat.xor_comm z]
  · rfl
theorem crcN_shift : ∀ (k s z : Nat), crcN k (s ^^^ 2 ^ k * z) = crcN k s ^^^ z
  | 0, s, z => by rw [Nat.pow_zero, Nat.one_mul]; rfl
  | k + 1, s, z => by
    show crcN k (crc1 (s ^^^ 2 ^ (k + 1) * z)) = crcN k (crc1 s) ^^^ z
    rw [Nat.pow_succ, Nat.mul_comm (2 ^ k) 2, Nat.mul_assoc, crc1_shift, crcN_shift k]
theorem crcB_shift (s v : Nat) : crcN 8 (s ^^^ 256 * v) = crcN 8 s ^^^ v := crcN_shift 8 s v
/-- four bytes as one number -/
def four (a b c d : Nat) : Nat := a ^^^ 256 * (b ^^^ 256 * (c ^^^ 256 * d))
theorem split_xor {a B : Nat} (h : a < 256) : (a ^^^ 256 * B) % 256 = a ∧ (a ^^^ 256 * B) / 256 = B := by
  have h1 := Nat.xor_div_two_pow (a := a) (b := 256 * B) (n := 8)
  have h2 := Nat.xor_mod_two_pow (a := a) (b := 256 * B) (n := 8)
  rw [show 2 ^ 8 = 256 from rfl] at h1 h2
  rw [h1, h2, Nat.mul_div_cancel_left _ (by omega), Nat.mul_mod_right, Nat.xor_zero, Nat.mod_eq_of_lt h, Nat.div_eq_of_lt h, Nat.zero_xor]
  exact ⟨rfl, rfl⟩
theorem xor_add {a B : Nat} (h : a < 256) : a ^^^ 256 * B = a + 256 * B := by
  have := split_xor (B := B) h
  omega
theorem four_eq {a b c d : Nat} (ha : a < 256) (hb : b < 256) (hc : c < 256) : four a b c d = a + 256 * (b + 256 * (c + 256 * d)) := by
  unfold four
  rw [xor_add ha, xor_add hb, xor_add hc]
theorem four_lt {a b c d : Nat} (ha : a < 256) (hb : b < 256) (hc : c < 256) (hd : d < 256) : four a b c d < 4294967296 := by
  rw [four_eq ha hb hc]
  omega
theorem crc_four (s a b c d : Nat) : crcL s [a, b, c, d] = crcN 8 (crcN 8 (crcN 8 (crcN 8 (s ^^^ four a b c d)))) := by
  have e : ∀ t x y : Nat, t ^^^ (x ^^^ 256 * y) = (t ^^^ x) ^^^ 256 * y := fun t x y => (Nat.xor_assoc t x _).symm
  show crcN 8 (crcN 8 (crcN 8 (crcN 8 (s ^^^ a) ^^^ b) ^^^ c) ^^^ d) = _
  unfold four
  rw [e s a, crcB_shift, e _ b, crcB_shift, e _ c, crcB_shift]
theorem crcB_inj {s t x : Nat} (hs : s < 4294967296) (ht : t < 4294967296) (hx : x < 256) (h : crcB s x = crcB t x) : s = t :=
  xor_cancel (crcN_inj 8 (Nat.xor_lt_two_pow (n := 32) (by omega) (by omega)) (Nat.xor_lt_two_pow (n := 32) (by omega) (by omega)) h)
theorem crcL_inj : ∀ {l : List Nat} {s t : Nat}, s < 4294967296 → t < 4294967296 → (∀ x ∈ l, x < 256) → crcL s l = crcL t l → s = t
  | [], _, _, _, _, _, h => h
  | x :: l, s, t, hs, ht, hl, h => by
    have hx := hl x (by simp)
    exact crcB_inj hs ht hx (crcL_inj (l := l) (crcB_lt hs hx) (crcB_lt ht hx) (fun y hy => hl y (by simp [hy])) h)
theorem crcL_app (s : Nat) (l l' : List Nat) : crcL s (l ++ l') = crcL (crcL s l) l' := by unfold crcL; rw [List.foldl_append]
theorem four_inj {s a b c d a' b' c' d' : Nat} (hs : s < 4294967296) (h : a < 256 ∧ b < 256 ∧ c < 256 ∧ d < 256) (h' : a' < 256 ∧ b' < 256 ∧ c' < 256 ∧ d' < 256) (he : crcL s [a, b, c, d] = crcL s [a', b', c', d']) :
    a = a' ∧ b = b' ∧ c = c' ∧ d = d' := by
  rw [crc_four, crc_four] at he
  have hX := four_lt h.1 h.2.1 h.2.2.1 h.2.2.2
  have hY := four_lt h'.1 h'.2.1 h'.2.2.1 h'.2.2.2
  have b1 : s ^^^ four a b c d < 4294967296 := Nat.xor_lt_two_pow (n := 32) (by omega) (by omega)
  have b2 : s ^^^ four a' b' c' d' < 4294967296 := Nat.xor_lt_two_pow (n := 32) (by omega) (by omega)
  have h1 := crcN_inj 8 (crcN_lt 8 (crcN_lt 8 (crcN_lt 8 b1))) (crcN_lt 8 (crcN_lt 8 (crcN_lt 8 b2))) he
  have h2 := crcN_inj 8 (crcN_lt 8 (crcN_lt 8 b1)) (crcN_lt 8 (crcN_lt 8 b2)) h1
  have h3 := crcN_inj 8 (crcN_lt 8 b1) (crcN_lt 8 b2) h2
  have h4 := xor_cancel' (crcN_inj 8 b1 b2 h3)
  rw [four_eq h.1 h.2.1 h.2.2.1, four_eq h'.1 h'.2.1 h'.2.2.1] at h4
  omega
theorem not32 {s : Nat} (h : s < 4294967296) : s ^^^ (4294967295 - s) = 4294967295 := by
  apply Nat.eq_of_testBit_eq
  intro i
  rw [Nat.testBit_xor, show 4294967295 - s = 2 ^ 32 - (s + 1) by omega, Nat.testBit_two_pow_sub_succ (by omega), show 4294967295 = 2 ^ 32 - 1 from rfl, Nat.testBit_two_pow_sub_one]
  by_cases hi : i < 32
  · simp [hi]
  · rw [Nat.testBit_lt_two_pow (Nat.lt_of_lt_of_le h (show 4294967296 ≤ 2 ^ i from by rw [show 4294967296 = 2 ^ 32 from rfl]; exact Nat.pow_le_pow_right (by omega) (by omega)))]
    simp [hi]
/-- the last four bytes are the sum of the others -/
def Fits (l : List Nat) : Prop := l.drop (l.length - 4) = leB (crcS (l.take (l.length - 4))) 4
theorem leB_four (C : Nat) : leB C 4 = [C % 256, C / 256 % 256, C / 65536 % 256, C / 16777216 % 256] := by
  simp only [leB, List.range_succ, List.range_zero, List.map_cons, List.map_nil, List.nil_append, List.cons_append, Nat.pow_zero, Nat.div_one]
theorem fits_end {l : List Nat} (hl : ∀ x ∈ l, x < 256) (h : Fits l) : crcL 4294967295 l = crcN 8 (crcN 8 (crcN 8 (crcN 8 4294967295))) := by
  unfold Fits at h
  have hS := crcL_lt (l := l.take (l.length - 4)) (s := 4294967295) (by omega) (fun x hx => hl x (List.mem_of_mem_take hx))
  have e : crcL 4294967295 l = crcL 4294967295 (l.take (l.length - 4) ++ l.drop (l.length - 4)) := by rw [List.take_append_drop]
  rw [e, crcL_app, h, leB_four, crc_four, four_eq (by omega) (by omega) (by omega)]
  unfold crcS
  obtain ⟨S, hSS⟩ : ∃ S, S = crcL 4294967295 (l.take (l.length - 4)) := ⟨_, rfl⟩
  rw [← hSS] at hS ⊢
  have h9 : (4294967295 - S) % 256 + 256 * ((4294967295 - S) / 256 % 256 + 256 * ((4294967295 - S) / 65536 % 256 + 256 * ((4294967295 - S) / 16777216 % 256))) = 4294967295 - S := by omega
  rw [h9, not32 hS]
/-- of two rows of bytes that part in four bytes side by side only one fits -/
theorem burst {P R : List Nat} {a b c d a' b' c' d' : Nat} (hl : ∀ x ∈ P ++ [a, b, c, d] ++ R, x < 256) (hl' : ∀ x ∈ P ++ [a', b', c', d'] ++ R, x < 256) (hne : ¬ (a = a' ∧ b = b' ∧ c = c' ∧ d = d'))
    (h : Fits (P ++ [a, b, c, d] ++ R)) : ¬ Fits (P ++ [a', b', c', d'] ++ R) := by
  intro h'
  have e := (fits_end hl h).trans (fits_end hl' h').symm
  rw [crcL_app, crcL_app, crcL_app, crcL_app] at e
  have hP := crcL_lt (l := P) (s := 4294967295) (by omega) (fun x hx => hl x (by simp [hx]))
  have q : a < 256 ∧ b < 256 ∧ c < 256 ∧ d < 256 := ⟨hl a (by simp), hl b (by simp), hl c (by simp), hl d (by simp)⟩
  have q' : a' < 256 ∧ b' < 256 ∧ c' < 256 ∧ d' < 256 := ⟨hl' a' (by simp), hl' b' (by simp), hl' c' (by simp), hl' d' (by simp)⟩
  have h1 := crcL_lt (l := [a, b, c, d]) hP (fun x hx => hl x (by simp at hx ⊢; rcases hx with rfl | rfl | rfl | rfl <;> simp))
  have h2 := crcL_lt (l := [a', b', c', d']) hP (fun x hx => hl' x (by simp at hx ⊢; rcases hx with rfl | rfl | rfl | rfl <;> simp))
  exact hne (four_inj hP q q' (crcL_inj h1 h2 (fun x hx => hl x (by simp [hx])) e))
end Go.Proofs.Ytgbopmgeicokoaa
