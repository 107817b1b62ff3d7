/-
  Four bytes side by side, changed by a number's four bytes.
-/
import Derived.Test.YtgbopmgeicokoaaBur
namespace Go.Proofs.Ytgbopmgeicokoaa
open Go.RowKit

def xrL (l : List Nat) (a c : Nat) : Nat → List Nat
  | 0 => l
  | k + 1 => (xrL l a c k).set (a + k) (((xrL l a c k)[a + k]?.getD 0) ^^^ (c / 256 ^ k % 256))
theorem xrL_len (l : List Nat) (a c : Nat) : ∀ k, (xrL l a c k).length = l.length
  | 0 => rfl
  | k + 1 => by unfold xrL; rw [List.length_set]; exact xrL_len l a c k
theorem xor_lt8 {x y : Nat} (hx : x < 256) (hy : y < 256) : x ^^^ y < 256 := Nat.xor_lt_two_pow (n := 8) (by omega) (by omega)
theorem getD_lt {l : List Nat} (hl : ∀ x ∈ l, x < 256) (j : Nat) : l[j]?.getD 0 < 256 := by
  cases h : l[j]? with
  | none => simp
  | some x => exact hl x (List.mem_of_getElem? h)
theorem xrL_lt {l : List Nat} (hl : ∀ x ∈ l, x < 256) (a c : Nat) : ∀ k, ∀ x ∈ xrL l a c k, x < 256
  | 0 => hl
  | k + 1 => by
    intro x hx
    unfold xrL at hx
    rcases List.mem_or_eq_of_mem_set hx with h | h
    · exact xrL_lt hl a c k x h
    · rw [h]
      exact xor_lt8 (getD_lt (xrL_lt hl a c k) _) (by omega)
theorem set_mid (P : List Nat) (x y : Nat) (R : List Nat) : (P ++ x :: R).set P.length y = P ++ y :: R := by simp
theorem get_mid (P : List Nat) (x : Nat) (R : List Nat) : (P ++ x :: R)[P.length]?.getD 0 = x := by simp
theorem xrL_four (P R : List Nat) (a b d e c : Nat) : xrL (P ++ [a, b, d, e] ++ R) P.length c 4 = P ++ [a ^^^ (c % 256), b ^^^ (c / 256 % 256), d ^^^ (c / 65536 % 256), e ^^^ (c / 16777216 % 256)] ++ R := by
  have e0 : xrL (P ++ [a, b, d, e] ++ R) P.length c 1 = P ++ [a ^^^ (c % 256), b, d, e] ++ R := by
    show (P ++ [a, b, d, e] ++ R).set (P.length + 0) ((P ++ [a, b, d, e] ++ R)[P.length + 0]?.getD 0 ^^^ (c / 256 ^ 0 % 256)) = _
    rw [Nat.add_zero, List.append_assoc, Nat.pow_zero, Nat.div_one]
    show (P ++ a :: ([b, d, e] ++ R)).set P.length ((P ++ a :: ([b, d, e] ++ R))[P.length]?.getD 0 ^^^ (c % 256)) = _
    rw [set_mid, get_mid]
    simp
  have e1 : xrL (P ++ [a, b, d, e] ++ R) P.length c 2 = P ++ [a ^^^ (c % 256), b ^^^ (c / 256 % 256), d, e] ++ R := by
    show (xrL (P ++ [a, b, d, e] ++ R) P.length c 1).set (P.length + 1) ((xrL (P ++ [a, b, d, e] ++ R) P.length c 1)[P.length + 1]?.getD 0 ^^^ (c / 256 ^ 1 % 256)) = _
    rw [e0, Nat.pow_one]
    have h := set_mid (P ++ [a ^^^ (c % 256)]) b
    have g := get_mid (P ++ [a ^^^ (c % 256)]) b ([d, e] ++ R)
    rw [List.length_append, show [a ^^^ (c % 256)].length = 1 from rfl] at h g
    rw [show P ++ [a ^^^ (c % 256), b, d, e] ++ R = (P ++ [a ^^^ (c % 256)]) ++ b :: ([d, e] ++ R) by simp, g, h]
    simp
  have e2 : xrL (P ++ [a, b, d, e] ++ R) P.length c 3 = P ++ [a ^^^ (c % 256), b ^^^ (c / 256 % 256), d ^^^ (c / 65536 % 256), e] ++ R := by
    show (xrL (P ++ [a, b, d, e] ++ R) P.length c 2).set (P.length + 2) ((xrL (P ++ [a, b, d, e] ++ R) P.length c 2)[P.length + 2]?.getD 0 ^^^ (c / 256 ^ 2 % 256)) = _
    rw [e1, show (256 : Nat) ^ 2 = 65536 from rfl]
    have h := set_mid (P ++ [a ^^^ (c % 256), b ^^^ (c / 256 % 256)]) d
    have g := get_mid (P ++ [a ^^^ (c % 256), b ^^^ (c / 256 % 256)]) d ([e] ++ R)
    rw [List.length_append, show [a ^^^ (c % 256), b ^^^ (c / 256 % 256)].length = 2 from rfl] at h g
    rw [show P ++ [a ^^^ (c % 256), b ^^^ (c / 256 % 256), d, e] ++ R = (P ++ [a ^^^ (c % 256), b ^^^ (c / 256 % 256)]) ++ d :: ([e] ++ R) by simp, g, h]
    simp
  show (xrL (P ++ [a, b, d, e] ++ R) P.length c 3).set (P.length + 3) ((xrL (P ++ [a, b, d, e] ++ R) P.length c 3)[P.length + 3]?.getD 0 ^^^ (c / 256 ^ 3 % 256)) = _
  rw [e2, show (256 : Nat) ^ 3 = 16777216 from rfl]
  have h := set_mid (P ++ [a ^^^ (c % 256), b ^^^ (c / 256 % 256), d ^^^ (c / 65536 % 256)]) e
  have g := get_mid (P ++ [a ^^^ (c % 256), b ^^^ (c / 256 % 256), d ^^^ (c / 65536 % 256)]) e R
  rw [List.length_append, show [a ^^^ (c % 256), b ^^^ (c / 256 % 256), d ^^^ (c / 65536 % 256)].length = 3 from rfl] at h g
  rw [show P ++ [a ^^^ (c % 256), b ^^^ (c / 256 % 256), d ^^^ (c / 65536 % 256), e] ++ R = (P ++ [a ^^^ (c % 256), b ^^^ (c / 256 % 256), d ^^^ (c / 65536 % 256)]) ++ e :: R by simp, g, h]
  simp
theorem split4 {l : List Nat} {a : Nat} (h : a + 4 ≤ l.length) : ∃ P R x y z t, l = P ++ [x, y, z, t] ++ R ∧ P.length = a := by
  refine ⟨l.take a, l.drop (a + 4), l[a], l[a + 1], l[a + 2], l[a + 3], ?_, by rw [List.length_take]; omega⟩
  have e : l.drop a = l[a] :: l[a + 1] :: l[a + 2] :: l[a + 3] :: l.drop (a + 4) := by
    rw [List.drop_eq_getElem_cons (by omega), List.drop_eq_getElem_cons (i := a + 1) (by omega), List.drop_eq_getElem_cons (i := a + 1 + 1) (by omega), List.drop_eq_getElem_cons (i := a + 1 + 1 + 1) (by omega)]
  conv => lhs; rw [← List.take_append_drop a l, e]
  simp
theorem xor_same {a d : Nat} (h : a = a ^^^ d) : d = 0 := by
  have h2 : a ^^^ 0 = a ^^^ d := by rw [Nat.xor_zero]; exact h
  exact (xor_cancel' h2).symm
/-- an image of which four bytes side by side are changed does not fit -/
theorem xr_unfit {l : List Nat} {a c : Nat} (hl : ∀ x ∈ l, x < 256) (hf : Fits l) (h : a + 4 ≤ l.length) (hc : 0 < c ∧ c < 4294967296) : ¬ Fits (xrL l a c 4) := by
  have hlt := xrL_lt hl a c 4
  obtain ⟨P, R, x, y, z, t, rfl, rfl⟩ := split4 h
  rw [xrL_four] at hlt ⊢
  refine burst hl hlt ?_ hf
  rintro ⟨h1, h2, h3, h4⟩
  have g1 := xor_same h1
  have g2 := xor_same h2
  have g3 := xor_same h3
  have g4 := xor_same h4
  omega
end Go.Proofs.Ytgbopmgeicokoaa
