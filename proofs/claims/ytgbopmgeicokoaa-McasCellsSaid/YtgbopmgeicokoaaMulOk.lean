/-
  What a memory that may be satisfies; its words at the beginning.
-/
import Derived.Test.YtgbopmgeicokoaaMul
namespace Go.Proofs.Ytgbopmgeicokoaa
open Go.RowKit

structure OkF (c : Mul) : Prop where
  t1 : 1 ≤ c.threads
  t2 : c.threads ≤ 16
  u1 : 1 ≤ c.uses
  u2 : c.uses ≤ 64
  n1 : 1 ≤ c.cells.length
  n2 : c.cells.length ≤ 32
  m2 : c.swaps.length ≤ 16
  cv : ∀ x ∈ c.cells, 0 ≤ x ∧ x ≤ 1048575
  sw : ∀ es ∈ c.swaps, swapB c.cells.length es = true

theorem valB_iff {v : Int} : valB v = true ↔ 0 ≤ v ∧ v ≤ 1048575 := by simp [valB]
theorem OkF.of {c : Mul} (h : okB c = true) : OkF c := by
  simp only [okB, headB, Bool.and_eq_true, decide_eq_true_eq, List.all_eq_true] at h
  obtain ⟨⟨h1, h2, h3, h4, h5, h6, h7⟩, h8, h9⟩ := h
  exact ⟨h1, h2, h6, h7, h3, h4, h5, fun x hx => valB_iff.1 (h8 x hx), h9⟩

theorem entsB_mem {n : Nat} {last : Int} {es : List Ent} (h : entsB n last es = true) : ∀ e ∈ es, last < e.1 ∧ e.1 < n ∧ valB e.2.1 = true ∧ valB e.2.2 = true := by
  induction es generalizing last with
  | nil => intro e he; cases he
  | cons a r ih =>
    simp only [entsB, Bool.and_eq_true, decide_eq_true_eq] at h
    obtain ⟨h1, h2, h3, h4, h5⟩ := h
    intro e he
    rcases List.mem_cons.1 he with rfl | he
    · exact ⟨h1, h2, h3, h4⟩
    · obtain ⟨a1, a2, a3, a4⟩ := ih h5 e he
      exact ⟨by omega, a2, a3, a4⟩

/-- how many words -/
def nwN (c : Mul) : Nat := c.cells.length + c.threads.toNat + 2 * c.threads.toNat * c.uses.toNat
theorem OkF.tu {c : Mul} (h : OkF c) : 0 ≤ c.threads * c.uses ∧ c.threads * c.uses ≤ 1024 := by
  have h1 := h.t1; have h2 := h.t2; have h3 := h.u1; have h4 := h.u2
  constructor
  · exact Int.mul_nonneg (by omega) (by omega)
  · calc c.threads * c.uses ≤ 16 * 64 := Int.mul_le_mul h2 h4 (by omega) (by omega)
      _ = 1024 := rfl
theorem nwN_int {c : Mul} (h : OkF c) : ((nwN c : Nat) : Int) = (c.cells.length : Int) + c.threads + 2 * c.threads * c.uses := by
  have h1 := h.t1; have h3 := h.u1
  unfold nwN
  rw [Int.natCast_add, Int.natCast_add, Int.natCast_mul, Int.natCast_mul, Int.toNat_of_nonneg (by omega), Int.toNat_of_nonneg (by omega)]
  rfl
theorem OkF.tu2 {c : Mul} (h : OkF c) : 0 ≤ 2 * c.threads * c.uses ∧ 2 * c.threads * c.uses ≤ 2048 := by
  have := h.tu
  rw [Int.mul_assoc]
  omega
theorem nwN_le {c : Mul} (h : OkF c) : nwN c ≤ 2096 ∧ c.cells.length ≤ nwN c := by
  have h1 := nwN_int h; have h2 := h.tu2; have h3 := h.t2; have h4 := h.n2; have h5 := h.t1
  omega

/-- the words at the beginning -/
def wordsOf (c : Mul) : List Int := c.cells.map (4 * ·) ++ List.replicate (nwN c - c.cells.length) 0
theorem wordsOf_len {c : Mul} (h : OkF c) : (wordsOf c).length = nwN c := by
  have := nwN_le h
  simp [wordsOf]; omega
end Go.Proofs.Ytgbopmgeicokoaa
