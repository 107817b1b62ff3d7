/-
  A row that has a block of its own, by its block. No program in sight.
-/
import Derived.Test.YtjnmlgfkiebkgaaApp0
namespace Go.Proofs.Ytjnmlgfkiebkgaa
open Go.RowKit
set_option linter.unusedVariables false
set_option linter.unusedSimpArgs false

def Rw (W : World) (g : Nat) (t : TypeId) (sz n k : Nat) (xs : List Value) : Prop :=
  xs.length = n * sz ∧ ∃ cs : List Value, Blk W g t cs ∧ cs.length = k * sz ∧ cs.take (n * sz) = xs ∧ n ≤ k ∧ k ≤ maxLen
section
variable {W W' : World} {g sz n k : Nat} {t : TypeId} {xs : List Value}
theorem Rw.len (h : Rw W g t sz n k xs) : xs.length = n * sz := h.1
theorem Rw.nk (h : Rw W g t sz n k xs) : n ≤ k ∧ k ≤ maxLen := by obtain ⟨_, _, _, _, _, h1, h2⟩ := h; exact ⟨h1, h2⟩
theorem Rw.lt (h : Rw W g t sz n k xs) : g < W.heap.size := by obtain ⟨_, _, h1, _⟩ := h; exact h1.lt
theorem Rw.frozen (h : Rw W g t sz n k xs) (i : Nat) : W.frozen? ⟨g, i, none⟩ = false := by obtain ⟨_, _, h1, _⟩ := h; exact h1.frozen i
theorem Rw.cell (h : Rw W g t sz n k xs) {j : Nat} {v : Value} (hv : xs[j]? = some v) : W.cell? ⟨g, j, none⟩ = some v := by
  obtain ⟨hl, cs, h1, _, h3, _⟩ := h
  refine h1.cell ?_
  have hj := (List.getElem?_eq_some_iff.1 hv).1
  rw [← h3, List.getElem?_take_of_lt (by omega)] at hv
  exact hv
theorem Rw.kept (h : Rw W g t sz n k xs) (hk : W'.heap[g]? = W.heap[g]?) : Rw W' g t sz n k xs := by
  obtain ⟨hl, cs, h1, h2⟩ := h
  exact ⟨hl, cs, h1.kept hk, h2⟩
theorem Rw.below {B : Nat} (h : Rw W g t sz n k xs) (hb : Below B W W') (hg : g < B) : Rw W' g t sz n k xs := h.kept (hb.block g hg)
theorem Rw.on (h : Rw W g t sz n k xs) (hb : Below W.heap.size W W') : Rw W' g t sz n k xs := h.below hb h.lt
theorem Rw.alloc (h : Rw W g t sz n k xs) (o : Obj) : Rw (W.alloc o) g t sz n k xs := h.kept (Below.heap_alloc W o g h.lt)
theorem Rw.far (h : Rw W g t sz n k xs) {p : Addr} (hp : g ≠ p.block) (u : Value) : Rw (W.setCell p u) g t sz n k xs := h.kept (Below.heap_setCell W p u g hp)
theorem Rw.drew (h : Rw W g t sz n k xs) : Rw W.drew g t sz n k xs := h
theorem Rw.set_ (h : Rw W g t sz n k xs) (j : Nat) (u : Value) : Rw (W.setCell ⟨g, j, none⟩ u) g t sz n k (xs.set j u) := by
  obtain ⟨hl, cs, h1, h2, h3, h4⟩ := h
  refine ⟨by rw [List.length_set]; exact hl, cs.set j u, h1.set_ j u, by rw [List.length_set]; exact h2, ?_, h4⟩
  rw [List.take_set, h3]
theorem Rw.sl (h : Rw W g t sz n k xs) : Sl W W.heap.size sz (some ⟨g, 0, none⟩) n xs :=
  ⟨h.1, fun _ => ⟨g, 0, rfl, h.lt, fun j u hu => by rw [Nat.zero_add]; exact h.cell hu⟩⟩
theorem Rw.of_own {B : Nat} {A : Option Addr} (h : W.ownsRow B t sz (.slice A n k) n xs) (hN : 0 < n) : ∃ g, A = some ⟨g, 0, none⟩ ∧ B ≤ g ∧ Rw W g t sz n k xs := by
  have hl := h.1
  rcases h.2 with ⟨_, h0⟩ | ⟨g, cap, cur, hv, hB, hg, h1, h2, h3, h4⟩
  · omega
  · injection hv with hA _ hk
    subst hA hk
    exact ⟨g, rfl, hB, hl, cur.toList, by unfold Blk; rw [hg], by simpa using h3, h4, h1, h2⟩
theorem Rw.own {B : Nat} (h : Rw W g t sz n k xs) (hB : B ≤ g) : W.ownsRow B t sz (.slice (some ⟨g, 0, none⟩) n k) n xs := by
  obtain ⟨hl, cs, h1, h2, h3, h4, h5⟩ := h
  exact ⟨hl, Or.inr ⟨g, k, cs.toArray, rfl, hB, h1, h4, h5, by simp [h2], by simpa using h3⟩⟩
end
end Go.Proofs.Ytjnmlgfkiebkgaa
