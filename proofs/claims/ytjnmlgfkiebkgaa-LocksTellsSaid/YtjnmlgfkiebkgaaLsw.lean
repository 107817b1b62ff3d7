/-
  Rows behind the shelf's sort: what a row holds, said by its list. No program in sight.
-/
import Derived.Test.YtjnmlgfkiebkgaaLcp
import Derived.Shelf.SlSortCmp.KitK
namespace Go.Proofs.Ytjnmlgfkiebkgaa
open Go.RowKit Go.Shelf
open Go.Sort (putRowK putRow size_putRowK HoldsK flatK size_flatK get_flatK)
set_option linter.unusedVariables false
set_option linter.unusedSimpArgs false

section
variable {α : Type} [Inhabited α] {enc : α → List Value} {k : Nat}
theorem sort_grown {w : World} {g n : Nat} {os : Array Obj} (d : Array α) : w.grownBy (sortWorldK enc k w g 0 n d os) (some g) := by
  unfold sortWorldK
  refine ⟨rfl, rfl, rfl, ?_, fun j hj hne => ?_⟩
  · rw [Sort.size_grow, size_putRowK]
    exact Nat.le_add_right _ _
  · rw [Sort.heap_grow_old _ _ (by rw [size_putRowK]; exact hj)]
    have : g ≠ j := fun e => hne (by rw [e])
    simp [putRowK, Sort.putRow, Sort.mapBlock, Sort.ahead, Array.getElem?_modify, this]
omit [Inhabited α] in
theorem flat_lenL (hk : ∀ x, (enc x).length = k) (l : List α) : (l.flatMap enc).length = l.length * k := by
  induction l with
  | nil => simp
  | cons a l ih => simp only [List.flatMap_cons, List.length_append, ih, hk, List.length_cons, Nat.add_mul, Nat.one_mul]; omega
omit [Inhabited α] in
theorem flat_getL (hk : ∀ x, (enc x).length = k) {l : List α} {t : Nat} {x : α} (hx : l[t]? = some x) (j : Nat) (hj : j < k) : (l.flatMap enc)[t * k + j]? = (enc x)[j]? := by
  induction l generalizing t with
  | nil => simp at hx
  | cons a l ih =>
    rw [List.flatMap_cons]
    cases t with
    | zero =>
      simp at hx
      subst hx
      rw [List.getElem?_append_left (by rw [hk]; omega)]
      simp
    | succ t =>
      rw [List.getElem?_append_right (by rw [hk, Nat.add_mul]; omega), hk, show (t + 1) * k + j - k = t * k + j by rw [Nat.add_mul]; omega]
      exact ih (by simpa using hx)
theorem flatK_list (hk : ∀ x, (enc x).length = k) (d : Array α) : (flatK enc k d).toList = d.toList.flatMap enc := by
  refine List.ext_getElem? fun t => ?_
  by_cases ht : t < d.size * k
  · have k0 : 0 < k := by rcases Nat.eq_zero_or_pos k with h | h; · subst h; simp at ht
                          · exact h
    have h1 : t / k < d.size := (Nat.div_lt_iff_lt_mul k0).2 ht
    have h2 : d.toList[t / k]? = some d[t / k]! := by rw [Array.getElem?_toList, Array.getElem?_eq_getElem h1, getElem!_pos d _ h1]
    have h3 := flat_getL hk h2 (t % k) (Nat.mod_lt _ k0)
    rw [show t / k * k + t % k = t by rw [Nat.mul_comm]; exact Nat.div_add_mod t k] at h3
    rw [h3, Array.getElem?_toList, Array.getElem?_eq_getElem (by rw [size_flatK]; exact ht)]
    have h4 := get_flatK enc k d t ht
    rw [getElem!_pos _ t (by rw [size_flatK]; exact ht)] at h4
    rw [h4]
    have h5 : t % k < (enc d[t / k]!).length := by rw [hk]; exact Nat.mod_lt _ k0
    rw [List.getElem?_eq_getElem h5, getElem!_pos (enc d[t / k]!) (t % k) h5]
  · rw [List.getElem?_eq_none (by simp; omega), List.getElem?_eq_none (by rw [flat_lenL hk]; simp; omega)]
theorem row_holds {W : World} {B g cap : Nat} {t : TypeId} (hk : ∀ x, (enc x).length = k) (d : Array α) (h : W.ownsRow B t k (.slice (some ⟨g, 0, none⟩) d.size cap) d.size (d.toList.flatMap enc)) : HoldsK enc k W g 0 d := fun j hj => by
  rw [size_flatK] at hj
  rw [Nat.zero_add]
  refine ⟨(h.cellAt j hj).trans ?_, h.frozenAt j⟩
  rw [← flatK_list hk d, Array.getElem?_toList, Array.getElem?_eq_getElem (by rw [size_flatK]; exact hj), getElem!_pos _ j (by rw [size_flatK]; exact hj)]
  rfl
theorem row_sorted {W : World} {B g cap m : Nat} {t : TypeId} {os : Array Obj} (hk : ∀ x, (enc x).length = k) (d d' : Array α) (hs : d'.size = d.size) (h : W.ownsRow B t k (.slice (some ⟨g, 0, none⟩) d.size cap) d.size (d.toList.flatMap enc)) :
    (sortWorldK enc k W g 0 m d' os).ownsRow B t k (.slice (some ⟨g, 0, none⟩) d.size cap) d.size (d'.toList.flatMap enc) := by
  refine ⟨by rw [flat_lenL hk]; simp [hs], ?_⟩
  rcases h.2 with ⟨h0, _⟩ | ⟨g', cap', cur, hv, hB, hg, h1, h2, h3, h4⟩
  · cases h0
  · injection hv with hA _ hc
    injection hA with hA
    injection hA with hA
    subst hA hc
    refine Or.inr ⟨g, cap, Sort.putCells id 0 (flatK enc k d') cur, rfl, hB, ?_, h1, h2, ?_, ?_⟩
    · have hlt : g < W.heap.size := (Array.getElem?_eq_some_iff.1 hg).1
      unfold sortWorldK
      rw [Sort.heap_grow_old _ _ (by rw [size_putRowK]; exact hlt)]
      simp [putRowK, Sort.putRow, Sort.mapBlock, Sort.ahead, Array.getElem?_modify, hg, Sort.onCells]
    · simpa [Sort.putCells] using h3
    · rw [← flatK_list hk d']
      refine List.ext_getElem? fun t => ?_
      have hn : d.size * k ≤ cur.size := by rw [h3]; exact Nat.mul_le_mul_right k h1
      by_cases ht : t < d.size * k
      · rw [List.getElem?_take_of_lt ht, Array.getElem?_toList, Array.getElem?_toList]
        have : t < (flatK enc k d').size := by rw [size_flatK, hs]; exact ht
        simp [Sort.putCells, Array.getElem?_mapIdx, this, show t < cur.size by omega, size_flatK, hs, ht, getElem!_pos (flatK enc k d') t this]
      · rw [List.getElem?_eq_none (by simp; omega), List.getElem?_eq_none (by simp [size_flatK, hs]; omega)]
end
end Go.Proofs.Ytjnmlgfkiebkgaa
