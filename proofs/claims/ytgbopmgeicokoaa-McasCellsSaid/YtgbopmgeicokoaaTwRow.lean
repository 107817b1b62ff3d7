/-
  The rows that twin grows: a row of headers, each the header of a row of its own.
-/
import Derived.Test.YtgbopmgeicokoaaMul
import Derived.Test.YtgbopmgeicokoaaApp
import Derived.Test.YtgbopmgeicokoaaMcasWd
import Derived.Lib.OwnKind
namespace Go.Proofs.Ytgbopmgeicokoaa
open Go.RowKit

theorem info_ent : (Try.prog.info? 232).map (fun i => (i.zero, i.size, i.bytes)) = some (some (.agg #[.int .i64 0, .int .i64 0, .int .i64 0]), 3, 24) := by kernel_rfl
theorem info_ents : (Try.prog.info? 143).map (fun i => (i.zero, i.size, i.bytes)) = some (some (.slice none 0 0), 1, 24) := by kernel_rfl

theorem ints_one {l : List Int} : ∀ u ∈ ints l, u.oneCell' = true := by
  intro u hu
  obtain ⟨x, _, rfl⟩ := List.mem_map.1 hu
  rfl
theorem entVals_one {l : List Ent} : ∀ u ∈ entVals l, u.oneCell' = true := by
  intro u hu
  obtain ⟨x, _, hx⟩ := List.mem_flatMap.1 hu
  simp at hx
  rcases hx with rfl | rfl | rfl <;> rfl
theorem hd_one {A : Option Addr} {n k : Nat} : ∀ u ∈ [Value.slice A n k], u.oneCell' = true := by
  intro u hu
  simp at hu
  subst hu
  rfl
theorem lit_one (w : World) (A : Option Addr) (n k : Nat) (t : TypeId) : Sl (w.alloc (.cells #[.slice A n k] t)) (w.alloc (.cells #[.slice A n k] t)).heap.size 1 (some ⟨w.heap.size, 0, none⟩) 1 [.slice A n k] :=
  (Blk.new w t [.slice A n k]).sl rfl
theorem made_d {B : Nat} (w : World) (e : TypeId) (size : Nat) (hB : B ≤ w.heap.size) : (w.alloc (.cells #[] e)).drew.ownsRow B e size (.slice (some ⟨w.heap.size, 0, none⟩) 0 0) 0 [] :=
  World.ownsRow_made w #[] 0 hB (Nat.zero_le _) (by simp)

section
variable {w w' : World} {B g n n' s s' : Nat} {e e' t : TypeId} {v v' : Value} {xs xs' cs : List Value}
/-- rows of two types lie apart -/
theorem own_apart (h : w.ownsRow B e s v n xs) (h' : w.ownsRow B e' s' v' n' xs') (hne : e ≠ e') : v.ownBlock = none ∨ v.ownBlock ≠ v'.ownBlock := by
  cases hv : v.ownBlock with
  | none => exact Or.inl rfl
  | some q =>
    refine Or.inr (fun he => ?_)
    obtain ⟨c1, f1, e1⟩ := Lib.ownsRow_kind h q hv
    obtain ⟨c2, f2, e2⟩ := Lib.ownsRow_kind h' q he.symm
    rw [e1] at e2
    injection e2 with e2
    injection e2 with _ e2
    exact hne e2
theorem own_blk (h : w.ownsRow B e s v n xs) (hB : Blk w g t cs) (hne : e ≠ t) : some g ≠ v.ownBlock := by
  intro he
  obtain ⟨c1, f1, e1⟩ := Lib.ownsRow_kind h g he.symm
  unfold Blk at hB
  rw [e1] at hB
  injection hB with hB
  injection hB with _ ht
  exact hne ht
/-- a row kept while a new row is made behind it -/
theorem own_new {q : Nat} (h : w.ownsRow B e s v n xs) (hg : w.grownBy w' (some q)) (hq : w.heap.size ≤ q) : w'.ownsRow B e s v n xs := by
  refine h.kept hg (Or.inr (fun he => ?_))
  have := (h.lt q he).2
  omega
end

/-- v is a row of j headers: the headers of rows of their own, of the swaps -/
def Hds (w : World) (B : Nat) (v : Value) (j : Nat) (c : Mul) : Prop :=
  ∃ hs : List (Option Addr × Nat × Nat), w.ownsRow B 143 1 v j (hs.map hdV) ∧ hs.length = j ∧
    ∀ (i : Nat) (h : Option Addr × Nat × Nat), hs[i]? = some h → ∃ es, c.swaps[i]? = some es ∧ w.ownsRow B 232 3 (hdV h) es.length (entVals es)

section
variable {w w' : World} {B j g i : Nat} {v u : Value} {c : Mul} {cs : List Value}
theorem Hds.nil : Hds w B (.slice none 0 0) 0 c := ⟨[], World.ownsRow_nil _ _ _ _, rfl, fun i h hi => by simp at hi⟩
theorem Hds.row (h : Hds w B v j c) : ∃ xs, w.ownsRow B 143 1 v j xs := by
  obtain ⟨hs, h1, _, _⟩ := h
  exact ⟨_, h1⟩
theorem Hds.new {q : Nat} (h : Hds w B v j c) (hg : w.grownBy w' (some q)) (hq : w.heap.size ≤ q) : Hds w' B v j c := by
  obtain ⟨hs, h1, h2, h3⟩ := h
  refine ⟨hs, own_new h1 hg hq, h2, fun i x hx => ?_⟩
  obtain ⟨es, he, ho⟩ := h3 i x hx
  exact ⟨es, he, own_new ho hg hq⟩
theorem Hds.alloc (h : Hds w B v j c) (o : Obj) : Hds (w.alloc o) B v j c := by
  obtain ⟨hs, h1, h2, h3⟩ := h
  refine ⟨hs, h1.alloc o, h2, fun i x hx => ?_⟩
  obtain ⟨es, he, ho⟩ := h3 i x hx
  exact ⟨es, he, ho.alloc o⟩
theorem Hds.far (h : Hds w B v j c) (hB : Blk w g 33 cs) : Hds (w.setCell ⟨g, i, none⟩ u) B v j c := by
  obtain ⟨hs, h1, h2, h3⟩ := h
  refine ⟨hs, own_far h1 hB (by decide), h2, fun i x hx => ?_⟩
  obtain ⟨es, he, ho⟩ := h3 i x hx
  exact ⟨es, he, own_far ho hB (by decide)⟩
/-- one header more -/
theorem Hds.next {hs : List (Option Addr × Nat × Nat)} {es : List Ent} {A1 A2 : Option Addr} {n1 k1 k2 : Nat} (h1 : w.ownsRow B 143 1 v j (hs.map hdV)) (h2 : hs.length = j)
    (h3 : ∀ (i : Nat) (h : Option Addr × Nat × Nat), hs[i]? = some h → ∃ es, c.swaps[i]? = some es ∧ w.ownsRow B 232 3 (hdV h) es.length (entVals es))
    (hx : c.swaps[j]? = some es) (hn : n1 = es.length) (hnew : w.ownsRow B 232 3 (.slice A1 n1 k1) n1 (entVals es)) (hg : w.grownBy w' v.ownBlock)
    (ho : w'.ownsRow B 143 1 (.slice A2 (j + 1) k2) (j + 1) (hs.map hdV ++ [.slice A1 n1 k1])) : Hds w' B (.slice A2 (j + 1) k2) (j + 1) c := by
  subst hn
  subst h2
  refine ⟨hs ++ [(A1, es.length, k1)], by simpa using ho, by simp, fun i x hi => ?_⟩
  by_cases hlt : i < hs.length
  · rw [List.getElem?_append_left hlt] at hi
    obtain ⟨es', he, hw⟩ := h3 i x hi
    exact ⟨es', he, hw.kept hg (own_apart hw h1 (by decide))⟩
  · rw [List.getElem?_append_right (by omega)] at hi
    obtain ⟨hj, hx2⟩ : i - hs.length = 0 ∧ x = (A1, es.length, k1) := by
      cases hd : i - hs.length with
      | zero => rw [hd] at hi; simp at hi; exact ⟨rfl, hi.symm⟩
      | succ q => rw [hd] at hi; simp at hi
    obtain rfl : i = hs.length := by omega
    subst hx2
    exact ⟨es, hx, hnew.kept hg (own_apart hnew h1 (by decide))⟩
end
end Go.Proofs.Ytgbopmgeicokoaa
