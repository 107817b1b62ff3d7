/-
  Rows of clocks: a row of headers, each the header of a row of its own.
-/
import Derived.Test.YtgbopmgeicokoaaArrOps
import Derived.Lib.OwnKind
namespace Go.Proofs.Ytgbopmgeicokoaa
open Go.RowKit

theorem own_apart' {w : World} {B n n' s s' : Nat} {e e' : TypeId} {v v' : Value} {xs xs' : List Value} (h : w.ownsRow B e s v n xs) (h' : w.ownsRow B e' s' v' n' xs') (hne : e ≠ e') : v.ownBlock = none ∨ v.ownBlock ≠ v'.ownBlock := by
  cases hv : v.ownBlock with
  | none => exact Or.inl rfl
  | some q =>
    refine Or.inr (fun he => ?_)
    obtain ⟨c1, f1, e1⟩ := Lib.ownsRow_kind h q hv
    obtain ⟨c2, f2, e2⟩ := Lib.ownsRow_kind h' q he.symm
    rw [e1] at e2
    injection e2 with e2
    injection e2 with _ e2
    exact hne e2
/-- v is a row of j headers: of rows of their own that hold T numbers each -/
def Rows (w : World) (B T : Nat) (v : Value) (j : Nat) (F : Nat → Clk) : Prop :=
  ∃ hs : List (Option Addr × Nat × Nat), w.ownsRow B 30 1 v j (hs.map hdV) ∧ hs.length = j ∧
    ∀ (i : Nat) (h : Option Addr × Nat × Nat), hs[i]? = some h → h.2.1 = T ∧ w.ownsRow B 3 1 (hdV h) T (ints (clkL T (F i)))
section
variable {w w' : World} {B T j : Nat} {v : Value} {F : Nat → Clk}
theorem Rows.nil : Rows w B T (.slice none 0 0) 0 F := ⟨[], World.ownsRow_nil _ _ _ _, rfl, fun i h hi => by simp at hi⟩
theorem Rows.row (h : Rows w B T v j F) : ∃ xs, w.ownsRow B 30 1 v j xs := by
  obtain ⟨hs, h1, _, _⟩ := h
  exact ⟨_, h1⟩
theorem Rows.keep (h : Rows w B T v j F) (hb : Below w.heap.size w w') : Rows w' B T v j F := by
  obtain ⟨hs, h1, h2, h3⟩ := h
  exact ⟨hs, h1.below hb, h2, fun i x hx => ⟨(h3 i x hx).1, (h3 i x hx).2.below hb⟩⟩
theorem Rows.kept {g : Nat} (h : Rows w B T v j F) (hg : w.grownBy w' (some g)) (hgB : g < B) : Rows w' B T v j F := by
  have far : ∀ {e sz n : Nat} {u : Value} {L : List Value}, w.ownsRow B e sz u n L → u.ownBlock = none ∨ u.ownBlock ≠ some g := by
    intro e sz n u L hu
    cases hv : u.ownBlock with
    | none => exact Or.inl rfl
    | some q => exact Or.inr (fun he => by have := (hu.lt q hv).1; injection he with he; omega)
  obtain ⟨hs, h1, h2, h3⟩ := h
  exact ⟨hs, h1.kept hg (far h1), h2, fun i x hx => ⟨(h3 i x hx).1, (h3 i x hx).2.kept hg (far (h3 i x hx).2)⟩⟩
/-- one header more -/
theorem Rows.next {hs : List (Option Addr × Nat × Nat)} {A1 A2 : Option Addr} {k1 k2 : Nat} (h1 : w.ownsRow B 30 1 v j (hs.map hdV)) (h2 : hs.length = j)
    (h3 : ∀ (i : Nat) (h : Option Addr × Nat × Nat), hs[i]? = some h → h.2.1 = T ∧ w.ownsRow B 3 1 (hdV h) T (ints (clkL T (F i))))
    (hnew : w.ownsRow B 3 1 (.slice A1 T k1) T (ints (clkL T (F j)))) (hg : w.grownBy w' v.ownBlock)
    (ho : w'.ownsRow B 30 1 (.slice A2 (j + 1) k2) (j + 1) (hs.map hdV ++ [.slice A1 T k1])) : Rows w' B T (.slice A2 (j + 1) k2) (j + 1) F := by
  subst h2
  refine ⟨hs ++ [(A1, T, k1)], by simpa using ho, by simp, fun i x hi => ?_⟩
  by_cases hlt : i < hs.length
  · rw [List.getElem?_append_left hlt] at hi
    obtain ⟨ht, hw⟩ := h3 i x hi
    exact ⟨ht, hw.kept hg (own_apart' hw h1 (by decide))⟩
  · rw [List.getElem?_append_right (by omega)] at hi
    obtain ⟨hj, hx2⟩ : i - hs.length = 0 ∧ x = (A1, T, k1) := by
      cases hd : i - hs.length with
      | zero => rw [hd] at hi; simp at hi; exact ⟨rfl, hi.symm⟩
      | succ q => rw [hd] at hi; simp at hi
    obtain rfl : i = hs.length := by omega
    subst hx2
    exact ⟨rfl, hnew.kept hg (own_apart' hnew h1 (by decide))⟩
/-- as it is read -/
theorem Rows.at_ (h : Rows w B T v j F) {A : Option Addr} {k : Nat} (hv : v = .slice A j k) {i : Nat} (hi : i < j) :
    ∃ b o A1 k1, A = some ⟨b, o, none⟩ ∧ b < w.heap.size ∧ w.cell? ⟨b, o + i, none⟩ = some (.slice A1 T k1) ∧ Sl w w.heap.size 1 A1 T (ints (clkL T (F i))) ∧ T ≤ k1 ∧ k1 ≤ maxLen := by
  subst hv
  obtain ⟨hs, h1, h2, h3⟩ := h
  obtain ⟨b, o, e, hb, hc⟩ := (Sl.of_own h1).2 (by omega)
  obtain ⟨x, hx⟩ := at_lt (show i < hs.length by omega)
  obtain ⟨ht, hw⟩ := h3 i x hx
  obtain ⟨A1, n1, k1⟩ := x
  dsimp only at ht
  subst ht
  obtain ⟨A3, k3, hv3, hk1, hk2⟩ := own_form hw
  injection hv3 with _ _ hk
  subst hk
  exact ⟨b, o, A1, k1, e, hb, hc i _ (by rw [List.getElem?_map, hx]; rfl), Sl.of_own hw, hk1, hk2⟩
end
theorem hd_one' {A : Option Addr} {n k : Nat} : ∀ u ∈ [Value.slice A n k], u.oneCell' = true := by
  intro u hu
  simp at hu
  subst hu
  rfl
theorem info_ints' : (Try.prog.info? 30).map (fun i => (i.zero, i.size, i.bytes)) = some (some (.slice none 0 0), 1, 24) := by kernel_rfl
end Go.Proofs.Ytgbopmgeicokoaa
