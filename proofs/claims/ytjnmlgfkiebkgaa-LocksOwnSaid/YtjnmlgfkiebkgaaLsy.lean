/-
  The stable sort by merges in place is the insertion sort (plain): blocks, all in all.
-/
import Derived.Test.YtjnmlgfkiebkgaaLso
import Derived.Sort.LotA
namespace Go.Proofs.Ytjnmlgfkiebkgaa
open Go.Sort
set_option linter.unusedVariables false
set_option linter.unusedSimpArgs false

/-- k elements from a + i and b + i on exchanged -/
def swr {α : Type} [Inhabited α] (a b : Nat) : Nat → Nat → Array α → Array α
  | _, 0, d => d
  | i, k + 1, d => swr a b (i + 1) k (swp d (a + i) (b + i))
theorem swr_size {α : Type} [Inhabited α] (a b i k : Nat) (d : Array α) : (swr a b i k d).size = d.size := by
  induction k generalizing i d with
  | zero => rfl
  | succ k ih => rw [swr, ih, size_swp]
/-- a rotation: i elements ahead of m, j from m on -/
def rotL {α : Type} [Inhabited α] (m : Nat) : Nat → Nat → Nat → Array α → Array α
  | 0, i, _, d => swr (m - i) m 0 i d
  | g + 1, i, j, d => if i = j then swr (m - i) m 0 i d else if j < i then rotL m g (i - j) j (swr (m - i) m 0 j d) else rotL m g i (j - i) (swr (m - i) (m + j - i) 0 i d)
theorem rotL_size {α : Type} [Inhabited α] (m g i j : Nat) (d : Array α) : (rotL m g i j d).size = d.size := by
  induction g generalizing i j d with
  | zero => exact swr_size _ _ _ _ _
  | succ g ih =>
    rw [rotL]
    split
    · exact swr_size _ _ _ _ _
    · split
      · rw [ih, swr_size]
      · rw [ih, swr_size]
/-- the first of i .. j of which p is not so, by halves -/
def bsF (p : Nat → Bool) : Nat → Nat → Nat → Nat
  | 0, i, _ => i
  | g + 1, i, j => if i < j then (if p ((i + j) / 2) then bsF p g ((i + j) / 2 + 1) j else bsF p g i ((i + j) / 2)) else i
/-- an element moved up, down -/
def upS {α : Type} [Inhabited α] : Nat → Nat → Array α → Array α
  | _, 0, d => d
  | k, c + 1, d => upS (k + 1) c (swp d k (k + 1))
def dnS {α : Type} [Inhabited α] : Nat → Nat → Array α → Array α
  | _, 0, d => d
  | k, c + 1, d => dnS (k - 1) c (swp d k (k - 1))
theorem upS_size {α : Type} [Inhabited α] (k c : Nat) (d : Array α) : (upS k c d).size = d.size := by
  induction c generalizing k d with
  | zero => rfl
  | succ c ih => rw [upS, ih, size_swp]
theorem dnS_size {α : Type} [Inhabited α] (k c : Nat) (d : Array α) : (dnS k c d).size = d.size := by
  induction c generalizing k d with
  | zero => rfl
  | succ c ih => rw [dnS, ih, size_swp]
/-- where a symmetric merge cuts -/
def symC {α : Type} [Inhabited α] (lt : α → α → Bool) (a m b : Nat) (d : Array α) : Nat :=
  bsF (fun c => !lt d[(a + b) / 2 + m - 1 - c]! d[c]!) (b - a) (if (a + b) / 2 < m then (a + b) / 2 + m - b else a) (if (a + b) / 2 < m then (a + b) / 2 else m)
/-- a symmetric merge -/
def symM {α : Type} [Inhabited α] (lt : α → α → Bool) : Nat → Nat → Nat → Nat → Array α → Array α
  | 0, _, _, _, d => d
  | g + 1, a, m, b, d =>
    if m = a + 1 then upS a (bsF (fun h => lt d[h]! d[a]!) (b - m) m b - 1 - a) d
    else if b = m + 1 then dnS m (m - bsF (fun h => !lt d[m]! d[h]!) (m - a) a m) d
    else
      let c := symC lt a m b d
      let e := (a + b) / 2 + m - c
      let d1 := if c < m ∧ m < e then rotL m (e - c) (m - c) (e - m) d else d
      let d2 := if a < c ∧ c < (a + b) / 2 then symM lt g a c ((a + b) / 2) d1 else d1
      if (a + b) / 2 < e ∧ e < b then symM lt g ((a + b) / 2) e b d2 else d2
theorem symM_size {α : Type} [Inhabited α] (lt : α → α → Bool) (g a m b : Nat) (d : Array α) : (symM lt g a m b d).size = d.size := by
  induction g generalizing a m b d with
  | zero => rfl
  | succ g ih =>
    rw [symM]
    split
    · exact upS_size _ _ _
    · split
      · exact dnS_size _ _ _
      · dsimp only
        have h1 : ∀ (p : Prop) [Decidable p] (x y : Array α), x.size = d.size → y.size = d.size → (if p then x else y).size = d.size := fun p _ x y hx hy => by
          split
          · exact hx
          · exact hy
        have g1 := h1 (symC lt a m b d < m ∧ m < (a + b) / 2 + m - symC lt a m b d) _ d (rotL_size m ((a + b) / 2 + m - symC lt a m b d - symC lt a m b d) (m - symC lt a m b d) ((a + b) / 2 + m - symC lt a m b d - m) d) rfl
        have g2 := h1 (a < symC lt a m b d ∧ symC lt a m b d < (a + b) / 2) _ _ ((ih a (symC lt a m b d) ((a + b) / 2) _).trans g1) g1
        exact h1 _ _ _ ((ih _ _ _ _).trans g2) g2
/-- blocks of twenty, each sorted -/
def insB {α : Type} [Inhabited α] (lt : α → α → Bool) (n : Nat) : Nat → Nat → Array α → Array α
  | 0, a, d => insertionSort lt d a n
  | g + 1, a, d => if a + 20 ≤ n then insB lt n g (a + 20) (insertionSort lt d a (a + 20)) else insertionSort lt d a n
/-- blocks of s merged two by two, from a on -/
def mrgB {α : Type} [Inhabited α] (lt : α → α → Bool) (n s : Nat) : Nat → Nat → Array α → Array α
  | 0, a, d => if a + s < n then symM lt n a (a + s) n d else d
  | g + 1, a, d => if a + 2 * s ≤ n then mrgB lt n s g (a + 2 * s) (symM lt n a (a + s) (a + 2 * s) d) else if a + s < n then symM lt n a (a + s) n d else d
/-- blocks of s, of 2 s .. -/
def mrgA {α : Type} [Inhabited α] (lt : α → α → Bool) (n : Nat) : Nat → Nat → Array α → Array α
  | 0, _, d => d
  | g + 1, s, d => if s < n then mrgA lt n g (s * 2) (mrgB lt n s n 0 d) else d
theorem insS_sz {α : Type} [Inhabited α] (lt : α → α → Bool) (d : Array α) (a b : Nat) : (insertionSort lt d a b).size = d.size := Go.Proofs.Ytjnmlgfkiebkgaa.insS_size lt d a b
theorem mrgB_size {α : Type} [Inhabited α] (lt : α → α → Bool) (n s g a : Nat) (d : Array α) : (mrgB lt n s g a d).size = d.size := by
  induction g generalizing a d with
  | zero =>
    rw [mrgB]
    split
    · exact symM_size _ _ _ _ _ _
    · rfl
  | succ g ih =>
    rw [mrgB]
    split
    · rw [ih, symM_size]
    · split
      · exact symM_size _ _ _ _ _ _
      · rfl
end Go.Proofs.Ytjnmlgfkiebkgaa
namespace Go.Proofs.Ytjnmlgfkiebkgaa
open Go.Sort
set_option linter.unusedVariables false
set_option linter.unusedSimpArgs false

section gets
variable {α : Type} [Inhabited α]
theorem swr_get (a b k : Nat) (h1 : a + k ≤ b) : ∀ (i : Nat) (j : Nat) (d : Array α), i + j = k → b + k ≤ d.size → ∀ x,
    (a + i ≤ x → x < a + k → (swr a b i j d)[x]! = d[x + (b - a)]!) ∧ (b + i ≤ x → x < b + k → (swr a b i j d)[x]! = d[x - (b - a)]!) ∧
    ((x < a + i ∨ a + k ≤ x) → (x < b + i ∨ b + k ≤ x) → (swr a b i j d)[x]! = d[x]!) := by
  intro i j
  induction j generalizing i with
  | zero => intro d hi hb x; exact ⟨fun _ _ => by omega, fun _ _ => by omega, fun _ _ => rfl⟩
  | succ j ih =>
    intro d hi hb x
    rw [swr]
    obtain ⟨g1, g2, g3⟩ := ih (i + 1) (swp d (a + i) (b + i)) (by omega) (by rw [size_swp]; exact hb) x
    refine ⟨fun p q => ?_, fun p q => ?_, fun p q => ?_⟩
    · by_cases hx : x = a + i
      · subst hx
        rw [g3 (by omega) (by omega), swp_left _ _ _ (by omega) (by omega)]
        congr 1; omega
      · rw [g1 (by omega) q, swp_other _ _ _ _ (by omega) (by omega)]
    · by_cases hx : x = b + i
      · subst hx
        rw [g3 (by omega) (by omega), swp_right _ _ _ (by omega)]
        congr 1; omega
      · rw [g2 (by omega) q, swp_other _ _ _ _ (by omega) (by omega)]
    · rw [g3 (by omega) (by omega), swp_other _ _ _ _ (by omega) (by omega)]
theorem swr_perm (lo hi a b k : Nat) (h1 : a + k ≤ b) (h0 : lo ≤ a) (h2 : b + k ≤ hi) : ∀ (i : Nat) (j : Nat) (d : Array α), i + j = k → hi ≤ d.size → PermIn lo hi d (swr a b i j d) := by
  intro i j
  induction j generalizing i with
  | zero => intro d _ _; exact permIn_refl _ _ _
  | succ j ih =>
    intro d hi hb
    rw [swr]
    exact permIn_trans _ _ _ _ _ (swp_permIn d lo _ (a + i) (b + i) (by omega) (by omega) (by omega) (by omega) hb) (ih (i + 1) _ (by omega) (by rw [size_swp]; exact hb))
theorem rotL_ok (m : Nat) : ∀ (g i j : Nat) (d : Array α), 1 ≤ i → 1 ≤ j → i + j ≤ g + 2 → i ≤ m → m + j ≤ d.size →
    PermIn (m - i) (m + j) d (rotL m g i j d) ∧ ∀ x, (m - i ≤ x → x < m - i + j → (rotL m g i j d)[x]! = d[x + i]!) ∧ (m - i + j ≤ x → x < m + j → (rotL m g i j d)[x]! = d[x - j]!) := by
  intro g
  induction g with
  | zero =>
    intro i j d hi hj hg him hmj
    obtain rfl : i = 1 := by omega
    obtain rfl : j = 1 := by omega
    rw [rotL]
    refine ⟨swr_perm _ _ _ _ 1 (by omega) (Nat.le_refl _) (by omega) 0 1 d rfl hmj, fun x => ?_⟩
    obtain ⟨g1, g2, _⟩ := swr_get (m - 1) m 1 (by omega) 0 1 d rfl hmj x
    exact ⟨fun p q => by rw [g1 (by omega) (by omega)]; congr 1; omega, fun p q => by rw [g2 (by omega) (by omega)]; congr 1; omega⟩
  | succ g ih =>
    intro i j d hi hj hg him hmj
    rw [rotL]
    by_cases h1 : i = j
    · subst h1
      rw [if_pos rfl]
      refine ⟨swr_perm _ _ _ _ i (by omega) (Nat.le_refl _) (by omega) 0 i d (by omega) hmj, fun x => ?_⟩
      obtain ⟨g1, g2, _⟩ := swr_get (m - i) m i (by omega) 0 i d (by omega) hmj x
      exact ⟨fun p q => by rw [g1 (by omega) (by omega)]; congr 1; omega, fun p q => by rw [g2 (by omega) (by omega)]; congr 1; omega⟩
    · rw [if_neg h1]
      by_cases h2 : j < i
      · rw [if_pos h2]
        have hs := swr_size (m - i) m 0 j d
        have hp := swr_perm (m - i) (m + j) (m - i) m j (by omega) (Nat.le_refl _) (by omega) 0 j d (by omega) hmj
        have hq := swr_get (m - i) m j (by omega) 0 j d (by omega) hmj
        obtain ⟨r1, r2⟩ := ih (i - j) j (swr (m - i) m 0 j d) (by omega) hj (by omega) (by omega) (by omega)
        refine ⟨permIn_trans _ _ _ _ _ hp (permIn_mono _ _ _ _ _ _ (by omega) (by omega) (by omega) r1), fun x => ⟨fun p q => ?_, fun p q => ?_⟩⟩
        · rw [r1.2.1 x (by omega), (hq x).1 (by omega) (by omega)]; congr 1; omega
        · by_cases h3 : x < m - i + 2 * j
          · rw [(r2 x).1 (by omega) (by omega), (hq _).2.1 (by omega) (by omega)]; congr 1; omega
          · rw [(r2 x).2 (by omega) (by omega), (hq _).2.2 (by omega) (by omega)]
      · rw [if_neg h2]
        have hs := swr_size (m - i) (m + j - i) 0 i d
        have hp := swr_perm (m - i) (m + j) (m - i) (m + j - i) i (by omega) (Nat.le_refl _) (by omega) 0 i d (by omega) hmj
        have hq := swr_get (m - i) (m + j - i) i (by omega) 0 i d (by omega) (by omega)
        obtain ⟨r1, r2⟩ := ih i (j - i) (swr (m - i) (m + j - i) 0 i d) hi (by omega) (by omega) (by omega) (by omega)
        refine ⟨permIn_trans _ _ _ _ _ hp (permIn_mono _ _ _ _ _ _ (by omega) (by omega) (by omega) r1), fun x => ⟨fun p q => ?_, fun p q => ?_⟩⟩
        · by_cases h3 : x < m - i + (j - i)
          · rw [(r2 x).1 (by omega) (by omega), (hq _).2.2 (by omega) (by omega)]
          · rw [(r2 x).2 (by omega) (by omega), (hq _).1 (by omega) (by omega)]; congr 1; omega
        · rw [r1.2.1 x (by omega), (hq x).2.1 (by omega) (by omega)]; congr 1; omega
theorem bsF_ok (p : Nat → Bool) : ∀ (g i j : Nat), i ≤ j → j - i ≤ g → i ≤ bsF p g i j ∧ bsF p g i j ≤ j ∧ (bsF p g i j = i ∨ p (bsF p g i j - 1) = true) ∧ (bsF p g i j = j ∨ p (bsF p g i j) = false) := by
  intro g
  induction g with
  | zero => intro i j h1 h2; rw [bsF]; exact ⟨Nat.le_refl _, h1, Or.inl rfl, Or.inl (by omega)⟩
  | succ g ih =>
    intro i j h1 h2
    rw [bsF]
    by_cases h : i < j
    · rw [if_pos h]
      cases hp : p ((i + j) / 2)
      · rw [if_neg (by simp)]
        obtain ⟨r1, r2, r3, r4⟩ := ih i ((i + j) / 2) (by omega) (by omega)
        refine ⟨r1, by omega, r3, Or.inr ?_⟩
        rcases r4 with r | r
        · rw [r]; exact hp
        · exact r
      · rw [if_pos rfl]
        obtain ⟨r1, r2, r3, r4⟩ := ih ((i + j) / 2 + 1) j (by omega) (by omega)
        refine ⟨by omega, r2, Or.inr ?_, r4⟩
        rcases r3 with r | r
        · rw [r]; exact hp
        · exact r
    · rw [if_neg h]
      exact ⟨Nat.le_refl _, h1, Or.inl rfl, Or.inl (by omega)⟩
theorem upS_ok (lo hi : Nat) : ∀ (c k : Nat) (d : Array α), lo ≤ k → k + c < hi → hi ≤ d.size →
    PermIn lo hi d (upS k c d) ∧ ∀ x, (k ≤ x → x < k + c → (upS k c d)[x]! = d[x + 1]!) ∧ (x = k + c → (upS k c d)[x]! = d[k]!) ∧ ((x < k ∨ k + c < x) → (upS k c d)[x]! = d[x]!) := by
  intro c
  induction c with
  | zero => intro k d _ _ _; exact ⟨permIn_refl _ _ _, fun x => ⟨fun _ _ => by omega, fun h => by subst h; rfl, fun _ => rfl⟩⟩
  | succ c ih =>
    intro k d h1 h2 h3
    rw [upS]
    obtain ⟨r1, r2⟩ := ih (k + 1) (swp d k (k + 1)) (by omega) (by omega) (by rw [size_swp]; exact h3)
    refine ⟨permIn_trans _ _ _ _ _ (swp_permIn d lo hi k (k + 1) (by omega) (by omega) (by omega) (by omega) h3) r1, fun x => ⟨fun p q => ?_, fun p => ?_, fun p => ?_⟩⟩
    · by_cases hx : x = k
      · subst hx
        rw [(r2 x).2.2 (by omega), swp_left _ _ _ (by omega) (by omega)]
      · rw [(r2 x).1 (by omega) (by omega), swp_other _ _ _ _ (by omega) (by omega)]
    · rw [(r2 x).2.1 (by omega), swp_right _ _ _ (by omega)]
    · rw [(r2 x).2.2 (by omega), swp_other _ _ _ _ (by omega) (by omega)]
theorem dnS_ok (lo hi : Nat) : ∀ (c k : Nat) (d : Array α), lo + c ≤ k → k < hi → hi ≤ d.size →
    PermIn lo hi d (dnS k c d) ∧ ∀ x, (k - c < x → x ≤ k → (dnS k c d)[x]! = d[x - 1]!) ∧ (x = k - c → (dnS k c d)[x]! = d[k]!) ∧ ((x < k - c ∨ k < x) → (dnS k c d)[x]! = d[x]!) := by
  intro c
  induction c with
  | zero => intro k d _ _ _; exact ⟨permIn_refl _ _ _, fun x => ⟨fun _ _ => by omega, fun h => by subst h; rfl, fun _ => rfl⟩⟩
  | succ c ih =>
    intro k d h1 h2 h3
    rw [dnS]
    obtain ⟨r1, r2⟩ := ih (k - 1) (swp d k (k - 1)) (by omega) (by omega) (by rw [size_swp]; exact h3)
    refine ⟨permIn_trans _ _ _ _ _ (swp_permIn d lo hi k (k - 1) (by omega) (by omega) (by omega) (by omega) h3) r1, fun x => ⟨fun p q => ?_, fun p => ?_, fun p => ?_⟩⟩
    · by_cases hx : x = k
      · subst hx
        rw [(r2 x).2.2 (by omega), swp_left _ _ _ (by omega) (by omega)]
      · rw [(r2 x).1 (by omega) (by omega), swp_other _ _ _ _ (by omega) (by omega)]
    · rw [(r2 x).2.1 (by omega), swp_right _ _ _ (by omega)]
    · rw [(r2 x).2.2 (by omega), swp_other _ _ _ _ (by omega) (by omega)]
end gets

section maps
variable {α γ : Type} [Inhabited α] [Inhabited γ] (f : α → γ) (hf : f default = default)
include hf
theorem map_get (d : Array α) (i : Nat) : (d.map f)[i]! = f d[i]! := by
  by_cases h : i < d.size
  · rw [getElem!_pos _ i (by simpa using h), getElem!_pos d i h, Array.getElem_map]
  · rw [getElem!_neg _ i (by simpa using h), getElem!_neg d i h, hf]
theorem map_swp (d : Array α) (i j : Nat) : (swp d i j).map f = swp (d.map f) i j := by
  have e : ∀ (d : Array α) (i : Nat) (x : α), (d.setIfInBounds i x).map f = (d.map f).setIfInBounds i (f x) := by
    intro d i x
    apply Array.ext
    · simp
    · intro k h1 h2
      have h3 : k < d.size := by simpa using h1
      rw [Array.getElem_map, Array.getElem_setIfInBounds (by simpa using h3), Array.getElem_setIfInBounds (by simpa using h3), Array.getElem_map]
      split <;> rfl
  rw [swp, swp, e, e, map_get f hf, map_get f hf]
theorem map_swr (a b : Nat) : ∀ (k i : Nat) (d : Array α), (swr a b i k d).map f = swr a b i k (d.map f) := by
  intro k
  induction k with
  | zero => intro i d; rfl
  | succ k ih => intro i d; rw [swr, swr, ih, map_swp f hf]
theorem map_rotL (m : Nat) : ∀ (g i j : Nat) (d : Array α), (rotL m g i j d).map f = rotL m g i j (d.map f) := by
  intro g
  induction g with
  | zero => intro i j d; exact map_swr f hf _ _ _ _ _
  | succ g ih =>
    intro i j d
    rw [rotL, rotL]
    split
    · exact map_swr f hf _ _ _ _ _
    · split
      · rw [ih, map_swr f hf]
      · rw [ih, map_swr f hf]
theorem map_upS : ∀ (c k : Nat) (d : Array α), (upS k c d).map f = upS k c (d.map f) := by
  intro c
  induction c with
  | zero => intro k d; rfl
  | succ c ih => intro k d; rw [upS, upS, ih, map_swp f hf]
theorem map_dnS : ∀ (c k : Nat) (d : Array α), (dnS k c d).map f = dnS k c (d.map f) := by
  intro c
  induction c with
  | zero => intro k d; rfl
  | succ c ih => intro k d; rw [dnS, dnS, ih, map_swp f hf]
variable (la : α → α → Bool) (lc : γ → γ → Bool) (hl : ∀ x y, la x y = lc (f x) (f y))
include hl
theorem map_symC (a m b : Nat) (d : Array α) : symC la a m b d = symC lc a m b (d.map f) := by
  rw [symC, symC]
  simp only [map_get f hf, hl]
theorem map_symM : ∀ (g a m b : Nat) (d : Array α), (symM la g a m b d).map f = symM lc g a m b (d.map f) := by
  intro g
  induction g with
  | zero => intro a m b d; rfl
  | succ g ih =>
    intro a m b d
    rw [symM, symM]
    split
    · rw [map_upS f hf]; simp only [map_get f hf, hl]
    · split
      · rw [map_dnS f hf]; simp only [map_get f hf, hl]
      · dsimp only
        rw [← map_symC f hf la lc hl]
        have e : ∀ (p : Prop) [Decidable p] (x y : Array α), (if p then x else y).map f = if p then x.map f else y.map f := fun p _ x y => by split <;> rfl
        rw [e, e, e, ih, e, e, ih, e, map_rotL f hf]
theorem map_insInner (a : Nat) : ∀ (j : Nat) (d : Array α), (insInner la a j d).map f = insInner lc a j (d.map f) := by
  intro j
  induction j with
  | zero => intro d; rfl
  | succ j ih =>
    intro d
    rw [insInner, insInner, map_get f hf, map_get f hf, hl]
    split
    · rw [ih, map_swp f hf]
    · rfl
theorem map_insOuter (a b n : Nat) : ∀ (i : Nat) (d : Array α), b - i ≤ n → (insOuter la a b i d).map f = insOuter lc a b i (d.map f) := by
  induction n with
  | zero => intro i d h; rw [insOuter.eq_def la a b i, insOuter.eq_def lc a b i, if_neg (by omega), if_neg (by omega)]
  | succ n ih =>
    intro i d h
    rw [insOuter.eq_def la a b i, insOuter.eq_def lc a b i]
    split
    · rw [ih _ _ (by omega), map_insInner f hf la lc hl]
    · rfl
theorem map_insS (a b : Nat) (d : Array α) : (insertionSort la d a b).map f = insertionSort lc (d.map f) a b := map_insOuter f hf la lc hl a b b _ d (by omega)
theorem map_insB (n : Nat) : ∀ (g a : Nat) (d : Array α), (insB la n g a d).map f = insB lc n g a (d.map f) := by
  intro g
  induction g with
  | zero => intro a d; exact map_insS f hf la lc hl _ _ _
  | succ g ih =>
    intro a d
    rw [insB, insB]
    split
    · rw [ih, map_insS f hf la lc hl]
    · exact map_insS f hf la lc hl _ _ _
theorem map_mrgB (n s : Nat) : ∀ (g a : Nat) (d : Array α), (mrgB la n s g a d).map f = mrgB lc n s g a (d.map f) := by
  intro g
  induction g with
  | zero =>
    intro a d
    rw [mrgB, mrgB]
    split
    · exact map_symM f hf la lc hl _ _ _ _ _
    · rfl
  | succ g ih =>
    intro a d
    rw [mrgB, mrgB]
    split
    · rw [ih, map_symM f hf la lc hl]
    · split
      · exact map_symM f hf la lc hl _ _ _ _ _
      · rfl
theorem map_mrgA (n : Nat) : ∀ (g s : Nat) (d : Array α), (mrgA la n g s d).map f = mrgA lc n g s (d.map f) := by
  intro g
  induction g with
  | zero => intro s d; rfl
  | succ g ih =>
    intro s d
    rw [mrgA, mrgA]
    split
    · rw [ih, map_mrgB f hf la lc hl]
    · rfl
end maps

section stable
variable {β : Type} (key : β → Int)
/-- lesser by the key -/
def klt (x y : β) : Bool := decide (key x < key y)
/-- the same, of numbered ones -/
def tlt (x y : β × Nat) : Bool := decide (key x.1 < key y.1)
/-- by the key, and by the number -/
def rlt (x y : β × Nat) : Bool := decide (key x.1 < key y.1 ∨ key x.1 = key y.1 ∧ x.2 < y.2)
/-- not greater, by the key and by the number -/
def rle (x y : β × Nat) : Prop := key x.1 < key y.1 ∨ key x.1 = key y.1 ∧ x.2 ≤ y.2
theorem rle_iff (x y : β × Nat) : rlt key y x = false ↔ rle key x y := by
  unfold rlt rle
  rw [decide_eq_false_iff_not]
  omega
theorem tlt_f {x y : β × Nat} (h : tlt key x y = false) : key y.1 ≤ key x.1 := by
  unfold tlt at h; rw [decide_eq_false_iff_not] at h; omega
theorem tlt_t {x y : β × Nat} (h : tlt key x y = true) : key x.1 < key y.1 := by
  unfold tlt at h; exact of_decide_eq_true h
theorem rle_of {x y : β × Nat} (h : key x.1 ≤ key y.1) (hi : x.2 < y.2) : rle key x y := by unfold rle; omega
theorem rle_lt {x y : β × Nat} (h : key x.1 < key y.1) : rle key x y := by unfold rle; omega
theorem rle_key {x y : β × Nat} (h : rle key x y) : key x.1 ≤ key y.1 := by unfold rle at h; omega
theorem rlt_swo : SWO (rlt key) where
  irrefl x := by unfold rlt; rw [decide_eq_false_iff_not]; omega
  trans x y z h1 h2 := by
    unfold rlt at *
    have h1 := of_decide_eq_true h1
    have h2 := of_decide_eq_true h2
    exact decide_eq_true (by omega)
  ntrans x y z h1 h2 := by
    unfold rlt at *
    rw [decide_eq_false_iff_not] at *
    omega
variable [Inhabited β]
def Srt (a b : Nat) (d : Array (β × Nat)) : Prop := ∀ i j, a ≤ i → i < j → j < b → rle key d[i]! d[j]!
theorem srt_key {a b : Nat} {d : Array (β × Nat)} (h : Srt key a b d) (i j : Nat) (h1 : a ≤ i) (h2 : i ≤ j) (h3 : j < b) : key d[i]!.1 ≤ key d[j]!.1 := by
  by_cases e : i = j
  · subst e; exact Int.le_refl _
  · exact rle_key key (h i j h1 (by omega) h3)
theorem srt_iff (a b : Nat) (d : Array (β × Nat)) : SortedIn (rlt key) a b d ↔ Srt key a b d :=
  ⟨fun h i j h1 h2 h3 => (rle_iff key _ _).1 (h i j h1 h2 h3), fun h i j h1 h2 h3 => (rle_iff key _ _).2 (h i j h1 h2 h3)⟩

/-- a part sorted, another behind it sorted, each of the one ahead of each of the other -/
theorem srt_join {a m b : Nat} {d : Array (β × Nat)} (h1 : Srt key a m d) (h2 : Srt key m b d) (h3 : ∀ i j, a ≤ i → i < m → m ≤ j → j < b → rle key d[i]! d[j]!) : Srt key a b d := by
  intro i j p q r
  by_cases hj : j < m
  · exact h1 i j p q hj
  · by_cases hi : i < m
    · exact h3 i j p hi (by omega) r
    · exact h2 i j (by omega) q r
theorem srt_get {a b : Nat} {d d' : Array (β × Nat)} (h : Srt key a b d) (e : ∀ i, a ≤ i → i < b → d'[i]! = d[i]!) : Srt key a b d' := by
  intro i j p q r
  rw [e i p (by omega), e j (by omega) r]
  exact h i j p q r
theorem symM_ok : ∀ (g a m b : Nat) (d : Array (β × Nat)), b - a ≤ g → a < m → m < b → b ≤ d.size → Srt key a m d → Srt key m b d →
    (∀ i j, a ≤ i → i < m → m ≤ j → j < b → d[i]!.2 < d[j]!.2) → PermIn a b d (symM (tlt key) g a m b d) ∧ Srt key a b (symM (tlt key) g a m b d) := by
  intro g
  induction g with
  | zero => intro a m b d h1 h2 h3; omega
  | succ g ih =>
    intro a m b d hg ham hmb hb sA sB sep
    rw [symM]
    by_cases h1 : m = a + 1
    · rw [if_pos h1]
      obtain ⟨r1, r2, r3, r4⟩ := bsF_ok (fun h => tlt key d[h]! d[a]!) (b - m) m b (by omega) (Nat.le_refl _)
      generalize bsF (fun h => tlt key d[h]! d[a]!) (b - m) m b = r at r1 r2 r3 r4
      obtain ⟨u1, u2⟩ := upS_ok a b (r - 1 - a) a d (Nat.le_refl _) (by omega) hb
      refine ⟨u1, ?_⟩
      have lo : ∀ x, m ≤ x → x < r → rle key d[x]! d[a]! := fun x p q => by
        rcases r3 with r3 | r3
        · omega
        · have := tlt_t key r3
          have := srt_key key sB x (r - 1) p (by omega) (by omega)
          exact rle_lt key (by omega)
      have hi : ∀ x, r ≤ x → x < b → rle key d[a]! d[x]! := fun x p q => by
        rcases r4 with r4 | r4
        · omega
        · have := tlt_f key r4
          have := srt_key key sB r x r1 p q
          exact rle_of key (by omega) (sep a x (by omega) (by omega) (by omega) q)
      intro i j p q s
      by_cases c1 : j < r - 1
      · rw [(u2 i).1 p (by omega), (u2 j).1 (by omega) (by omega)]
        exact sB _ _ (by omega) (by omega) (by omega)
      · by_cases c2 : j = r - 1
        · rw [(u2 i).1 p (by omega), (u2 j).2.1 (by omega)]
          exact lo _ (by omega) (by omega)
        · rw [(u2 j).2.2 (by omega)]
          by_cases c3 : i < r - 1
          · rw [(u2 i).1 p (by omega)]
            exact sB _ _ (by omega) (by omega) s
          · by_cases c4 : i = r - 1
            · rw [(u2 i).2.1 (by omega)]
              exact hi _ (by omega) s
            · rw [(u2 i).2.2 (by omega)]
              exact sB _ _ (by omega) q s
    · rw [if_neg h1]
      by_cases h2 : b = m + 1
      · rw [if_pos h2]
        obtain ⟨r1, r2, r3, r4⟩ := bsF_ok (fun h => !tlt key d[m]! d[h]!) (m - a) a m (by omega) (Nat.le_refl _)
        generalize bsF (fun h => !tlt key d[m]! d[h]!) (m - a) a m = r at r1 r2 r3 r4
        obtain ⟨u1, u2⟩ := dnS_ok a b (m - r) m d (by omega) (by omega) hb
        refine ⟨u1, ?_⟩
        have lo : ∀ x, a ≤ x → x < r → rle key d[x]! d[m]! := fun x p q => by
          rcases r3 with r3 | r3
          · omega
          · have := tlt_f key (by simpa using r3)
            have := srt_key key sA x (r - 1) p (by omega) (by omega)
            exact rle_of key (by omega) (sep x m p (by omega) (Nat.le_refl _) hmb)
        have hi : ∀ x, r ≤ x → x < m → rle key d[m]! d[x]! := fun x p q => by
          rcases r4 with r4 | r4
          · omega
          · have := tlt_t key (by simpa using r4)
            have := srt_key key sA r x r1 p q
            exact rle_lt key (by omega)
        have e : m - (m - r) = r := by omega
        rw [e] at u2
        intro i j p q s
        by_cases c1 : j < r
        · rw [(u2 i).2.2 (by omega), (u2 j).2.2 (by omega)]
          exact sA _ _ p q (by omega)
        · by_cases c2 : j = r
          · rw [(u2 i).2.2 (by omega), (u2 j).2.1 c2]
            exact lo _ p (by omega)
          · rw [(u2 j).1 (by omega) (by omega)]
            by_cases c3 : i < r
            · rw [(u2 i).2.2 (by omega)]
              exact sA _ _ p (by omega) (by omega)
            · by_cases c4 : i = r
              · rw [(u2 i).2.1 c4]
                exact hi _ (by omega) (by omega)
              · rw [(u2 i).1 (by omega) (by omega)]
                exact sA _ _ (by omega) (by omega) (by omega)
      · rw [if_neg h2]
        dsimp only
        have hc : ∃ c, symC (tlt key) a m b d = c ∧ a ≤ c ∧ c ≤ m ∧ c ≤ (a + b) / 2 ∧ (a + b) / 2 + m - c ≤ b ∧ m ≤ (a + b) / 2 + m - c ∧
            (c = a ∨ (a + b) / 2 + m - c = b ∨ tlt key d[(a + b) / 2 + m - c]! d[c - 1]! = false) ∧ (c = m ∨ (a + b) / 2 + m - c = m ∨ tlt key d[(a + b) / 2 + m - c - 1]! d[c]! = true) := by
          refine ⟨_, rfl, ?_⟩
          rw [symC]
          by_cases h : (a + b) / 2 < m
          · rw [if_pos h, if_pos h]
            obtain ⟨r1, r2, r3, r4⟩ := bsF_ok (fun c => !tlt key d[(a + b) / 2 + m - 1 - c]! d[c]!) (b - a) ((a + b) / 2 + m - b) ((a + b) / 2) (by omega) (by omega)
            generalize bsF (fun c => !tlt key d[(a + b) / 2 + m - 1 - c]! d[c]!) (b - a) ((a + b) / 2 + m - b) ((a + b) / 2) = c at r1 r2 r3 r4
            refine ⟨by omega, by omega, r2, by omega, by omega, ?_, ?_⟩
            · by_cases hc : c = (a + b) / 2 + m - b
              · exact Or.inr (Or.inl (by omega))
              · rcases r3 with r3 | r3
                · exact absurd r3 hc
                · refine Or.inr (Or.inr ?_)
                  have e : (a + b) / 2 + m - 1 - (c - 1) = (a + b) / 2 + m - c := by omega
                  rw [e] at r3
                  simpa using r3
            · rcases r4 with r4 | r4
              · exact Or.inr (Or.inl (by omega))
              · refine Or.inr (Or.inr ?_)
                have e : (a + b) / 2 + m - 1 - c = (a + b) / 2 + m - c - 1 := by omega
                rw [e] at r4
                simpa using r4
          · rw [if_neg h, if_neg h]
            obtain ⟨r1, r2, r3, r4⟩ := bsF_ok (fun c => !tlt key d[(a + b) / 2 + m - 1 - c]! d[c]!) (b - a) a m (by omega) (by omega)
            generalize bsF (fun c => !tlt key d[(a + b) / 2 + m - 1 - c]! d[c]!) (b - a) a m = c at r1 r2 r3 r4
            refine ⟨r1, r2, by omega, by omega, by omega, ?_, ?_⟩
            · by_cases hc : c = a
              · exact Or.inl hc
              · rcases r3 with r3 | r3
                · exact absurd r3 hc
                · refine Or.inr (Or.inr ?_)
                  have e : (a + b) / 2 + m - 1 - (c - 1) = (a + b) / 2 + m - c := by omega
                  rw [e] at r3
                  simpa using r3
            · rcases r4 with r4 | r4
              · exact Or.inl r4
              · refine Or.inr (Or.inr ?_)
                have e : (a + b) / 2 + m - 1 - c = (a + b) / 2 + m - c - 1 := by omega
                rw [e] at r4
                simpa using r4
        obtain ⟨c, ec, c1, c2, c3, c4, c5, c6, c7⟩ := hc
        rw [ec]
        clear ec
        obtain ⟨M, hM⟩ : ∃ M, M = (a + b) / 2 := ⟨_, rfl⟩
        rw [← hM] at c3 c4 c5 c6 c7 ⊢
        have M1 : a + 1 < M + 1 := by omega
        have M2 : M < b := by omega
        have M3 : M - a < b - a := by omega
        clear hM
        obtain ⟨e, he⟩ : ∃ e, e = M + m - c := ⟨_, rfl⟩
        rw [← he] at c4 c5 c6 c7 ⊢
        have hd : ∃ d1, (if c < m ∧ m < e then rotL m (e - c) (m - c) (e - m) d else d) = d1 ∧ PermIn a b d d1 ∧ ∀ x, (a ≤ x → x < c → d1[x]! = d[x]!) ∧ (c ≤ x → x < M → d1[x]! = d[x + (m - c)]!) ∧
            (M ≤ x → x < e → d1[x]! = d[x - (e - m)]!) ∧ (e ≤ x → x < b → d1[x]! = d[x]!) := by
          refine ⟨_, rfl, ?_⟩
          by_cases hr : c < m ∧ m < e
          · rw [if_pos hr]
            obtain ⟨u1, u2⟩ := rotL_ok m (e - c) (m - c) (e - m) d (by omega) (by omega) (by omega) (by omega) (by omega)
            refine ⟨permIn_mono _ _ _ _ _ _ (by omega) (by omega) hb u1, fun x => ⟨fun p q => ?_, fun p q => ?_, fun p q => ?_, fun p q => ?_⟩⟩
            · exact u1.2.1 x (by omega)
            · exact (u2 x).1 (by omega) (by omega)
            · exact (u2 x).2 (by omega) (by omega)
            · exact u1.2.1 x (by omega)
          · rw [if_neg hr]
            refine ⟨permIn_refl _ _ _, fun x => ⟨fun p q => rfl, fun p q => ?_, fun p q => ?_, fun p q => rfl⟩⟩
            · congr 1; omega
            · congr 1; omega
        obtain ⟨d1, ed, q1, q2⟩ := hd
        rw [ed]
        clear ed
        have z1 : d1.size = d.size := q1.1
        -- each part of d1 is sorted; each of the first half lies ahead of each of the second
        have t1 : Srt key a c d1 := fun i j p q s => by
          rw [(q2 i).1 p (by omega), (q2 j).1 (by omega) s]; exact sA _ _ p q (by omega)
        have t2 : Srt key c M d1 := fun i j p q s => by
          rw [(q2 i).2.1 p (by omega), (q2 j).2.1 (by omega) s]; exact sB _ _ (by omega) (by omega) (by omega)
        have t3 : Srt key M e d1 := fun i j p q s => by
          rw [(q2 i).2.2.1 p (by omega), (q2 j).2.2.1 (by omega) s]; exact sA _ _ (by omega) (by omega) (by omega)
        have t4 : Srt key e b d1 := fun i j p q s => by
          rw [(q2 i).2.2.2 p (by omega), (q2 j).2.2.2 (by omega) s]; exact sB _ _ (by omega) (by omega) (by omega)
        have t5 : ∀ i j, a ≤ i → i < M → M ≤ j → j < b → rle key d1[i]! d1[j]! := by
          intro i j p q r s
          by_cases k1 : i < c
          · rw [(q2 i).1 p k1]
            by_cases k2 : j < e
            · rw [(q2 j).2.2.1 r k2]; exact sA _ _ p (by omega) (by omega)
            · rw [(q2 j).2.2.2 (by omega) s]
              rcases c6 with c6 | c6 | c6
              · omega
              · omega
              · have x1 := tlt_f key c6
                have x2 := srt_key key sA i (c - 1) p (by omega) (by omega)
                have x3 := srt_key key sB e j c5 (by omega) s
                exact rle_of key (by omega) (sep _ _ p (by omega) (by omega) s)
          · rw [(q2 i).2.1 (by omega) q]
            by_cases k2 : j < e
            · rw [(q2 j).2.2.1 r k2]
              rcases c7 with c7 | c7 | c7
              · omega
              · omega
              · have x1 := tlt_t key c7
                have x2 := srt_key key sA c (j - (e - m)) (by omega) (by omega) (by omega)
                have x3 := srt_key key sB (i + (m - c)) (e - 1) (by omega) (by omega) (by omega)
                exact rle_lt key (by omega)
            · rw [(q2 j).2.2.2 (by omega) s]
              exact sB _ _ (by omega) (by omega) s
        have t6 : ∀ i j, a ≤ i → i < c → c ≤ j → j < M → d1[i]!.2 < d1[j]!.2 := fun i j p q r s => by
          rw [(q2 i).1 p q, (q2 j).2.1 r s]; exact sep _ _ p (by omega) (by omega) (by omega)
        have t7 : ∀ i j, M ≤ i → i < e → e ≤ j → j < b → d1[i]!.2 < d1[j]!.2 := fun i j p q r s => by
          rw [(q2 i).2.2.1 p q, (q2 j).2.2.2 r s]; exact sep _ _ (by omega) (by omega) (by omega) s
        clear q2 sA sB sep c6 c7
        have hd : ∃ d2, (if a < c ∧ c < M then symM (tlt key) g a c M d1 else d1) = d2 ∧ PermIn a M d1 d2 ∧ Srt key a M d2 := by
          refine ⟨_, rfl, ?_⟩
          by_cases hr : a < c ∧ c < M
          · rw [if_pos hr]
            exact ih a c M d1 (by omega) hr.1 hr.2 (by omega) t1 t2 t6
          · rw [if_neg hr]
            refine ⟨permIn_refl _ _ _, ?_⟩
            by_cases hr2 : a < c
            · obtain rfl : c = M := by omega
              exact t1
            · obtain rfl : a = c := by omega
              exact t2
        obtain ⟨d2, ed, p1, p2⟩ := hd
        rw [ed]
        clear ed
        have z2 : d2.size = d.size := p1.1.trans z1
        have u3 : Srt key M e d2 := srt_get key t3 fun i p q => p1.2.1 i (by omega)
        have u4 : Srt key e b d2 := srt_get key t4 fun i p q => p1.2.1 i (by omega)
        have u7 : ∀ i j, M ≤ i → i < e → e ≤ j → j < b → d2[i]!.2 < d2[j]!.2 := fun i j p q r s => by
          rw [p1.2.1 i (by omega), p1.2.1 j (by omega)]; exact t7 i j p q r s
        have u5 : ∀ i j, a ≤ i → i < M → M ≤ j → j < b → rle key d2[i]! d2[j]! := by
          intro i j p q r s
          rw [p1.2.1 j (by omega)]
          exact permIn_all d1 d2 a M (fun x => rle key x d1[j]!) (by omega) p1 (fun i p q => t5 i j p q r s) i p q
        have hd : ∃ d3, (if M < e ∧ e < b then symM (tlt key) g M e b d2 else d2) = d3 ∧ PermIn M b d2 d3 ∧ Srt key M b d3 := by
          refine ⟨_, rfl, ?_⟩
          by_cases hr : M < e ∧ e < b
          · rw [if_pos hr]
            exact ih M e b d2 (by omega) hr.1 hr.2 (by omega) u3 u4 u7
          · rw [if_neg hr]
            refine ⟨permIn_refl _ _ _, ?_⟩
            by_cases hr2 : M < e
            · obtain rfl : e = b := by omega
              exact u3
            · obtain rfl : M = e := by omega
              exact u4
        obtain ⟨d3, ed, v1, v2⟩ := hd
        rw [ed]
        clear ed
        refine ⟨permIn_trans _ _ _ _ _ q1 (permIn_trans _ _ _ _ _ (permIn_mono _ _ _ _ _ _ (Nat.le_refl _) (by omega) (by omega) p1) (permIn_mono _ _ _ _ _ _ (by omega) (Nat.le_refl _) (by omega) v1)), ?_⟩
        refine srt_join key (srt_get key p2 fun i p q => v1.2.1 i (by omega)) v2 fun i j p q r s => ?_
        rw [v1.2.1 i (by omega)]
        exact permIn_all d2 d3 M b (fun x => rle key d2[i]! x) (by omega) v1 (fun j r s => u5 i j p q r s) j r s
end stable
end Go.Proofs.Ytjnmlgfkiebkgaa
namespace Go.Proofs.Ytjnmlgfkiebkgaa
open Go.Sort
set_option linter.unusedVariables false
set_option linter.unusedSimpArgs false

section
variable {β : Type} [Inhabited β] (key : β → Int)
/-- where s comes in, from the end -/
def dwn (l : List β) (s : β) : Nat → Nat
  | 0 => 0
  | k + 1 => bif decide (key s < key l[k]!) then dwn l s k else k + 1
theorem dwn_le (l : List β) (s : β) (k : Nat) : dwn key l s k ≤ k := by
  induction k with
  | zero => exact Nat.le_refl _
  | succ k ih =>
    rw [dwn]
    cases decide (key s < key l[k]!)
    · exact Nat.le_refl _
    · exact Nat.le_succ_of_le ih
theorem dwn_app (l c : List β) (s : β) (k : Nat) (h : k ≤ l.length) : dwn key (l ++ c) s k = dwn key l s k := by
  induction k with
  | zero => rfl
  | succ k ih =>
    have e : (l ++ c)[k]! = l[k]! := by
      rw [getElem!_pos (l ++ c) k (by rw [List.length_append]; omega), getElem!_pos l k (by omega), List.getElem_append_left]
    rw [dwn, dwn, e, ih (by omega)]
/-- s put in -/
def insL (l : List β) (s : β) : List β := l.take (dwn key l s l.length) ++ s :: l.drop (dwn key l s l.length)
theorem insL_len (l : List β) (s : β) : (insL key l s).length = l.length + 1 := by
  have := dwn_le key l s l.length
  rw [insL, List.length_append, List.length_cons, List.length_take, List.length_drop]
  omega
theorem insL_nil (s : β) : insL key [] s = [s] := rfl
theorem insL_snoc (l : List β) (x s : β) : insL key (l ++ [x]) s = bif decide (key s < key x) then insL key l s ++ [x] else l ++ [x, s] := by
  have e : (l ++ [x])[l.length]! = x := by
    rw [getElem!_pos (l ++ [x]) l.length (by simp)]
    simp
  have hle := dwn_le key l s l.length
  rw [insL, List.length_append, List.length_singleton, dwn, e]
  cases decide (key s < key x)
  · rw [cond_false, cond_false, List.take_of_length_le (by simp), List.drop_of_length_le (by simp), List.append_assoc]
    rfl
  · rw [cond_true, cond_true, dwn_app key l [x] s _ (Nat.le_refl _), List.take_append_of_le_length hle, List.drop_append_of_le_length hle, insL, List.append_assoc]
    rfl
theorem swp_mid (a c : List β) (x s : β) : swp (a ++ x :: s :: c).toArray (a.length + 1) a.length = (a ++ s :: x :: c).toArray := by
  have e0 : (a ++ x :: s :: c).toArray[a.length]! = x := by
    rw [getElem!_pos _ a.length (by simp)]
    simp
  have e1 : (a ++ x :: s :: c).toArray[a.length + 1]! = s := by
    rw [getElem!_pos _ (a.length + 1) (by simp)]
    simp
  rw [swp, e0, e1]
  apply Array.ext'
  simp only [Array.toList_setIfInBounds]
  rw [List.set_append_right _ _ (by omega), Nat.add_sub_cancel_left, List.set_append_right _ _ (Nat.le_refl _), Nat.sub_self]
  rfl
theorem insInner_list (s : β) : ∀ (r : List β) (c : List β), insInner (klt key) 0 r.length (r.reverse ++ s :: c).toArray = (insL key r.reverse s ++ c).toArray := by
  intro r
  induction r with
  | nil => intro c; rfl
  | cons x r ih =>
    intro c
    have e0 : ((r.reverse ++ [x]) ++ s :: c).toArray[r.length + 1]! = s := by
      rw [getElem!_pos _ (r.length + 1) (by simp)]
      simp
    have e1 : ((r.reverse ++ [x]) ++ s :: c).toArray[r.length]! = x := by
      rw [getElem!_pos _ r.length (by simp)]
      simp
    rw [List.reverse_cons, List.length_cons, insInner, e0, e1, insL_snoc, klt]
    cases h : decide (key s < key x)
    · rw [Bool.and_false, if_neg (by decide), cond_false]
      simp
    · have hs := swp_mid r.reverse c x s
      rw [List.length_reverse] at hs
      have e2 : (r.reverse ++ [x] ++ s :: c).toArray = (r.reverse ++ x :: s :: c).toArray := by simp
      rw [cond_true, if_pos (by simp), e2, hs, ih (x :: c)]
      simp
theorem insInner_list' (l : List β) (s : β) (c : List β) : insInner (klt key) 0 l.length (l ++ s :: c).toArray = (insL key l s ++ c).toArray := by
  have h := insInner_list key s l.reverse c
  rwa [List.reverse_reverse, List.length_reverse] at h
theorem insOuter_list (n : Nat) : ∀ (c l : List β), l.length + c.length = n → insOuter (klt key) 0 n l.length (l ++ c).toArray = (c.foldl (insL key) l).toArray := by
  intro c
  induction c with
  | nil =>
    intro l h
    rw [insOuter, if_neg (by simp at h; omega)]
    simp
  | cons s c ih =>
    intro l h
    rw [List.length_cons] at h
    rw [insOuter, if_pos (by omega), insInner_list' key l s c, List.foldl_cons, ← ih (insL key l s) (by rw [insL_len]; omega), insL_len]
/-- one by one, each shifted to its place -/
theorem insS_list (l : List β) : insertionSort (klt key) l.toArray 0 l.length = (l.foldl (insL key) []).toArray := by
  cases l with
  | nil =>
    rw [insertionSort, insOuter, if_neg (by simp)]
    rfl
  | cons x l =>
    have h := insOuter_list key (l.length + 1) l [x] (by simp; omega)
    exact h
theorem foldl_ins_len (c : List β) : ∀ l : List β, (c.foldl (insL key) l).length = l.length + c.length := by
  induction c with
  | nil => intro l; rfl
  | cons s c ih => intro l; rw [List.foldl_cons, ih, insL_len, List.length_cons]; omega
end
end Go.Proofs.Ytjnmlgfkiebkgaa
namespace Go.Proofs.Ytjnmlgfkiebkgaa
open Go.Sort
set_option linter.unusedVariables false
set_option linter.unusedSimpArgs false

section stable
variable {β : Type} [Inhabited β] (key : β → Int)
theorem insInner_perm {α : Type} [Inhabited α] (lt : α → α → Bool) (a i : Nat) : ∀ (j : Nat) (d : Array α), j ≤ i → i < d.size → PermIn a (i + 1) d (insInner lt a j d) := by
  intro j
  induction j with
  | zero => intro d _ _; exact permIn_refl _ _ _
  | succ j ih =>
    intro d h1 h2
    rw [insInner]
    by_cases h : (decide (j + 1 > a) && lt d[j + 1]! d[j]!) = true
    · rw [if_pos h]
      have h3 : a < j + 1 := by
        rw [Bool.and_eq_true] at h
        exact of_decide_eq_true h.1
      exact permIn_trans _ _ _ _ _ (swp_permIn d a (i + 1) (j + 1) j (by omega) (by omega) (by omega) (by omega) (by omega)) (ih _ (by omega) (by rw [size_swp]; exact h2))
    · rw [if_neg h]
      exact permIn_refl _ _ _
theorem insInner_eq (a : Nat) : ∀ (j : Nat) (d : Array (β × Nat)), j < d.size → (∀ i, a ≤ i → i < j → d[i]!.2 < d[j]!.2) → insInner (tlt key) a j d = insInner (rlt key) a j d := by
  intro j
  induction j with
  | zero => intro d _ _; rfl
  | succ j ih =>
    intro d h1 h2
    rw [insInner, insInner]
    by_cases h : j + 1 > a
    · have h3 := h2 j (by omega) (by omega)
      have e : tlt key d[j + 1]! d[j]! = rlt key d[j + 1]! d[j]! := by
        unfold tlt rlt
        exact decide_eq_decide.2 (by omega)
      rw [e, ih (swp d (j + 1) j) (by rw [size_swp]; omega) fun i p q => by
        rw [swp_other _ _ _ _ (by omega) (by omega), swp_right _ _ _ (by omega)]
        exact h2 i p (by omega)]
    · rw [decide_eq_false h]
      rfl
theorem insOuter_eq (a b n : Nat) : ∀ (i : Nat) (d : Array (β × Nat)), b - i ≤ n → a ≤ i → b ≤ d.size → (∀ p q, a ≤ p → p < q → i ≤ q → q < b → d[p]!.2 < d[q]!.2) →
    insOuter (tlt key) a b i d = insOuter (rlt key) a b i d := by
  induction n with
  | zero => intro i d h _ _ _; rw [insOuter.eq_def (tlt key) a b i, insOuter.eq_def (rlt key) a b i, if_neg (by omega), if_neg (by omega)]
  | succ n ih =>
    intro i d h h0 h1 h2
    rw [insOuter.eq_def (tlt key) a b i, insOuter.eq_def (rlt key) a b i]
    by_cases hi : i < b
    · rw [if_pos hi, if_pos hi, insInner_eq key a i d (by omega) fun p q r => h2 p i q r (Nat.le_refl _) hi]
      have hp := insInner_perm (rlt key) a i i d (Nat.le_refl _) (by omega)
      refine ih (i + 1) _ (by omega) (by omega) (by rw [hp.1]; exact h1) fun p q r s t u => ?_
      rw [hp.2.1 q (by omega)]
      by_cases h3 : p < i + 1
      · exact permIn_all d _ a (i + 1) (fun x => x.2 < d[q]!.2) (by omega) hp (fun p r s => h2 p q r (by omega) (by omega) u) p r h3
      · rw [hp.2.1 p (by omega)]
        exact h2 p q r s (by omega) u
    · rw [if_neg hi, if_neg hi]
theorem insS_ok (a b : Nat) (d : Array (β × Nat)) (hab : a ≤ b) (hb : b ≤ d.size) (h : ∀ p q, a ≤ p → p < q → q < b → d[p]!.2 < d[q]!.2) :
    PermIn a b d (insertionSort (tlt key) d a b) ∧ Srt key a b (insertionSort (tlt key) d a b) := by
  have e : insertionSort (tlt key) d a b = insertionSort (rlt key) d a b := insOuter_eq key a b b _ d (by omega) (by omega) hb fun p q r s _ u => h p q r s u
  rw [e]
  obtain ⟨h1, h2⟩ := insertionSort_holds (rlt_swo key) d a b hab hb
  exact ⟨h1, (srt_iff key a b _).1 h2⟩

/-- a part sorted that holds its own numbers -/
def Gd (a b : Nat) (d : Array (β × Nat)) : Prop := Srt key a b d ∧ ∀ i, a ≤ i → i < b → a ≤ d[i]!.2 ∧ d[i]!.2 < b
theorem gd_get {a b : Nat} {d d' : Array (β × Nat)} (h : Gd key a b d) (e : ∀ i, a ≤ i → i < b → d'[i]! = d[i]!) : Gd key a b d' :=
  ⟨srt_get key h.1 e, fun i p q => by rw [e i p q]; exact h.2 i p q⟩
theorem gd_mrg (g a m b : Nat) (d : Array (β × Nat)) (hg : b - a ≤ g) (h1 : a < m) (h2 : m < b) (hb : b ≤ d.size) (A : Gd key a m d) (B : Gd key m b d) :
    PermIn a b d (symM (tlt key) g a m b d) ∧ Gd key a b (symM (tlt key) g a m b d) := by
  obtain ⟨r1, r2⟩ := symM_ok key g a m b d hg h1 h2 hb A.1 B.1 fun i j p q r s => by
    have := A.2 i p q
    have := B.2 j r s
    omega
  refine ⟨r1, r2, fun i p q => permIn_all d _ a b (fun x => a ≤ x.2 ∧ x.2 < b) hb r1 (fun i p q => ?_) i p q⟩
  by_cases h : i < m
  · have := A.2 i p h
    omega
  · have := B.2 i (by omega) q
    omega
theorem mrgB_ok (n s : Nat) (hs : 1 ≤ s) : ∀ (g q : Nat) (d : Array (β × Nat)), n ≤ d.size → n - q * (2 * s) ≤ g →
    (∀ p, p < q → p * (2 * s) < n → Gd key (p * (2 * s)) (min (p * (2 * s) + 2 * s) n) d) → (∀ p, 2 * q ≤ p → p * s < n → Gd key (p * s) (min (p * s + s) n) d) →
    PermIn 0 n d (mrgB (tlt key) n s g (q * (2 * s)) d) ∧ ∀ p, p * (2 * s) < n → Gd key (p * (2 * s)) (min (p * (2 * s) + 2 * s) n) (mrgB (tlt key) n s g (q * (2 * s)) d) := by
  intro g
  induction g with
  | zero =>
    intro q d hn hg h1 h2
    rw [mrgB, if_neg (by omega)]
    refine ⟨permIn_refl _ _ _, fun p hp => h1 p ?_ hp⟩
    refine Nat.lt_of_not_le fun hq => ?_
    have := Nat.mul_le_mul_right (2 * s) hq
    omega
  | succ g ih =>
    intro q d hn hg h1 h2
    have e0 : 2 * q * s = q * (2 * s) := by rw [Nat.mul_comm 2 q, Nat.mul_assoc]
    have e1 : (2 * q + 1) * s = q * (2 * s) + s := by rw [Nat.succ_mul, e0]
    have e2 : (q + 1) * (2 * s) = q * (2 * s) + 2 * s := Nat.succ_mul _ _
    have e3 : 2 * (q + 1) * s = q * (2 * s) + 2 * s := by rw [Nat.mul_comm 2 (q + 1), Nat.mul_assoc, e2]
    have hlt : ∀ p, p < q → p * (2 * s) + 2 * s ≤ q * (2 * s) := fun p hp => by
      have := Nat.mul_le_mul_right (2 * s) (Nat.succ_le_of_lt hp)
      rw [Nat.succ_mul] at this
      exact this
    have hge : ∀ p, ¬ p < q → p ≠ q → q * (2 * s) + 2 * s ≤ p * (2 * s) := fun p hp hq => by
      have := Nat.mul_le_mul_right (2 * s) (show q + 1 ≤ p by omega)
      rw [Nat.succ_mul] at this
      exact this
    have G0 := h2 (2 * q) (Nat.le_refl _)
    have G1 := h2 (2 * q + 1) (by omega)
    rw [e0] at G0
    rw [e1] at G1
    have hr : ∀ p, 2 * (q + 1) ≤ p → q * (2 * s) + 2 * s ≤ p * s := fun p hp => by
      have := Nat.mul_le_mul_right s hp
      rw [e3] at this
      exact this
    generalize hA : q * (2 * s) = A at *
    rw [mrgB]
    by_cases c1 : A + 2 * s ≤ n
    · rw [if_pos c1]
      have G0 := G0 (by omega)
      have G1 := G1 (by omega)
      rw [Nat.min_eq_left (by omega)] at G0 G1
      have e4 : A + s + s = A + 2 * s := by omega
      rw [e4] at G1
      obtain ⟨r1, r2⟩ := gd_mrg key n A (A + s) (A + 2 * s) d (by omega) (by omega) (by omega) (by omega) G0 G1
      obtain ⟨s1, s2⟩ := ih (q + 1) (symM (tlt key) n A (A + s) (A + 2 * s) d) (by rw [r1.1]; exact hn) (by rw [e2]; omega) (fun p hp hpn => by
        by_cases hpq : p = q
        · subst hpq
          rw [hA, Nat.min_eq_left c1]
          exact r2
        · have h3 := hlt p (by omega)
          exact gd_get key (h1 p (by omega) hpn) fun i u v => r1.2.1 i (by omega)) (fun p hp hpn => by
        have h3 := hr p hp
        exact gd_get key (h2 p (by omega) hpn) fun i u v => r1.2.1 i (by omega))
      rw [e2] at s1 s2
      exact ⟨permIn_trans _ _ _ _ _ (permIn_mono _ _ _ _ _ _ (Nat.zero_le _) (by omega) hn r1) s1, s2⟩
    · rw [if_neg c1]
      by_cases c2 : A + s < n
      · rw [if_pos c2]
        have G0 := G0 (by omega)
        have G1 := G1 (by omega)
        rw [Nat.min_eq_left (by omega)] at G0
        rw [Nat.min_eq_right (by omega)] at G1
        obtain ⟨r1, r2⟩ := gd_mrg key n A (A + s) n d (by omega) (by omega) (by omega) (by omega) G0 G1
        refine ⟨permIn_mono _ _ _ _ _ _ (Nat.zero_le _) (by omega) hn r1, fun p hp => ?_⟩
        by_cases hpq : p = q
        · subst hpq
          rw [hA, Nat.min_eq_right (by omega)]
          exact r2
        · by_cases hl : p < q
          · have h3 := hlt p hl
            exact gd_get key (h1 p hl hp) fun i u v => r1.2.1 i (by omega)
          · have h3 := hge p hl hpq
            omega
      · rw [if_neg c2]
        refine ⟨permIn_refl _ _ _, fun p hp => ?_⟩
        by_cases hpq : p = q
        · subst hpq
          rw [hA] at hp ⊢
          have G0 := G0 hp
          rw [Nat.min_eq_right (by omega)] at G0 ⊢
          exact G0
        · by_cases hl : p < q
          · exact h1 p hl hp
          · have h3 := hge p hl hpq
            omega
theorem mrgA_ok (n : Nat) : ∀ (g s : Nat) (d : Array (β × Nat)), 1 ≤ s → n ≤ d.size → n - s ≤ g → (∀ p, p * s < n → Gd key (p * s) (min (p * s + s) n) d) →
    PermIn 0 n d (mrgA (tlt key) n g s d) ∧ Srt key 0 n (mrgA (tlt key) n g s d) := by
  have hend : ∀ (s : Nat) (d : Array (β × Nat)), n ≤ s → (∀ p, p * s < n → Gd key (p * s) (min (p * s + s) n) d) → Srt key 0 n d := by
    intro s d h1 h2
    by_cases h0 : n = 0
    · subst h0
      intro i j p q r
      omega
    · have h3 := h2 0 (by rw [Nat.zero_mul]; omega)
      rw [Nat.zero_mul, Nat.min_eq_right (by omega)] at h3
      exact h3.1
  intro g
  induction g with
  | zero => intro s d hs hn hg h; rw [mrgA]; exact ⟨permIn_refl _ _ _, hend s d (by omega) h⟩
  | succ g ih =>
    intro s d hs hn hg h
    rw [mrgA]
    by_cases c : s < n
    · rw [if_pos c]
      obtain ⟨r1, r2⟩ := mrgB_ok key n s hs n 0 d hn (by omega) (fun p hp => by omega) (fun p _ hp => h p hp)
      rw [Nat.zero_mul] at r1 r2
      rw [Nat.mul_comm s 2]
      obtain ⟨s1, s2⟩ := ih (2 * s) _ (by omega) (by rw [r1.1]; exact hn) (by omega) r2
      exact ⟨permIn_trans _ _ _ _ _ r1 s1, s2⟩
    · rw [if_neg c]
      exact ⟨permIn_refl _ _ _, hend s d (by omega) h⟩
theorem insB_ok (n : Nat) : ∀ (g q : Nat) (d : Array (β × Nat)), n ≤ d.size → n - q * 20 ≤ g → q * 20 ≤ n → (∀ p, p < q → Gd key (p * 20) (min (p * 20 + 20) n) d) → (∀ i, q * 20 ≤ i → i < n → d[i]!.2 = i) →
    PermIn 0 n d (insB (tlt key) n g (q * 20) d) ∧ ∀ p, p * 20 < n → Gd key (p * 20) (min (p * 20 + 20) n) (insB (tlt key) n g (q * 20) d) := by
  have hend : ∀ (q : Nat) (d : Array (β × Nat)), n ≤ d.size → n < q * 20 + 20 → q * 20 ≤ n → (∀ p, p < q → Gd key (p * 20) (min (p * 20 + 20) n) d) → (∀ i, q * 20 ≤ i → i < n → d[i]!.2 = i) →
      PermIn 0 n d (insertionSort (tlt key) d (q * 20) n) ∧ ∀ p, p * 20 < n → Gd key (p * 20) (min (p * 20 + 20) n) (insertionSort (tlt key) d (q * 20) n) := by
    intro q d hn hq hq2 h1 h2
    obtain ⟨r1, r2⟩ := insS_ok key (q * 20) n d hq2 hn fun p r u v w => by rw [h2 p u (by omega), h2 r (by omega) w]; exact v
    refine ⟨permIn_mono _ _ _ _ _ _ (Nat.zero_le _) (Nat.le_refl _) hn r1, fun p hp => ?_⟩
    by_cases hpq : p < q
    · exact gd_get key (h1 p hpq) fun i u v => r1.2.1 i (by omega)
    · obtain rfl : p = q := by omega
      rw [Nat.min_eq_right (by omega)]
      exact ⟨r2, fun i u v => permIn_all d _ (p * 20) n (fun x => p * 20 ≤ x.2 ∧ x.2 < n) hn r1 (fun i u v => by rw [h2 i u v]; omega) i u v⟩
  intro g
  induction g with
  | zero => intro q d hn hg hq h1 h2; rw [insB]; exact hend q d hn (by omega) hq h1 h2
  | succ g ih =>
    intro q d hn hg hq h1 h2
    rw [insB]
    by_cases c : q * 20 + 20 ≤ n
    · rw [if_pos c]
      obtain ⟨r1, r2⟩ := insS_ok key (q * 20) (q * 20 + 20) d (by omega) (by omega) fun p r u v w => by rw [h2 p u (by omega), h2 r (by omega) (by omega)]; exact v
      have e : q * 20 + 20 = (q + 1) * 20 := by omega
      obtain ⟨s1, s2⟩ := ih (q + 1) (insertionSort (tlt key) d (q * 20) (q * 20 + 20)) (by rw [r1.1]; exact hn) (by omega) (by omega) (fun p hp => by
        by_cases hpq : p < q
        · exact gd_get key (h1 p hpq) fun i u v => r1.2.1 i (by omega)
        · obtain rfl : p = q := by omega
          rw [Nat.min_eq_left c]
          exact ⟨r2, fun i u v => permIn_all d _ (p * 20) (p * 20 + 20) (fun x => p * 20 ≤ x.2 ∧ x.2 < p * 20 + 20) (by omega) r1 (fun i u v => by rw [h2 i u (by omega)]; omega) i u v⟩)
        (fun i u v => by rw [r1.2.1 i (by omega)]; exact h2 i (by omega) v)
      rw [← e] at s1 s2
      exact ⟨permIn_trans _ _ _ _ _ (permIn_mono _ _ _ _ _ _ (Nat.zero_le _) (by omega) hn r1) s1, s2⟩
    · rw [if_neg c]
      exact hend q d hn (by omega) hq h1 h2
/-- numbered -/
def numb (d : Array β) : Array (β × Nat) := Array.ofFn fun i : Fin d.size => (d[i.val]!, i.val)
theorem numb_size (d : Array β) : (numb d).size = d.size := Array.size_ofFn
theorem numb_get (d : Array β) (i : Nat) (h : i < d.size) : (numb d)[i]! = (d[i]!, i) := by
  rw [getElem!_pos _ i (by rw [numb_size]; exact h)]
  exact Array.getElem_ofFn ..
theorem numb_map (d : Array β) : (numb d).map Prod.fst = d := by
  apply Array.ext
  · rw [Array.size_map, numb_size]
  · intro i h1 h2
    rw [Array.getElem_map, ← getElem!_pos (numb d) i (by rw [numb_size]; exact h2), numb_get d i h2]
    exact getElem!_pos d i h2
theorem numb_mem (d : Array β) (x : β × Nat) (h : x ∈ (numb d).toList) : x = (d[x.2]!, x.2) := by
  obtain ⟨i, hi, e⟩ := List.mem_iff_getElem.1 h
  have hi' : i < d.size := by rw [Array.length_toList, numb_size] at hi; exact hi
  have e2 : (numb d)[i]! = x := by
    rw [getElem!_pos _ i (by rw [numb_size]; exact hi')]
    rw [← e, Array.getElem_toList]
  rw [numb_get d i hi'] at e2
  subst e2
  rfl
theorem srt_pair (d : Array (β × Nat)) (h : Srt key 0 d.size d) : d.toList.Pairwise (rle key) := by
  rw [List.pairwise_iff_getElem]
  intro i j hi hj hij
  have hj' : j < d.size := by simpa using hj
  have := h i j (Nat.zero_le _) hij hj'
  rw [getElem!_pos d i (by omega), getElem!_pos d j hj'] at this
  simpa using this
theorem srt_uniq (d : Array β) (x y : Array (β × Nat)) (hx : PermIn 0 d.size (numb d) x) (hy : PermIn 0 d.size (numb d) y) (sx : Srt key 0 d.size x) (sy : Srt key 0 d.size y) : x = y := by
  have e : ∀ z : Array (β × Nat), PermIn 0 d.size (numb d) z → z.size = d.size ∧ z.toList.Perm (numb d).toList := fun z hz => by
    have h1 : z.size = d.size := hz.1.trans (numb_size d)
    have h2 := hz.2.2
    have e1 : z.extract 0 d.size = z := by rw [← h1]; exact Array.extract_size
    have e2 : (numb d).extract 0 d.size = numb d := by rw [← numb_size d]; exact Array.extract_size
    rw [e1, e2] at h2
    exact ⟨h1, h2⟩
  obtain ⟨x1, x2⟩ := e x hx
  obtain ⟨y1, y2⟩ := e y hy
  rw [← x1] at sx
  rw [← y1] at sy
  apply Array.ext'
  refine List.Perm.eq_of_pairwise (le := rle key) ?_ (srt_pair key x sx) (srt_pair key y sy) (x2.trans y2.symm)
  intro p q hp hq h1 h2
  have ep := numb_mem d p (x2.mem_iff.1 hp)
  have eq := numb_mem d q (y2.mem_iff.1 hq)
  have en : p.2 = q.2 := by
    unfold rle at h1 h2
    omega
  rw [ep, eq, en]
/-- the stable sort by merges in place is the insertion sort -/
theorem stab_eq (n : Nat) (d : Array β) (hn : d.size = n) : mrgA (klt key) n n 20 (insB (klt key) n n 0 d) = insertionSort (klt key) d 0 n := by
  subst hn
  have hi : ∀ i, i < d.size → (numb d)[i]!.2 = i := fun i h => by rw [numb_get d i h]
  obtain ⟨b1, b2⟩ := insB_ok key d.size d.size 0 (numb d) (by rw [numb_size]; exact Nat.le_refl _) (by omega) (by omega) (fun p hp => by omega) (fun i _ h => hi i h)
  rw [Nat.zero_mul] at b1 b2
  obtain ⟨a1, a2⟩ := mrgA_ok key d.size d.size 20 _ (by omega) (by rw [b1.1, numb_size]; exact Nat.le_refl _) (by omega) b2
  obtain ⟨i1, i2⟩ := insS_ok key 0 d.size (numb d) (Nat.zero_le _) (by rw [numb_size]; exact Nat.le_refl _) fun p q _ r s => by rw [hi p (by omega), hi q s]; exact r
  have e := srt_uniq key d _ _ (permIn_trans _ _ _ _ _ b1 a1) i1 a2 i2
  have e2 := congrArg (Array.map Prod.fst) e
  rw [map_mrgA Prod.fst rfl (tlt key) (klt key) (fun _ _ => rfl), map_insB Prod.fst rfl (tlt key) (klt key) (fun _ _ => rfl), map_insS Prod.fst rfl (tlt key) (klt key) (fun _ _ => rfl), numb_map] at e2
  exact e2
end stable
end Go.Proofs.Ytjnmlgfkiebkgaa
