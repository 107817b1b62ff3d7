/-
  A tree of lists of numbers, as reclaimref19.Tree keeps it: a key is new just where it is not among the keys. Plain data.
  reclaimref19.Tree in memory: its keys, its left and right links; what stays where one of its rows grows or is written. No walk.
  reclaimref19.Less: of two lists of numbers the lesser one.
  reclaimref19.Tree.Put: a key is put into the tree, unless it is there.
-/
import Derived.Test.YtgbopmgeicokoaaRw0
import Derived.Test.YtgbopmgeicokoaaRst0
import Derived.BigQuiet
import Derived.Test.YtgbopmgeicokoaaClk0
import Derived.Deep.DeepCutAuto
import Derived.Deep.CutBlock
namespace Go.Proofs.Ytgbopmgeicokoaa
open Go.RowKit
set_option linter.unusedSimpArgs false
set_option linter.unusedVariables false

def lessL : List Int → List Int → Bool
  | [], [] => false
  | [], _ :: _ => true
  | _ :: _, [] => false
  | a :: u, b :: v => if a = b then lessL u v else decide (a < b)
theorem lessL_self : ∀ a, lessL a a = false
  | [] => rfl
  | a :: u => by rw [lessL, if_pos rfl]; exact lessL_self u
theorem lessL_tri : ∀ a b, lessL a b = false → lessL b a = false → a = b
  | [], [], _, _ => rfl
  | [], _ :: _, h, _ => by simp [lessL] at h
  | _ :: _, [], _, h => by simp [lessL] at h
  | a :: u, b :: v, h1, h2 => by
    rw [lessL] at h1 h2
    by_cases hab : a = b
    · subst hab
      rw [if_pos rfl] at h1 h2
      rw [lessL_tri u v h1 h2]
    · rw [if_neg hab] at h1
      rw [if_neg (Ne.symm hab)] at h2
      simp at h1 h2
      omega
theorem lessL_same {a b : List Int} {i : Nat} {x : Int} (ha : a[i]? = some x) (hb : b[i]? = some x) : lessL (a.drop i) (b.drop i) = lessL (a.drop (i + 1)) (b.drop (i + 1)) := by
  obtain ⟨h1, e1⟩ := List.getElem?_eq_some_iff.1 ha
  obtain ⟨h2, e2⟩ := List.getElem?_eq_some_iff.1 hb
  rw [List.drop_eq_getElem_cons h1, List.drop_eq_getElem_cons h2, lessL, e1, e2, if_pos rfl]
theorem lessL_diff {a b : List Int} {i : Nat} {x y : Int} (ha : a[i]? = some x) (hb : b[i]? = some y) (h : x ≠ y) : lessL (a.drop i) (b.drop i) = decide (x < y) := by
  obtain ⟨h1, e1⟩ := List.getElem?_eq_some_iff.1 ha
  obtain ⟨h2, e2⟩ := List.getElem?_eq_some_iff.1 hb
  rw [List.drop_eq_getElem_cons h1, List.drop_eq_getElem_cons h2, lessL, e1, e2, if_neg h]
theorem lessL_end {a b : List Int} {i : Nat} (h : a.length ≤ i ∨ b.length ≤ i) (h2 : i ≤ a.length) (h3 : i ≤ b.length) : lessL (a.drop i) (b.drop i) = decide (a.length < b.length) := by
  by_cases ha : a.length ≤ i
  · rw [List.drop_eq_nil_of_le ha]
    by_cases hb : b.length ≤ i
    · rw [List.drop_eq_nil_of_le hb]
      simp [lessL]
      omega
    · rw [List.drop_eq_getElem_cons (by omega)]
      simp [lessL]
      omega
  · rw [List.drop_eq_nil_of_le (show b.length ≤ i by omega), List.drop_eq_getElem_cons (show i < a.length by omega)]
    simp [lessL]
    omega

structure Tr where
  ks : List (List Int)
  L : List Int
  R : List Int
def Tr.key (T : Tr) (i : Nat) : List Int := T.ks.getD i []
def Tr.l (T : Tr) (i : Nat) : Int := T.L.getD i (-1)
def Tr.r (T : Tr) (i : Nat) : Int := T.R.getD i (-1)
inductive Rs where
  | hit (i : Nat)
  | miss (a : Nat) (right : Bool)
def srch (T : Tr) (k : List Int) : Nat → Nat → Rs
  | 0, i => .hit i
  | f + 1, i =>
    if lessL k (T.key i) = true then (if T.l i < 0 then .miss i false else srch T k f (T.l i).toNat)
    else if lessL (T.key i) k = true then (if T.r i < 0 then .miss i true else srch T k f (T.r i).toNat)
    else .hit i
structure TrB (T : Tr) : Prop where
  l : T.L.length = T.ks.length
  r : T.R.length = T.ks.length
  bl : ∀ i, i < T.ks.length → T.l i = -1 ∨ (i : Int) < T.l i ∧ T.l i < T.ks.length
  br : ∀ i, i < T.ks.length → T.r i = -1 ∨ (i : Int) < T.r i ∧ T.r i < T.ks.length
structure TrW (T : Tr) : Prop where
  b : TrB T
  found : ∀ j, j < T.ks.length → srch T (T.key j) T.ks.length 0 = .hit j
def Tr.nil : Tr := ⟨[], [], []⟩
theorem TrW.nil : TrW Tr.nil := ⟨⟨rfl, rfl, fun i h => (by simp [Tr.nil] at h), fun i h => (by simp [Tr.nil] at h)⟩, fun i h => (by simp [Tr.nil] at h)⟩
section
variable {T : Tr} {k : List Int}
theorem srch_left {f i : Nat} (h : lessL k (T.key i) = true) (hl : ¬ T.l i < 0) : srch T k (f + 1) i = srch T k f (T.l i).toNat := by rw [srch, if_pos h, if_neg hl]
theorem srch_left0 {f i : Nat} (h : lessL k (T.key i) = true) (hl : T.l i < 0) : srch T k (f + 1) i = .miss i false := by rw [srch, if_pos h, if_pos hl]
theorem srch_right {f i : Nat} (h0 : lessL k (T.key i) = false) (h : lessL (T.key i) k = true) (hl : ¬ T.r i < 0) : srch T k (f + 1) i = srch T k f (T.r i).toNat := by rw [srch, if_neg (by simp [h0]), if_pos h, if_neg hl]
theorem srch_right0 {f i : Nat} (h0 : lessL k (T.key i) = false) (h : lessL (T.key i) k = true) (hl : T.r i < 0) : srch T k (f + 1) i = .miss i true := by rw [srch, if_neg (by simp [h0]), if_pos h, if_pos hl]
theorem srch_hit {f i : Nat} (h0 : lessL k (T.key i) = false) (h : lessL (T.key i) k = false) : srch T k (f + 1) i = .hit i := by rw [srch, if_neg (by simp [h0]), if_neg (by simp [h])]
/-- the four ways on from a node -/
theorem srch_ways (b : TrB T) (k : List Int) {i : Nat} (hi : i < T.ks.length) :
    (lessL k (T.key i) = true ∧ T.l i = -1) ∨ (lessL k (T.key i) = true ∧ ∃ c : Nat, T.l i = c ∧ i < c ∧ c < T.ks.length) ∨
    (lessL k (T.key i) = false ∧ lessL (T.key i) k = true ∧ T.r i = -1) ∨ (lessL k (T.key i) = false ∧ lessL (T.key i) k = true ∧ ∃ c : Nat, T.r i = c ∧ i < c ∧ c < T.ks.length) ∨
    (lessL k (T.key i) = false ∧ lessL (T.key i) k = false) := by
  cases h1 : lessL k (T.key i) with
  | true =>
    rcases b.bl i hi with h | h
    · exact Or.inl ⟨rfl, h⟩
    · exact Or.inr (Or.inl ⟨rfl, (T.l i).toNat, by omega, by omega, by omega⟩)
  | false =>
    cases h2 : lessL (T.key i) k with
    | true =>
      rcases b.br i hi with h | h
      · exact Or.inr (Or.inr (Or.inl ⟨rfl, rfl, h⟩))
      · exact Or.inr (Or.inr (Or.inr (Or.inl ⟨rfl, rfl, (T.r i).toNat, by omega, by omega, by omega⟩)))
    | false => exact Or.inr (Or.inr (Or.inr (Or.inr ⟨rfl, rfl⟩)))
theorem srch_l {f i c : Nat} (h : lessL k (T.key i) = true) (hl : T.l i = c) : srch T k (f + 1) i = srch T k f c := by rw [srch_left h (by omega), hl]; rfl
theorem srch_r {f i c : Nat} (h0 : lessL k (T.key i) = false) (h : lessL (T.key i) k = true) (hl : T.r i = c) : srch T k (f + 1) i = srch T k f c := by rw [srch_right h0 h (by omega), hl]; rfl
theorem srch_fuel (b : TrB T) (k : List Int) : ∀ f i, i < T.ks.length → T.ks.length ≤ f + i → srch T k (f + 1) i = srch T k f i
  | 0, i, hi, hf => absurd hf (by omega)
  | f + 1, i, hi, hf => by
    rcases srch_ways b k hi with ⟨h1, h2⟩ | ⟨h1, c, h2, h3, h4⟩ | ⟨h0, h1, h2⟩ | ⟨h0, h1, c, h2, h3, h4⟩ | ⟨h0, h1⟩
    · rw [srch_left0 h1 (by omega), srch_left0 h1 (by omega)]
    · rw [srch_l h1 h2, srch_l h1 h2]
      exact srch_fuel b k f c h4 (by omega)
    · rw [srch_right0 h0 h1 (by omega), srch_right0 h0 h1 (by omega)]
    · rw [srch_r h0 h1 h2, srch_r h0 h1 h2]
      exact srch_fuel b k f c h4 (by omega)
    · rw [srch_hit h0 h1, srch_hit h0 h1]
theorem srch_up (b : TrB T) (k : List Int) {f i : Nat} (hi : i < T.ks.length) (hf : T.ks.length ≤ f + i) : ∀ d, srch T k (f + d) i = srch T k f i
  | 0 => rfl
  | d + 1 => by rw [← Nat.add_assoc, srch_fuel b k (f + d) i hi (by omega)]; exact srch_up b k hi hf d
theorem srch_hit_key (b : TrB T) : ∀ f i j, i < T.ks.length → T.ks.length ≤ f + i → srch T k f i = .hit j → j < T.ks.length ∧ T.key j = k
  | 0, i, j, hi, hf, _ => absurd hf (by omega)
  | f + 1, i, j, hi, hf, h => by
    rcases srch_ways b k hi with ⟨h1, h2⟩ | ⟨h1, c, h2, h3, h4⟩ | ⟨h0, h1, h2⟩ | ⟨h0, h1, c, h2, h3, h4⟩ | ⟨h0, h1⟩
    · rw [srch_left0 h1 (by omega)] at h; cases h
    · rw [srch_l h1 h2] at h
      exact srch_hit_key b f c j h4 (by omega) h
    · rw [srch_right0 h0 h1 (by omega)] at h; cases h
    · rw [srch_r h0 h1 h2] at h
      exact srch_hit_key b f c j h4 (by omega) h
    · rw [srch_hit h0 h1] at h
      injection h with h
      subst h
      exact ⟨hi, (lessL_tri _ _ h0 h1).symm⟩
theorem srch_miss_at (b : TrB T) : ∀ f i a r, i < T.ks.length → T.ks.length ≤ f + i → srch T k f i = .miss a r → a < T.ks.length ∧ (r = false → T.l a = -1) ∧ (r = true → T.r a = -1)
  | 0, i, a, r, hi, hf, _ => absurd hf (by omega)
  | f + 1, i, a, r, hi, hf, h => by
    rcases srch_ways b k hi with ⟨h1, h2⟩ | ⟨h1, c, h2, h3, h4⟩ | ⟨h0, h1, h2⟩ | ⟨h0, h1, c, h2, h3, h4⟩ | ⟨h0, h1⟩
    · rw [srch_left0 h1 (by omega)] at h
      injection h with h h9
      subst h h9
      exact ⟨hi, fun _ => h2, fun h => (by cases h)⟩
    · rw [srch_l h1 h2] at h
      exact srch_miss_at b f c a r h4 (by omega) h
    · rw [srch_right0 h0 h1 (by omega)] at h
      injection h with h h9
      subst h h9
      exact ⟨hi, fun h => (by cases h), fun _ => h2⟩
    · rw [srch_r h0 h1 h2] at h
      exact srch_miss_at b f c a r h4 (by omega) h
    · rw [srch_hit h0 h1] at h; cases h
end
/-- a new key, hung on at a node's side -/
def Tr.hang (T : Tr) (k : List Int) (a : Nat) (r : Bool) : Tr := ⟨T.ks ++ [k], (if r then T.L else T.L.set a (T.ks.length : Int)) ++ [-1], (if r then T.R.set a (T.ks.length : Int) else T.R) ++ [-1]⟩
def putT (T : Tr) (k : List Int) : Tr × Nat × Bool :=
  if T.ks.length = 0 then (⟨[k], [-1], [-1]⟩, 0, true)
  else match srch T k T.ks.length 0 with
    | .hit i => (T, i, false)
    | .miss a r => (T.hang k a r, T.ks.length, true)
section
variable {T : Tr} {k : List Int} {a : Nat} {r : Bool}
theorem hang_key {i : Nat} (hi : i < T.ks.length) : (T.hang k a r).key i = T.key i := by
  unfold Tr.hang Tr.key
  simp [List.getD_eq_getElem?_getD, List.getElem?_append_left hi]
theorem hang_key_n : (T.hang k a r).key T.ks.length = k := by
  unfold Tr.hang Tr.key
  simp [List.getD_eq_getElem?_getD]
theorem hang_l (b : TrB T) (ha : a < T.ks.length) {i : Nat} (hi : i < T.ks.length) : (T.hang k a r).l i = if r = false ∧ i = a then (T.ks.length : Int) else T.l i := by
  have hl := b.l
  unfold Tr.hang Tr.l
  cases r with
  | true => simp [List.getD_eq_getElem?_getD, List.getElem?_append_left (show i < T.L.length by omega)]
  | false =>
    simp only [Bool.false_eq_true, if_false, true_and, List.getD_eq_getElem?_getD]
    rw [List.getElem?_append_left (by rw [List.length_set]; omega), List.getElem?_set]
    by_cases h : i = a
    · subst h; simp [show i < T.L.length by omega]
    · rw [if_neg (Ne.symm h), if_neg h]
theorem hang_r (b : TrB T) (ha : a < T.ks.length) {i : Nat} (hi : i < T.ks.length) : (T.hang k a r).r i = if r = true ∧ i = a then (T.ks.length : Int) else T.r i := by
  have hl := b.r
  unfold Tr.hang Tr.r
  cases r with
  | false => simp [List.getD_eq_getElem?_getD, List.getElem?_append_left (show i < T.R.length by omega)]
  | true =>
    simp only [if_true, true_and, List.getD_eq_getElem?_getD]
    rw [List.getElem?_append_left (by rw [List.length_set]; omega), List.getElem?_set]
    by_cases h : i = a
    · subst h; simp [show i < T.R.length by omega]
    · rw [if_neg (Ne.symm h), if_neg h]
theorem hang_len : (T.hang k a r).ks.length = T.ks.length + 1 := by simp [Tr.hang]
theorem hang_B (b : TrB T) (ha : a < T.ks.length) : TrB (T.hang k a r) := by
  have h1 := b.l
  have h2 := b.r
  refine ⟨?_, ?_, ?_, ?_⟩
  · rw [hang_len]; unfold Tr.hang; cases r <;> simp [h1]
  · rw [hang_len]; unfold Tr.hang; cases r <;> simp [h2]
  · intro i hi
    rw [hang_len] at hi ⊢
    by_cases hn : i < T.ks.length
    · rw [hang_l b ha hn]
      have := b.bl i hn
      split <;> omega
    · have hin : i = T.ks.length := by omega
      left
      subst hin
      unfold Tr.hang Tr.l
      cases r <;> simp [List.getD_eq_getElem?_getD, h1, List.getElem?_append_right]
  · intro i hi
    rw [hang_len] at hi ⊢
    by_cases hn : i < T.ks.length
    · rw [hang_r b ha hn]
      have := b.br i hn
      split <;> omega
    · have hin : i = T.ks.length := by omega
      left
      subst hin
      unfold Tr.hang Tr.r
      cases r <;> simp [List.getD_eq_getElem?_getD, h2, List.getElem?_append_right]
theorem hang_old (b : TrB T) (ha : a < T.ks.length) (hl : r = false → T.l a = -1) (hr : r = true → T.r a = -1) {q : List Int} {j : Nat} : ∀ f i, i < T.ks.length → T.ks.length ≤ f + i → srch T q f i = .hit j → srch (T.hang k a r) q (f + 1) i = .hit j
  | 0, i, hi, hf, _ => absurd hf (by omega)
  | f + 1, i, hi, hf, h => by
    have hk := hang_key (k := k) (a := a) (r := r) hi
    rcases srch_ways b q hi with ⟨h1, h2⟩ | ⟨h1, c, h2, h3, h4⟩ | ⟨h0, h1, h2⟩ | ⟨h0, h1, c, h2, h3, h4⟩ | ⟨h0, h1⟩
    · rw [srch_left0 h1 (by omega)] at h; cases h
    · rw [srch_l h1 h2] at h
      have hc : (T.hang k a r).l i = c := by
        rw [hang_l b ha hi, if_neg, h2]
        rintro ⟨e1, e2⟩
        subst e2
        have := hl e1
        omega
      rw [srch_l (by rw [hk]; exact h1) hc]
      exact hang_old b ha hl hr f c h4 (by omega) h
    · rw [srch_right0 h0 h1 (by omega)] at h; cases h
    · rw [srch_r h0 h1 h2] at h
      have hc : (T.hang k a r).r i = c := by
        rw [hang_r b ha hi, if_neg, h2]
        rintro ⟨e1, e2⟩
        subst e2
        have := hr e1
        omega
      rw [srch_r (by rw [hk]; exact h0) (by rw [hk]; exact h1) hc]
      exact hang_old b ha hl hr f c h4 (by omega) h
    · rw [srch_hit h0 h1] at h
      rw [srch_hit (by rw [hk]; exact h0) (by rw [hk]; exact h1)]
      exact h
theorem hang_new (b : TrB T) (ha : a < T.ks.length) (hl : r = false → T.l a = -1) (hr : r = true → T.r a = -1) : ∀ f i, i < T.ks.length → T.ks.length ≤ f + i → srch T k f i = .miss a r → srch (T.hang k a r) k (f + 1) i = .hit T.ks.length
  | 0, i, hi, hf, _ => absurd hf (by omega)
  | f + 1, i, hi, hf, h => by
    have hk := hang_key (k := k) (a := a) (r := r) hi
    have hn : srch (T.hang k a r) k (f + 1) T.ks.length = .hit T.ks.length := srch_hit (by rw [hang_key_n]; exact lessL_self k) (by rw [hang_key_n]; exact lessL_self k)
    rcases srch_ways b k hi with ⟨h1, h2⟩ | ⟨h1, c, h2, h3, h4⟩ | ⟨h0, h1, h2⟩ | ⟨h0, h1, c, h2, h3, h4⟩ | ⟨h0, h1⟩
    · rw [srch_left0 h1 (by omega)] at h
      injection h with e1 e2
      subst e1
      have hc : (T.hang k i r).l i = (T.ks.length : Nat) := by rw [hang_l b ha hi, if_pos ⟨e2.symm, rfl⟩]
      rw [srch_l (by rw [hk]; exact h1) hc]
      exact hn
    · rw [srch_l h1 h2] at h
      have hc : (T.hang k a r).l i = c := by
        rw [hang_l b ha hi, if_neg, h2]
        rintro ⟨e1, e2⟩
        subst e2
        have := hl e1
        omega
      rw [srch_l (by rw [hk]; exact h1) hc]
      exact hang_new b ha hl hr f c h4 (by omega) h
    · rw [srch_right0 h0 h1 (by omega)] at h
      injection h with e1 e2
      subst e1
      have hc : (T.hang k i r).r i = (T.ks.length : Nat) := by rw [hang_r b ha hi, if_pos ⟨e2.symm, rfl⟩]
      rw [srch_r (by rw [hk]; exact h0) (by rw [hk]; exact h1) hc]
      exact hn
    · rw [srch_r h0 h1 h2] at h
      have hc : (T.hang k a r).r i = c := by
        rw [hang_r b ha hi, if_neg, h2]
        rintro ⟨e1, e2⟩
        subst e2
        have := hr e1
        omega
      rw [srch_r (by rw [hk]; exact h0) (by rw [hk]; exact h1) hc]
      exact hang_new b ha hl hr f c h4 (by omega) h
    · rw [srch_hit h0 h1] at h; cases h
theorem hang_W (h : TrW T) (hn : 0 < T.ks.length) (hm : srch T k T.ks.length 0 = .miss a r) : TrW (T.hang k a r) := by
  obtain ⟨ha, hl, hr⟩ := srch_miss_at h.b _ _ _ _ hn (by omega) hm
  refine ⟨hang_B h.b ha, fun j hj => ?_⟩
  rw [hang_len] at hj ⊢
  by_cases hjn : j < T.ks.length
  · rw [hang_key hjn]
    exact hang_old h.b ha hl hr _ _ hn (by omega) (h.found j hjn)
  · obtain rfl : j = T.ks.length := by omega
    rw [hang_key_n]
    exact hang_new h.b ha hl hr _ _ hn (by omega) hm
theorem key_mem {j : Nat} (h : j < T.ks.length) : T.key j ∈ T.ks := by
  unfold Tr.key
  simp [List.getD_eq_getElem?_getD, h]
theorem srch_contains (h : TrW T) (hn : 0 < T.ks.length) : (∀ i, srch T k T.ks.length 0 = .hit i → T.ks.contains k = true) ∧ (∀ a r, srch T k T.ks.length 0 = .miss a r → T.ks.contains k = false) := by
  constructor
  · intro i hi
    obtain ⟨h1, h2⟩ := srch_hit_key h.b _ _ _ hn (by omega) hi
    rw [List.contains_iff_mem, ← h2]
    exact key_mem h1
  · intro a r hm
    cases hc : T.ks.contains k with
    | false => rfl
    | true =>
      rw [List.contains_iff_mem] at hc
      obtain ⟨j, hj, e⟩ := List.mem_iff_getElem.1 hc
      have hk : T.key j = k := by unfold Tr.key; simp [List.getD_eq_getElem?_getD, hj, e]
      have := h.found j hj
      rw [hk, hm] at this
      cases this
end
theorem TrW.one (k : List Int) : TrW ⟨[k], [-1], [-1]⟩ := by
  refine ⟨⟨rfl, rfl, fun i hi => Or.inl ?_, fun i hi => Or.inl ?_⟩, fun j hj => ?_⟩
  · have : i = 0 := by simpa using hi
    subst this; rfl
  · have : i = 0 := by simpa using hi
    subst this; rfl
  · have : j = 0 := by simpa using hj
    subst this
    exact srch_hit (lessL_self _) (lessL_self _)
end Go.Proofs.Ytgbopmgeicokoaa
namespace Go.Proofs.Ytgbopmgeicokoaa
open Go.RowKit
set_option linter.unusedSimpArgs false
set_option linter.unusedVariables false

def keyV (hs : List (Nat × Nat)) (ks : List (List Int)) : List Value := (ks.zip hs).map fun p => .slice (some ⟨p.2.1, 0, none⟩) p.1.length p.2.2
theorem keyV_get {hs : List (Nat × Nat)} {ks : List (List Int)} {i : Nat} {k : List Int} {p : Nat × Nat} (hk : ks[i]? = some k) (hp : hs[i]? = some p) : (keyV hs ks)[i]? = some (.slice (some ⟨p.1, 0, none⟩) k.length p.2) := by
  unfold keyV
  rw [List.getElem?_map, (List.getElem?_zip_eq_some (z := (k, p))).2 ⟨hk, hp⟩]
  rfl
theorem keyV_snoc {hs : List (Nat × Nat)} {ks : List (List Int)} (h : hs.length = ks.length) (k : List Int) (p : Nat × Nat) : keyV (hs ++ [p]) (ks ++ [k]) = keyV hs ks ++ [.slice (some ⟨p.1, 0, none⟩) k.length p.2] := by
  unfold keyV
  rw [List.zip_append h.symm]
  simp
theorem own_keepT {W W' : World} {B s n : Nat} {e : TypeId} {v : Value} {xs : List Value} (h : W.ownsRow B e s v n xs) (hk : ∀ g, v.ownBlock = some g → W'.heap[g]? = W.heap[g]?) : W'.ownsRow B e s v n xs := by
  obtain ⟨h1, h2⟩ := h
  refine ⟨h1, h2.imp id fun ⟨g, cap, cur, hv, hB, hg, h3⟩ => ⟨g, cap, cur, hv, hB, ?_, h3⟩⟩
  rw [hk g (by rw [hv]; rfl)]
  exact hg
structure TrX (W : World) (B gt : Nat) (ks : List (List Int)) (L R : List Int) (vK vL vR : Value) (hs : List (Nat × Nat)) : Prop where
  blk : Blk W gt 221 [vK, vL, vR]
  gtB : B ≤ gt
  kK : W.ownsRow B 30 1 vK ks.length (keyV hs ks)
  kL : W.ownsRow B 3 1 vL L.length (ints L)
  kR : W.ownsRow B 3 1 vR R.length (ints R)
  hl : hs.length = ks.length
  rows : ∀ (i : Nat) (k : List Int) (p : Nat × Nat), ks[i]? = some k → hs[i]? = some p → Rw W p.1 3 1 k.length p.2 (ints k) ∧ some p.1 ≠ vL.ownBlock ∧ some p.1 ≠ vR.ownBlock
  ap : vL.ownBlock = none ∨ vL.ownBlock ≠ vR.ownBlock
/-- the tree's own blocks, that Put may write -/
def trF (gt : Nat) (vK vL vR : Value) (g : Nat) : Prop := g = gt ∨ some g = vK.ownBlock ∨ some g = vL.ownBlock ∨ some g = vR.ownBlock
theorem ap_symm {vL vR : Value} (h : vL.ownBlock = none ∨ vL.ownBlock ≠ vR.ownBlock) : vR.ownBlock = none ∨ vR.ownBlock ≠ vL.ownBlock := by
  rcases h with h | h
  · cases hr : vR.ownBlock with
    | none => exact Or.inl rfl
    | some q => exact Or.inr (by rw [h]; simp)
  · exact Or.inr (Ne.symm h)
theorem own_type {W : World} {B e s n B' e' s' n' : Nat} {v v' : Value} {xs xs' : List Value} (h : W.ownsRow B e s v n xs) (h' : W.ownsRow B' e' s' v' n' xs') (hne : e ≠ e') : v.ownBlock = none ∨ v.ownBlock ≠ v'.ownBlock := by
  rcases h.2 with ⟨rfl, _⟩ | ⟨q, cap, cur, rfl, _, hg, _⟩
  · exact Or.inl rfl
  · refine Or.inr fun he => ?_
    have hb : Blk W q e cur.toList := by unfold Blk; rw [hg]
    exact own_nb h' hb (fun h9 => hne h9.symm) he
section
variable {W W' W7 : World} {B gt : Nat} {ks : List (List Int)} {L R : List Int} {vK vL vR : Value} {hs : List (Nat × Nat)}
theorem TrX.lt (h : TrX W B gt ks L R vK vL vR hs) : ∀ g, trF gt vK vL vR g → g < W.heap.size := by
  rintro g (rfl | e | e | e)
  · exact h.blk.lt
  · exact (h.kK.lt g e.symm).2
  · exact (h.kL.lt g e.symm).2
  · exact (h.kR.lt g e.symm).2
theorem TrX.low (h : TrX W B gt ks L R vK vL vR hs) : ∀ g, trF gt vK vL vR g → B ≤ g := by
  rintro g (rfl | e | e | e)
  · exact h.gtB
  · exact (h.kK.lt g e.symm).1
  · exact (h.kL.lt g e.symm).1
  · exact (h.kR.lt g e.symm).1
/-- what is kept where its own blocks and its keys are -/
theorem TrX.keepF (h : TrX W B gt ks L R vK vL vR hs) (hk : ∀ g, g < W.heap.size → W'.heap[g]? = W.heap[g]?) : TrX W' B gt ks L R vK vL vR hs where
  blk := h.blk.kept (hk _ h.blk.lt)
  gtB := h.gtB
  kK := own_keepT h.kK fun g e => hk g (h.kK.lt g e).2
  kL := own_keepT h.kL fun g e => hk g (h.kL.lt g e).2
  kR := own_keepT h.kR fun g e => hk g (h.kR.lt g e).2
  hl := h.hl
  rows := fun i k p e1 e2 => ⟨(h.rows i k p e1 e2).1.kept (hk _ (h.rows i k p e1 e2).1.lt), (h.rows i k p e1 e2).2⟩
  ap := h.ap
theorem TrX.on (h : TrX W B gt ks L R vK vL vR hs) (hb : Below W.heap.size W W') : TrX W' B gt ks L R vK vL vR hs := h.keepF fun g hg => hb.block g hg
/-- one key more -/
theorem TrX.addK {vK' : Value} {k : List Int} {g cap : Nat} (h : TrX W B gt ks L R vK vL vR hs) (hG : W.grownBy W7 vK.ownBlock) (ho : W7.ownsRow B 30 1 vK' (ks.length + 1) (keyV hs ks ++ [.slice (some ⟨g, 0, none⟩) k.length cap]))
    (hk : Rw W g 3 1 k.length cap (ints k)) (h1 : some g ≠ vL.ownBlock) (h2 : some g ≠ vR.ownBlock) : TrX (W7.setCell ⟨gt, 0, none⟩ vK') B gt (ks ++ [k]) L R vK' vL vR (hs ++ [(g, cap)]) := by
  have hB7 := h.blk.grown hG (own_nb h.kK h.blk (by decide))
  have kr : ∀ {q n c : Nat} {xs : List Value}, Rw W q 3 1 n c xs → Rw (W7.setCell ⟨gt, 0, none⟩ vK') q 3 1 n c xs := fun hr => (hr.gb hG (own_nr h.kK hr (by decide))).far (hr.nb h.blk (by decide)) _
  exact {
    blk := hB7.set_ 0 vK'
    gtB := h.gtB
    kK := by rw [List.length_append, keyV_snoc h.hl]; exact own_far ho hB7 (by decide)
    kL := own_far (h.kL.kept hG (own_type h.kL h.kK (by decide))) hB7 (by decide)
    kR := own_far (h.kR.kept hG (own_type h.kR h.kK (by decide))) hB7 (by decide)
    hl := by simp [h.hl]
    rows := fun i q p e1 e2 => by
      by_cases hi : i < ks.length
      · rw [List.getElem?_append_left hi] at e1
        rw [List.getElem?_append_left (by rw [h.hl]; exact hi)] at e2
        exact ⟨kr (h.rows i q p e1 e2).1, (h.rows i q p e1 e2).2⟩
      · have hi2 : i = ks.length := by
          have := (List.getElem?_eq_some_iff.1 e1).1
          simp at this
          omega
        subst hi2
        rw [List.getElem?_append_right (Nat.le_refl _), Nat.sub_self] at e1
        rw [← h.hl, List.getElem?_append_right (Nat.le_refl _), Nat.sub_self] at e2
        simp at e1 e2
        subst e1 e2
        exact ⟨kr hk, h1, h2⟩
    ap := h.ap }
theorem TrX.addL {vL' : Value} {z : Int} {q : Nat} (h : TrX W B gt ks L R vK vL vR hs) (hG : W.grownBy W7 vL.ownBlock) (ho : W7.ownsRow B 3 1 vL' (L.length + 1) (ints L ++ [.int .i64 z])) (hat : vL'.ownBlock = vL.ownBlock ∨ vL'.ownBlock = some q) (hq : W.heap.size ≤ q) :
    TrX (W7.setCell ⟨gt, 1, none⟩ vL') B gt ks (L ++ [z]) R vK vL' vR hs := by
  have hB7 := h.blk.grown hG (own_nb h.kL h.blk (by decide))
  exact {
    blk := hB7.set_ 1 vL'
    gtB := h.gtB
    kK := own_far (h.kK.kept hG (own_type h.kK h.kL (by decide))) hB7 (by decide)
    kL := by
      have e : ints (L ++ [z]) = ints L ++ [.int .i64 z] := by simp [ints]
      rw [List.length_append, e]
      exact own_far ho hB7 (by decide)
    kR := own_far (h.kR.kept hG (ap_symm h.ap)) hB7 (by decide)
    hl := h.hl
    rows := fun i k p e1 e2 => by
      obtain ⟨hr, n1, n2⟩ := h.rows i k p e1 e2
      refine ⟨(hr.gb hG n1).far (hr.nb h.blk (by decide)) _, ?_, n2⟩
      rcases hat with e | e
      · rw [e]; exact n1
      · rw [e]; intro e9; injection e9 with e9; have := hr.lt; omega
    ap := by
      rcases hat with e | e
      · rw [e]; exact h.ap
      · refine Or.inr ?_
        rw [e]
        intro e9
        have := (h.kR.lt q e9.symm).2
        omega }
theorem TrX.addR {vR' : Value} {z : Int} {q : Nat} (h : TrX W B gt ks L R vK vL vR hs) (hG : W.grownBy W7 vR.ownBlock) (ho : W7.ownsRow B 3 1 vR' (R.length + 1) (ints R ++ [.int .i64 z])) (hat : vR'.ownBlock = vR.ownBlock ∨ vR'.ownBlock = some q) (hq : W.heap.size ≤ q) :
    TrX (W7.setCell ⟨gt, 2, none⟩ vR') B gt ks L (R ++ [z]) vK vL vR' hs := by
  have hB7 := h.blk.grown hG (own_nb h.kR h.blk (by decide))
  exact {
    blk := hB7.set_ 2 vR'
    gtB := h.gtB
    kK := own_far (h.kK.kept hG (own_type h.kK h.kR (by decide))) hB7 (by decide)
    kL := own_far (h.kL.kept hG h.ap) hB7 (by decide)
    kR := by
      have e : ints (R ++ [z]) = ints R ++ [.int .i64 z] := by simp [ints]
      rw [List.length_append, e]
      exact own_far ho hB7 (by decide)
    hl := h.hl
    rows := fun i k p e1 e2 => by
      obtain ⟨hr, n1, n2⟩ := h.rows i k p e1 e2
      refine ⟨(hr.gb hG n2).far (hr.nb h.blk (by decide)) _, n1, ?_⟩
      rcases hat with e | e
      · rw [e]; exact n2
      · rw [e]; intro e9; injection e9 with e9; have := hr.lt; omega
    ap := by
      rcases hat with e | e
      · rw [e]; exact h.ap
      · rcases h.ap with h9 | h9
        · exact Or.inl h9
        · refine Or.inr ?_
          rw [e]
          intro e9
          have := (h.kL.lt q e9).2
          omega }
/-- a cell of a row of one's own is written -/
theorem own_set {A : Option Addr} {n c : Nat} {xs : List Int} {a : Nat} {z : Int} (h : W.ownsRow B 3 1 (.slice A n c) n (ints xs)) (hn : 0 < n) : ∃ g, A = some ⟨g, 0, none⟩ ∧ (W.setCell ⟨g, a, none⟩ (.int .i64 z)).ownsRow B 3 1 (.slice A n c) n (ints (xs.set a z)) ∧ (Value.slice A n c).ownBlock = some g ∧ Rw W g 3 1 n c (ints xs) := by
  obtain ⟨g, rfl, hB, hr⟩ := Rw.of_own h hn
  refine ⟨g, rfl, ?_, rfl, hr⟩
  have h9 := hr.set_ a (.int .i64 z)
  rw [ints_set] at h9
  exact h9.own hB
theorem TrX.setL {g c a : Nat} {z : Int} (h : TrX W B gt ks L R vK (.slice (some ⟨g, 0, none⟩) L.length c) vR hs) (hn : 0 < L.length) : TrX (W.setCell ⟨g, a, none⟩ (.int .i64 z)) B gt ks (L.set a z) R vK (.slice (some ⟨g, 0, none⟩) L.length c) vR hs := by
  obtain ⟨g', e, ho, _, hr⟩ := own_set (a := a) (z := z) h.kL hn
  injection e with e
  injection e with e _
  subst e
  have hG : W.grownBy (W.setCell ⟨g, a, none⟩ (.int .i64 z)) (Value.slice (some ⟨g, 0, none⟩) L.length c).ownBlock := gb_setCell (World.grownBy.refl W _) _ _
  exact {
    blk := h.blk.grown hG (own_nb h.kL h.blk (by decide))
    gtB := h.gtB
    kK := h.kK.kept hG (own_type h.kK h.kL (by decide))
    kL := by rw [List.length_set]; exact ho
    kR := h.kR.kept hG (ap_symm h.ap)
    hl := h.hl
    rows := fun i k p e1 e2 => ⟨(h.rows i k p e1 e2).1.gb hG (h.rows i k p e1 e2).2.1, (h.rows i k p e1 e2).2⟩
    ap := h.ap }
theorem TrX.setR {g c a : Nat} {z : Int} (h : TrX W B gt ks L R vK vL (.slice (some ⟨g, 0, none⟩) R.length c) hs) (hn : 0 < R.length) : TrX (W.setCell ⟨g, a, none⟩ (.int .i64 z)) B gt ks L (R.set a z) vK vL (.slice (some ⟨g, 0, none⟩) R.length c) hs := by
  obtain ⟨g', e, ho, _, hr⟩ := own_set (a := a) (z := z) h.kR hn
  injection e with e
  injection e with e _
  subst e
  have hG : W.grownBy (W.setCell ⟨g, a, none⟩ (.int .i64 z)) (Value.slice (some ⟨g, 0, none⟩) R.length c).ownBlock := gb_setCell (World.grownBy.refl W _) _ _
  exact {
    blk := h.blk.grown hG (own_nb h.kR h.blk (by decide))
    gtB := h.gtB
    kK := h.kK.kept hG (own_type h.kK h.kR (by decide))
    kL := h.kL.kept hG h.ap
    kR := by rw [List.length_set]; exact ho
    hl := h.hl
    rows := fun i k p e1 e2 => ⟨(h.rows i k p e1 e2).1.gb hG (h.rows i k p e1 e2).2.2, (h.rows i k p e1 e2).2⟩
    ap := h.ap }
end
/-- a tree in memory -/
def TrM (W : World) (B gt : Nat) (T : Tr) (vK vL vR : Value) (hs : List (Nat × Nat)) : Prop := TrX W B gt T.ks T.L T.R vK vL vR hs ∧ TrW T
/-- what Put leaves -/
def PutR (T : Tr) (k : List Int) (B gt g cap : Nat) (vK vL vR : Value) (hs : List (Nat × Nat)) (w : World) (e : Ending) (w' : World) : Prop :=
  ∃ vK' vL' vR', e = .returned (.tuple #[.int .i64 ((putT T k).2.1 : Nat), .bool (putT T k).2.2]) ∧ TrM w' B gt (putT T k).1 vK' vL' vR' (if (putT T k).2.2 = true then hs ++ [(g, cap)] else hs) ∧
    Fr (trF gt vK vL vR) w w' ∧ ∀ q, trF gt vK' vL' vR' q → trF gt vK vL vR q ∨ w.heap.size ≤ q
end Go.Proofs.Ytgbopmgeicokoaa
namespace Go.Proofs.Ytgbopmgeicokoaa
open Go.RowKit
set_option linter.unusedSimpArgs false
set_option linter.unusedVariables false

theorem ret_boolL {a b : Bool} (h : a = b) : Ending.returned (.bool a) = .returned (.bool b) := by rw [h]
set_option maxRecDepth 100000 in
set_option maxHeartbeats 4000000 in
theorem less_any (a b : List Int) (A B : Option Addr) (n m k k' : Nat) (w : World) (hA : Sl w w.heap.size 1 A n (ints a)) (hB : Sl w w.heap.size 1 B m (ints b)) (hn : n ≤ maxLen) (hm : m ≤ maxLen) :
    Calls Try.prog 126 #[.slice A n k, .slice B m k'] w (BoolR (lessL a b) w) := by
  have hla : a.length = n := by have := hA.1; rw [ints_len] at this; omega
  have hlb : b.length = m := by have := hB.1; rw [ints_len] at this; omega
  have HA := Lib.hid hA
  have HB := Lib.hid hB
  have HLa := Lib.hid hla
  have HLb := Lib.hid hlb
  clear hA hB hla hlb
  unfold maxLen at hn hm
  go_enter Try.func126, Try.ntmps126
  go_wp2_with fail
  go_loopg [5] n (fun gk i wr => ∃ j : Nat, j + gk = n ∧ i = .int .i64 j ∧ j ≤ m ∧ Hid (lessL a b = lessL (a.drop j) (b.drop j)) ∧ Hid (Below w.heap.size w wr))
  case atStart => exact ⟨0, by omega, rfl, Nat.zero_le _, Lib.hid (by rw [List.drop_zero, List.drop_zero]), Lib.hid (Below.refl _ _)⟩
  case round =>
    obtain ⟨j, hj, rfl, hjm, HL, HW⟩ := hrel
    by_cases h1 : j < n
    · have d1 : decide (j < n) = true := by simpa using h1
      have e1 : (j : Int) < n := by omega
      by_cases h2 : j < m
      · have d2 : decide (j < m) = true := by simpa using h2
        have e2 : (j : Int) < m := by omega
        have e0 : (0 : Int) ≤ j := by omega
        obtain ⟨x, hx⟩ := at_lt (show j < a.length by rw [HLa.out]; exact h1)
        obtain ⟨y, hy⟩ := at_lt (show j < b.length by rw [HLb.out]; exact h2)
        obtain ⟨ab, ao, rfl, _, hca⟩ := (HA.out.below HW.out).2 (by omega)
        obtain ⟨bb, bo, rfl, _, hcb⟩ := (HB.out.below HW.out).2 (by omega)
        have c1 := hca j _ (ints_get hx)
        have c2 := hcb j _ (ints_get hy)
        have HX := Lib.hid hx
        have HY := Lib.hid hy
        clear hca hcb hx hy
        by_cases hxy : x = y
        · subst hxy
          have d3 : (x != x) = false := by simp
          go_upto_region 4 with fail
          go_quiet (fail)
          go_wp2_with fail
          go_roundg (gk - 1)
          case measure => omega
          case rel => exact ⟨j + 1, by omega, by go_num, h2, Lib.hid (HL.out.trans (lessL_same HX.out HY.out)), HW.out.drewN _⟩
        · have d3 : (x != y) = true := by simpa using hxy
          have HD := Lib.hid (HL.out.trans (lessL_diff HX.out HY.out hxy))
          go_upto_region 4 with fail
          go_quiet (fail)
          obtain ⟨w2, hw2, HW2⟩ : ∃ Z9, Z9 = wr.drewN nq ∧ Hid (Below wr.heap.size wr Z9) := ⟨_, rfl, (Below.refl _ _).drewN _⟩
          have k1 : w2.cell? ⟨ab, ao + j, none⟩ = some (.int .i64 x) := (HW2.out.cell (World.block_lt_of_cell? wr _ c1)).trans c1
          have k2 : w2.cell? ⟨bb, bo + j, none⟩ = some (.int .i64 y) := (HW2.out.cell (World.block_lt_of_cell? wr _ c2)).trans c2
          rw [← hw2]
          clear hw2 c1 c2
          go_upto_region 5 with fail
          go_quiet (fail)
          go_wp2_with fail
          go_ret
          exact ⟨ret_boolL HD.out.symm, HW.out.trans ((HW2.out.drewN _).mono HW.out.size)⟩
      · have d2 : decide (j < m) = false := by simpa using h2
        have e2 : ¬ (j : Int) < m := by omega
        have HD := Lib.hid (HL.out.trans (lessL_end (Or.inr (by rw [HLb.out]; omega)) (by rw [HLa.out]; omega) (by rw [HLb.out]; omega)))
        have hmj : ¬ n < m := by omega
        have d5 : decide (n < m) = false := by simpa using hmj
        have d6 : decide ((n : Int) < m) = false := by simpa using hmj
        go_wp2_with fail
        go_ret
        have hq := HD.out
        rw [HLa.out, HLb.out, d5] at hq
        exact ⟨ret_boolL hq.symm, HW.out⟩
    · obtain rfl : j = n := by omega
      have d1 : decide (j < j) = false := by simp
      have HD := Lib.hid (HL.out.trans (lessL_end (Or.inl (by rw [HLa.out]; omega)) (by rw [HLa.out]; omega) (by rw [HLb.out]; omega)))
      cases hd : decide (j < m) with
      | true =>
        have e5 : (j : Int) < m := by simp at hd; omega
        have d6 : decide ((j : Int) < m) = true := by simpa using e5
        have Hd := Lib.hid hd
        clear hd
        go_wp2_with fail
        go_ret
        have hq := HD.out
        rw [HLa.out, HLb.out, Hd.out] at hq
        exact ⟨ret_boolL hq.symm, HW.out⟩
      | false =>
        have e5 : ¬ (j : Int) < m := by simp at hd; omega
        have d6 : decide ((j : Int) < m) = false := by simpa using e5
        have Hd := Lib.hid hd
        clear hd
        go_wp2_with fail
        go_ret
        have hq := HD.out
        rw [HLa.out, HLb.out, Hd.out] at hq
        exact ⟨ret_boolL hq.symm, HW.out⟩
end Go.Proofs.Ytgbopmgeicokoaa
namespace Go.Proofs.Ytgbopmgeicokoaa
open Go.RowKit
set_option linter.unusedSimpArgs false
set_option linter.unusedVariables false

theorem Rw.at_own {W : World} {B g e s n c : Nat} {xs : List Value} (h : W.ownsRow B e s (.slice (some ⟨g, 0, none⟩) n c) n xs) : Rw W g e s n c xs := by
  have hl := h.1
  rcases h.2 with ⟨h0, _⟩ | ⟨q, cap, cur, hv, hB, hg, h1, h2, h3, h4⟩
  · cases h0
  · injection hv with hA _ hk
    injection hA with hA
    injection hA with hA _
    subst hA hk
    exact ⟨hl, cur.toList, by unfold Blk; rw [hg], by simpa using h3, h4, h1, h2⟩
theorem T_l {T : Tr} (b : TrB T) {i : Nat} (hi : i < T.ks.length) : T.L[i]? = some (T.l i) := by
  unfold Tr.l
  rw [List.getD_eq_getElem?_getD]
  simp [show i < T.L.length by rw [b.l]; exact hi]
theorem T_r {T : Tr} (b : TrB T) {i : Nat} (hi : i < T.ks.length) : T.R[i]? = some (T.r i) := by
  unfold Tr.r
  rw [List.getD_eq_getElem?_getD]
  simp [show i < T.R.length by rw [b.r]; exact hi]
theorem T_key {T : Tr} {i : Nat} (hi : i < T.ks.length) : T.ks[i]? = some (T.key i) := by
  unfold Tr.key
  rw [List.getD_eq_getElem?_getD]
  simp [hi]
theorem less_b {a b : List Int} {v : Bool} (h : lessL a b = v) (A B : Option Addr) (n m k k' : Nat) (w : World) (hA : Sl w w.heap.size 1 A n (ints a)) (hB : Sl w w.heap.size 1 B m (ints b)) (hn : n ≤ maxLen) (hm : m ≤ maxLen) :
    Calls Try.prog 126 #[.slice A n k, .slice B m k'] w (BoolR v w) := by
  rw [← h]
  exact less_any a b A B n m k k' w hA hB hn hm
/-- what the loop tells: there is no key, or where a new one is hung on -/
def PutX (T : Tr) (k : List Int) (s6 s7 : Value) : Prop := (T.ks.length = 0 ∧ s6 = .int .i64 (-1) ∧ s7 = .bool false) ∨ ∃ (a : Nat) (r : Bool), 0 < T.ks.length ∧ s6 = .int .i64 a ∧ s7 = .bool r ∧ srch T k T.ks.length 0 = .miss a r
theorem PutX.miss_l {T : Tr} {k : List Int} {a : Nat} (hn : 0 < T.ks.length) (h : srch T k T.ks.length 0 = .miss a false) : Hid (PutX T k (.int .i64 a) (.bool false)) := Lib.hid (Or.inr ⟨a, false, hn, rfl, rfl, h⟩)
theorem PutX.miss_r {T : Tr} {k : List Int} {a : Nat} (hn : 0 < T.ks.length) (h : srch T k T.ks.length 0 = .miss a true) : Hid (PutX T k (.int .i64 a) (.bool true)) := Lib.hid (Or.inr ⟨a, true, hn, rfl, rfl, h⟩)
theorem putT_hit {T : Tr} {k : List Int} {j : Nat} (hn : 0 < T.ks.length) (h : srch T k T.ks.length 0 = .hit j) : putT T k = (T, j, false) := by
  unfold putT
  rw [if_neg (by omega), h]
theorem putT_miss {T : Tr} {k : List Int} {a : Nat} {r : Bool} (hn : 0 < T.ks.length) (h : srch T k T.ks.length 0 = .miss a r) : putT T k = (T.hang k a r, T.ks.length, true) := by
  unfold putT
  rw [if_neg (by omega), h]
theorem putT_zero {T : Tr} {k : List Int} (h : T.ks.length = 0) : putT T k = (⟨[k], [-1], [-1]⟩, 0, true) := by
  unfold putT
  rw [if_pos h]
theorem Fr.gbw {F : Nat → Prop} {w W W' : World} {row : Option Nat} (h : Fr F w W) (hg : W.grownBy W' row) (hF : ∀ q, row = some q → F q ∨ w.heap.size ≤ q) : Fr F w W' :=
  ⟨hg.os.trans h.os, hg.tape.trans h.tape, hg.output.trans h.output, Nat.le_trans h.size hg.size, fun g hl hf => (hg.block g (Nat.lt_of_lt_of_le hl h.size) (fun e => (hF g e.symm).elim hf (fun h9 => by omega))).trans (h.block g hl hf)⟩
section
variable {T : Tr} {k : List Int} {B gt g cap : Nat} {vK vL vR : Value} {hs : List (Nat × Nat)} {w w' : World} {e : Ending}
theorem PutR.hit {j : Nat} (hp : putT T k = (T, j, false)) (he : e = .returned (.tuple #[.int .i64 j, .bool false])) (ht : TrM w' B gt T vK vL vR hs) (hb : Below w.heap.size w w') : PutR T k B gt g cap vK vL vR hs w e w' := by
  refine ⟨vK, vL, vR, ?_, ?_, Fr.of hb, fun q hq => Or.inl hq⟩
  · rw [hp]; exact he
  · rw [hp]; exact ht
theorem PutR.new {vK' vL' vR' : Value} {T' : Tr} {m : Nat} (hp : putT T k = (T', m, true)) (he : e = .returned (.tuple #[.int .i64 m, .bool true])) (ht : TrM w' B gt T' vK' vL' vR' (hs ++ [(g, cap)])) (hf : Fr (trF gt vK vL vR) w w') (hq : ∀ q, trF gt vK' vL' vR' q → trF gt vK vL vR q ∨ w.heap.size ≤ q) : PutR T k B gt g cap vK vL vR hs w e w' := by
  refine ⟨vK', vL', vR', ?_, ?_, hf, hq⟩
  · rw [hp]; exact he
  · rw [hp]; exact ht
end
theorem ret_nat {a b : Nat} (h : a = b) : Ending.returned (.tuple #[.int .i64 a, .bool true]) = .returned (.tuple #[.int .i64 b, .bool true]) := by rw [h]
theorem info_iT : (Try.prog.info? 3).map (fun i => (i.zero, i.size, i.bytes)) = some (some (.int .i64 0), 1, 8) := by kernel_rfl
theorem info_sT : (Try.prog.info? 30).map (fun i => (i.zero, i.size, i.bytes)) = some (some (.slice none 0 0), 1, 24) := by kernel_rfl
theorem one_slT (A : Option Addr) (n k : Nat) : ∀ u ∈ [Value.slice A n k], u.oneCell' = true := by intro u hu; simp at hu; subst hu; rfl
theorem one_inT (z : Int) : ∀ u ∈ [Value.int .i64 z], u.oneCell' = true := by intro u hu; simp at hu; subst hu; rfl

set_option maxRecDepth 100000 in
set_option maxHeartbeats 16000000 in
theorem put_any (T : Tr) (k : List Int) (B gt g cap : Nat) (vK vL vR : Value) (hs : List (Nat × Nat)) (w : World) (hT : TrM w B gt T vK vL vR hs) (hk : Rw w g 3 1 k.length cap (ints k)) (h1 : some g ≠ vL.ownBlock) (h2 : some g ≠ vR.ownBlock) (hnm : T.ks.length ≤ 100000) (hbw : B ≤ w.heap.size)
    (hlen : ∀ q ∈ T.ks, q.length ≤ maxLen) :
    Calls Try.prog 99 #[.pointer (some ⟨gt, 0, none⟩), .slice (some ⟨g, 0, none⟩) k.length cap] w (PutR T k B gt g cap vK vL vR hs w) := by
  obtain ⟨hX, hTW⟩ := hT
  obtain ⟨AK, cK, rfl, hcK, hcK2⟩ := own_form hX.kK
  obtain ⟨AL, cL, rfl, hcL, hcL2⟩ := own_form hX.kL
  obtain ⟨AR, cR, rfl, hcR, hcR2⟩ := own_form hX.kR
  obtain ⟨n, hn⟩ : ∃ n, n = T.ks.length := ⟨_, rfl⟩
  have HN := Lib.hid hn
  have HnL : Hid (T.L.length = n) := Lib.hid (hTW.b.l.trans hn.symm)
  have HnR : Hid (T.R.length = n) := Lib.hid (hTW.b.r.trans hn.symm)
  have HTB := Lib.hid hTW.b
  have HTW := Lib.hid hTW
  have HK := Lib.hid hk
  have H1 := Lib.hid h1
  have H2 := Lib.hid h2
  have HLn := Lib.hid hlen
  rw [← hn] at hnm hcK
  have hnL := HnL.out
  have hnR := HnR.out
  rw [hnL] at hcL
  rw [hnR] at hcR
  have hXv : TrX w B gt T.ks T.L T.R (.slice AK n cK) (.slice AL n cL) (.slice AR n cR) hs := by
    have h9 := hX
    rw [← hn, hnL, hnR] at h9
    exact h9
  have HX := Lib.hid hXv
  rw [← hn, hnL, hnR]
  rw [hnL] at H1
  rw [hnR] at H2
  have HKm : Hid (k.length ≤ maxLen) := Lib.hid (Nat.le_trans hk.nk.1 hk.nk.2)
  have HEnd : Hid (∀ e w', PutR T k B gt g cap (.slice AK n cK) (.slice AL n cL) (.slice AR n cR) hs w e w' → PutR T k B gt g cap (.slice AK n cK) (.slice AL n cL) (.slice AR n cR) hs w e w') := Lib.hid fun _ _ h => h
  obtain ⟨ii, hii, hiiz, hiis, hiib⟩ := info_parts info_iT
  obtain ⟨is, his, hisz, hiss, hisb⟩ := info_parts info_sT
  clear hX hTW hk h1 h2 hlen hn hnL hnR hXv
  go_enter Try.func99, Try.ntmps99
  go_upto_block 0 with (fail)
  go_cut [6, 7] from 10 to 52 (fun s6 s7 wc => Hid (Below w.heap.size w wc) ∧ Hid (PutX T k s6 s7))
  case first =>
    rcases Nat.eq_zero_or_pos n with hn0 | hn0
    · have e0 : ¬ 0 < n := by omega
      have d0 : decide (0 < n) = false := by simpa using e0
      go_wp2_with fail
      go_loopg [6, 7, 8] 0 (fun gk s6 s7 i wr => s6 = .int .i64 (-1) ∧ s7 = .bool false ∧ i = .int .i64 0 ∧ Hid (Below w.heap.size w wr))
      case atStart => exact ⟨rfl, rfl, rfl, Lib.hid (Below.refl _ _)⟩
      case round =>
        obtain ⟨rfl, rfl, rfl, HW⟩ := hrel
        have p0 : wr.cell? ⟨gt, 0, none⟩ = some (.slice AK n cK) := (HX.out.on HW.out).blk.cell rfl
        have hz9 : Hid (PutX T k (.int .i64 (-1)) (.bool false)) := Lib.hid (Or.inl ⟨by rw [← HN.out]; exact hn0, rfl, rfl⟩)
        go_wp2_with fail
        go_meet
        exact ⟨HW, hz9⟩
    · obtain ⟨gK, hgK, _, _⟩ := Rw.of_own (by have h9 := HX.out.kK; rw [← HN.out] at h9; exact h9) hn0
      obtain ⟨gL, hgL, _, _⟩ := Rw.of_own (by have h9 := HX.out.kL; rw [HnL.out] at h9; exact h9) hn0
      obtain ⟨gR, hgR, _, _⟩ := Rw.of_own (by have h9 := HX.out.kR; rw [HnR.out] at h9; exact h9) hn0
      subst hgK hgL hgR
      go_wp2_with fail
      go_loopg [6, 7, 8] n (fun gk s6 s7 i wr => ∃ j : Nat, i = .int .i64 j ∧ j < n ∧ gk + j = n ∧ Hid (srch T k T.ks.length 0 = srch T k gk j) ∧ Hid (Below w.heap.size w wr))
      case atStart => exact ⟨0, rfl, hn0, by omega, Lib.hid (by rw [← HN.out]), Lib.hid (Below.refl _ _)⟩
      case round =>
        obtain ⟨j, rfl, hjn, hgk, HS, HWwr⟩ := hrel
        have d1 : decide (j < n) = true := by simpa using hjn
        have e1 : (j : Int) < n := by omega
        have e2 : (0 : Int) ≤ j := by omega
        have HKj := Lib.hid (T_key (T := T) (i := j) (by rw [← HN.out]; exact hjn))
        obtain ⟨⟨pg, pc⟩, hpj⟩ := at_lt (show j < hs.length by rw [HX.out.hl, ← HN.out]; exact hjn)
        have HPj := Lib.hid hpj
        have HQm : Hid ((T.key j).length ≤ maxLen) := Lib.hid (HLn.out _ (List.mem_of_getElem? HKj.out))
        have HXwr := Lib.hid (HX.out.on HWwr.out)
        have HKswr : Hid (Sl wr wr.heap.size 1 (some ⟨g, 0, none⟩) k.length (ints k)) := Lib.hid ((HK.out.on HWwr.out).sl)
        have HQswr : Hid (Sl wr wr.heap.size 1 (some ⟨pg, 0, none⟩) (T.key j).length (ints (T.key j))) := Lib.hid ((HXwr.out.rows j _ _ HKj.out HPj.out).1.sl)
        clear hpj
        rcases srch_ways HTB.out k (by rw [← HN.out]; exact hjn) with ⟨h1, h2⟩ | ⟨h1, c, h2, h3, h4⟩ | ⟨h0, h1, h2⟩ | ⟨h0, h1, c, h2, h3, h4⟩ | ⟨h0, h1⟩
        · have HL1 : Hid (lessL k (T.key j) = true) := Lib.hid h1
          have HLz := Lib.hid h2
          clear h1 h2
          have p0 : wr.cell? ⟨gt, 0, none⟩ = some (.slice (some ⟨gK, 0, none⟩) n cK) := HXwr.out.blk.cell rfl
          have p1 : wr.cell? ⟨gt, 1, none⟩ = some (.slice (some ⟨gL, 0, none⟩) n cL) := HXwr.out.blk.cell rfl
          have p2 : wr.cell? ⟨gt, 2, none⟩ = some (.slice (some ⟨gR, 0, none⟩) n cR) := HXwr.out.blk.cell rfl
          have p3 : wr.cell? ⟨gK, j, none⟩ = some (.slice (some ⟨pg, 0, none⟩) (T.key j).length pc) := (Rw.at_own (by have h9 := HXwr.out.kK; rw [← HN.out] at h9; exact h9)).cell (keyV_get HKj.out HPj.out)
          have p4 : wr.cell? ⟨gL, j, none⟩ = some (.int .i64 (T.l j)) := (Rw.at_own (by have h9 := HXwr.out.kL; rw [HnL.out] at h9; exact h9)).cell (ints_get (T_l HTB.out (by rw [← HN.out]; exact hjn)))
          have p5 : wr.cell? ⟨gR, j, none⟩ = some (.int .i64 (T.r j)) := (Rw.at_own (by have h9 := HXwr.out.kR; rw [HnR.out] at h9; exact h9)).cell (ints_get (T_r HTB.out (by rw [← HN.out]; exact hjn)))
          go_upto_region 8 with (go_at_call 126; go_must (refine (less_b HL1.out (some ⟨g, 0, none⟩) (some ⟨pg, 0, none⟩) k.length (T.key j).length cap pc _ HKswr.out HQswr.out HKm.out HQm.out).mono ?_; rintro e w2 ⟨rfl, hb9⟩))
          have HXw2 := Lib.hid (HXwr.out.on hb9)
          have HWw2 := Lib.hid (HWwr.out.trans (hb9.mono HWwr.out.size))
          have HKsw2 := Lib.hid ((HKswr.out.below hb9).up hb9.size)
          have HQsw2 := Lib.hid ((HQswr.out.below hb9).up hb9.size)
          clear hb9
          clear p0 p1 p2 p3 p4 p5
          have p0 : w2.cell? ⟨gt, 0, none⟩ = some (.slice (some ⟨gK, 0, none⟩) n cK) := HXw2.out.blk.cell rfl
          have p1 : w2.cell? ⟨gt, 1, none⟩ = some (.slice (some ⟨gL, 0, none⟩) n cL) := HXw2.out.blk.cell rfl
          have p2 : w2.cell? ⟨gt, 2, none⟩ = some (.slice (some ⟨gR, 0, none⟩) n cR) := HXw2.out.blk.cell rfl
          have p3 : w2.cell? ⟨gK, j, none⟩ = some (.slice (some ⟨pg, 0, none⟩) (T.key j).length pc) := (Rw.at_own (by have h9 := HXw2.out.kK; rw [← HN.out] at h9; exact h9)).cell (keyV_get HKj.out HPj.out)
          have p4 : w2.cell? ⟨gL, j, none⟩ = some (.int .i64 (T.l j)) := (Rw.at_own (by have h9 := HXw2.out.kL; rw [HnL.out] at h9; exact h9)).cell (ints_get (T_l HTB.out (by rw [← HN.out]; exact hjn)))
          have p5 : w2.cell? ⟨gR, j, none⟩ = some (.int .i64 (T.r j)) := (Rw.at_own (by have h9 := HXw2.out.kR; rw [HnR.out] at h9; exact h9)).cell (ints_get (T_r HTB.out (by rw [← HN.out]; exact hjn)))
          rw [HLz.out] at p4
          go_wp2_with fail
          go_meet
          exact ⟨HWw2, PutX.miss_l (by rw [← HN.out]; exact hn0) (by rw [HS.out]; obtain ⟨f, rfl⟩ : ∃ f, gk = f + 1 := ⟨gk - 1, by omega⟩; exact srch_left0 HL1.out (by rw [HLz.out]; decide))⟩
        · have HL1 : Hid (lessL k (T.key j) = true) := Lib.hid h1
          have HLz := Lib.hid h2
          have hcn : c < n := by rw [HN.out]; exact h4
          clear h1 h2 h4
          have p0 : wr.cell? ⟨gt, 0, none⟩ = some (.slice (some ⟨gK, 0, none⟩) n cK) := HXwr.out.blk.cell rfl
          have p1 : wr.cell? ⟨gt, 1, none⟩ = some (.slice (some ⟨gL, 0, none⟩) n cL) := HXwr.out.blk.cell rfl
          have p2 : wr.cell? ⟨gt, 2, none⟩ = some (.slice (some ⟨gR, 0, none⟩) n cR) := HXwr.out.blk.cell rfl
          have p3 : wr.cell? ⟨gK, j, none⟩ = some (.slice (some ⟨pg, 0, none⟩) (T.key j).length pc) := (Rw.at_own (by have h9 := HXwr.out.kK; rw [← HN.out] at h9; exact h9)).cell (keyV_get HKj.out HPj.out)
          have p4 : wr.cell? ⟨gL, j, none⟩ = some (.int .i64 (T.l j)) := (Rw.at_own (by have h9 := HXwr.out.kL; rw [HnL.out] at h9; exact h9)).cell (ints_get (T_l HTB.out (by rw [← HN.out]; exact hjn)))
          have p5 : wr.cell? ⟨gR, j, none⟩ = some (.int .i64 (T.r j)) := (Rw.at_own (by have h9 := HXwr.out.kR; rw [HnR.out] at h9; exact h9)).cell (ints_get (T_r HTB.out (by rw [← HN.out]; exact hjn)))
          go_upto_region 8 with (go_at_call 126; go_must (refine (less_b HL1.out (some ⟨g, 0, none⟩) (some ⟨pg, 0, none⟩) k.length (T.key j).length cap pc _ HKswr.out HQswr.out HKm.out HQm.out).mono ?_; rintro e w2 ⟨rfl, hb9⟩))
          have HXw2 := Lib.hid (HXwr.out.on hb9)
          have HWw2 := Lib.hid (HWwr.out.trans (hb9.mono HWwr.out.size))
          have HKsw2 := Lib.hid ((HKswr.out.below hb9).up hb9.size)
          have HQsw2 := Lib.hid ((HQswr.out.below hb9).up hb9.size)
          clear hb9
          clear p0 p1 p2 p3 p4 p5
          have p0 : w2.cell? ⟨gt, 0, none⟩ = some (.slice (some ⟨gK, 0, none⟩) n cK) := HXw2.out.blk.cell rfl
          have p1 : w2.cell? ⟨gt, 1, none⟩ = some (.slice (some ⟨gL, 0, none⟩) n cL) := HXw2.out.blk.cell rfl
          have p2 : w2.cell? ⟨gt, 2, none⟩ = some (.slice (some ⟨gR, 0, none⟩) n cR) := HXw2.out.blk.cell rfl
          have p3 : w2.cell? ⟨gK, j, none⟩ = some (.slice (some ⟨pg, 0, none⟩) (T.key j).length pc) := (Rw.at_own (by have h9 := HXw2.out.kK; rw [← HN.out] at h9; exact h9)).cell (keyV_get HKj.out HPj.out)
          have p4 : w2.cell? ⟨gL, j, none⟩ = some (.int .i64 (T.l j)) := (Rw.at_own (by have h9 := HXw2.out.kL; rw [HnL.out] at h9; exact h9)).cell (ints_get (T_l HTB.out (by rw [← HN.out]; exact hjn)))
          have p5 : w2.cell? ⟨gR, j, none⟩ = some (.int .i64 (T.r j)) := (Rw.at_own (by have h9 := HXw2.out.kR; rw [HnR.out] at h9; exact h9)).cell (ints_get (T_r HTB.out (by rw [← HN.out]; exact hjn)))
          rw [HLz.out] at p4
          have e9 : ¬ ((c : Int) < 0) := by omega
          have hsn : srch T k T.ks.length 0 = srch T k (n - c) c := by
            rw [HS.out]
            obtain ⟨f, hf⟩ : ∃ f, gk = f + 1 := ⟨gk - 1, by omega⟩
            rw [hf, srch_l HL1.out HLz.out]
            have h9 := srch_up HTB.out k (f := n - c) (i := c) (by rw [← HN.out]; exact hcn) (by rw [← HN.out]; omega) (f - (n - c))
            rw [show n - c + (f - (n - c)) = f by omega] at h9
            exact h9
          have HSn := Lib.hid hsn
          clear hsn
          go_wp2_with fail
          go_roundg (n - c)
          case measure => omega
          case rel => exact ⟨c, rfl, hcn, by omega, HSn, HWw2⟩
        · have HL0 : Hid (lessL k (T.key j) = false) := Lib.hid h0
          have HL1 : Hid (lessL (T.key j) k = true) := Lib.hid h1
          have HLz := Lib.hid h2
          clear h0 h1 h2
          have p0 : wr.cell? ⟨gt, 0, none⟩ = some (.slice (some ⟨gK, 0, none⟩) n cK) := HXwr.out.blk.cell rfl
          have p1 : wr.cell? ⟨gt, 1, none⟩ = some (.slice (some ⟨gL, 0, none⟩) n cL) := HXwr.out.blk.cell rfl
          have p2 : wr.cell? ⟨gt, 2, none⟩ = some (.slice (some ⟨gR, 0, none⟩) n cR) := HXwr.out.blk.cell rfl
          have p3 : wr.cell? ⟨gK, j, none⟩ = some (.slice (some ⟨pg, 0, none⟩) (T.key j).length pc) := (Rw.at_own (by have h9 := HXwr.out.kK; rw [← HN.out] at h9; exact h9)).cell (keyV_get HKj.out HPj.out)
          have p4 : wr.cell? ⟨gL, j, none⟩ = some (.int .i64 (T.l j)) := (Rw.at_own (by have h9 := HXwr.out.kL; rw [HnL.out] at h9; exact h9)).cell (ints_get (T_l HTB.out (by rw [← HN.out]; exact hjn)))
          have p5 : wr.cell? ⟨gR, j, none⟩ = some (.int .i64 (T.r j)) := (Rw.at_own (by have h9 := HXwr.out.kR; rw [HnR.out] at h9; exact h9)).cell (ints_get (T_r HTB.out (by rw [← HN.out]; exact hjn)))
          go_upto_region 9 with (go_at_call 126; go_must (refine (less_b HL0.out (some ⟨g, 0, none⟩) (some ⟨pg, 0, none⟩) k.length (T.key j).length cap pc _ HKswr.out HQswr.out HKm.out HQm.out).mono ?_; rintro e w2 ⟨rfl, hb9⟩))
          have HXw2 := Lib.hid (HXwr.out.on hb9)
          have HWw2 := Lib.hid (HWwr.out.trans (hb9.mono HWwr.out.size))
          have HKsw2 := Lib.hid ((HKswr.out.below hb9).up hb9.size)
          have HQsw2 := Lib.hid ((HQswr.out.below hb9).up hb9.size)
          clear hb9
          clear p0 p1 p2 p3 p4 p5
          have p0 : w2.cell? ⟨gt, 0, none⟩ = some (.slice (some ⟨gK, 0, none⟩) n cK) := HXw2.out.blk.cell rfl
          have p1 : w2.cell? ⟨gt, 1, none⟩ = some (.slice (some ⟨gL, 0, none⟩) n cL) := HXw2.out.blk.cell rfl
          have p2 : w2.cell? ⟨gt, 2, none⟩ = some (.slice (some ⟨gR, 0, none⟩) n cR) := HXw2.out.blk.cell rfl
          have p3 : w2.cell? ⟨gK, j, none⟩ = some (.slice (some ⟨pg, 0, none⟩) (T.key j).length pc) := (Rw.at_own (by have h9 := HXw2.out.kK; rw [← HN.out] at h9; exact h9)).cell (keyV_get HKj.out HPj.out)
          have p4 : w2.cell? ⟨gL, j, none⟩ = some (.int .i64 (T.l j)) := (Rw.at_own (by have h9 := HXw2.out.kL; rw [HnL.out] at h9; exact h9)).cell (ints_get (T_l HTB.out (by rw [← HN.out]; exact hjn)))
          have p5 : w2.cell? ⟨gR, j, none⟩ = some (.int .i64 (T.r j)) := (Rw.at_own (by have h9 := HXw2.out.kR; rw [HnR.out] at h9; exact h9)).cell (ints_get (T_r HTB.out (by rw [← HN.out]; exact hjn)))
          go_upto_region 11 with (go_at_call 126; go_must (refine (less_b HL1.out (some ⟨pg, 0, none⟩) (some ⟨g, 0, none⟩) (T.key j).length k.length pc cap _ HQsw2.out HKsw2.out HQm.out HKm.out).mono ?_; rintro e w3 ⟨rfl, hb9⟩))
          have HXw3 := Lib.hid (HXw2.out.on hb9)
          have HWw3 := Lib.hid (HWw2.out.trans (hb9.mono HWw2.out.size))
          have HKsw3 := Lib.hid ((HKsw2.out.below hb9).up hb9.size)
          have HQsw3 := Lib.hid ((HQsw2.out.below hb9).up hb9.size)
          clear hb9
          clear p0 p1 p2 p3 p4 p5
          have p0 : w3.cell? ⟨gt, 0, none⟩ = some (.slice (some ⟨gK, 0, none⟩) n cK) := HXw3.out.blk.cell rfl
          have p1 : w3.cell? ⟨gt, 1, none⟩ = some (.slice (some ⟨gL, 0, none⟩) n cL) := HXw3.out.blk.cell rfl
          have p2 : w3.cell? ⟨gt, 2, none⟩ = some (.slice (some ⟨gR, 0, none⟩) n cR) := HXw3.out.blk.cell rfl
          have p3 : w3.cell? ⟨gK, j, none⟩ = some (.slice (some ⟨pg, 0, none⟩) (T.key j).length pc) := (Rw.at_own (by have h9 := HXw3.out.kK; rw [← HN.out] at h9; exact h9)).cell (keyV_get HKj.out HPj.out)
          have p4 : w3.cell? ⟨gL, j, none⟩ = some (.int .i64 (T.l j)) := (Rw.at_own (by have h9 := HXw3.out.kL; rw [HnL.out] at h9; exact h9)).cell (ints_get (T_l HTB.out (by rw [← HN.out]; exact hjn)))
          have p5 : w3.cell? ⟨gR, j, none⟩ = some (.int .i64 (T.r j)) := (Rw.at_own (by have h9 := HXw3.out.kR; rw [HnR.out] at h9; exact h9)).cell (ints_get (T_r HTB.out (by rw [← HN.out]; exact hjn)))
          rw [HLz.out] at p5
          go_wp2_with fail
          go_meet
          exact ⟨HWw3, PutX.miss_r (by rw [← HN.out]; exact hn0) (by rw [HS.out]; obtain ⟨f, rfl⟩ : ∃ f, gk = f + 1 := ⟨gk - 1, by omega⟩; exact srch_right0 HL0.out HL1.out (by rw [HLz.out]; decide))⟩
        · have HL0 : Hid (lessL k (T.key j) = false) := Lib.hid h0
          have HL1 : Hid (lessL (T.key j) k = true) := Lib.hid h1
          have HLz := Lib.hid h2
          have hcn : c < n := by rw [HN.out]; exact h4
          clear h0 h1 h2 h4
          have p0 : wr.cell? ⟨gt, 0, none⟩ = some (.slice (some ⟨gK, 0, none⟩) n cK) := HXwr.out.blk.cell rfl
          have p1 : wr.cell? ⟨gt, 1, none⟩ = some (.slice (some ⟨gL, 0, none⟩) n cL) := HXwr.out.blk.cell rfl
          have p2 : wr.cell? ⟨gt, 2, none⟩ = some (.slice (some ⟨gR, 0, none⟩) n cR) := HXwr.out.blk.cell rfl
          have p3 : wr.cell? ⟨gK, j, none⟩ = some (.slice (some ⟨pg, 0, none⟩) (T.key j).length pc) := (Rw.at_own (by have h9 := HXwr.out.kK; rw [← HN.out] at h9; exact h9)).cell (keyV_get HKj.out HPj.out)
          have p4 : wr.cell? ⟨gL, j, none⟩ = some (.int .i64 (T.l j)) := (Rw.at_own (by have h9 := HXwr.out.kL; rw [HnL.out] at h9; exact h9)).cell (ints_get (T_l HTB.out (by rw [← HN.out]; exact hjn)))
          have p5 : wr.cell? ⟨gR, j, none⟩ = some (.int .i64 (T.r j)) := (Rw.at_own (by have h9 := HXwr.out.kR; rw [HnR.out] at h9; exact h9)).cell (ints_get (T_r HTB.out (by rw [← HN.out]; exact hjn)))
          go_upto_region 9 with (go_at_call 126; go_must (refine (less_b HL0.out (some ⟨g, 0, none⟩) (some ⟨pg, 0, none⟩) k.length (T.key j).length cap pc _ HKswr.out HQswr.out HKm.out HQm.out).mono ?_; rintro e w2 ⟨rfl, hb9⟩))
          have HXw2 := Lib.hid (HXwr.out.on hb9)
          have HWw2 := Lib.hid (HWwr.out.trans (hb9.mono HWwr.out.size))
          have HKsw2 := Lib.hid ((HKswr.out.below hb9).up hb9.size)
          have HQsw2 := Lib.hid ((HQswr.out.below hb9).up hb9.size)
          clear hb9
          clear p0 p1 p2 p3 p4 p5
          have p0 : w2.cell? ⟨gt, 0, none⟩ = some (.slice (some ⟨gK, 0, none⟩) n cK) := HXw2.out.blk.cell rfl
          have p1 : w2.cell? ⟨gt, 1, none⟩ = some (.slice (some ⟨gL, 0, none⟩) n cL) := HXw2.out.blk.cell rfl
          have p2 : w2.cell? ⟨gt, 2, none⟩ = some (.slice (some ⟨gR, 0, none⟩) n cR) := HXw2.out.blk.cell rfl
          have p3 : w2.cell? ⟨gK, j, none⟩ = some (.slice (some ⟨pg, 0, none⟩) (T.key j).length pc) := (Rw.at_own (by have h9 := HXw2.out.kK; rw [← HN.out] at h9; exact h9)).cell (keyV_get HKj.out HPj.out)
          have p4 : w2.cell? ⟨gL, j, none⟩ = some (.int .i64 (T.l j)) := (Rw.at_own (by have h9 := HXw2.out.kL; rw [HnL.out] at h9; exact h9)).cell (ints_get (T_l HTB.out (by rw [← HN.out]; exact hjn)))
          have p5 : w2.cell? ⟨gR, j, none⟩ = some (.int .i64 (T.r j)) := (Rw.at_own (by have h9 := HXw2.out.kR; rw [HnR.out] at h9; exact h9)).cell (ints_get (T_r HTB.out (by rw [← HN.out]; exact hjn)))
          go_upto_region 11 with (go_at_call 126; go_must (refine (less_b HL1.out (some ⟨pg, 0, none⟩) (some ⟨g, 0, none⟩) (T.key j).length k.length pc cap _ HQsw2.out HKsw2.out HQm.out HKm.out).mono ?_; rintro e w3 ⟨rfl, hb9⟩))
          have HXw3 := Lib.hid (HXw2.out.on hb9)
          have HWw3 := Lib.hid (HWw2.out.trans (hb9.mono HWw2.out.size))
          have HKsw3 := Lib.hid ((HKsw2.out.below hb9).up hb9.size)
          have HQsw3 := Lib.hid ((HQsw2.out.below hb9).up hb9.size)
          clear hb9
          clear p0 p1 p2 p3 p4 p5
          have p0 : w3.cell? ⟨gt, 0, none⟩ = some (.slice (some ⟨gK, 0, none⟩) n cK) := HXw3.out.blk.cell rfl
          have p1 : w3.cell? ⟨gt, 1, none⟩ = some (.slice (some ⟨gL, 0, none⟩) n cL) := HXw3.out.blk.cell rfl
          have p2 : w3.cell? ⟨gt, 2, none⟩ = some (.slice (some ⟨gR, 0, none⟩) n cR) := HXw3.out.blk.cell rfl
          have p3 : w3.cell? ⟨gK, j, none⟩ = some (.slice (some ⟨pg, 0, none⟩) (T.key j).length pc) := (Rw.at_own (by have h9 := HXw3.out.kK; rw [← HN.out] at h9; exact h9)).cell (keyV_get HKj.out HPj.out)
          have p4 : w3.cell? ⟨gL, j, none⟩ = some (.int .i64 (T.l j)) := (Rw.at_own (by have h9 := HXw3.out.kL; rw [HnL.out] at h9; exact h9)).cell (ints_get (T_l HTB.out (by rw [← HN.out]; exact hjn)))
          have p5 : w3.cell? ⟨gR, j, none⟩ = some (.int .i64 (T.r j)) := (Rw.at_own (by have h9 := HXw3.out.kR; rw [HnR.out] at h9; exact h9)).cell (ints_get (T_r HTB.out (by rw [← HN.out]; exact hjn)))
          rw [HLz.out] at p5
          have e9 : ¬ ((c : Int) < 0) := by omega
          have hsn : srch T k T.ks.length 0 = srch T k (n - c) c := by
            rw [HS.out]
            obtain ⟨f, hf⟩ : ∃ f, gk = f + 1 := ⟨gk - 1, by omega⟩
            rw [hf, srch_r HL0.out HL1.out HLz.out]
            have h9 := srch_up HTB.out k (f := n - c) (i := c) (by rw [← HN.out]; exact hcn) (by rw [← HN.out]; omega) (f - (n - c))
            rw [show n - c + (f - (n - c)) = f by omega] at h9
            exact h9
          have HSn := Lib.hid hsn
          clear hsn
          go_wp2_with fail
          go_roundg (n - c)
          case measure => omega
          case rel => exact ⟨c, rfl, hcn, by omega, HSn, HWw3⟩
        · have HL0 : Hid (lessL k (T.key j) = false) := Lib.hid h0
          have HL1 : Hid (lessL (T.key j) k = false) := Lib.hid h1
          clear h0 h1
          have p0 : wr.cell? ⟨gt, 0, none⟩ = some (.slice (some ⟨gK, 0, none⟩) n cK) := HXwr.out.blk.cell rfl
          have p1 : wr.cell? ⟨gt, 1, none⟩ = some (.slice (some ⟨gL, 0, none⟩) n cL) := HXwr.out.blk.cell rfl
          have p2 : wr.cell? ⟨gt, 2, none⟩ = some (.slice (some ⟨gR, 0, none⟩) n cR) := HXwr.out.blk.cell rfl
          have p3 : wr.cell? ⟨gK, j, none⟩ = some (.slice (some ⟨pg, 0, none⟩) (T.key j).length pc) := (Rw.at_own (by have h9 := HXwr.out.kK; rw [← HN.out] at h9; exact h9)).cell (keyV_get HKj.out HPj.out)
          have p4 : wr.cell? ⟨gL, j, none⟩ = some (.int .i64 (T.l j)) := (Rw.at_own (by have h9 := HXwr.out.kL; rw [HnL.out] at h9; exact h9)).cell (ints_get (T_l HTB.out (by rw [← HN.out]; exact hjn)))
          have p5 : wr.cell? ⟨gR, j, none⟩ = some (.int .i64 (T.r j)) := (Rw.at_own (by have h9 := HXwr.out.kR; rw [HnR.out] at h9; exact h9)).cell (ints_get (T_r HTB.out (by rw [← HN.out]; exact hjn)))
          go_upto_region 9 with (go_at_call 126; go_must (refine (less_b HL0.out (some ⟨g, 0, none⟩) (some ⟨pg, 0, none⟩) k.length (T.key j).length cap pc _ HKswr.out HQswr.out HKm.out HQm.out).mono ?_; rintro e w2 ⟨rfl, hb9⟩))
          have HXw2 := Lib.hid (HXwr.out.on hb9)
          have HWw2 := Lib.hid (HWwr.out.trans (hb9.mono HWwr.out.size))
          have HKsw2 := Lib.hid ((HKswr.out.below hb9).up hb9.size)
          have HQsw2 := Lib.hid ((HQswr.out.below hb9).up hb9.size)
          clear hb9
          clear p0 p1 p2 p3 p4 p5
          have p0 : w2.cell? ⟨gt, 0, none⟩ = some (.slice (some ⟨gK, 0, none⟩) n cK) := HXw2.out.blk.cell rfl
          have p1 : w2.cell? ⟨gt, 1, none⟩ = some (.slice (some ⟨gL, 0, none⟩) n cL) := HXw2.out.blk.cell rfl
          have p2 : w2.cell? ⟨gt, 2, none⟩ = some (.slice (some ⟨gR, 0, none⟩) n cR) := HXw2.out.blk.cell rfl
          have p3 : w2.cell? ⟨gK, j, none⟩ = some (.slice (some ⟨pg, 0, none⟩) (T.key j).length pc) := (Rw.at_own (by have h9 := HXw2.out.kK; rw [← HN.out] at h9; exact h9)).cell (keyV_get HKj.out HPj.out)
          have p4 : w2.cell? ⟨gL, j, none⟩ = some (.int .i64 (T.l j)) := (Rw.at_own (by have h9 := HXw2.out.kL; rw [HnL.out] at h9; exact h9)).cell (ints_get (T_l HTB.out (by rw [← HN.out]; exact hjn)))
          have p5 : w2.cell? ⟨gR, j, none⟩ = some (.int .i64 (T.r j)) := (Rw.at_own (by have h9 := HXw2.out.kR; rw [HnR.out] at h9; exact h9)).cell (ints_get (T_r HTB.out (by rw [← HN.out]; exact hjn)))
          go_upto_region 12 with (go_at_call 126; go_must (refine (less_b HL1.out (some ⟨pg, 0, none⟩) (some ⟨g, 0, none⟩) (T.key j).length k.length pc cap _ HQsw2.out HKsw2.out HQm.out HKm.out).mono ?_; rintro e w3 ⟨rfl, hb9⟩))
          have HXw3 := Lib.hid (HXw2.out.on hb9)
          have HWw3 := Lib.hid (HWw2.out.trans (hb9.mono HWw2.out.size))
          have HKsw3 := Lib.hid ((HKsw2.out.below hb9).up hb9.size)
          have HQsw3 := Lib.hid ((HQsw2.out.below hb9).up hb9.size)
          clear hb9
          clear p0 p1 p2 p3 p4 p5
          have p0 : w3.cell? ⟨gt, 0, none⟩ = some (.slice (some ⟨gK, 0, none⟩) n cK) := HXw3.out.blk.cell rfl
          have p1 : w3.cell? ⟨gt, 1, none⟩ = some (.slice (some ⟨gL, 0, none⟩) n cL) := HXw3.out.blk.cell rfl
          have p2 : w3.cell? ⟨gt, 2, none⟩ = some (.slice (some ⟨gR, 0, none⟩) n cR) := HXw3.out.blk.cell rfl
          have p3 : w3.cell? ⟨gK, j, none⟩ = some (.slice (some ⟨pg, 0, none⟩) (T.key j).length pc) := (Rw.at_own (by have h9 := HXw3.out.kK; rw [← HN.out] at h9; exact h9)).cell (keyV_get HKj.out HPj.out)
          have p4 : w3.cell? ⟨gL, j, none⟩ = some (.int .i64 (T.l j)) := (Rw.at_own (by have h9 := HXw3.out.kL; rw [HnL.out] at h9; exact h9)).cell (ints_get (T_l HTB.out (by rw [← HN.out]; exact hjn)))
          have p5 : w3.cell? ⟨gR, j, none⟩ = some (.int .i64 (T.r j)) := (Rw.at_own (by have h9 := HXw3.out.kR; rw [HnR.out] at h9; exact h9)).cell (ints_get (T_r HTB.out (by rw [← HN.out]; exact hjn)))
          go_wp2_with fail
          go_ret2
          have hsh : srch T k T.ks.length 0 = .hit j := by
            rw [HS.out]
            obtain ⟨f, hf⟩ : ∃ f, gk = f + 1 := ⟨gk - 1, by omega⟩
            rw [hf]
            exact srch_hit HL0.out HL1.out
          have hp := putT_hit (by rw [← HN.out]; exact hn0) hsh
          refine PutR.hit hp rfl ⟨?_, HTW.out⟩ HWw3.out
          exact HXw3.out
  case rest =>
    obtain ⟨HWwc, HC⟩ := hcut
    have HX0 := Lib.hid (HX.out.on HWwc.out)
    have HF0 : Hid (Fr (trF gt (.slice AK n cK) (.slice AL n cL) (.slice AR n cR)) w wc) := Lib.hid (Fr.of HWwc.out)
    have HK0 := Lib.hid (HK.out.on HWwc.out)
    have o0 : Hid (wc.ownsRow B 30 1 (.slice AK n cK) n (keyV hs T.ks)) := by have h9 := HX0.out.kK; rw [← HN.out] at h9; exact Lib.hid h9
    have p0 : wc.cell? ⟨gt, 0, none⟩ = some (.slice AK n cK) := HX0.out.blk.cell rfl
    go_upto_region 16 with (at_builtin; go_must (refine wpList_app _ rfl _ _ 51 rfl B 30 is (.slice none 0 0) 1 24 Try.underlying51 his hisz hiss hisb rfl (by decide) (.slice AK n cK) n (keyV hs T.ks) rfl (o0.out.alloc _) (wc.heap.size + 1) (some ⟨wc.heap.size, 0, none⟩) 1 1 [.slice (some ⟨g, 0, none⟩) k.length cap] rfl (((Blk.new wc 30 _).sl rfl).up (by simp)) (one_slT _ _ _) (n + 1) rfl _ rfl _ rfl (by simp only [maxLen]; omega) (by omega) (by have := HF0.out.size; rw [World.size_alloc]; omega) ?_; intro A0' k0' w0' hown hg hat hk7 hk8; have hB9 := (HX0.out.blk.alloc (.cells #[.slice (some ⟨g, 0, none⟩) k.length cap] 30)).grown hg (own_nb (o0.out.alloc (.cells #[.slice (some ⟨g, 0, none⟩) k.length cap] 30)) (HX0.out.blk.alloc (.cells #[.slice (some ⟨g, 0, none⟩) k.length cap] 30)) (by decide)); have d1 : w0'.cell? ⟨gt, 0, none⟩ = some (.slice AK n cK) := hB9.cell rfl; have df := hB9.frozen 0; clear hB9))
    have hXA := HX0.out.on (W' := wc.alloc (.cells #[.slice (some ⟨g, 0, none⟩) k.length cap] 30)) ((Below.refl _ _).alloc (Nat.le_refl _) _)
    have HQ0 : Hid (∀ q, some q = (Value.slice A0' (n + 1) k0').ownBlock → some q = (Value.slice AK n cK).ownBlock ∨ w.heap.size ≤ q) := Lib.hid fun q hq => by
      rcases hat with h9 | h9
      · exact Or.inl (hq.trans h9)
      · rw [h9] at hq
        injection hq with hq
        have := HF0.out.size
        rw [World.size_alloc] at hq
        exact Or.inr (by omega)
    obtain ⟨W1, hZ, HX1, HF1⟩ : ∃ Z9, Z9 = w0'.setCell ⟨gt, 0, none⟩ (.slice A0' (n + 1) k0') ∧ Hid (TrX Z9 B gt (T.ks ++ [k]) T.L T.R (.slice A0' (n + 1) k0') (.slice AL n cL) (.slice AR n cR) (hs ++ [(g, cap)])) ∧ Hid (Fr (trF gt (.slice AK n cK) (.slice AL n cL) (.slice AR n cR)) w Z9) :=
      ⟨_, rfl, hXA.addK hg (by rw [← HN.out]; exact hown) (HK0.out.on ((Below.refl _ _).alloc (Nat.le_refl _) _)) H1.out H2.out, ((HF0.out.alloc _).gbw hg (fun q hq => Or.inl (Or.inr (Or.inl hq.symm)))).setCell (Or.inl rfl) _⟩
    rw [← hZ]
    clear hZ d1 df hXA hown hg hat p0 o0 HX0 HF0
    have o1 : Hid (W1.ownsRow B 3 1 (.slice AL n cL) n (ints T.L)) := by have h9 := HX1.out.kL; rw [HnL.out] at h9; exact Lib.hid h9
    have p1 : W1.cell? ⟨gt, 1, none⟩ = some (.slice AL n cL) := HX1.out.blk.cell rfl
    go_upto_region 17 with (at_builtin; go_must (refine wpList_app _ rfl _ _ 30 rfl B 3 ii (.int .i64 0) 1 8 Try.underlying30 hii hiiz hiis hiib rfl (by decide) (.slice AL n cL) n (ints T.L) rfl (o1.out.alloc _) (W1.heap.size + 1) (some ⟨W1.heap.size, 0, none⟩) 1 1 [.int .i64 (-1)] rfl (((Blk.new W1 3 _).sl rfl).up (by simp)) (one_inT _) (n + 1) rfl _ rfl _ rfl (by simp only [maxLen]; omega) (by omega) (by have := HF1.out.size; rw [World.size_alloc]; omega) ?_; intro A1' k1' w1' hown hg hat hk7 hk8; have hB9 := (HX1.out.blk.alloc (.cells #[.int .i64 (-1)] 3)).grown hg (own_nb (o1.out.alloc (.cells #[.int .i64 (-1)] 3)) (HX1.out.blk.alloc (.cells #[.int .i64 (-1)] 3)) (by decide)); have d1 : w1'.cell? ⟨gt, 1, none⟩ = some (.slice AL n cL) := hB9.cell rfl; have df := hB9.frozen 1; clear hB9))
    have hXA := HX1.out.on (W' := W1.alloc (.cells #[.int .i64 (-1)] 3)) ((Below.refl _ _).alloc (Nat.le_refl _) _)
    have HQ1 : Hid (∀ q, some q = (Value.slice A1' (n + 1) k1').ownBlock → some q = (Value.slice AL n cL).ownBlock ∨ w.heap.size ≤ q) := Lib.hid fun q hq => by
      rcases hat with h9 | h9
      · exact Or.inl (hq.trans h9)
      · rw [h9] at hq
        injection hq with hq
        have := HF1.out.size
        rw [World.size_alloc] at hq
        exact Or.inr (by omega)
    obtain ⟨W2, hZ, HX2, HF2⟩ : ∃ Z9, Z9 = w1'.setCell ⟨gt, 1, none⟩ (.slice A1' (n + 1) k1') ∧ Hid (TrX Z9 B gt (T.ks ++ [k]) (T.L ++ [-1]) T.R (.slice A0' (n + 1) k0') (.slice A1' (n + 1) k1') (.slice AR n cR) (hs ++ [(g, cap)])) ∧ Hid (Fr (trF gt (.slice AK n cK) (.slice AL n cL) (.slice AR n cR)) w Z9) :=
      ⟨_, rfl, hXA.addL hg (by rw [HnL.out]; exact hown) hat (Nat.le_refl _), ((HF1.out.alloc _).gbw hg (fun q hq => Or.inl (Or.inr (Or.inr (Or.inl hq.symm))))).setCell (Or.inl rfl) _⟩
    rw [← hZ]
    clear hZ d1 df hXA hown hg hat p1 o1 HX1 HF1
    have o2 : Hid (W2.ownsRow B 3 1 (.slice AR n cR) n (ints T.R)) := by have h9 := HX2.out.kR; rw [HnR.out] at h9; exact Lib.hid h9
    have p2 : W2.cell? ⟨gt, 2, none⟩ = some (.slice AR n cR) := HX2.out.blk.cell rfl
    go_upto_region 18 with (at_builtin; go_must (refine wpList_app _ rfl _ _ 30 rfl B 3 ii (.int .i64 0) 1 8 Try.underlying30 hii hiiz hiis hiib rfl (by decide) (.slice AR n cR) n (ints T.R) rfl (o2.out.alloc _) (W2.heap.size + 1) (some ⟨W2.heap.size, 0, none⟩) 1 1 [.int .i64 (-1)] rfl (((Blk.new W2 3 _).sl rfl).up (by simp)) (one_inT _) (n + 1) rfl _ rfl _ rfl (by simp only [maxLen]; omega) (by omega) (by have := HF2.out.size; rw [World.size_alloc]; omega) ?_; intro A2' k2' w2' hown hg hat hk7 hk8; have hB9 := (HX2.out.blk.alloc (.cells #[.int .i64 (-1)] 3)).grown hg (own_nb (o2.out.alloc (.cells #[.int .i64 (-1)] 3)) (HX2.out.blk.alloc (.cells #[.int .i64 (-1)] 3)) (by decide)); have d1 : w2'.cell? ⟨gt, 2, none⟩ = some (.slice AR n cR) := hB9.cell rfl; have df := hB9.frozen 2; clear hB9))
    have hXA := HX2.out.on (W' := W2.alloc (.cells #[.int .i64 (-1)] 3)) ((Below.refl _ _).alloc (Nat.le_refl _) _)
    have HQ2 : Hid (∀ q, some q = (Value.slice A2' (n + 1) k2').ownBlock → some q = (Value.slice AR n cR).ownBlock ∨ w.heap.size ≤ q) := Lib.hid fun q hq => by
      rcases hat with h9 | h9
      · exact Or.inl (hq.trans h9)
      · rw [h9] at hq
        injection hq with hq
        have := HF2.out.size
        rw [World.size_alloc] at hq
        exact Or.inr (by omega)
    obtain ⟨W3, hZ, HX3, HF3⟩ : ∃ Z9, Z9 = w2'.setCell ⟨gt, 2, none⟩ (.slice A2' (n + 1) k2') ∧ Hid (TrX Z9 B gt (T.ks ++ [k]) (T.L ++ [-1]) (T.R ++ [-1]) (.slice A0' (n + 1) k0') (.slice A1' (n + 1) k1') (.slice A2' (n + 1) k2') (hs ++ [(g, cap)])) ∧ Hid (Fr (trF gt (.slice AK n cK) (.slice AL n cL) (.slice AR n cR)) w Z9) :=
      ⟨_, rfl, hXA.addR hg (by rw [HnR.out]; exact hown) hat (Nat.le_refl _), ((HF2.out.alloc _).gbw hg (fun q hq => Or.inl (Or.inr (Or.inr (Or.inr hq.symm))))).setCell (Or.inl rfl) _⟩
    rw [← hZ]
    clear hZ d1 df hXA hown hg hat p2 o2 HX2 HF2
    have HQ : Hid (∀ q, trF gt (.slice A0' (n + 1) k0') (.slice A1' (n + 1) k1') (.slice A2' (n + 1) k2') q → trF gt (.slice AK n cK) (.slice AL n cL) (.slice AR n cR) q ∨ w.heap.size ≤ q) := Lib.hid fun q hq => by
      rcases hq with h9 | h9 | h9 | h9
      · exact Or.inl (Or.inl h9)
      · exact (HQ0.out q h9).imp (fun h8 => Or.inr (Or.inl h8)) id
      · exact (HQ1.out q h9).imp (fun h8 => Or.inr (Or.inr (Or.inl h8))) id
      · exact (HQ2.out q h9).imp (fun h8 => Or.inr (Or.inr (Or.inr h8))) id
    rcases HC.out with ⟨hn0, rfl, rfl⟩ | ⟨a, r, hn0, rfl, rfl, hm⟩
    · have Hn0 := Lib.hid hn0
      clear hn0 HC
      go_wp2_with fail
      go_ret2
      have e1 := List.eq_nil_of_length_eq_zero Hn0.out
      have e2 := List.eq_nil_of_length_eq_zero (HTB.out.l.trans Hn0.out)
      have e3 := List.eq_nil_of_length_eq_zero (HTB.out.r.trans Hn0.out)
      refine HEnd.out _ _ (PutR.new (putT_zero Hn0.out) (ret_nat (HN.out.trans Hn0.out)) ⟨?_, TrW.one k⟩ HF3.out HQ.out)
      have h9 := HX3.out
      rw [e1, e2, e3] at h9
      exact h9
    · rw [← HN.out] at hn0
      have Hm := Lib.hid hm
      have han : a < n := by
        rw [HN.out]
        exact (srch_miss_at HTB.out _ _ _ _ (by rw [← HN.out]; exact hn0) (by omega) hm).1
      have e0 : (0 : Int) ≤ a := by omega
      have e1 : (a : Int) < ((n + 1 : Nat) : Int) := by omega
      have e2 : (a : Int) < (n : Int) + 1 := by omega
      have e3 : a < n + 1 := by omega
      have d0 : decide ((0 : Int) ≤ (a : Int)) = true := by simp
      clear hm HC
      have hlL : (T.L ++ [-1]).length = n + 1 := by rw [List.length_append, HnL.out]; rfl
      have hlR : (T.R ++ [-1]).length = n + 1 := by rw [List.length_append, HnR.out]; rfl
      cases r
      · obtain ⟨gq, hgq, _, _, hrw⟩ := own_set (a := a) (z := (n : Int)) (by rw [← hlL]; have h9 := HX3.out.kL; rw [hlL] at h9 ⊢; exact h9) (by omega : 0 < n + 1)
        subst hgq
        have HXs : Hid (TrX W3 B gt (T.ks ++ [k]) (T.L ++ [-1]) (T.R ++ [-1]) (.slice A0' (n + 1) k0') (.slice (some ⟨gq, 0, none⟩) (T.L ++ [-1]).length k1') (.slice A2' (n + 1) k2') (hs ++ [(g, cap)])) := by rw [hlL]; exact HX3
        have c1 : W3.cell? ⟨gt, 1, none⟩ = some (.slice (some ⟨gq, 0, none⟩) (n + 1) k1') := HX3.out.blk.cell rfl
        have c2 : W3.cell? ⟨gq, a, none⟩ = some (.int .i64 ((T.L ++ [-1]).getD a 0)) := hrw.cell (ints_get (by rw [List.getD_eq_getElem?_getD]; simp [hlL, e3]))
        have c3 := hrw.frozen a
        have HL := Lib.hid hlL
        clear hrw hlL hlR
        go_wp2_with fail
        go_ret2
        refine HEnd.out _ _ (PutR.new (putT_miss (by rw [← HN.out]; exact hn0) Hm.out) (ret_nat HN.out) ⟨?_, hang_W HTW.out (by rw [← HN.out]; exact hn0) Hm.out⟩ (HF3.out.gbw (gb_setCell (World.grownBy.refl W3 (some gq)) _ _) (fun q hq => by injection hq with hq; subst hq; rcases HQ1.out gq rfl with h8 | h8; exact Or.inl (Or.inr (Or.inr (Or.inl h8))); exact Or.inr h8)) HQ.out)
        have h9 := HXs.out.setL (a := a) (z := (n : Int)) (by rw [HL.out]; omega)
        rw [HL.out, List.set_append_left _ _ (by rw [HnL.out]; exact han), HN.out] at h9
        rw [HN.out]
        exact h9
      · obtain ⟨gq, hgq, _, _, hrw⟩ := own_set (a := a) (z := (n : Int)) (by rw [← hlR]; have h9 := HX3.out.kR; rw [hlR] at h9 ⊢; exact h9) (by omega : 0 < n + 1)
        subst hgq
        have HXs : Hid (TrX W3 B gt (T.ks ++ [k]) (T.L ++ [-1]) (T.R ++ [-1]) (.slice A0' (n + 1) k0') (.slice A1' (n + 1) k1') (.slice (some ⟨gq, 0, none⟩) (T.R ++ [-1]).length k2') (hs ++ [(g, cap)])) := by rw [hlR]; exact HX3
        have c1 : W3.cell? ⟨gt, 2, none⟩ = some (.slice (some ⟨gq, 0, none⟩) (n + 1) k2') := HX3.out.blk.cell rfl
        have c2 : W3.cell? ⟨gq, a, none⟩ = some (.int .i64 ((T.R ++ [-1]).getD a 0)) := hrw.cell (ints_get (by rw [List.getD_eq_getElem?_getD]; simp [hlR, e3]))
        have c3 := hrw.frozen a
        have HL := Lib.hid hlR
        clear hrw hlL hlR
        go_wp2_with fail
        go_ret2
        refine HEnd.out _ _ (PutR.new (putT_miss (by rw [← HN.out]; exact hn0) Hm.out) (ret_nat HN.out) ⟨?_, hang_W HTW.out (by rw [← HN.out]; exact hn0) Hm.out⟩ (HF3.out.gbw (gb_setCell (World.grownBy.refl W3 (some gq)) _ _) (fun q hq => by injection hq with hq; subst hq; rcases HQ2.out gq rfl with h8 | h8; exact Or.inl (Or.inr (Or.inr (Or.inr h8))); exact Or.inr h8)) HQ.out)
        have h9 := HXs.out.setR (a := a) (z := (n : Int)) (by rw [HL.out]; omega)
        rw [HL.out, List.set_append_left _ _ (by rw [HnR.out]; exact han), HN.out] at h9
        rw [HN.out]
        exact h9
end Go.Proofs.Ytgbopmgeicokoaa
