/-
  The memory of reclaimref27.Clocks: the book (addresses, and a clock for each), and the clocks so far. No program's step in sight.
-/
import Derived.Test.YtgbopmgeicokoaaClkRows
import Derived.Test.YtgbopmgeicokoaaClkSm
namespace Go.Proofs.Ytgbopmgeicokoaa
open Go.RowKit

theorem own_set {w : World} {B e n k g i : Nat} {xs : List Value} {u : Value} (h : w.ownsRow B e 1 (.slice (some ⟨g, 0, none⟩) n k) n xs) (hi : i < n) : (w.setCell ⟨g, i, none⟩ u).ownsRow B e 1 (.slice (some ⟨g, 0, none⟩) n k) n (xs.set i u) := by
  obtain ⟨h1, h2⟩ := h
  refine ⟨by simpa using h1, ?_⟩
  rcases h2 with ⟨hv, _⟩ | ⟨g', cap, cur, hv, hb, hg, h3, h4, h5, h6⟩
  · cases hv
  · injection hv with hA _ hc
    injection hA with hA
    injection hA with hA
    subst hA
    subst hc
    refine Or.inr ⟨g, k, cur.setIfInBounds i u, rfl, hb, ?_, h3, h4, by simpa using h5, ?_⟩
    · simp [World.setCell, Array.getElem?_modify, hg]
    · rw [← h6]
      simp [List.take_set]
theorem own_ne'' {W : World} {B e sz n : Nat} {v : Value} {L : List Value} (h : W.ownsRow B e sz v n L) {g : Nat} (hg : g < B) : some g ≠ v.ownBlock := by
  intro he
  have := (h.lt g he.symm).1
  omega
/-- a row its own, apart from va -/
def RowOk (W : World) (B T : Nat) (va : Value) (h : Option Addr × Nat × Nat) (F : Clk) : Prop := h.2.1 = T ∧ W.ownsRow B 3 1 (hdV h) T (ints (clkL T F)) ∧ ((hdV h).ownBlock = none ∨ (hdV h).ownBlock ≠ va.ownBlock)
theorem RowOk.kept {W W' : World} {B T : Nat} {va : Value} {h : Option Addr × Nat × Nat} {F : Clk} {row : Option Nat} (hr : RowOk W B T va h F) (hg : W.grownBy W' row) (hne : (hdV h).ownBlock = none ∨ (hdV h).ownBlock ≠ row) : RowOk W' B T va h F := ⟨hr.1, hr.2.1.kept hg hne, hr.2.2⟩
theorem RowOk.va {W : World} {B T : Nat} {va va' : Value} {h : Option Addr × Nat × Nat} {F : Clk} {q : Nat} (hr : RowOk W B T va h F) (hq : va'.ownBlock = va.ownBlock ∨ va'.ownBlock = some q) (hqs : W.heap.size ≤ q) : RowOk W B T va' h F := by
  refine ⟨hr.1, hr.2.1, ?_⟩
  rcases hr.2.2 with h0 | h0
  · exact Or.inl h0
  · rcases hq with hq | hq
    · exact Or.inr (by rw [hq]; exact h0)
    · cases hv : (hdV h).ownBlock with
      | none => exact Or.inl rfl
      | some r =>
        refine Or.inr (fun he => ?_)
        rw [hq] at he
        injection he with he
        have := (hr.2.1.lt r hv).2
        omega

structure Bk (W : World) (B T gb : Nat) (out : Value) (j : Nat) (Fo : Nat → Clk) (va : Value) (L : List Int) (vc : Value) (mc : Nat) (Fb : Nat → Clk) (hole : Nat → Prop) : Prop where
  gbB : gb < B
  size : B ≤ W.heap.size
  blk : Blk W gb 154 [va, vc]
  addrs : W.ownsRow B 3 1 va L.length (ints L)
  ex : ∃ hb ho : List (Option Addr × Nat × Nat), W.ownsRow B 30 1 vc mc (hb.map hdV) ∧ hb.length = mc ∧ W.ownsRow B 30 1 out j (ho.map hdV) ∧ ho.length = j ∧
    (∀ i h, hb[i]? = some h → ¬ hole i → RowOk W B T va h (Fb i)) ∧ (∀ i h, ho[i]? = some h → RowOk W B T va h (Fo i)) ∧ (out.ownBlock = none ∨ out.ownBlock ≠ vc.ownBlock)

section
variable {W W' : World} {B T gb j mc : Nat} {out va vc : Value} {Fo Fb : Nat → Clk} {L : List Int} {hole : Nat → Prop}
theorem far_of {e sz n g : Nat} {u : Value} {xs : List Value} (hu : W.ownsRow B e sz u n xs) (hg : g < B) : u.ownBlock = none ∨ u.ownBlock ≠ some g := by
  cases hv : u.ownBlock with
  | none => exact Or.inl rfl
  | some q => exact Or.inr (fun he => by have := (hu.lt q hv).1; injection he with he; omega)
/-- a block below the base is written: not the book's -/
theorem Bk.low {g : Nat} (h : Bk W B T gb out j Fo va L vc mc Fb hole) (hg : W.grownBy W' (some g)) (hB : g < B) (hne : g ≠ gb) : Bk W' B T gb out j Fo va L vc mc Fb hole := by
  obtain ⟨h1, h2, h3, h4, hb, ho, a1, a2, a3, a4, a5, a6, a7⟩ := h
  exact ⟨h1, Nat.le_trans h2 hg.size, h3.grown hg (by intro he; injection he with he; omega), h4.kept hg (far_of h4 hB), hb, ho, a1.kept hg (far_of a1 hB), a2, a3.kept hg (far_of a3 hB), a4,
    fun i x hx hn => (a5 i x hx hn).kept hg (far_of (a5 i x hx hn).2.1 hB), fun i x hx => (a6 i x hx).kept hg (far_of (a6 i x hx).2.1 hB), a7⟩
theorem Bk.keep (h : Bk W B T gb out j Fo va L vc mc Fb hole) (hb : Below W.heap.size W W') : Bk W' B T gb out j Fo va L vc mc Fb hole := by
  obtain ⟨h1, h2, h3, h4, hb', ho, a1, a2, a3, a4, a5, a6, a7⟩ := h
  have hg : W.grownBy W' none := gb_below hb none
  have no : ∀ u : Value, u.ownBlock = none ∨ u.ownBlock ≠ none := fun u => by cases u.ownBlock <;> simp
  exact ⟨h1, Nat.le_trans h2 hb.size, h3.below hb h3.lt, h4.below hb, hb', ho, a1.below hb, a2, a3.below hb, a4, fun i x hx hn => (a5 i x hx hn).kept hg (no _), fun i x hx => (a6 i x hx).kept hg (no _), a7⟩
/-- one address more -/
theorem Bk.addr {va' : Value} {a : Int} {W0 : World} {q : Nat} (h : Bk W0 B T gb out j Fo va L vc mc Fb hole) (hg : W0.grownBy W' va.ownBlock) (ho' : W'.ownsRow B 3 1 va' (L.length + 1) (ints L ++ [.int .i64 a])) (hq : va'.ownBlock = va.ownBlock ∨ va'.ownBlock = some q) (hqs : W0.heap.size ≤ q) :
    Bk (W'.setCell ⟨gb, 0, none⟩ va') B T gb out j Fo va' (L ++ [a]) vc mc Fb hole := by
  obtain ⟨h1, h2, h3, h4, hb, ho, a1, a2, a3, a4, a5, a6, a7⟩ := h
  have hgb : some gb ≠ va.ownBlock := own_ne'' h4 h1
  have hset : W'.grownBy (W'.setCell ⟨gb, 0, none⟩ va') (some gb) := gb_setCell (World.grownBy.refl _ _) _ _
  have hrow : ∀ {x : Option Addr × Nat × Nat} {F : Clk}, RowOk W0 B T va x F → RowOk (W'.setCell ⟨gb, 0, none⟩ va') B T va' x F := fun hr =>
    (((hr.va hq hqs).kept hg hr.2.2).kept hset (far_of (hr.2.1.kept hg hr.2.2) h1))
  have e1 := a1.kept hg (own_apart' a1 h4 (by decide))
  have e3 := a3.kept hg (own_apart' a3 h4 (by decide))
  refine ⟨h1, ?_, ?_, ?_, hb, ho, e1.kept hset (far_of e1 h1), a2, e3.kept hset (far_of e3 h1), a4, fun i x hx hn => hrow (a5 i x hx hn), fun i x hx => hrow (a6 i x hx), a7⟩
  · exact Nat.le_trans (Nat.le_trans h2 hg.size) hset.size
  · exact (h3.grown hg hgb).set_ 0 va'
  · have := ho'.kept hset (far_of ho' h1)
    simpa [ints] using this
/-- one clock more, not yet written -/
theorem Bk.clock (h : Bk W B T gb out j Fo va L vc mc Fb (fun _ => False)) : ∃ xs, W.ownsRow B 30 1 vc mc xs ∧ ∀ (q : Nat) (vc' : Value) (W' : World), W.grownBy W' vc.ownBlock → W'.ownsRow B 30 1 vc' (mc + 1) (xs ++ [.slice none 0 0]) →
    (vc'.ownBlock = vc.ownBlock ∨ vc'.ownBlock = some q) → W.heap.size ≤ q → Bk (W'.setCell ⟨gb, 1, none⟩ vc') B T gb out j Fo va L vc' (mc + 1) Fb (fun i => i = mc) := by
  obtain ⟨h1, h2, h3, h4, hb, ho, a1, a2, a3, a4, a5, a6, a7⟩ := h
  refine ⟨hb.map hdV, a1, fun q vc' W' hg ho' hq hqs => ?_⟩
  have hgb : some gb ≠ vc.ownBlock := own_ne'' a1 h1
  have hset : W'.grownBy (W'.setCell ⟨gb, 1, none⟩ vc') (some gb) := gb_setCell (World.grownBy.refl _ _) _ _
  have hrow : ∀ {x : Option Addr × Nat × Nat} {F : Clk}, RowOk W B T va x F → RowOk (W'.setCell ⟨gb, 1, none⟩ vc') B T va x F := fun hr =>
    (hr.kept hg (own_apart' hr.2.1 a1 (by decide))).kept hset (far_of (hr.2.1.kept hg (own_apart' hr.2.1 a1 (by decide))) h1)
  have e1 := ho'
  have e3 := a3.kept hg a7
  have e4 := h4.kept hg (own_apart' h4 a1 (by decide))
  refine ⟨h1, ?_, ?_, e4.kept hset (far_of e4 h1), hb ++ [(none, 0, 0)], ho, by simpa using e1.kept hset (far_of e1 h1), by simp [a2], e3.kept hset (far_of e3 h1), a4, fun i x hx hn => ?_, fun i x hx => hrow (a6 i x hx), ?_⟩
  · exact Nat.le_trans (Nat.le_trans h2 hg.size) hset.size
  · exact (h3.grown hg hgb).set_ 1 vc'
  · have hlt : i < hb.length := by
      have h9 := (List.getElem?_eq_some_iff.1 hx).1
      have : i ≠ mc := hn
      simp at h9
      omega
    rw [List.getElem?_append_left hlt] at hx
    exact hrow (a5 i x hx (fun hh => hh))
  · rcases a7 with h0 | h0
    · exact Or.inl h0
    · rcases hq with hq | hq
      · exact Or.inr (by rw [hq]; exact h0)
      · cases hv : out.ownBlock with
        | none => exact Or.inl rfl
        | some r =>
          refine Or.inr (fun he => ?_)
          rw [hq] at he
          injection he with he
          have := (a3.lt r hv).2
          omega
/-- a clock of the book written -/
theorem Bk.put {gc kc at_ k1 : Nat} {A1 : Option Addr} {F1 : Clk} {hole' : Nat → Prop} (h : Bk W B T gb out j Fo va L vc mc Fb hole) (hvc : vc = .slice (some ⟨gc, 0, none⟩) mc kc) (hat : at_ < mc) (hr : RowOk W B T va (A1, T, k1) F1)
    (hh : ∀ i, i ≠ at_ → ¬ hole' i → ¬ hole i) : Bk (W.setCell ⟨gc, at_, none⟩ (.slice A1 T k1)) B T gb out j Fo va L vc mc (fun i => if i = at_ then F1 else Fb i) hole' := by
  obtain ⟨h1, h2, h3, h4, hb, ho, a1, a2, a3, a4, a5, a6, a7⟩ := h
  subst hvc
  have hgc : (Value.slice (some ⟨gc, 0, none⟩) mc kc).ownBlock = some gc := rfl
  have hset : W.grownBy (W.setCell ⟨gc, at_, none⟩ (.slice A1 T k1)) (some gc) := gb_setCell (World.grownBy.refl _ _) _ _
  have hap : ∀ {e sz n : Nat} {u : Value} {xs : List Value}, W.ownsRow B e sz u n xs → e ≠ 30 → u.ownBlock = none ∨ u.ownBlock ≠ some gc := fun hu hne => by
    have := own_apart' hu a1 hne
    rwa [hgc] at this
  have hrow : ∀ {x : Option Addr × Nat × Nat} {F : Clk}, RowOk W B T va x F → RowOk (W.setCell ⟨gc, at_, none⟩ (.slice A1 T k1)) B T va x F := fun hr => hr.kept hset (hap hr.2.1 (by decide))
  have hBgc := (a1.lt gc rfl).1
  refine ⟨h1, Nat.le_trans h2 hset.size, h3.far (by dsimp only; omega) _, h4.kept hset (hap h4 (by decide)), hb.set at_ (A1, T, k1), ho, ?_, by simpa using a2, a3.kept hset (by rwa [hgc] at a7), a4, fun i x hx hn => ?_, fun i x hx => hrow (a6 i x hx), a7⟩
  · have := own_set (u := .slice A1 T k1) a1 hat
    simpa [List.map_set] using this
  · by_cases hi : i = at_
    · subst hi
      rw [List.getElem?_set_self (by omega)] at hx
      injection hx with hx
      subst hx
      rw [if_pos rfl]
      exact hrow hr
    · rw [List.getElem?_set_ne (fun he => hi he.symm)] at hx
      rw [if_neg hi]
      exact hrow (a5 i x hx (hh i hi hn))
/-- one more of the clocks so far -/
theorem Bk.outs (h : Bk W B T gb out j Fo va L vc mc Fb hole) : ∃ xs, W.ownsRow B 30 1 out j xs ∧ ∀ (A1 : Option Addr) (k1 q : Nat) (out' : Value) (W' : World), RowOk W B T va (A1, T, k1) (Fo j) → W.grownBy W' out.ownBlock →
    W'.ownsRow B 30 1 out' (j + 1) (xs ++ [.slice A1 T k1]) → (out'.ownBlock = out.ownBlock ∨ out'.ownBlock = some q) → W.heap.size ≤ q → Bk W' B T gb out' (j + 1) Fo va L vc mc Fb hole := by
  obtain ⟨h1, h2, h3, h4, hb, ho, a1, a2, a3, a4, a5, a6, a7⟩ := h
  refine ⟨ho.map hdV, a3, fun A1 k1 q out' W' hr hg ho' hq hqs => ?_⟩
  have hvo : vc.ownBlock = none ∨ vc.ownBlock ≠ out.ownBlock := by
    rcases a7 with h0 | h0
    · cases hv : vc.ownBlock with
      | none => exact Or.inl rfl
      | some r => exact Or.inr (by rw [h0]; simp)
    · exact Or.inr (fun he => h0 he.symm)
  have hrow : ∀ {x : Option Addr × Nat × Nat} {F : Clk}, RowOk W B T va x F → RowOk W' B T va x F := fun hr => hr.kept hg (own_apart' hr.2.1 a3 (by decide))
  refine ⟨h1, Nat.le_trans h2 hg.size, h3.grown hg (own_ne'' a3 h1), h4.kept hg (own_apart' h4 a3 (by decide)), hb, ho ++ [(A1, T, k1)], a1.kept hg hvo, a2, by simpa using ho', by simp [a4], fun i x hx hn => hrow (a5 i x hx hn), fun i x hx => ?_, ?_⟩
  · by_cases hlt : i < ho.length
    · rw [List.getElem?_append_left hlt] at hx
      exact hrow (a6 i x hx)
    · rw [List.getElem?_append_right (by omega)] at hx
      obtain ⟨hj, hx2⟩ : i - ho.length = 0 ∧ x = (A1, T, k1) := by
        cases hd : i - ho.length with
        | zero => rw [hd] at hx; simp at hx; exact ⟨rfl, hx.symm⟩
        | succ q => rw [hd] at hx; simp at hx
      obtain rfl : i = j := by omega
      subst hx2
      exact hrow hr
  · rcases hq with hq | hq
    · rw [hq]; exact a7
    · cases hv : vc.ownBlock with
      | none => exact Or.inr (by rw [hq]; simp)
      | some r =>
        refine Or.inr (fun he => ?_)
        rw [hq] at he
        injection he with he
        have := (a1.lt r hv).2
        omega
/-- a fresh row is apart -/
theorem RowOk.new {A1 : Option Addr} {k1 : Nat} {F : Clk} {W0 : World} (hva : ∀ r, va.ownBlock = some r → r < W0.heap.size) (h : W.ownsRow W0.heap.size 3 1 (.slice A1 T k1) T (ints (clkL T F))) (hB : B ≤ W0.heap.size) : RowOk W B T va (A1, T, k1) F := by
  have hx : W.ownsRow B 3 1 (.slice A1 T k1) T (ints (clkL T F)) := by
    obtain ⟨h1, h2⟩ := h
    refine ⟨h1, ?_⟩
    rcases h2 with h2 | ⟨g, cap, cur, hv, hb, r⟩
    · exact Or.inl h2
    · exact Or.inr ⟨g, cap, cur, hv, Nat.le_trans hB hb, r⟩
  refine ⟨rfl, hx, ?_⟩
  cases hv : (hdV (A1, T, k1)).ownBlock with
  | none => exact Or.inl rfl
  | some r =>
    refine Or.inr (fun he => ?_)
    have := (h.lt r hv).1
    have := hva r he.symm
    omega
end

/-- the clock of a word in the book -/
def bookF (L : List Int) (Fb : Nat → Clk) (a : Int) : Option Clk := if ofFrom a 0 L = -1 then none else some (Fb (ofFrom a 0 L).toNat)
theorem of_from (a : Int) : ∀ (L : List Int) (j : Nat), ofFrom a j L = -1 ∨ ∃ i : Nat, ofFrom a j L = ((j + i : Nat) : Int) ∧ L[i]? = some a
  | [], _ => Or.inl rfl
  | x :: L, j => by
    unfold ofFrom
    by_cases hx : x = a
    · rw [if_pos hx]
      exact Or.inr ⟨0, by simp, by simp [hx]⟩
    · rw [if_neg hx]
      rcases of_from a L (j + 1) with h | ⟨i, h1, h2⟩
      · exact Or.inl h
      · exact Or.inr ⟨i + 1, by rw [h1]; congr 1; omega, by simpa using h2⟩
theorem of_append (a b : Int) : ∀ (L : List Int) (j : Nat), ofFrom a j (L ++ [b]) = if ofFrom a j L = -1 then (if b = a then ((j + L.length : Nat) : Int) else -1) else ofFrom a j L
  | [], j => by
    show ofFrom a j [b] = _
    unfold ofFrom
    simp [ofFrom]
  | x :: L, j => by
    have e1 : ofFrom a j ((x :: L) ++ [b]) = if x = a then (j : Int) else ofFrom a (j + 1) (L ++ [b]) := rfl
    have e2 : ofFrom a j (x :: L) = if x = a then (j : Int) else ofFrom a (j + 1) L := rfl
    rw [e1, e2]
    by_cases hx : x = a
    · rw [if_pos hx, if_pos hx, if_neg (by omega)]
    · rw [if_neg hx, if_neg hx, of_append a b L (j + 1)]
      split
      · split
        · congr 1
          simp
          omega
        · rfl
      · rfl
theorem bookF_nil (Fb : Nat → Clk) (a : Int) : bookF [] Fb a = none := rfl
theorem bookF_put {L : List Int} {Fb : Nat → Clk} {a : Int} {i : Nat} (h : ofFrom a 0 L = (i : Int)) (M : Clk) (b : Int) : bookF L (fun q => if q = i then M else Fb q) b = if b = a then some M else bookF L Fb b := by
  unfold bookF
  by_cases hb : b = a
  · subst hb
    rw [if_pos rfl, h, if_neg (by omega)]
    simp
  · rw [if_neg hb]
    rcases of_from b L 0 with h1 | ⟨q, h1, h2⟩
    · rw [if_pos h1, if_pos h1]
    · rw [h1, if_neg (by omega), if_neg (by omega)]
      have hq : q ≠ i := by
        intro he
        subst he
        rcases of_from a L 0 with h3 | ⟨r, h3, h4⟩
        · omega
        · have : r = q := by omega
          subst this
          rw [h2] at h4
          injection h4 with h4
          exact hb h4
      simp [hq]
theorem bookF_new {L : List Int} {Fb : Nat → Clk} {a : Int} (h : ofFrom a 0 L = -1) (M : Clk) (b : Int) : bookF (L ++ [a]) (fun q => if q = L.length then M else Fb q) b = if b = a then some M else bookF L Fb b := by
  unfold bookF
  have e := of_append b a L 0
  by_cases hb : b = a
  · subst hb
    rw [if_pos h, if_pos rfl] at e
    rw [if_pos rfl, e, if_neg (by omega)]
    simp
  · rw [if_neg hb]
    rcases of_from b L 0 with h1 | ⟨q, h1, h2⟩
    · rw [if_pos h1, if_neg (fun he => hb he.symm)] at e
      rw [e, h1]
      rfl
    · rw [if_neg (by omega)] at e
      rw [e, h1, if_neg (by omega), if_neg (by omega)]
      have hq : q ≠ L.length := by
        have := (List.getElem?_eq_some_iff.1 h2).1
        omega
      simp [hq]
end Go.Proofs.Ytgbopmgeicokoaa
