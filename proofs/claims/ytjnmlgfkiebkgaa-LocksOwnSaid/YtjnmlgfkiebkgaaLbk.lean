/-
  What a move leaves as it was: all below the machine, and blocks of a caller's own (by their kind). No program in sight.
-/
import Derived.Test.YtjnmlgfkiebkgaaLmb
namespace Go.Proofs.Ytjnmlgfkiebkgaa
open Go.RowKit
set_option linter.unusedVariables false
set_option linter.unusedSimpArgs false

/-- blocks of kinds that the machine does not use -/
def forT (t : TypeId) : Bool := t == 3 || t == 74
structure Bk (B : Nat) (W W' : World) : Prop where
  low : Below B W W'
  keep : ∀ (g : Nat) (t : TypeId) (cs : List Value), forT t = true → Blk W g t cs → Blk W' g t cs
section
variable {B : Nat} {W W' W'' : World}
theorem blk_type {g : Nat} {t t' : TypeId} {cs cs' : List Value} (h : Blk W g t cs) (h' : Blk W g t' cs') : t = t' := by
  unfold Blk at h h'
  rw [h] at h'
  injection h' with h'
  injection h'
theorem Bk.refl (B : Nat) (W : World) : Bk B W W := ⟨Below.refl _ _, fun _ _ _ _ h => h⟩
theorem Bk.trans (h : Bk B W W') (h' : Bk B W' W'') : Bk B W W'' := ⟨h.low.trans h'.low, fun g t cs ht hb => h'.keep g t cs ht (h.keep g t cs ht hb)⟩
theorem Bk.size (h : Bk B W W') : W.heap.size ≤ W'.heap.size := h.low.size
theorem Bk.drew (h : Bk B W W') : Bk B W W'.drew := ⟨h.low.drew, h.keep⟩
theorem Bk.alloc (h : Bk B W W') (hB : B ≤ W'.heap.size) (o : Obj) : Bk B W (W'.alloc o) := ⟨h.low.alloc hB o, fun g t cs ht hb => (h.keep g t cs ht hb).alloc o⟩
theorem Bk.after (h : Bk B W W') (hb : Below W'.heap.size W' W'') (hB : B ≤ W'.heap.size) : Bk B W W'' := ⟨h.low.trans (hb.mono hB), fun g t cs ht hk => by have h9 := h.keep g t cs ht hk; exact h9.below hb h9.lt⟩
theorem Bk.setCell {p : Addr} (h : Bk B W W') (hB : B ≤ p.block) {t0 : TypeId} {c0 : List Value} (hp : Blk W' p.block t0 c0) (h0 : forT t0 = false) (u : Value) : Bk B W (W'.setCell p u) :=
  ⟨h.low.setCell hB u, fun g t cs ht hk => by
    have h9 := h.keep g t cs ht hk
    refine h9.far (fun e => ?_) u
    subst e
    rw [blk_type h9 hp, h0] at ht
    cases ht⟩
theorem Bk.grown {row : Option Nat} (h : Bk B W W') (hg : W'.grownBy W'' row) (hB : B ≤ W'.heap.size) (hr : ∀ q, row = some q → B ≤ q) (hk : ∀ (q : Nat) (t : TypeId) (cs : List Value), row = some q → Blk W' q t cs → forT t = false) : Bk B W W'' :=
  ⟨h.low.grown hg hB hr, fun g t cs ht hb => by
    have h9 := h.keep g t cs ht hb
    refine h9.grown hg (fun e => ?_)
    rw [hk g t cs e.symm h9] at ht
    cases ht⟩
theorem own_type {B' e s n q : Nat} {v : Value} {xs cs : List Value} {t : TypeId} (h : W.ownsRow B' e s v n xs) (hq : v.ownBlock = some q) (hb : Blk W q t cs) : t = e := by
  rcases h.2 with ⟨h0, _⟩ | ⟨g, cap, cur, hv, _, hg, _⟩
  · rw [h0] at hq; cases hq
  · rw [hv] at hq
    injection hq with hq
    subst hq
    unfold Blk at hb
    rw [hg] at hb
    injection hb with hb
    injection hb with _ hb
    exact hb.symm
theorem forT_mine {t : TypeId} (h : forT t = true) : mineT t = false := by
  simp only [forT, Bool.or_eq_true, beq_iff_eq] at h
  rcases h with rfl | rfl <;> rfl
theorem forT_lk (k : Int) : forT (lkT k) = false := by
  unfold lkT
  cases k == 2 <;> cases k == 3 <;> cases k == 4 <;> cases k == 5 <;> cases k == 6 <;> rfl
theorem forT_tk (p : Tp) : forT (tkT p) = false := by cases p <;> rfl
theorem Bk.of_fr {s lb tb : Nat} (h : Fr (TsX s lb tb) B W W') {t1 t2 t3 : TypeId} {c1 c2 c3 : List Value} (h1 : Blk W s t1 c1) (f1 : forT t1 = false) (h2 : Blk W lb t2 c2) (f2 : forT t2 = false) (h3 : Blk W tb t3 c3) (f3 : forT t3 = false) : Bk B W W' :=
  ⟨h.low, fun g t cs ht hb => h.keep g _ (fun e => by
    rcases e with e | e | e <;> subst e
    · rw [blk_type hb h1, f1] at ht; cases ht
    · rw [blk_type hb h2, f2] at ht; cases ht
    · rw [blk_type hb h3, f3] at ht; cases ht) hb (forT_mine ht)⟩
theorem Bk.seat5 (h : Bk B W W') {sg o n k sz : Nat} {t0 : TypeId} {xs : List Value} (hB : B ≤ sg) (hr : Rw W' sg t0 sz n k xs) (h0 : forT t0 = false) (a b c d e : Value) : Bk B W (((((W'.setCell ⟨sg, o, none⟩ a).setCell ⟨sg, o + 1, none⟩ b).setCell ⟨sg, o + 2, none⟩ c).setCell ⟨sg, o + 3, none⟩ d).setCell ⟨sg, o + 4, none⟩ e) := by
  obtain ⟨_, cs, hb, _⟩ := hr
  exact (((((h.setCell (p := ⟨sg, o, none⟩) hB hb h0 a).setCell (p := ⟨sg, o + 1, none⟩) hB (hb.set_ _ _) h0 b).setCell (p := ⟨sg, o + 2, none⟩) hB ((hb.set_ _ _).set_ _ _) h0 c).setCell (p := ⟨sg, o + 3, none⟩) hB (((hb.set_ _ _).set_ _ _).set_ _ _) h0 d).setCell (p := ⟨sg, o + 4, none⟩) hB ((((hb.set_ _ _).set_ _ _).set_ _ _).set_ _ _) h0 e)
end
end Go.Proofs.Ytjnmlgfkiebkgaa
