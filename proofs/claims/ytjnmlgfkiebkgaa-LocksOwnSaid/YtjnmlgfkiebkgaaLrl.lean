/-
  Run's loop over the log: what holds between two rounds.
-/
import Derived.Test.YtjnmlgfkiebkgaaLir
import Derived.Test.YtjnmlgfkiebkgaaLmy
import Derived.Maps.OwnIn
namespace Go.Proofs.Ytjnmlgfkiebkgaa
open Go.RowKit Go.Shelf
set_option linter.unusedVariables false
set_option linter.unusedSimpArgs false

theorem blk_grow {W W' : World} {g : Nat} {t : TypeId} {cs : List Value} {row : Option Nat} {D : Nat} (h : Blk W g t cs) (hg : W.grownBy W' row) (hr : ∀ r, row = some r → D ≤ r ∧ ∃ o : Obj, W.heap[r]? = some o ∧ o.isCells = false) : Blk W' g t cs := by
  refine h.grown hg (fun e => ?_)
  obtain ⟨_, o, ho, hc⟩ := hr g e.symm
  unfold Blk at h
  rw [h] at ho
  injection ho with ho
  subst ho
  cases hc
theorem own_grow {W W' : World} {B e sz n : Nat} {v : Value} {xs : List Value} {row : Option Nat} {D : Nat} (h : W.ownsRow B e sz v n xs) (hg : W.grownBy W' row) (hr : ∀ r, row = some r → D ≤ r ∧ ∃ o : Obj, W.heap[r]? = some o ∧ o.isCells = false) : W'.ownsRow B e sz v n xs := by
  refine h.kept hg ?_
  cases hv : v.ownBlock with
  | none => exact Or.inl rfl
  | some q =>
    refine Or.inr (fun e9 => ?_)
    obtain ⟨_, o, ho, hc⟩ := hr q e9.symm
    obtain ⟨c, f, e1⟩ := Lib.ownsRow_kind h q hv
    rw [e1] at ho
    injection ho with ho
    subst ho
    cases hc
/-- between two rounds -/
def RnI (V0 : World) (qf r : Nat) (cV wV : Value) (m : Mc) (l : List Ac) (W : World) : Prop :=
  ∃ At kt, Blk W qf 39 [cV, .slice At l.length kt, .slice none 0 0, wV] ∧ W.ownsRow V0.heap.size 66 7 (.slice At l.length kt) l.length (acVals l) ∧ W.ownsRow V0.heap.size 62 9 cV m.calls.length (calVals m.calls) ∧
    W.ownsRow V0.heap.size 34 1 wV m.words.length (u64s m.words) ∧ Blk W r 39 [.slice none 0 0, .slice none 0 0, .slice none 0 0, .slice none 0 0] ∧ Below V0.heap.size V0 W
section
variable {V0 W W' : World} {qf r D : Nat} {cV wV : Value} {m : Mc} {l : List Ac} {row : Option Nat}
theorem RnI.grow (h : RnI V0 qf r cV wV m l W) (hg : W.grownBy W' row) (hr : ∀ r, row = some r → D ≤ r ∧ ∃ o : Obj, W.heap[r]? = some o ∧ o.isCells = false) (hD : V0.heap.size ≤ D) : RnI V0 qf r cV wV m l W' := by
  obtain ⟨At, kt, h1, h2, h3, h4, h5, h6⟩ := h
  exact ⟨At, kt, blk_grow h1 hg hr, own_grow h2 hg hr, own_grow h3 hg hr, own_grow h4 hg hr, blk_grow h5 hg hr, h6.grown hg h6.size (fun q hq => Nat.le_trans hD (hr q hq).1)⟩
theorem RnI.own (hD : V0.heap.size ≤ D) : OwnFrom D (fun (pre : List (Nat × Ac)) W => RnI V0 qf r cV wV m (pre.map Prod.snd) W) := fun _ _ _ _ hs hg hr => hs.grow hg hr hD
theorem trB_blk {cs : List Value} {v : Value} {t : TypeId} (h : Blk W qf t cs) (hv : cs[1]? = some v) : trB qf W = v.ownBlock := by unfold trB; rw [h.cell hv]; rfl
theorem KpT.alloc (o : Obj) (hq : qf < W.heap.size) : KpT qf W (W.alloc o) := by
  have e : trB qf (W.alloc o) = trB qf W := by
    unfold trB
    rw [show (W.alloc o).cell? ⟨qf, 1, none⟩ = W.cell? ⟨qf, 1, none⟩ from Below.cell ((Below.refl W.heap.size W).alloc (Nat.le_refl _) o) (p := ⟨qf, 1, none⟩) hq]
  exact ⟨by simp, fun b o' h1 _ _ _ => (Below.heap_alloc W o b (Array.getElem?_eq_some_iff.1 h1).1).trans h1, fun g hg => Or.inl (by rw [e] at hg; exact hg)⟩
theorem kpT_b {w : World} (hq : qf < w.heap.size) (W : World) (l : Nat) (o o' : Obj) (hl : w.heap.size ≤ l) (h : W.heap[l]? = some o) (ho : o.isCells = false) (_ : o.isWalk = false) : KpT qf W (W.putObj l o') := by
  have hg := grownBy_putObj' W l o'
  have e : trB qf (W.putObj l o') = trB qf W := by
    unfold trB
    congr 1
    have hb : (W.putObj l o').heap[qf]? = W.heap[qf]? := by
      by_cases hlt : qf < W.heap.size
      · exact hg.block qf hlt (fun e => by injection e; omega)
      · have := (Array.getElem?_eq_some_iff.1 h).1
        omega
    unfold World.cell?
    rw [hb]
  exact ⟨hg.size, fun b o1 h1 h2 _ _ => (hg.block b (Array.getElem?_eq_some_iff.1 h1).1 (fun e9 => by injection e9 with e9; subst e9; rw [h] at h1; injection h1 with h1; subst h1; rw [ho] at h2; cases h2)).trans h1, fun g hg9 => Or.inl (by rw [e] at hg9; exact hg9)⟩
/-- one access is put behind the trace -/
theorem RnI.next {W1 W2 : World} (h : RnI V0 qf r cV wV m l W) {At : Option Addr} {kt : Nat} (a : Ac) (hbk : Blk W qf 39 [cV, .slice At l.length kt, .slice none 0 0, wV]) (hat : W.ownsRow V0.heap.size 66 7 (.slice At l.length kt) l.length (acVals l)) (o : Obj) (hW1 : W1 = W.alloc o) {v' : Value}
    (ho : W2.ownsRow V0.heap.size 66 7 v' (l.length + 1) (acVals l ++ acL a)) (hg : W1.grownBy W2 (Value.slice At l.length kt).ownBlock) (hloc : v'.ownBlock = (Value.slice At l.length kt).ownBlock ∨ v'.ownBlock = some W1.heap.size) (hq : V0.heap.size ≤ qf) (hqr : qf ≠ r) :
    RnI V0 qf r cV wV m (l ++ [a]) (W2.setCell ⟨qf, 1, none⟩ v') ∧ KpT qf W (W2.setCell ⟨qf, 1, none⟩ v') ∧ KeepsOthers W (W2.setCell ⟨qf, 1, none⟩ v') := by
  obtain ⟨_, _, _, _, h3, h4, h5, h6⟩ := h
  have hb1 : Below W.heap.size W W1 := by rw [hW1]; exact (Below.refl _ _).alloc (Nat.le_refl _) _
  have hat1 := hat.below hb1
  have hbk1 := hbk.below hb1 hbk.lt
  have hbk2 := hbk1.grown hg (own_blk_ne hat1 hbk1 (by decide))
  have h31 := (h3.below hb1).kept hg (own_own_ne (h3.below hb1) hat1 (by decide))
  have h41 := (h4.below hb1).kept hg (own_own_ne (h4.below hb1) hat1 (by decide))
  have h51 := (h5.below hb1 h5.lt).grown hg (own_blk_ne hat1 (h5.below hb1 h5.lt) (by decide))
  have h61 : Below V0.heap.size V0 W2 := (h6.trans (hb1.mono h6.size)).grown hg (Nat.le_trans h6.size hb1.size) (fun q hq9 => (hat1.lt q hq9).1)
  obtain ⟨A', k', hv, _, _⟩ := own_form ho
  subst hv
  have e1 : trB qf W = (Value.slice At l.length kt).ownBlock := trB_blk hbk rfl
  have e2 : trB qf (W2.setCell ⟨qf, 1, none⟩ (.slice A' (l.length + 1) k')) = (Value.slice A' (l.length + 1) k').ownBlock := trB_blk (hbk2.set_ 1 _) rfl
  refine ⟨⟨A', k', ?_, ?_, own_setf h31 (own_blk_ne h31 hbk2 (by decide)) _, own_setf h41 (own_blk_ne h41 hbk2 (by decide)) _, h51.far hqr.symm _, h61.setCell hq _⟩, ⟨?_, fun b o1 q1 q2 q3 q4 => ?_, fun g hg9 => ?_⟩, ?_⟩
  · have := hbk2.set_ 1 (.slice A' (l.length + 1) k')
    rw [List.length_append]
    exact this
  · have := own_setf ho (own_blk_ne ho hbk2 (by decide)) (p := ⟨qf, 1, none⟩) (.slice A' (l.length + 1) k')
    rw [List.length_append]
    simpa [acVals] using this
  · have := hg.size
    have := hb1.size
    simp
    omega
  · have q5 := (hb1.block b (Array.getElem?_eq_some_iff.1 q1).1).trans q1
    have q6 := (hg.block b (Array.getElem?_eq_some_iff.1 q5).1 (fun e9 => q4 (by rw [e1, ← e9]))).trans q5
    exact (Below.heap_setCell _ _ _ _ q3).trans q6
  · rw [e2] at hg9
    rcases hloc with hl | hl
    · exact Or.inl (by rw [e1, ← hl]; exact hg9)
    · rw [hl] at hg9
      injection hg9 with hg9
      exact Or.inr (by rw [← hg9]; exact hb1.size)
  · refine ((?_ : KeepsOthers W W1).trans (KeepsOthers.of_grownBy hg (fun j o9 hj ho9 => ?_))).trans (KeepsOthers.setCell _ _ _)
    · rw [hW1]; exact KeepsOthers.alloc _ _
    · obtain ⟨c, f, e9⟩ := Lib.ownsRow_kind hat1 j hj
      rw [e9] at ho9
      injection ho9 with ho9
      subst ho9
      rfl
end
/-- the log's iterator, as the law of the range asks for it -/
theorem log_stops (n : Nat) (hn : 1 ≤ n) (q bm bf y B : Nat) (v : Value) (log : List Ac) (hlim : log.length ≤ 100000) (w : World) (hbm : w.cell? ⟨bm, 0, none⟩ = some (.pointer (some ⟨y, 0, none⟩))) (hbf : w.cell? ⟨bf, 0, none⟩ = some (.int .i64 0)) (hy : w.cell? ⟨y, 1, none⟩ = some v)
    (ho : w.ownsRow B 66 7 v log.length (acVals log)) (hq : q < w.heap.size) (htr : trB q w = none) :
    SeqStopsK Fence.wide n Try.prog 60 #[.pointer (some ⟨bm, 0, none⟩), .pointer (some ⟨bf, 0, none⟩)] (fun x : Nat × Ac => #[.int .i64 (x.1 : Int), acV x.2]) (KpT q) (fun ys => ys = upt log log.length) (fun pre => ∃ k, k ≤ log.length ∧ pre = upt log k) log.length w :=
  fun l J Jx W hW hJ _ hY h0 => logi_in n hn l q bm bf y B v log hlim J Jx hY W hJ ((hW.cell (World.block_lt_of_cell? w _ hbm)).trans hbm) ((hW.cell (World.block_lt_of_cell? w _ hbf)).trans hbf) ((hW.cell (World.block_lt_of_cell? w _ hy)).trans hy) (ho.below hW)
    (Nat.lt_of_lt_of_le hq hW.size) (by unfold trB at htr ⊢; rw [hW.cell (p := ⟨q, 1, none⟩) hq]; exact htr) h0
theorem upt_all (l : List Ac) : (upt l l.length).map Prod.snd = l := by
  unfold upt
  rw [List.map_map]
  apply List.ext_getElem?
  intro i
  rw [List.getElem?_map]
  by_cases hi : i < l.length
  · rw [List.getElem?_range hi, List.getElem?_eq_getElem hi]
    simp [hi]
  · rw [List.getElem?_eq_none (by simpa using hi), List.getElem?_eq_none (by omega)]
    rfl
end Go.Proofs.Ytjnmlgfkiebkgaa
