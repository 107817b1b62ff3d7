/-
  The machine of threads in memory: the desk at which a step is made; what stays when one of its parts is written.
-/
import Derived.Test.YtjnmlgfkiebkgaaProg
import Derived.Test.YtjnmlgfkiebkgaaLm
import Derived.Test.YtjnmlgfkiebkgaaLrw
import Derived.Lib.OwnKind
namespace Go.Proofs.Ytjnmlgfkiebkgaa
open Go.RowKit
set_option linter.unusedVariables false
set_option linter.unusedSimpArgs false

def mineT (t : TypeId) : Bool := t == 126 || (t == 170 || (t == 34 || (t == 66 || (t == 62 || t == 128))))
/-- a block of the machine's own kinds -/
def mine : Obj → Bool
  | .cells _ t _ => mineT t
  | _ => false
/-- what lies below B, and what is of none of the machine's kinds and not among X, stays -/
structure Fr (X : Nat → Prop) (B : Nat) (w w' : World) : Prop where
  low : Below B w w'
  keep : ∀ (b : Nat) (o : Obj), ¬ X b → w.heap[b]? = some o → mine o = false → w'.heap[b]? = some o
section
variable {X Y : Nat → Prop} {B : Nat} {w w' w'' : World} {o : Obj} {p : Addr} {u : Value} {row : Option Nat}
theorem Fr.refl (X : Nat → Prop) (B : Nat) (w : World) : Fr X B w w := ⟨Below.refl _ _, fun _ _ _ h _ => h⟩
theorem Fr.trans (h : Fr X B w w') (h' : Fr X B w' w'') : Fr X B w w'' := ⟨h.low.trans h'.low, fun b o hx h1 h2 => h'.keep b o hx (h.keep b o hx h1 h2) h2⟩
theorem Fr.mono (h : Fr X B w w') (hx : ∀ b, X b → Y b) : Fr Y B w w' := ⟨h.low, fun b o hy h1 h2 => h.keep b o (fun e => hy (hx b e)) h1 h2⟩
theorem Fr.alloc (h : Fr X B w w') (hB : B ≤ w'.heap.size) (o : Obj) : Fr X B w (w'.alloc o) :=
  ⟨h.low.alloc hB o, fun b o' hx h1 h2 => by
    have := h.keep b o' hx h1 h2
    rw [Below.heap_alloc w' o b (Array.getElem?_eq_some_iff.1 this).1]
    exact this⟩
theorem Fr.drew (h : Fr X B w w') : Fr X B w w'.drew := ⟨h.low.drew, h.keep⟩
theorem Fr.of_below (h : Below w.heap.size w w') (hB : B ≤ w.heap.size) : Fr X B w w' := ⟨h.mono hB, fun b o _ h1 _ => (h.block b (Array.getElem?_eq_some_iff.1 h1).1).trans h1⟩
theorem Fr.below (h : Fr X B w w') (hb : Below w'.heap.size w' w'') (hB : B ≤ w'.heap.size) : Fr X B w w'' := h.trans (Fr.of_below hb hB)
/-- a cell of a block among X, or of the machine's kinds -/
theorem Fr.setCell (h : Fr X B w w') (hB : B ≤ p.block) (hm : X p.block ∨ ∀ o, w'.heap[p.block]? = some o → mine o = true) (u : Value) : Fr X B w (w'.setCell p u) :=
  ⟨h.low.setCell hB u, fun b o hx h1 h2 => by
    have h3 := h.keep b o hx h1 h2
    refine (Below.heap_setCell w' p u b (fun e => ?_)).trans h3
    subst e
    rcases hm with hm | hm
    · exact hx hm
    · rw [hm _ h3] at h2; cases h2⟩
theorem Fr.setNew (h : Fr X B w w') (hB : B ≤ p.block) (hp : w.heap.size ≤ p.block) (u : Value) : Fr X B w (w'.setCell p u) :=
  ⟨h.low.setCell hB u, fun b o hx h1 h2 => by
    have h3 := h.keep b o hx h1 h2
    have := (Array.getElem?_eq_some_iff.1 h1).1
    exact (Below.heap_setCell w' p u b (fun e => by omega)).trans h3⟩
theorem Fr.grown (h : Fr X B w w') (hg : w'.grownBy w'' row) (hB : B ≤ w'.heap.size) (hq : ∀ q, row = some q → B ≤ q) (hm : ∀ (q : Nat) (o : Obj), row = some q → w'.heap[q]? = some o → mine o = true) : Fr X B w w'' :=
  ⟨h.low.grown hg hB hq, fun b o hx h1 h2 => by
    have h3 := h.keep b o hx h1 h2
    refine (hg.block b (Array.getElem?_eq_some_iff.1 h3).1 (fun e => ?_)).trans h3
    rw [hm b o e.symm h3] at h2
    cases h2⟩
theorem Fr.blk {g : Nat} {t : TypeId} {cs : List Value} (h : Fr X B w w') (hb : Blk w g t cs) (ht : mineT t = false) (hx : ¬ X g) : Blk w' g t cs := h.keep g _ hx hb ht
theorem Fr.rw {g sz n k : Nat} {t : TypeId} {cs : List Value} (h : Fr X B w w') (hb : Rw w g t sz n k cs) (ht : mineT t = false) (hx : ¬ X g) : Rw w' g t sz n k cs := by
  refine hb.kept ?_
  obtain ⟨_, c, h1, _⟩ := hb
  exact (h.keep g _ hx h1 ht).trans h1.symm
theorem own_mine {e s n : Nat} {v : Value} {xs : List Value} (h : w.ownsRow B e s v n xs) (he : mineT e = true) : ∀ (q : Nat) (o : Obj), v.ownBlock = some q → w.heap[q]? = some o → mine o = true := by
  intro q o hq ho
  obtain ⟨c, f, e1⟩ := Lib.ownsRow_kind h q hq
  rw [e1] at ho
  injection ho with ho
  subst ho
  exact he
theorem own_kind {B' e s n : Nat} {v : Value} {xs : List Value} (h : w.ownsRow B' e s v n xs) (hk : ∀ (b : Nat) (o : Obj), w.heap[b]? = some o → mine o = true → w'.heap[b]? = some o) (he : mineT e = true) : w'.ownsRow B' e s v n xs :=
  ⟨h.1, h.2.imp id fun ⟨g, cap, cur, e1, h1, h2, h3⟩ => ⟨g, cap, cur, e1, h1, hk g _ h2 he, h3⟩⟩
theorem Rw.kind {g sz n k : Nat} {t : TypeId} {cs : List Value} (h : Rw w g t sz n k cs) (hk : ∀ (b : Nat) (o : Obj), w.heap[b]? = some o → mine o = true → w'.heap[b]? = some o) (ht : mineT t = true) : Rw w' g t sz n k cs := by
  refine h.kept ?_
  obtain ⟨_, c, h1, _⟩ := h
  exact (hk g _ h1 ht).trans h1.symm
theorem Rw.blk_ne {g g' sz n k : Nat} {t t' : TypeId} {xs cs : List Value} (h : Rw w g t sz n k xs) (h' : Blk w g' t' cs) (hne : t ≠ t') : g ≠ g' := by
  obtain ⟨_, cs', h1, _⟩ := h
  rintro rfl
  unfold Blk at h1 h'
  rw [h1] at h'
  injection h' with h'
  injection h' with _ h3
  exact hne h3
theorem Rw.rw_ne {g g' sz sz' n n' k k' : Nat} {t t' : TypeId} {xs xs' : List Value} (h : Rw w g t sz n k xs) (h' : Rw w g' t' sz' n' k' xs') (hne : t ≠ t') : g ≠ g' := by
  obtain ⟨_, cs, h1, _⟩ := h'
  exact h.blk_ne h1 hne
theorem Blk.blk_ne {g g' : Nat} {t t' : TypeId} {xs cs : List Value} (h : Blk w g t xs) (h' : Blk w g' t' cs) (hne : t ≠ t') : g ≠ g' := by
  rintro rfl
  unfold Blk at h h'
  rw [h] at h'
  injection h' with h'
  injection h' with _ h3
  exact hne h3
theorem own_blk_ne {B' e s n g : Nat} {t : TypeId} {v : Value} {xs cs : List Value} (h : w.ownsRow B' e s v n xs) (hb : Blk w g t cs) (hne : e ≠ t) : some g ≠ v.ownBlock := by
  intro hq
  obtain ⟨c, f, e1⟩ := Lib.ownsRow_kind h g hq.symm
  unfold Blk at hb
  rw [e1] at hb
  injection hb with hb
  injection hb with _ h3
  exact hne h3
theorem own_rw_ne {B' e s n g sz m k : Nat} {t : TypeId} {v : Value} {xs cs : List Value} (h : w.ownsRow B' e s v n xs) (hb : Rw w g t sz m k cs) (hne : e ≠ t) : some g ≠ v.ownBlock := by
  obtain ⟨_, c, h1, _⟩ := hb
  exact own_blk_ne h h1 hne
theorem own_own_ne {B' B'' e e' s s' n n' : Nat} {v v' : Value} {xs xs' : List Value} (h : w.ownsRow B' e s v n xs) (h' : w.ownsRow B'' e' s' v' n' xs') (hne : e ≠ e') : v.ownBlock = none ∨ v.ownBlock ≠ v'.ownBlock := by
  cases hv : v.ownBlock with
  | none => exact Or.inl rfl
  | some q =>
    refine Or.inr (fun he => ?_)
    obtain ⟨c1, f1, e1⟩ := Lib.ownsRow_kind h q hv
    obtain ⟨c2, f2, e2⟩ := Lib.ownsRow_kind h' q he.symm
    rw [e1] at e2
    injection e2 with e2
    injection e2 with _ e2
    exact hne e2
theorem own_setf {B' e s n : Nat} {v : Value} {xs : List Value} (h : w.ownsRow B' e s v n xs) (hp : some p.block ≠ v.ownBlock) (u : Value) : (w.setCell p u).ownsRow B' e s v n xs :=
  h.kept (row := some p.block) ⟨rfl, rfl, rfl, by simp, fun i _ hne => Below.heap_setCell w p u i (fun he => hne (by rw [he]))⟩ (by
    cases hv : v.ownBlock with
    | none => exact Or.inl rfl
    | some q => exact Or.inr (fun he => hp (by rw [hv]; exact he.symm)))
end

abbrev acL (a : Ac) : List Value := [.int .i64 a.mv, .int .i64 a.th, .int .i64 a.kd, .int .i64 a.ad, .int .u64 a.old, .int .u64 a.new, .int .u64 a.saw]
def acVals (l : List Ac) : List Value := l.flatMap acL
def u64s (l : List Int) : List Value := l.map (.int .u64)
abbrev calL (c : Cal) : List Value := [.int .i64 c.th, .int .i64 c.op, .int .i64 c.arg, .int .i64 c.dat, .int .i64 c.beg, .int .i64 c.fin, .int .i64 c.pt, .int .i64 c.ak, .int .i64 c.av]
def calVals (l : List Cal) : List Value := l.flatMap calL

/-- where the desk's parts lie -/
structure DL where
  x : Nat
  y : Nat
  wb : Nat
  wk : Nat
  cg : Nat
  cn : Nat
  ck : Nat
  co : Nat
  cc : List Value
  sg : Nat
  sn : Nat
  sk : Nat
  so : Nat
  sc : List Value
  R : List Value
abbrev DL.xs (L : DL) (d : Dk) : List Value := [.pointer (some ⟨L.y, 0, none⟩), .int .i64 d.th, .int .i64 d.now, .pointer (some ⟨L.cg, L.co, none⟩), .pointer (some ⟨L.sg, L.so, none⟩), .bool d.used, .slice none 0 0] ++ L.R
structure DM (W : World) (B : Nat) (L : DL) (vl va : Value) (d : Dk) : Prop where
  xb : Blk W L.x 126 (L.xs d)
  yb : Blk W L.y 170 [.slice (some ⟨L.wb, 0, none⟩) d.words.length L.wk, vl, va, .int .i64 d.now]
  wr : Rw W L.wb 34 1 d.words.length L.wk (u64s d.words)
  lo : W.ownsRow B 66 7 vl d.log.length (acVals d.log)
  ah : ∃ n xs, n ≤ d.log.length ∧ W.ownsRow (L.wb + 1) 34 1 va n xs
  cl : Rw W L.cg 62 9 L.cn L.ck (L.cc.set (L.co + 6) (.int .i64 d.pt))
  se : Rw W L.sg 128 5 L.sn L.sk ((L.sc.set L.so (.int .i64 d.ak)).set (L.so + 1) (.int .i64 d.av))
  co : L.co + 6 < L.cc.length
  so : L.so + 1 < L.sc.length
  bx : B ≤ L.x
  by_ : B ≤ L.y
  bw : B ≤ L.wb
  bc : B ≤ L.cg
  bs : B ≤ L.sg
section
variable {W W' : World} {B : Nat} {L : DL} {vl va : Value} {d : Dk}
theorem DM.kind (h : DM W B L vl va d) (hk : ∀ (b : Nat) (o : Obj), W.heap[b]? = some o → mine o = true → W'.heap[b]? = some o) : DM W' B L vl va d := by
  obtain ⟨n, xs, hn, ha⟩ := h.ah
  exact ⟨hk _ _ h.xb rfl, hk _ _ h.yb rfl, h.wr.kind hk rfl, own_kind h.lo hk rfl, ⟨n, xs, hn, own_kind ha hk rfl⟩, h.cl.kind hk rfl, h.se.kind hk rfl, h.co, h.so, h.bx, h.by_, h.bw, h.bc, h.bs⟩
theorem DM.on (h : DM W B L vl va d) (hb : Below W.heap.size W W') : DM W' B L vl va d := h.kind fun b _ h1 _ => (hb.block b (Array.getElem?_eq_some_iff.1 h1).1).trans h1
/-- a cell of a block of another kind -/
theorem DM.off (h : DM W B L vl va d) {g : Nat} {t : TypeId} {cs : List Value} (hg : Blk W g t cs) (ht : mineT t = false) (i : Nat) (u : Value) : DM (W.setCell ⟨g, i, none⟩ u) B L vl va d :=
  h.kind fun b o h1 h2 => (Below.heap_setCell W ⟨g, i, none⟩ u b (fun e => by
    subst e
    unfold Blk at hg
    rw [hg] at h1
    injection h1 with h1
    subst h1
    have h2 : mineT t = true := h2
    rw [ht] at h2
    cases h2)).trans h1
theorem DM.size (h : DM W B L vl va d) : B ≤ W.heap.size := Nat.le_trans h.bx (Nat.le_of_lt h.xb.lt)
/-- the flag -/
theorem DM.use (h : DM W B L vl va d) (b : Bool) : DM (W.setCell ⟨L.x, 5, none⟩ (.bool b)) B L vl va { d with used := b } := by
  obtain ⟨n, xs, hn, ha⟩ := h.ah
  exact ⟨h.xb.set_ 5 _, h.yb.far (h.yb.blk_ne h.xb (by decide)) _, h.wr.far (h.wr.blk_ne h.xb (by decide)) _, own_setf h.lo (own_blk_ne h.lo h.xb (by decide)) _, ⟨n, xs, hn, own_setf ha (own_blk_ne ha h.xb (by decide)) _⟩,
    h.cl.far (h.cl.blk_ne h.xb (by decide)) _, h.se.far (h.se.blk_ne h.xb (by decide)) _, h.co, h.so, h.bx, h.by_, h.bw, h.bc, h.bs⟩
/-- a word -/
theorem DM.word (h : DM W B L vl va d) (a : Nat) (w : Int) : DM (W.setCell ⟨L.wb, a, none⟩ (.int .u64 w)) B L vl va { d with words := d.words.set a w } := by
  obtain ⟨n, xs, hn, ha⟩ := h.ah
  refine ⟨h.xb.far (h.wr.blk_ne h.xb (by decide)).symm _, ?_, ?_, own_setf h.lo (own_rw_ne h.lo h.wr (by decide)) _, ⟨n, xs, hn, own_setf ha (fun e => by have := (ha.lt _ e.symm).1; dsimp only at this; omega) _⟩,
    h.cl.far (h.cl.rw_ne h.wr (by decide)) _, h.se.far (h.se.rw_ne h.wr (by decide)) _, h.co, h.so, h.bx, h.by_, h.bw, h.bc, h.bs⟩
  · dsimp only
    rw [List.length_set]
    exact h.yb.far (h.wr.blk_ne h.yb (by decide)).symm _
  · dsimp only
    have := h.wr.set_ a (.int .u64 w)
    rw [List.length_set]
    unfold u64s at this ⊢
    rw [List.map_set]
    exact this
/-- the call's point -/
theorem DM.point (h : DM W B L vl va d) (z : Int) : DM (W.setCell ⟨L.cg, L.co + 6, none⟩ (.int .i64 z)) B L vl va { d with pt := z } := by
  obtain ⟨n, xs, hn, ha⟩ := h.ah
  refine ⟨h.xb.far (h.cl.blk_ne h.xb (by decide)).symm _, h.yb.far (h.cl.blk_ne h.yb (by decide)).symm _, h.wr.far (h.wr.rw_ne h.cl (by decide)) _, own_setf h.lo (own_rw_ne h.lo h.cl (by decide)) _, ⟨n, xs, hn, own_setf ha (own_rw_ne ha h.cl (by decide)) _⟩,
    ?_, h.se.far (h.se.rw_ne h.cl (by decide)) _, h.co, h.so, h.bx, h.by_, h.bw, h.bc, h.bs⟩
  have := h.cl.set_ (L.co + 6) (.int .i64 z)
  rwa [List.set_set] at this
/-- the answer -/
theorem DM.ans (h : DM W B L vl va d) (k v : Int) : DM ((W.setCell ⟨L.sg, L.so, none⟩ (.int .i64 k)).setCell ⟨L.sg, L.so + 1, none⟩ (.int .i64 v)) B L vl va { d with ak := k, av := v } := by
  obtain ⟨n, xs, hn, ha⟩ := h.ah
  have hx := (h.se.blk_ne h.xb (by decide)).symm
  have hy := (h.se.blk_ne h.yb (by decide)).symm
  have hw := h.wr.rw_ne h.se (by decide)
  have hc := h.cl.rw_ne h.se (by decide)
  have hl := own_rw_ne h.lo h.se (by decide)
  have hA := own_rw_ne ha h.se (by decide)
  refine ⟨(h.xb.far hx _).far hx _, (h.yb.far hy _).far hy _, (h.wr.far hw _).far hw _, own_setf (own_setf h.lo hl _) hl _, ⟨n, xs, hn, own_setf (own_setf ha hA _) hA _⟩,
    (h.cl.far hc _).far hc _, ?_, h.co, h.so, h.bx, h.by_, h.bw, h.bc, h.bs⟩
  have := (h.se.set_ L.so (.int .i64 k)).set_ (L.so + 1) (.int .i64 v)
  rw [List.set_comm _ _ (by omega : L.so + 1 ≠ L.so), List.set_set, List.set_set] at this
  exact this
/-- the log is longer by one -/
theorem DM.logged (h : DM W B L vl va d) (a : Ac) {v' : Value} (hg : W.grownBy W' vl.ownBlock) (ho : W'.ownsRow B 66 7 v' (d.log.length + 1) (acVals d.log ++ acL a)) : DM (W'.setCell ⟨L.y, 1, none⟩ v') B L v' va { d with log := d.log ++ [a] } := by
  obtain ⟨n, xs, hn, ha⟩ := h.ah
  have nx := own_blk_ne h.lo h.xb (by decide)
  have ny := own_blk_ne h.lo h.yb (by decide)
  have nw := own_rw_ne h.lo h.wr (by decide)
  have nc := own_rw_ne h.lo h.cl (by decide)
  have ns := own_rw_ne h.lo h.se (by decide)
  have yb := h.yb.grown hg ny
  have hx := (h.xb.grown hg nx)
  have hw := h.wr.kept (hg.block _ h.wr.lt nw)
  have hc := h.cl.kept (hg.block _ h.cl.lt nc)
  have hs := h.se.kept (hg.block _ h.se.lt ns)
  have hA := ha.kept hg (own_own_ne ha h.lo (by decide))
  refine ⟨hx.far (hx.blk_ne yb (by decide)) _, yb.set_ 1 v', hw.far (hw.blk_ne yb (by decide)) _, ?_, ⟨n, xs, by simp; omega, own_setf hA (own_blk_ne hA yb (by decide)) _⟩,
    hc.far (hc.blk_ne yb (by decide)) _, hs.far (hs.blk_ne yb (by decide)) _, h.co, h.so, h.bx, h.by_, h.bw, h.bc, h.bs⟩
  have := own_setf ho (own_blk_ne ho yb (by decide) (g := L.y)) (p := ⟨L.y, 1, none⟩) v'
  simpa [acVals] using this
theorem DM.logged2 (h : DM W B L vl va d) {n : Nat} {xs : List Value} (ha : W.ownsRow (L.wb + 1) 34 1 va n xs) {v' : Value} (hg : W.grownBy W' vl.ownBlock) : (W'.setCell ⟨L.y, 1, none⟩ v').ownsRow (L.wb + 1) 34 1 va n xs := by
  have yb := h.yb.grown hg (own_blk_ne h.lo h.yb (by decide))
  have hA := ha.kept hg (own_own_ne ha h.lo (by decide))
  exact own_setf hA (own_blk_ne hA yb (by decide)) _
theorem DM.loggedF {X : Nat → Prop} {W0 : World} (h : DM W B L vl va d) (hf : Fr X B W0 W) (hg : W.grownBy W' vl.ownBlock) (v' : Value) : Fr X B W0 (W'.setCell ⟨L.y, 1, none⟩ v') := by
  have yb := h.yb.grown hg (own_blk_ne h.lo h.yb (by decide))
  refine (hf.grown hg h.size (fun q hq => (h.lo.lt q hq).1) (own_mine h.lo rfl)).setCell h.by_ (Or.inr (fun o ho => ?_)) v'
  unfold Blk at yb
  rw [yb] at ho
  injection ho with ho
  subst ho
  rfl
theorem DM.besideF {X : Nat → Prop} {W0 : World} (h : DM W B L vl va d) {n : Nat} {xs : List Value} (ha : W.ownsRow (L.wb + 1) 34 1 va n xs) (hf : Fr X B W0 W) (hg : W.grownBy W' va.ownBlock) (v' : Value) : Fr X B W0 (W'.setCell ⟨L.y, 2, none⟩ v') := by
  have yb := h.yb.grown hg (own_blk_ne ha h.yb (by decide))
  refine (hf.grown hg h.size (fun q hq => by have := (ha.lt q hq).1; have := h.bw; omega) (own_mine ha rfl)).setCell h.by_ (Or.inr (fun o ho => ?_)) v'
  unfold Blk at yb
  rw [yb] at ho
  injection ho with ho
  subst ho
  rfl
/-- and so is the row beside it -/
theorem DM.beside (h : DM W B L vl va d) {n : Nat} {xs xs' : List Value} (ha : W.ownsRow (L.wb + 1) 34 1 va n xs) (hn : n < d.log.length) {v' : Value} (hg : W.grownBy W' va.ownBlock) (ho : W'.ownsRow (L.wb + 1) 34 1 v' (n + 1) xs') : DM (W'.setCell ⟨L.y, 2, none⟩ v') B L vl v' d := by
  have nx := own_blk_ne ha h.xb (by decide)
  have ny := own_blk_ne ha h.yb (by decide)
  have nc := own_rw_ne ha h.cl (by decide)
  have ns := own_rw_ne ha h.se (by decide)
  have yb := h.yb.grown hg ny
  have hx := (h.xb.grown hg nx)
  have hw := h.wr.kept (hg.block _ h.wr.lt (fun e => by have := (ha.lt _ e.symm).1; omega))
  have hc := h.cl.kept (hg.block _ h.cl.lt nc)
  have hs := h.se.kept (hg.block _ h.se.lt ns)
  have hL := h.lo.kept hg (own_own_ne h.lo ha (by decide))
  exact ⟨hx.far (hx.blk_ne yb (by decide)) _, yb.set_ 2 v', hw.far (hw.blk_ne yb (by decide)) _, own_setf hL (own_blk_ne hL yb (by decide)) _, ⟨n + 1, xs', by omega, own_setf ho (own_blk_ne ho yb (by decide)) _⟩,
    hc.far (hc.blk_ne yb (by decide)) _, hs.far (hs.blk_ne yb (by decide)) _, h.co, h.so, h.bx, h.by_, h.bw, h.bc, h.bs⟩
end
end Go.Proofs.Ytjnmlgfkiebkgaa
