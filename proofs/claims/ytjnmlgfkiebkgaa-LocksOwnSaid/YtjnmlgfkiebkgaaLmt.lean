/-
  The whole machine: a move is counted; a call begins.
-/
import Derived.Test.YtjnmlgfkiebkgaaLmb
namespace Go.Proofs.Ytjnmlgfkiebkgaa
open Go.RowKit
set_option linter.unusedVariables false
set_option linter.unusedSimpArgs false

section
variable {W W' : World} {B : Nat} {M : ML} {m : Mc}
theorem MM.on (h : MM W B M m) (hb : Below W.heap.size W W') : MM W' B M m := by
  have kb : ∀ {g : Nat} {t : TypeId} {cs : List Value}, Blk W g t cs → Blk W' g t cs := fun h => h.below hb h.lt
  have kr : ∀ {g sz n k : Nat} {t : TypeId} {cs : List Value}, Rw W g t sz n k cs → Rw W' g t sz n k cs := fun h => h.on hb
  obtain ⟨a, b, c, hx⟩ := h.xb
  obtain ⟨a', hy⟩ := h.yb
  obtain ⟨n, xs, hn, ha⟩ := h.ah
  obtain ⟨z, hz⟩ := h.cv
  exact ⟨⟨a, b, c, kb hx⟩, ⟨a', kb hy⟩, kr h.wr, h.lo.below hb, ⟨n, xs, hn, ha.below hb⟩, h.ca.below hb, kr h.se, kb h.sv, ⟨z, kb hz⟩, kb h.lr,
    fun i g hg => ⟨kb (h.ts i g hg).1, kb (h.ts i g hg).2.1, (h.ts i g hg).2.2⟩, fun i g p hg hp => ⟨kb (h.tk i g p hg hp).1, (h.tk i g p hg hp).2⟩, h.i1, h.i2, h.i3, h.bx, h.by_, h.bw, h.bs, h.nm, h.nt, by
      obtain ⟨o, ho, hk⟩ := h.kit
      exact ⟨o, (hb.block _ (Array.getElem?_eq_some_iff.1 ho).1).trans ho, hk⟩⟩
/-- a move is counted -/
theorem MM.tick (h : MM W B M m) (hm : m.moves + 1 ≤ 65536) : MM (W.setCell ⟨M.x, 9, none⟩ (.int .i64 (m.moves + 1))) B M { m with moves := m.moves + 1 } := by
  obtain ⟨a, b, c, hx⟩ := h.xb
  obtain ⟨a', hy⟩ := h.yb
  obtain ⟨n, xs, hn, ha⟩ := h.ah
  obtain ⟨z, hz⟩ := h.cv
  have kb : ∀ {g : Nat} {t : TypeId} {cs : List Value}, Blk W g t cs → t ≠ 126 → Blk (W.setCell ⟨M.x, 9, none⟩ (.int .i64 (m.moves + 1))) g t cs := fun h ht => h.far (h.blk_ne hx ht) _
  have kr : ∀ {g sz n k : Nat} {t : TypeId} {cs : List Value}, Rw W g t sz n k cs → t ≠ 126 → Rw (W.setCell ⟨M.x, 9, none⟩ (.int .i64 (m.moves + 1))) g t sz n k cs := fun h ht => h.far (h.blk_ne hx ht) _
  have ko : ∀ {B' e z n : Nat} {v : Value} {cs : List Value}, W.ownsRow B' e z v n cs → e ≠ 126 → (W.setCell ⟨M.x, 9, none⟩ (.int .i64 (m.moves + 1))).ownsRow B' e z v n cs := fun hb hne => own_setf hb (own_blk_ne hb hx hne) _
  exact ⟨⟨a, b, c, hx.set_ 9 (.int .i64 (m.moves + 1))⟩, ⟨a', kb hy (by decide)⟩, kr h.wr (by decide), ko h.lo (by decide), ⟨n, xs, hn, ko ha (by decide)⟩, ko h.ca (by decide), kr h.se (by decide), kb h.sv (by decide), ⟨z, kb hz (by decide)⟩, kb h.lr (by decide),
    fun i g hg => ⟨kb (h.ts i g hg).1 (by decide), kb (h.ts i g hg).2.1 (lkT_ne _ (by decide)), (h.ts i g hg).2.2⟩, fun i g p hg hp => ⟨kb (h.tk i g p hg hp).1 (tkT_ne _ (by decide)), (h.tk i g p hg hp).2⟩, h.i1, h.i2, h.i3, h.bx, h.by_, h.bw, h.bs,
    ⟨by have := h.nm.1; dsimp only; omega, hm, by have := h.nm.2.2; dsimp only; omega⟩, h.nt, by
      obtain ⟨o, ho, hk⟩ := h.kit
      exact ⟨o, (Below.heap_setCell _ _ _ _ (hk.ne ho hx)).trans ho, hk⟩⟩
end
/-- the five cells of a seat are written -/
abbrev seat5 (W : World) (sg o : Nat) (v : Value) (n : Nat) : World := ((((W.setCell ⟨sg, o, none⟩ v).setCell ⟨sg, o + 1, none⟩ (.bool false)).setCell ⟨sg, o + 2, none⟩ (.int .i64 n)).setCell ⟨sg, o + 3, none⟩ (.int .i64 1)).setCell ⟨sg, o + 4, none⟩ (.int .i64 0)
section
variable {W W3 : World} {B : Nat} {M : ML} {m : Mc} {t g : Nat} {h : Th} {p : Tp}
theorem MM.begun (H : MM W B M { m with moves := m.moves + 1 }) (hh : m.ths[t]? = some h) (hg : Blk W g (tkT p) (tkL (M.ls t) p)) (hgB : B ≤ g) (hgn : ∀ (i : Nat) (h' : Th) (p' : Tp), m.ths[i]? = some h' → h'.task = some p' → M.tb i ≠ g) (hcl : m.calls.length ≤ m.moves) (v : Mo) {v' : Value}
    (hgr : (seat5 W M.sg (t * 5) (.iface (tkP p) (.pointer (some ⟨g, 0, none⟩))) m.calls.length).grownBy W3 M.vc.ownBlock) (ho : W3.ownsRow B 62 9 v' (m.calls.length + 1) (calVals m.calls ++ calL ⟨v.th, v.op, v.arg, v.dat, m.moves, -1, -1, 0, 0⟩)) :
    MM (W3.setCell ⟨M.x, 10, none⟩ v') B { M with vc := v', tb := fun i => if i = t then g else M.tb i } (m.begun t h p v) := by
  obtain ⟨a, b, c, hx⟩ := H.xb
  obtain ⟨a', hy⟩ := H.yb
  obtain ⟨n, xs, hn, ha⟩ := H.ah
  obtain ⟨z, hz⟩ := H.cv
  have htn : t < m.ths.length := (List.getElem?_eq_some_iff.1 hh).1
  have hse := H.se
  -- a block of another kind than the seats' row, the calls' row and the machine
  have kb1 : ∀ {q : Nat} {ty : TypeId} {cs : List Value}, Blk W q ty cs → ty ≠ 128 → Blk (seat5 W M.sg (t * 5) (.iface (tkP p) (.pointer (some ⟨g, 0, none⟩))) m.calls.length) q ty cs := fun hb ht => by
    have hne := (hse.blk_ne hb ht.symm).symm
    exact ((((hb.far hne _).far hne _).far hne _).far hne _).far hne _
  have kr1 : ∀ {q sz n k : Nat} {ty : TypeId} {cs : List Value}, Rw W q ty sz n k cs → ty ≠ 128 → Rw (seat5 W M.sg (t * 5) (.iface (tkP p) (.pointer (some ⟨g, 0, none⟩))) m.calls.length) q ty sz n k cs := fun hb ht => by
    have hne := hb.rw_ne hse ht
    exact ((((hb.far hne _).far hne _).far hne _).far hne _).far hne _
  have ko1 : ∀ {B' e z n : Nat} {u : Value} {cs : List Value}, W.ownsRow B' e z u n cs → e ≠ 128 → (seat5 W M.sg (t * 5) (.iface (tkP p) (.pointer (some ⟨g, 0, none⟩))) m.calls.length).ownsRow B' e z u n cs := fun hb ht => by
    have hne := own_rw_ne hb hse ht
    exact own_setf (own_setf (own_setf (own_setf (own_setf hb hne _) hne _) hne _) hne _) hne _
  have hca := ko1 H.ca (by decide)
  have hx1 := kb1 hx (by decide)
  have hx3 := hx1.grown hgr (own_blk_ne hca hx1 (by decide))
  have kb : ∀ {q : Nat} {ty : TypeId} {cs : List Value}, Blk W q ty cs → ty ≠ 128 → ty ≠ 62 → ty ≠ 126 → Blk (W3.setCell ⟨M.x, 10, none⟩ v') q ty cs := fun hb h1 h2 h3 => by
    have h4 := (kb1 hb h1).grown hgr (own_blk_ne hca (kb1 hb h1) h2.symm)
    exact h4.far (h4.blk_ne hx3 h3) _
  have kr : ∀ {q sz n k : Nat} {ty : TypeId} {cs : List Value}, Rw W q ty sz n k cs → ty ≠ 128 → ty ≠ 62 → ty ≠ 126 → Rw (W3.setCell ⟨M.x, 10, none⟩ v') q ty sz n k cs := fun hb h1 h2 h3 => by
    have h4 := (kr1 hb h1).kept (hgr.block _ (kr1 hb h1).lt (own_rw_ne hca (kr1 hb h1) h2.symm))
    exact h4.far (h4.blk_ne hx3 h3) _
  have ko : ∀ {B' e z n : Nat} {u : Value} {cs : List Value}, W.ownsRow B' e z u n cs → e ≠ 128 → e ≠ 62 → e ≠ 126 → (W3.setCell ⟨M.x, 10, none⟩ v').ownsRow B' e z u n cs := fun hb h1 h2 h3 => by
    have h4 := (ko1 hb h1).kept hgr (own_own_ne (ko1 hb h1) hca h2)
    exact own_setf h4 (own_blk_ne h4 hx3 h3) _
  have lk9 : ∀ {k : Int} {q : Nat}, Blk W q (lkT k) (lkL ⟨k, 0, 0, 0, 0, 0⟩) → True := fun _ => trivial
  have hs1 : Rw (seat5 W M.sg (t * 5) (.iface (tkP p) (.pointer (some ⟨g, 0, none⟩))) m.calls.length) M.sg 128 5 m.ths.length M.sk (thVals { M with vc := v', tb := fun i => if i = t then g else M.tb i } 0 (m.begun t h p v).ths) := by
    have e := thVals_set (M := M) (M' := { M with vc := v', tb := fun i => if i = t then g else M.tb i }) (h' := { h with task := some p, ready := false, last := m.calls.length, ak := 1, av := 0 }) 0 hh (fun j hj => by dsimp only; rw [if_neg (by omega)])
    unfold Mc.begun
    dsimp only
    rw [e]
    have e9 : tkV { M with vc := v', tb := fun i => if i = t then g else M.tb i } (0 + t) (some p) = .iface (tkP p) (.pointer (some ⟨g, 0, none⟩)) := by
      unfold tkV
      dsimp only
      rw [if_pos (by omega)]
    rw [e9]
    exact ((((hse.set_ (t * 5) _).set_ (t * 5 + 1) _).set_ (t * 5 + 2) _).set_ (t * 5 + 3) _).set_ (t * 5 + 4) _
  have get : ∀ (i : Nat) (q : Th), (m.begun t h p v).ths[i]? = some q → (i = t ∧ q = { h with task := some p, ready := false, last := m.calls.length, ak := 1, av := 0 }) ∨ (i ≠ t ∧ m.ths[i]? = some q) := by
    intro i q hq
    unfold Mc.begun at hq
    dsimp only at hq
    by_cases hi : i = t
    · subst hi
      rw [List.getElem?_set_self htn] at hq
      injection hq with hq
      exact Or.inl ⟨rfl, hq.symm⟩
    · rw [List.getElem?_set_ne (fun e => hi e.symm)] at hq
      exact Or.inr ⟨hi, hq⟩
  have len : (m.begun t h p v).ths.length = m.ths.length := by unfold Mc.begun; dsimp only; rw [List.length_set]
  have lenc : (m.begun t h p v).calls.length = m.calls.length + 1 := by unfold Mc.begun; simp
  refine ⟨⟨a, b, c, ?_⟩, ⟨a', ?_⟩, ?_, ?_, ⟨n, xs, hn, ?_⟩, ?_, ?_, ?_, ⟨z, ?_⟩, ?_, ?_, ?_, ?_, ?_, ?_, H.bx, H.by_, H.bw, H.bs, ?_, ?_, ?_⟩
  · rw [len]
    exact hx3.set_ 10 v'
  · exact kb hy (by decide) (by decide) (by decide)
  · exact kr H.wr (by decide) (by decide) (by decide)
  · exact ko H.lo (by decide) (by decide) (by decide)
  · exact ko ha (by decide) (by decide) (by decide)
  · rw [lenc]
    have : calVals (m.begun t h p v).calls = calVals m.calls ++ calL ⟨v.th, v.op, v.arg, v.dat, m.moves, -1, -1, 0, 0⟩ := by unfold Mc.begun calVals; simp
    rw [this]
    exact own_setf ho (own_blk_ne ho hx3 (by decide)) _
  · rw [len]
    have h4 := hs1.kept (hgr.block _ hs1.lt (own_rw_ne hca hs1 (by decide)))
    exact h4.far (h4.blk_ne hx3 (by decide)) _
  · rw [len]; exact kb H.sv (by decide) (by decide) (by decide)
  · exact kb hz (by decide) (by decide) (by decide)
  · rw [len]; exact kb H.lr (by decide) (by decide) (by decide)
  · intro i q hq
    have one : ∀ (q' : Th), m.ths[i]? = some q' → q'.lk = q.lk → q'.alone = q.alone → q'.shares = q.shares → Blk (W3.setCell ⟨M.x, 10, none⟩ v') (M.ls i) 101 (seL (M.lb i) q.lk.kd q.alone q.shares) ∧ LkB (W3.setCell ⟨M.x, 10, none⟩ v') (M.lb i) q.lk ∧ q.lk.kd = m.kd ∧ B ≤ M.ls i ∧ B ≤ M.lb i := by
      intro q' hq' e1 e2 e3
      obtain ⟨y1, y2, y3, y4, y5⟩ := H.ts i q' hq'
      rw [e1, e2, e3] at y1
      rw [e1] at y2 y3
      exact ⟨kb y1 (by decide) (by decide) (by decide), kb y2 (lkT_ne _ (by decide)) (lkT_ne _ (by decide)) (lkT_ne _ (by decide)), y3, y4, y5⟩
    rcases get i q hq with ⟨rfl, rfl⟩ | ⟨hi, hq⟩
    · exact one h hh rfl rfl rfl
    · exact one q hq rfl rfl rfl
  · intro i q p' hq hp'
    rw [lenc]
    rcases get i q hq with ⟨rfl, rfl⟩ | ⟨hi, hq⟩
    · dsimp only at hp' ⊢
      injection hp' with hp'
      subst hp'
      rw [if_pos rfl]
      exact ⟨kb hg (tkT_ne _ (by decide)) (tkT_ne _ (by decide)) (tkT_ne _ (by decide)), hgB, by omega, by omega⟩
    · obtain ⟨y1, y2, y3, y4⟩ := H.tk i q p' hq hp'
      dsimp only at y4 ⊢
      rw [if_neg hi]
      exact ⟨kb y1 (tkT_ne _ (by decide)) (tkT_ne _ (by decide)) (tkT_ne _ (by decide)), y2, y3, by omega⟩
  · rw [len]; exact H.i1
  · rw [len]; exact H.i2
  · intro i j q q' p1 p2 h1 h2 h3 h4 h5
    dsimp only at h5
    rcases get i q h1 with ⟨e1, e2⟩ | ⟨hi, y1⟩
    · rcases get j q' h2 with ⟨e3, e4⟩ | ⟨hj, y2⟩
      · rw [e1, e3]
      · rw [if_pos e1, if_neg hj] at h5
        exact absurd h5.symm (hgn j q' p2 y2 h4)
    · rcases get j q' h2 with ⟨e3, e4⟩ | ⟨hj, y2⟩
      · rw [if_pos e3, if_neg hi] at h5
        exact absurd h5 (hgn i q p1 y1 h3)
      · rw [if_neg hi, if_neg hj] at h5
        exact H.i3 i j q q' p1 p2 y1 y2 h3 h4 h5
  · rw [lenc]
    unfold Mc.begun
    dsimp only
    refine ⟨H.nm.1, H.nm.2.1, by omega⟩
  · rw [len]; exact H.nt
  · obtain ⟨o, ho, hk⟩ := H.kit
    have hne := hk.neR ho hse
    have h1 : (seat5 W M.sg (t * 5) (.iface (tkP p) (.pointer (some ⟨g, 0, none⟩))) m.calls.length).heap[M.kb]? = some o := (Below.heap_setCell _ _ _ _ hne).trans ((Below.heap_setCell _ _ _ _ hne).trans ((Below.heap_setCell _ _ _ _ hne).trans ((Below.heap_setCell _ _ _ _ hne).trans ((Below.heap_setCell _ _ _ _ hne).trans ho))))
    have h2 := (hgr.block _ (Array.getElem?_eq_some_iff.1 h1).1 (hk.neO h1 hca)).trans h1
    exact ⟨o, (Below.heap_setCell _ _ _ _ (hk.ne h2 hx3)).trans h2, hk⟩
end
end Go.Proofs.Ytjnmlgfkiebkgaa
