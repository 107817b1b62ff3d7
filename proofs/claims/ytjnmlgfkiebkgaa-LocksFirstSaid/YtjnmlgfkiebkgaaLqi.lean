/-
  LocksQuiet, plainly: QInv is kept by every move.
-/
import Derived.Test.YtjnmlgfkiebkgaaLpa
namespace Go.Proofs.Ytjnmlgfkiebkgaa
open Go.RowKit
set_option linter.unusedVariables false
set_option linter.unusedSimpArgs false

def Tp.op : Tp → Int
  | .acq => 120
  | .rel => 121
  | .shr b _ _ => bif decide (b < 0) then 123 else 122
  | .tch _ _ => 124
/-- a call and its thread -/
structure CalOk (m : Mc) (i : Nat) (c : Cal) : Prop where
  th : 0 ≤ c.th ∧ c.th < m.ths.length
  beg : 0 ≤ c.beg ∧ c.beg < m.moves
  fin : -1 ≤ c.fin ∧ c.fin < m.moves
  pt : -1 ≤ c.pt ∧ c.pt < m.moves
  cur : c.fin = -1 → ∃ h p, m.ths[c.th.toNat]? = some h ∧ h.task = some p ∧ h.last = i
  lt : c.fin ≠ -1 → c.beg < c.fin ∧ c.pt ≤ c.fin
structure Hist (m : Mc) : Prop where
  nn : 0 ≤ m.moves
  cal : ∀ (i : Nat) (c : Cal), m.calls[i]? = some c → CalOk m i c
  thr : ∀ (t : Nat) (h : Th) (p : Tp), m.ths[t]? = some h → h.task = some p → ∃ (i : Nat) (c : Cal), h.last = (i : Int) ∧ m.calls[i]? = some c ∧ c.th = t ∧ c.fin = -1 ∧ c.op = p.op
  log : ∀ a ∈ m.log, a.mv < m.moves
theorem hist0 (k T : Int) : Hist (mc0 k T) := by
  refine ⟨Int.le_refl _, fun i c h => ?_, fun t h p hh hp => ?_, fun a ha => ?_⟩
  · have h9 : ([] : List Cal)[i]? = some c := h
    simp at h9
  · have : ((List.range T.toNat).map (th0 k T))[t]? = some h := hh
    rw [List.getElem?_map] at this
    cases hr : (List.range T.toNat)[t]? with
    | none => rw [hr] at this; cases this
    | some z =>
      rw [hr] at this
      injection this with this
      subst this
      cases hp
  · cases ha
theorem hist_tick {m : Mc} (h : Hist m) : Hist { m with moves := m.moves + 1 } :=
  ⟨by have := h.nn; show 0 ≤ m.moves + 1; omega, fun i c hc => by
    have k := h.cal i c hc
    exact ⟨k.th, ⟨k.beg.1, by have := k.beg.2; show c.beg < m.moves + 1; omega⟩, ⟨k.fin.1, by have := k.fin.2; show c.fin < m.moves + 1; omega⟩, ⟨k.pt.1, by have := k.pt.2; show c.pt < m.moves + 1; omega⟩, k.cur, k.lt⟩,
   h.thr, fun a ha => by have := h.log a ha; show a.mv < m.moves + 1; omega⟩
theorem make_op {m : Mc} {h : Th} {op : Int} {p : Tp} (e : m.make h op = some p) : p.op = op := by
  unfold Mc.make at e
  cases h0 : op == 120 with
  | true =>
    rw [h0] at e
    cases hb : (h.alone || h.shares) <;> rw [hb] at e <;> simp at e
    subst e
    exact (by simpa using h0 : op = 120).symm
  | false =>
  cases h1 : op == 121 with
  | true =>
    rw [h0, h1] at e
    cases hb : h.alone <;> rw [hb] at e <;> simp at e
    subst e
    exact (by simpa using h1 : op = 121).symm
  | false =>
  cases h2 : op == 122 with
  | true =>
    rw [h0, h1, h2] at e
    cases hb : (m.kd != 7 || (h.alone || h.shares)) <;> rw [hb] at e <;> simp at e
    subst e
    exact (by simpa using h2 : op = 122).symm
  | false =>
  cases h3 : op == 123 with
  | true =>
    rw [h0, h1, h2, h3] at e
    cases hb : h.shares <;> rw [hb] at e <;> simp at e
    subst e
    exact (by simpa using h3 : op = 123).symm
  | false =>
  cases h4 : op == 124 with
  | true =>
    rw [h0, h1, h2, h3, h4] at e
    cases hb : h.alone <;> rw [hb] at e <;> simp at e
    subst e
    exact (by simpa using h4 : op = 124).symm
  | false =>
    rw [h0, h1, h2, h3, h4] at e
    simp at e
theorem hist_begun {m : Mc} (H : Hist m) {t : Nat} {h : Th} {p : Tp} {v : Mo} (ht : v.th = t) (hh : m.ths[t]? = some h) (hn : h.task = none) (hp : p.op = v.op) : Hist (m.begun t h p v) := by
  have hlt : t < m.ths.length := (List.getElem?_eq_some_iff.1 hh).1
  have hnn := H.nn
  refine ⟨by show 0 ≤ m.moves + 1; omega, fun i c hc => ?_, fun t' h' p' hh' hp' => ?_, fun a ha => by have := H.log a ha; show a.mv < m.moves + 1; omega⟩
  · have hc' : (m.calls ++ [⟨v.th, v.op, v.arg, v.dat, m.moves, -1, -1, 0, 0⟩])[i]? = some c := hc
    by_cases hi : i < m.calls.length
    · rw [List.getElem?_append_left hi] at hc'
      have k := H.cal i c hc'
      have k1 := k.beg.2
      have k2 := k.fin.2
      have k3 := k.pt.2
      refine ⟨⟨k.th.1, by show c.th < ((m.ths.set t _).length : Nat); rw [List.length_set]; exact k.th.2⟩, ⟨k.beg.1, by show c.beg < m.moves + 1; omega⟩, ⟨k.fin.1, by show c.fin < m.moves + 1; omega⟩, ⟨k.pt.1, by show c.pt < m.moves + 1; omega⟩, fun hf => ?_, k.lt⟩
      obtain ⟨h1, p1, e1, e2, e3⟩ := k.cur hf
      refine ⟨h1, p1, ?_, e2, e3⟩
      show (m.ths.set t _)[c.th.toNat]? = some h1
      rw [List.getElem?_set_ne (fun e => by rw [← e, hh] at e1; injection e1 with e1; subst e1; rw [hn] at e2; cases e2)]
      exact e1
    · rw [List.getElem?_append_right (by omega)] at hc'
      have hi0 : i = m.calls.length := by
        have := (List.getElem?_eq_some_iff.1 hc').1
        simp at this
        omega
      subst hi0
      simp at hc'
      subst hc'
      refine ⟨⟨by show 0 ≤ v.th; omega, by show v.th < ((m.ths.set t _).length : Nat); rw [List.length_set]; omega⟩, ⟨hnn, by show m.moves < m.moves + 1; omega⟩, ⟨by show (-1 : Int) ≤ -1; decide, by show (-1 : Int) < m.moves + 1; omega⟩, ⟨by show (-1 : Int) ≤ -1; decide, by show (-1 : Int) < m.moves + 1; omega⟩, fun _ => ?_, fun hf => absurd rfl hf⟩
      refine ⟨{ h with task := some p, ready := false, last := m.calls.length, ak := 1, av := 0 }, p, ?_, rfl, rfl⟩
      show (m.ths.set t _)[v.th.toNat]? = _
      rw [show v.th.toNat = t by omega, List.getElem?_set_self hlt]
  · have hh2 : (m.ths.set t { h with task := some p, ready := false, last := (m.calls.length : Int), ak := 1, av := 0 })[t']? = some h' := hh'
    by_cases e : t = t'
    · subst e
      rw [List.getElem?_set_self hlt] at hh2
      injection hh2 with hh2
      subst hh2
      injection hp' with hp'
      subst hp'
      refine ⟨m.calls.length, ⟨v.th, v.op, v.arg, v.dat, m.moves, -1, -1, 0, 0⟩, rfl, ?_, ht, rfl, hp.symm⟩
      show (m.calls ++ [_])[m.calls.length]? = _
      rw [List.getElem?_append_right (Nat.le_refl _)]
      simp
    · rw [List.getElem?_set_ne e] at hh2
      obtain ⟨i, c, e1, e2, e3, e4, e5⟩ := H.thr t' h' p' hh2 hp'
      refine ⟨i, c, e1, ?_, e3, e4, e5⟩
      show (m.calls ++ [_])[i]? = _
      rw [List.getElem?_append_left (List.getElem?_eq_some_iff.1 e2).1]
      exact e2
/-- a step's part at the desk: the point stays, or is this move -/
def Pt1 (d d' : Dk) : Prop := d'.pt = d.pt ∨ d'.pt = d.now
theorem p1_load (d : Dk) (a : Int) : Pt1 d (d.load a).2 := by unfold Dk.load; cases d.opn a <;> exact Or.inl rfl
theorem p1_store (d : Dk) (a w : Int) : Pt1 d (d.store a w) := by unfold Dk.store; cases d.opn a <;> exact Or.inl rfl
theorem p1_swap (d : Dk) (a o w : Int) : Pt1 d (d.swap a o w).2 := by unfold Dk.swap; cases d.opn a <;> cases d.word a == o <;> exact Or.inl rfl
theorem p1_pt {d d' : Dk} (h : Ac1 d d') : Pt1 d d'.point := Or.inr h.now
theorem p1_if {b : Bool} {d : Dk} {x y : Bool × Lk × Dk} (hx : Pt1 d x.2.2) (hy : Pt1 d y.2.2) : Pt1 d (cond b x y).2.2 := by cases b <;> assumption
theorem p1_up {l : Lk} {d d' : Dk} (h : Pt1 d d') (ha : Ac1 d d') : Pt1 d (l.up d').2.2 := p1_if h (p1_pt ha)
theorem p1_acq (l : Lk) (d : Dk) : Pt1 d (l.acq d).2.2 :=
  p1_if (p1_if (p1_load _ _) (p1_if (p1_if (p1_pt (ac1_swap _ _ _ _)) (p1_swap _ _ _ _)) (p1_load _ _)))
    (p1_if (p1_if (p1_store _ _ _) (p1_if (p1_load _ _) (p1_if (p1_if (p1_pt (ac1_swap _ _ _ _)) (p1_swap _ _ _ _)) (p1_load _ _))))
      (p1_if (p1_if (p1_store _ _ _) (p1_if (p1_load _ _) (p1_if (p1_if (p1_if (p1_pt (ac1_swap _ _ _ _)) (p1_pt (ac1_swap _ _ _ _))) (p1_swap _ _ _ _)) (p1_if (p1_store _ _ _) (p1_if (p1_store _ _ _) (p1_if (p1_load _ _) (p1_load _ _)))))))
        (p1_if (p1_if (p1_store _ _ _) (p1_if (p1_store _ _ _) (p1_if (p1_if (p1_load _ _) (p1_if (p1_up (p1_load _ _) (ac1_load _ _)) (p1_load _ _))) (p1_if (p1_load _ _) (p1_up (p1_load _ _) (ac1_load _ _))))))
          (p1_if (p1_if (p1_store _ _ _) (p1_if (p1_load _ _) (p1_if (p1_store _ _ _) (p1_if (p1_pt (ac1_store _ _ _)) (p1_if (p1_load _ _) (p1_if (p1_load _ _) (p1_load _ _))))))) (p1_if (p1_pt (ac1_swap _ _ _ _)) (p1_swap _ _ _ _))))))
theorem p1_rel (l : Lk) (d : Dk) : Pt1 d (l.rel d).2.2 :=
  p1_if (p1_store _ _ _) (p1_if (p1_store _ _ _) (p1_if (p1_if (p1_load _ _) (p1_if (p1_if (p1_swap _ _ _ _) (p1_swap _ _ _ _)) (p1_store _ _ _))) (p1_if (p1_store _ _ _) (p1_if (p1_store _ _ _) (p1_store _ _ _)))))
theorem p1_step (s : Ts) : Pt1 s.d s.step.d := by
  obtain ⟨o, p, l, al, sh, d⟩ := s
  cases p with
  | acq => exact p1_acq l d
  | rel => exact p1_rel l d
  | shr b w k =>
    cases k
    · exact p1_load _ _
    · unfold Ts.step
      dsimp only
      cases (d.swap 1 (uw w) (uw (iw (w + b)))).1
      · exact p1_swap _ _ _ _
      · cases decide (0 < b)
        · exact p1_swap _ _ _ _
        · exact p1_pt (ac1_swap _ _ _ _)
  | tch c k =>
    cases k
    · exact p1_load _ _
    · exact p1_store _ _ _
theorem p1_ready (s : Ts) : Pt1 s.d s.ready.d := by
  obtain ⟨o, p, l, al, sh, d⟩ := s
  cases p with
  | acq =>
    show Pt1 d (l.beg d).2.2
    unfold Lk.beg
    exact p1_if (p1_if (Or.inl rfl) (Or.inr rfl)) (Or.inl rfl)
  | _ => exact Or.inl rfl
theorem p1_whole (s : Ts) (b : Bool) : Pt1 s.d (let s1 := bif b then s else s.ready; bif s1.over then s1 else s1.step).d := by
  dsimp only
  cases b
  · dsimp only [cond_false]
    have h1 := p1_ready s
    have n1 := (ac1_ready s).now
    cases s.ready.over
    · have h2 := p1_step s.ready
      rcases h2 with h2 | h2
      · rcases h1 with h1 | h1
        · exact Or.inl (h2.trans h1)
        · exact Or.inr (h2.trans h1)
      · exact Or.inr (h2.trans n1)
    · exact h1
  · dsimp only [cond_true]
    cases s.over
    · exact p1_step s
    · exact Or.inl rfl
theorem op_step (s : Ts) : s.step.task.op = s.task.op := by
  obtain ⟨o, p, l, al, sh, d⟩ := s
  cases p with
  | acq => rfl
  | rel => rfl
  | shr b w k =>
    cases k
    · rfl
    · unfold Ts.step
      dsimp only
      cases (d.swap 1 (uw w) (uw (iw (w + b)))).1 <;> rfl
  | tch c k => cases k <;> rfl
theorem op_ready (s : Ts) : s.ready.task.op = s.task.op := by
  obtain ⟨o, p, l, al, sh, d⟩ := s
  cases p <;> rfl
/-- what the task has become behind a step -/
def Mc.s2 (m : Mc) (t : Nat) (h : Th) (p : Tp) : Ts :=
  let s0 : Ts := ⟨false, p, h.lk, h.alone, h.shares, ⟨m.words, m.log, t, m.moves, false, (m.calls[h.last.toNat]?.getD cal0).pt, h.ak, h.av⟩⟩
  let s1 := bif h.ready then s0 else s0.ready
  bif s1.over then s1 else s1.step
theorem step_eq (m : Mc) (t : Nat) (h : Th) (p : Tp) : m.step t h p = { m with
    words := (m.s2 t h p).d.words, log := (m.s2 t h p).d.log, moves := m.moves + 1,
    calls := m.calls.set h.last.toNat (bif (m.s2 t h p).over then { m.calls[h.last.toNat]?.getD cal0 with pt := (m.s2 t h p).d.pt, fin := m.moves, ak := (m.s2 t h p).d.ak, av := (m.s2 t h p).d.av } else { m.calls[h.last.toNat]?.getD cal0 with pt := (m.s2 t h p).d.pt }),
    ths := m.ths.set t ⟨bif (m.s2 t h p).over then none else some (m.s2 t h p).task, true, h.last, (m.s2 t h p).d.ak, (m.s2 t h p).d.av, (m.s2 t h p).lk, (m.s2 t h p).alone, (m.s2 t h p).shares⟩ } := rfl
theorem s2_op (m : Mc) (t : Nat) (h : Th) (p : Tp) : (m.s2 t h p).task.op = p.op := by
  have key : ∀ (s : Ts) (b : Bool), (let s1 := bif b then s else s.ready; bif s1.over then s1 else s1.step).task.op = s.task.op := by
    intro s b
    dsimp only
    cases b
    · dsimp only [cond_false]
      cases s.ready.over
      · exact (op_step _).trans (op_ready s)
      · exact op_ready s
    · dsimp only [cond_true]
      cases s.over
      · exact op_step s
      · rfl
  exact key _ _
theorem s2_ac (m : Mc) (t : Nat) (h : Th) (p : Tp) : (m.s2 t h p).d.words.length = m.words.length ∧ (∃ l : List Ac, (m.s2 t h p).d.log = m.log ++ l ∧ l.length ≤ 1 ∧ ∀ a ∈ l, a.mv = m.moves ∧ a.th = t) := by
  have h1 := ac1_whole ⟨false, p, h.lk, h.alone, h.shares, ⟨m.words, m.log, t, m.moves, false, (m.calls[h.last.toNat]?.getD cal0).pt, h.ak, h.av⟩⟩ h.ready
  exact ⟨h1.len, h1.log⟩
theorem s2_pt (m : Mc) (t : Nat) (h : Th) (p : Tp) : (m.s2 t h p).d.pt = (m.calls[h.last.toNat]?.getD cal0).pt ∨ (m.s2 t h p).d.pt = m.moves :=
  p1_whole ⟨false, p, h.lk, h.alone, h.shares, ⟨m.words, m.log, t, m.moves, false, (m.calls[h.last.toNat]?.getD cal0).pt, h.ak, h.av⟩⟩ h.ready
theorem hist_step {m : Mc} (H : Hist m) {t : Nat} {h : Th} {p : Tp} (hh : m.ths[t]? = some h) (hp : h.task = some p) : Hist (m.step t h p) := by
  have hlt : t < m.ths.length := (List.getElem?_eq_some_iff.1 hh).1
  obtain ⟨i0, c0, e1, e2, e3, e4, e5⟩ := H.thr t h p hh hp
  have hln : h.last.toNat = i0 := by omega
  have hg : m.calls[h.last.toNat]?.getD cal0 = c0 := by rw [hln, e2]; rfl
  have hi0 : i0 < m.calls.length := (List.getElem?_eq_some_iff.1 e2).1
  have k0 := H.cal i0 c0 e2
  have hnn := H.nn
  obtain ⟨_, l, hl1, _, hl3⟩ := s2_ac m t h p
  have hpt := s2_pt m t h p
  have hop := s2_op m t h p
  rw [hg] at hpt
  rw [step_eq, hg, hln]
  generalize m.s2 t h p = s2 at hl1 hpt hop ⊢
  have hb0 := k0.beg.2
  have hp0 := k0.pt.2
  have hp1 := k0.pt.1
  refine ⟨by show 0 ≤ m.moves + 1; omega, fun i c hc => ?_, fun t' h' p' hh' hp' => ?_, fun a ha => ?_⟩
  · by_cases hi : i0 = i
    · subst hi
      have hc' : (m.calls.set i0 (bif s2.over then { c0 with pt := s2.d.pt, fin := m.moves, ak := s2.d.ak, av := s2.d.av } else { c0 with pt := s2.d.pt }))[i0]? = some c := hc
      rw [List.getElem?_set_self hi0] at hc'
      injection hc' with hc'
      have hth : 0 ≤ c0.th ∧ c0.th < ((m.ths.set t (⟨bif s2.over then none else some s2.task, true, h.last, s2.d.ak, s2.d.av, s2.lk, s2.alone, s2.shares⟩ : Th)).length : Nat) := by rw [List.length_set]; exact k0.th
      cases ho : s2.over with
      | true =>
        rw [ho] at hc'
        subst hc'
        rw [ho] at hth
        refine ⟨hth, ⟨k0.beg.1, by show c0.beg < m.moves + 1; omega⟩, ⟨by show -1 ≤ m.moves; omega, by show m.moves < m.moves + 1; omega⟩, ⟨by show -1 ≤ s2.d.pt; omega, by show s2.d.pt < m.moves + 1; omega⟩, fun hf => by have h9 : m.moves = -1 := hf; omega, fun _ => ⟨by show c0.beg < m.moves; omega, by show s2.d.pt ≤ m.moves; omega⟩⟩
      | false =>
        rw [ho] at hc'
        subst hc'
        rw [ho] at hth
        refine ⟨hth, ⟨k0.beg.1, by show c0.beg < m.moves + 1; omega⟩, ⟨k0.fin.1, by have := k0.fin.2; show c0.fin < m.moves + 1; omega⟩, ⟨by show -1 ≤ s2.d.pt; omega, by show s2.d.pt < m.moves + 1; omega⟩, fun _ => ?_, fun hf => absurd e4 hf⟩
        refine ⟨⟨some s2.task, true, h.last, s2.d.ak, s2.d.av, s2.lk, s2.alone, s2.shares⟩, s2.task, ?_, rfl, e1⟩
        show (m.ths.set t _)[c0.th.toNat]? = _
        rw [show c0.th.toNat = t by omega, List.getElem?_set_self hlt]
        rfl
    · have hc' : (m.calls.set i0 (bif s2.over then { c0 with pt := s2.d.pt, fin := m.moves, ak := s2.d.ak, av := s2.d.av } else { c0 with pt := s2.d.pt }))[i]? = some c := hc
      rw [List.getElem?_set_ne hi] at hc'
      have k := H.cal i c hc'
      have k1 := k.beg.2
      have k2 := k.fin.2
      have k3 := k.pt.2
      refine ⟨⟨k.th.1, by show c.th < ((m.ths.set t _).length : Nat); rw [List.length_set]; exact k.th.2⟩, ⟨k.beg.1, by show c.beg < m.moves + 1; omega⟩, ⟨k.fin.1, by show c.fin < m.moves + 1; omega⟩, ⟨k.pt.1, by show c.pt < m.moves + 1; omega⟩, fun hf => ?_, k.lt⟩
      obtain ⟨h1, p1, g1, g2, g3⟩ := k.cur hf
      refine ⟨h1, p1, ?_, g2, g3⟩
      show (m.ths.set t _)[c.th.toNat]? = some h1
      rw [List.getElem?_set_ne (fun e => by
        rw [← e, hh] at g1
        injection g1 with g1
        subst g1
        omega)]
      exact g1
  · have hh2 : (m.ths.set t (⟨bif s2.over then none else some s2.task, true, h.last, s2.d.ak, s2.d.av, s2.lk, s2.alone, s2.shares⟩ : Th))[t']? = some h' := hh'
    by_cases e : t = t'
    · subst e
      rw [List.getElem?_set_self hlt] at hh2
      injection hh2 with hh2
      subst hh2
      cases ho : s2.over with
      | true => rw [ho] at hp'; cases hp'
      | false =>
        rw [ho] at hp'
        injection hp' with hp'
        subst hp'
        refine ⟨i0, { c0 with pt := s2.d.pt }, e1, ?_, e3, e4, e5.trans hop.symm⟩
        show (m.calls.set i0 _)[i0]? = _
        rw [List.getElem?_set_self hi0]
        rfl
    · rw [List.getElem?_set_ne e] at hh2
      obtain ⟨i, c, f1, f2, f3, f4, f5⟩ := H.thr t' h' p' hh2 hp'
      refine ⟨i, c, f1, ?_, f3, f4, f5⟩
      show (m.calls.set i0 _)[i]? = _
      rw [List.getElem?_set_ne (fun e9 => by
        subst e9
        rw [e2] at f2
        injection f2 with f2
        subst f2
        omega)]
      exact f2
  · have ha' : a ∈ m.log ++ l := by rw [← hl1]; exact ha
    rcases List.mem_append.1 ha' with ha | ha
    · have := H.log a ha
      show a.mv < m.moves + 1
      omega
    · have := (hl3 a ha).1
      show a.mv < m.moves + 1
      omega
/-- what a move may be -/
inductive MvK (m : Mc) : Mc → Prop
  | full : 65536 ≤ m.moves → MvK m m
  | tick : MvK m { m with moves := m.moves + 1 }
  | begun (t : Nat) (h : Th) (p : Tp) (v : Mo) : v.th = t → m.ths[t]? = some h → h.task = none → m.make h v.op = some p → MvK m (m.begun t h p v)
  | step (t : Nat) (h : Th) (p : Tp) : m.ths[t]? = some h → h.task = some p → MvK m (m.step t h p)
theorem move_kind (m : Mc) (v : Mo) : MvK m (m.move v).2 := by
  unfold Mc.move
  cases h0 : decide (65536 ≤ m.moves) with
  | true => exact .full (of_decide_eq_true h0)
  | false =>
    cases h1 : decide (v.th < 0) with
    | true => exact .tick
    | false =>
      have hv : ¬ v.th < 0 := of_decide_eq_false h1
      dsimp only [cond_false]
      cases hh : m.ths[v.th.toNat]? with
      | none => exact .tick
      | some h =>
        dsimp only
        cases hp : h.task with
        | some p =>
          dsimp only
          cases v.op == 0
          · exact .tick
          · exact .step _ h p hh hp
        | none =>
          dsimp only
          cases v.op == 0
          · dsimp only [cond_false]
            cases hm : m.make h v.op with
            | none => exact .tick
            | some p => exact .begun _ h p v (by omega) hh hp hm
          · exact .tick
theorem hist_move {m : Mc} (H : Hist m) (v : Mo) : Hist (m.move v).2 := by
  have hk := move_kind m v
  generalize (m.move v).2 = m' at hk ⊢
  cases hk with
  | full h => exact H
  | tick => exact hist_tick H
  | begun t h p w ht hh hn hm => exact hist_begun H ht hh hn (make_op hm)
  | step t h p hh hp => exact hist_step H hh hp
theorem hist_moves (l : List Mo) {m : Mc} (H : Hist m) : Hist (m.moves_ l) := by
  induction l generalizing m with
  | nil => exact H
  | cons v l ih => exact ih (hist_move H v)
end Go.Proofs.Ytjnmlgfkiebkgaa
namespace Go.Proofs.Ytjnmlgfkiebkgaa
open Go.RowKit
set_option linter.unusedVariables false
set_option linter.unusedSimpArgs false

/-- how many stores there may have been since the point; none: there is no point yet -/
def aft (l : Lk) : Option Nat :=
  bif l.kd == 2 then bif l.at_ == 0 || l.at_ == 1 then none else some 0
  else bif l.kd == 3 then bif l.at_ == 0 || (l.at_ == 1 || l.at_ == 2) then none else some 0
  else bif l.kd == 4 then bif l.at_ == 0 || (l.at_ == 1 || l.at_ == 2) then none else bif l.at_ == 3 then some 0 else bif l.at_ == 4 then some 1 else some 2
  else bif l.kd == 6 then bif l.at_ == 0 || (l.at_ == 1 || (l.at_ == 2 || l.at_ == 3)) then none else some 0
  else none
def loads (d d' : Dk) : Prop := ∃ ls : List Ac, d'.log = d.log ++ ls ∧ ∀ a ∈ ls, a.kd = 1
theorem loads_load (d : Dk) (a : Int) : loads d (d.load a).2 := by
  unfold Dk.load
  cases d.opn a
  · exact ⟨[], by simp, by simp⟩
  · exact ⟨_, rfl, by simp⟩
theorem load_pt (d : Dk) (a : Int) : (d.load a).2.pt = d.pt := by unfold Dk.load; cases d.opn a <;> rfl
theorem store_pt (d : Dk) (a w : Int) : (d.store a w).pt = d.pt := by unfold Dk.store; cases d.opn a <;> rfl
theorem swap_pt (d : Dk) (a o w : Int) : (d.swap a o w).2.pt = d.pt := by unfold Dk.swap; cases d.opn a <;> cases d.word a == o <;> rfl
theorem swap_now (d : Dk) (a o w : Int) : (d.swap a o w).2.point.pt = d.now := (ac1_swap d a o w).now
theorem store_now (d : Dk) (a w : Int) : (d.store a w).point.pt = d.now := (ac1_store d a w).now
def QtOk (l : Lk) (d : Dk) (r : Bool × Lk × Dk) : Prop :=
  match aft l with
  | none => (r.2.2.pt = d.pt ∧ r.1 = false ∧ aft r.2.1 = none) ∨ (r.2.2.pt = d.now ∧ (r.1 = true ∨ aft r.2.1 = some 0))
  | some n => r.2.2.pt = d.pt ∧ ((loads d r.2.2 ∧ (r.1 = true ∨ aft r.2.1 = some n)) ∨ (r.1 = false ∧ aft r.2.1 = some (n + 1) ∧ l.kd = 4 ∧ n + 1 ≤ 2))
theorem qt_none {l : Lk} {d : Dk} {r : Bool × Lk × Dk} (h : aft l = none) (hr : (r.2.2.pt = d.pt ∧ r.1 = false ∧ aft r.2.1 = none) ∨ (r.2.2.pt = d.now ∧ (r.1 = true ∨ aft r.2.1 = some 0))) : QtOk l d r := by unfold QtOk; rw [h]; exact hr
theorem qt_some {l : Lk} {d : Dk} {r : Bool × Lk × Dk} {n : Nat} (h : aft l = some n) (hr : r.2.2.pt = d.pt ∧ ((loads d r.2.2 ∧ (r.1 = true ∨ aft r.2.1 = some n)) ∨ (r.1 = false ∧ aft r.2.1 = some (n + 1) ∧ l.kd = 4 ∧ n + 1 ≤ 2))) : QtOk l d r := by unfold QtOk; rw [h]; exact hr
theorem q_if {b : Bool} {x y : Bool × Lk × Dk} {P : Bool × Lk × Dk → Prop} (hx : P x) (hy : P y) : P (cond b x y) := by cases b <;> assumption
theorem qt_tick (me all at_ x y : Int) (d : Dk) : QtOk ⟨2, me, all, at_, x, y⟩ d (Lk.tickA ⟨2, me, all, at_, x, y⟩ d) := by
  unfold Lk.tickA
  dsimp only
  by_cases h0 : at_ = 0
  · subst h0
    exact qt_none rfl (Or.inl ⟨load_pt _ _, rfl, rfl⟩)
  by_cases h1 : at_ = 1
  · subst h1
    refine qt_none rfl ?_
    show ((cond (d.swap 1 x (uw (x + 1))).1 _ _ : Bool × Lk × Dk).2.2.pt = _ ∧ _) ∨ _
    cases (d.swap 1 x (uw (x + 1))).1
    · exact Or.inl ⟨swap_pt _ _ _ _, rfl, rfl⟩
    · exact Or.inr ⟨swap_now _ _ _ _, Or.inr rfl⟩
  have b0 : (at_ == 0) = false := by simpa using h0
  have b1 : (at_ == 1) = false := by simpa using h1
  have ha : aft ⟨2, me, all, at_, x, y⟩ = some 0 := by
    show (bif at_ == 0 || at_ == 1 then none else some 0) = some 0
    rw [b0, b1]; rfl
  refine qt_some ha ?_
  rw [b0, b1]
  exact ⟨load_pt _ _, Or.inl ⟨loads_load _ _, Or.inr ha⟩⟩
theorem qt_queue (me all at_ x y : Int) (d : Dk) : QtOk ⟨3, me, all, at_, x, y⟩ d (Lk.queueA ⟨3, me, all, at_, x, y⟩ d) := by
  unfold Lk.queueA
  dsimp only
  by_cases h0 : at_ = 0
  · subst h0
    exact qt_none rfl (Or.inl ⟨store_pt _ _ _, rfl, rfl⟩)
  by_cases h1 : at_ = 1
  · subst h1
    exact qt_none rfl (Or.inl ⟨load_pt _ _, rfl, rfl⟩)
  by_cases h2 : at_ = 2
  · subst h2
    refine qt_none rfl ?_
    show ((cond (d.swap 1 y (uw x)).1 _ _ : Bool × Lk × Dk).2.2.pt = _ ∧ _) ∨ _
    cases (d.swap 1 y (uw x)).1
    · exact Or.inl ⟨swap_pt _ _ _ _, rfl, rfl⟩
    · exact Or.inr ⟨swap_now _ _ _ _, Or.inr rfl⟩
  have b0 : (at_ == 0) = false := by simpa using h0
  have b1 : (at_ == 1) = false := by simpa using h1
  have b2 : (at_ == 2) = false := by simpa using h2
  have ha : aft ⟨3, me, all, at_, x, y⟩ = some 0 := by
    show (bif at_ == 0 || (at_ == 1 || at_ == 2) then none else some 0) = some 0
    rw [b0, b1, b2]; rfl
  refine qt_some ha ?_
  rw [b0, b1, b2]
  exact ⟨load_pt _ _, Or.inl ⟨loads_load _ _, Or.inr ha⟩⟩
theorem qt_node (me all at_ x y : Int) (d : Dk) : QtOk ⟨4, me, all, at_, x, y⟩ d (Lk.nodeA ⟨4, me, all, at_, x, y⟩ d) := by
  unfold Lk.nodeA
  dsimp only
  by_cases h0 : at_ = 0
  · subst h0
    exact qt_none rfl (Or.inl ⟨store_pt _ _ _, rfl, rfl⟩)
  by_cases h1 : at_ = 1
  · subst h1
    exact qt_none rfl (Or.inl ⟨load_pt _ _, rfl, rfl⟩)
  by_cases h2 : at_ = 2
  · subst h2
    refine qt_none rfl ?_
    show ((cond (d.swap 1 y (uw (iw (me + 1)))).1 _ _ : Bool × Lk × Dk).2.2.pt = _ ∧ _) ∨ _
    cases (d.swap 1 y (uw (iw (me + 1)))).1
    · exact Or.inl ⟨swap_pt _ _ _ _, rfl, rfl⟩
    · cases hy : y == 0
      · exact Or.inr ⟨swap_now _ _ _ _, Or.inr rfl⟩
      · exact Or.inr ⟨swap_now _ _ _ _, Or.inl rfl⟩
  by_cases h3 : at_ = 3
  · subst h3
    exact qt_some (n := 0) rfl ⟨store_pt _ _ _, Or.inr ⟨rfl, rfl, rfl, by decide⟩⟩
  by_cases h4 : at_ = 4
  · subst h4
    exact qt_some (n := 1) rfl ⟨store_pt _ _ _, Or.inr ⟨rfl, rfl, rfl, by decide⟩⟩
  have b0 : (at_ == 0) = false := by simpa using h0
  have b1 : (at_ == 1) = false := by simpa using h1
  have b2 : (at_ == 2) = false := by simpa using h2
  have b3 : (at_ == 3) = false := by simpa using h3
  have b4 : (at_ == 4) = false := by simpa using h4
  have ha : aft ⟨4, me, all, at_, x, y⟩ = some 2 := by
    show (bif at_ == 0 || (at_ == 1 || at_ == 2) then none else bif at_ == 3 then some 0 else bif at_ == 4 then some 1 else some 2) = some 2
    rw [b0, b1, b2, b3, b4]; rfl
  refine qt_some ha ?_
  rw [b0, b1, b2, b3, b4]
  dsimp only [cond_false]
  cases (d.load (iw (nword me + 1))).1 == 0
  · exact ⟨load_pt _ _, Or.inl ⟨loads_load _ _, Or.inr ha⟩⟩
  · exact ⟨load_pt _ _, Or.inl ⟨loads_load _ _, Or.inl rfl⟩⟩
theorem qt_flag (k me all at_ x y : Int) (hk : k = 1 ∨ k = 7) (d : Dk) : QtOk ⟨k, me, all, at_, x, y⟩ d (Lk.flagA ⟨k, me, all, at_, x, y⟩ d) := by
  have ha : aft ⟨k, me, all, at_, x, y⟩ = none := by rcases hk with rfl | rfl <;> rfl
  refine qt_none ha ?_
  unfold Lk.flagA
  dsimp only
  cases (d.swap 1 0 (bif k == 7 then 18446744073709551615 else 1)).1
  · exact Or.inl ⟨swap_pt _ _ _ _, rfl, ha⟩
  · exact Or.inr ⟨swap_now _ _ _ _, Or.inl rfl⟩
theorem qt_bake (me all at_ x y : Int) (d : Dk) : QtOk ⟨6, me, all, at_, x, y⟩ d (Lk.bakeA ⟨6, me, all, at_, x, y⟩ d) := by
  unfold Lk.bakeA
  dsimp only
  by_cases h0 : at_ = 0
  · subst h0
    refine qt_none rfl (Or.inl ⟨store_pt _ _ _, rfl, ?_⟩)
    show aft ⟨6, me, all, bif _ then 2 else 1, _, _⟩ = none
    cases (Lk.oth ⟨6, me, all, 0, x, y⟩ (-1) == all) <;> rfl
  by_cases h1 : at_ = 1
  · subst h1
    refine qt_none rfl (Or.inl ⟨load_pt _ _, rfl, ?_⟩)
    show aft ⟨6, me, all, bif _ then 2 else 1, _, _⟩ = none
    cases (Lk.oth ⟨6, me, all, 1, x, y⟩ x == all) <;> rfl
  by_cases h2 : at_ = 2
  · subst h2
    exact qt_none rfl (Or.inl ⟨store_pt _ _ _, rfl, rfl⟩)
  by_cases h3 : at_ = 3
  · subst h3
    exact qt_none rfl (Or.inr ⟨store_now _ _ _, Or.inr rfl⟩)
  have b0 : (at_ == 0) = false := by simpa using h0
  have b1 : (at_ == 1) = false := by simpa using h1
  have b2 : (at_ == 2) = false := by simpa using h2
  have b3 : (at_ == 3) = false := by simpa using h3
  have ha : aft ⟨6, me, all, at_, x, y⟩ = some 0 := by
    show (bif at_ == 0 || (at_ == 1 || (at_ == 2 || at_ == 3)) then none else some 0) = some 0
    rw [b0, b1, b2, b3]; rfl
  refine qt_some ha ?_
  rw [b0, b1, b2, b3]
  dsimp only [cond_false]
  cases h4 : at_ == 4
  · dsimp only [cond_false]
    refine q_if (P := fun r => r.2.2.pt = d.pt ∧ ((loads d r.2.2 ∧ (r.1 = true ∨ aft r.2.1 = some 0)) ∨ (r.1 = false ∧ aft r.2.1 = some (0 + 1) ∧ (6 : Int) = 4 ∧ 0 + 1 ≤ 2))) ?_ ?_
    · exact ⟨load_pt _ _, Or.inl ⟨loads_load _ _, Or.inr ha⟩⟩
    · exact ⟨load_pt _ _, Or.inl ⟨loads_load _ _, Or.inr rfl⟩⟩
  · refine ⟨load_pt _ _, Or.inl ⟨loads_load _ _, Or.inr ?_⟩⟩
    show aft ⟨6, me, all, bif _ then 5 else 4, _, _⟩ = some 0
    cases ((d.load (iw (1 + iw (2 * x)))).1 == 0) <;> rfl
theorem qt_acq {l : Lk} (h1 : 1 ≤ l.kd ∧ l.kd ≤ 7) (h5 : l.kd ≠ 5) (d : Dk) : QtOk l d (l.acq d) := by
  obtain ⟨kd, me, all, at_, x, y⟩ := l
  dsimp only at h1 h5
  obtain rfl | rfl | rfl | rfl | rfl | rfl : kd = 1 ∨ kd = 2 ∨ kd = 3 ∨ kd = 4 ∨ kd = 6 ∨ kd = 7 := by omega
  · exact qt_flag 1 me all at_ x y (Or.inl rfl) d
  · exact qt_tick me all at_ x y d
  · exact qt_queue me all at_ x y d
  · exact qt_node me all at_ x y d
  · exact qt_bake me all at_ x y d
  · exact qt_flag 7 me all at_ x y (Or.inr rfl) d
def qB (k : Int) : Nat := bif k == 4 then 2 else 0
theorem aft_bnd {l : Lk} {n : Nat} (h : aft l = some n) : n ≤ qB l.kd := by
  obtain ⟨kd, me, all, at_, x, y⟩ := l
  unfold aft at h
  dsimp only at h ⊢
  cases h2 : kd == 2 with
  | true =>
    rw [h2] at h
    dsimp only [cond_true] at h
    cases hq : (at_ == 0 || at_ == 1) <;> rw [hq] at h <;> simp at h
    omega
  | false =>
  cases h3 : kd == 3 with
  | true =>
    rw [h2, h3] at h
    dsimp only [cond_true, cond_false] at h
    cases hq : (at_ == 0 || (at_ == 1 || at_ == 2)) <;> rw [hq] at h <;> simp at h
    omega
  | false =>
  cases h4 : kd == 4 with
  | true =>
    rw [h2, h3, h4] at h
    dsimp only [cond_true, cond_false] at h
    have hb : qB kd = 2 := by unfold qB; rw [h4]; rfl
    rw [hb]
    cases hq : (at_ == 0 || (at_ == 1 || at_ == 2)) with
    | true => rw [hq] at h; simp at h
    | false =>
      rw [hq] at h
      dsimp only [cond_false] at h
      cases h7 : at_ == 3 with
      | true => rw [h7] at h; simp at h; omega
      | false =>
        cases h8 : at_ == 4 with
        | true => rw [h7, h8] at h; simp at h; omega
        | false => rw [h7, h8] at h; simp at h; omega
  | false =>
  cases h6 : kd == 6 with
  | true =>
    rw [h2, h3, h4, h6] at h
    dsimp only [cond_true, cond_false] at h
    cases hq : (at_ == 0 || (at_ == 1 || (at_ == 2 || at_ == 3))) <;> rw [hq] at h <;> simp at h
    omega
  | false => rw [h2, h3, h4, h6] at h; simp at h
def quietA (c : Cal) (a : Ac) : Bool := (a.th == c.th && decide (c.pt < a.mv)) && ((decide (c.fin < 0) || decide (a.mv ≤ c.fin)) && a.kd != 1)
def cntQ (c : Cal) (l : List Ac) : Nat := l.countP (quietA c)
theorem cntQ_app (c : Cal) (l l' : List Ac) : cntQ c (l ++ l') = cntQ c l + cntQ c l' := List.countP_append
theorem cntQ_zero {c : Cal} {l : List Ac} (h : ∀ a ∈ l, quietA c a = false) : cntQ c l = 0 := by
  unfold cntQ
  rw [List.countP_eq_zero]
  intro a ha
  rw [h a ha]
  decide
structure QInv (m : Mc) : Prop where
  kd : ∀ (t : Nat) (h : Th), m.ths[t]? = some h → h.lk.kd = m.kd
  fin : ∀ (i : Nat) (c : Cal), m.calls[i]? = some c → c.op = 120 → 0 ≤ c.pt → c.fin ≠ -1 → cntQ c m.log ≤ qB m.kd
  cur : ∀ (i : Nat) (c : Cal), m.calls[i]? = some c → c.op = 120 → 0 ≤ c.pt → c.fin = -1 → ∃ h n, m.ths[c.th.toNat]? = some h ∧ h.ready = true ∧ aft h.lk = some n ∧ cntQ c m.log ≤ n
  pre : ∀ (i : Nat) (c : Cal) (h : Th), m.calls[i]? = some c → c.op = 120 → c.pt < 0 → c.fin = -1 → m.ths[c.th.toNat]? = some h → h.ready = true → aft h.lk = none
end Go.Proofs.Ytjnmlgfkiebkgaa
namespace Go.Proofs.Ytjnmlgfkiebkgaa
open Go.RowKit
set_option linter.unusedVariables false
set_option linter.unusedSimpArgs false

theorem qinv_tick {m : Mc} (Q : QInv m) : QInv { m with moves := m.moves + 1 } := ⟨Q.kd, Q.fin, Q.cur, Q.pre⟩
theorem qinv_begun {m : Mc} (H : Hist m) (Q : QInv m) {t : Nat} {h : Th} {p : Tp} {v : Mo} (ht : v.th = t) (hh : m.ths[t]? = some h) (hn : h.task = none) : QInv (m.begun t h p v) := by
  have hlt : t < m.ths.length := (List.getElem?_eq_some_iff.1 hh).1
  have hold : ∀ (i : Nat) (c : Cal), (m.begun t h p v).calls[i]? = some c → (m.calls[i]? = some c ∧ (c.fin = -1 → c.th.toNat ≠ t)) ∨ (c.th = t ∧ c.pt = -1 ∧ c.fin = -1) := by
    intro i c hc
    have hc' : (m.calls ++ [⟨v.th, v.op, v.arg, v.dat, m.moves, -1, -1, 0, 0⟩])[i]? = some c := hc
    by_cases hi : i < m.calls.length
    · rw [List.getElem?_append_left hi] at hc'
      refine Or.inl ⟨hc', fun hf e => ?_⟩
      obtain ⟨h1, p1, e1, e2, _⟩ := (H.cal i c hc').cur hf
      rw [e, hh] at e1
      injection e1 with e1
      subst e1
      rw [hn] at e2
      cases e2
    · rw [List.getElem?_append_right (by omega)] at hc'
      have hi0 : i - m.calls.length = 0 := by
        have := (List.getElem?_eq_some_iff.1 hc').1
        simp at this
        omega
      rw [hi0] at hc'
      simp at hc'
      subst hc'
      exact Or.inr ⟨ht, rfl, rfl⟩
  refine ⟨fun t' h' hh' => ?_, fun i c hc ho hp hf => ?_, fun i c hc ho hp hf => ?_, fun i c h' hc ho hp hf hh' hr => ?_⟩
  · have h2 : (m.ths.set t { h with task := some p, ready := false, last := (m.calls.length : Int), ak := 1, av := 0 })[t']? = some h' := hh'
    by_cases e : t = t'
    · subst e
      rw [List.getElem?_set_self hlt] at h2
      injection h2 with h2
      subst h2
      exact Q.kd t h hh
    · rw [List.getElem?_set_ne e] at h2
      exact Q.kd t' h' h2
  · rcases hold i c hc with ⟨h1, _⟩ | ⟨_, h2, _⟩
    · exact Q.fin i c h1 ho hp hf
    · omega
  · rcases hold i c hc with ⟨h1, h3⟩ | ⟨_, h2, _⟩
    · obtain ⟨h', n, g1, g2, g3, g4⟩ := Q.cur i c h1 ho hp hf
      refine ⟨h', n, ?_, g2, g3, g4⟩
      show (m.ths.set t _)[c.th.toNat]? = _
      rw [List.getElem?_set_ne (h3 hf).symm]
      exact g1
    · omega
  · have h2 : (m.ths.set t { h with task := some p, ready := false, last := (m.calls.length : Int), ak := 1, av := 0 })[c.th.toNat]? = some h' := hh'
    rcases hold i c hc with ⟨h1, h3⟩ | ⟨h4, _, _⟩
    · rw [List.getElem?_set_ne (h3 hf).symm] at h2
      exact Q.pre i c h' h1 ho hp hf h2 hr
    · rw [show c.th.toNat = t by omega, List.getElem?_set_self hlt] at h2
      injection h2 with h2
      subst h2
      cases hr
theorem aft_zero {l : Lk} (h : l.at_ = 0) : aft l = none := by
  obtain ⟨kd, me, all, at_, x, y⟩ := l
  dsimp only at h
  subst h
  unfold aft
  dsimp only
  cases kd == 2 <;> cases kd == 3 <;> cases kd == 4 <;> cases kd == 6 <;> rfl
/-- a step of an acquire, in one: from a lock that is ready -/
theorem s2_acq {m : Mc} {t : Nat} {h : Th} (h5 : h.lk.kd ≠ 5) : ∃ l : Lk, l.kd = h.lk.kd ∧ (h.ready = true → l = h.lk) ∧ (h.ready = false → aft l = none) ∧
    (m.s2 t h .acq).over = (l.acq ⟨m.words, m.log, t, m.moves, false, (m.calls[h.last.toNat]?.getD cal0).pt, h.ak, h.av⟩).1 ∧
    (m.s2 t h .acq).lk = (l.acq ⟨m.words, m.log, t, m.moves, false, (m.calls[h.last.toNat]?.getD cal0).pt, h.ak, h.av⟩).2.1 ∧
    (m.s2 t h .acq).d = (l.acq ⟨m.words, m.log, t, m.moves, false, (m.calls[h.last.toNat]?.getD cal0).pt, h.ak, h.av⟩).2.2 := by
  cases hr : h.ready with
  | true =>
    refine ⟨h.lk, rfl, fun _ => rfl, (fun e => by cases e), ?_⟩
    unfold Mc.s2
    rw [hr]
    exact ⟨rfl, rfl, rfl⟩
  | false =>
    refine ⟨{ h.lk with at_ := 0 }, rfl, (fun e => by cases e), fun _ => aft_zero rfl, ?_⟩
    have hb : ∀ d, h.lk.beg d = (false, { h.lk with at_ := 0 }, d) := fun d => by
      unfold Lk.beg
      rw [show (h.lk.kd == 5) = false by simpa using h5]
      rfl
    unfold Mc.s2
    rw [hr]
    dsimp only [cond_false, Ts.ready]
    rw [hb]
    exact ⟨rfl, rfl, rfl⟩
theorem ts_kd_ready (s : Ts) : s.ready.lk.kd = s.lk.kd := by
  obtain ⟨o, p, l, al, sh, d⟩ := s
  cases p with
  | acq => exact lk_kd_beg l d
  | _ => rfl
theorem ts_kd_step (s : Ts) : s.step.lk.kd = s.lk.kd := by
  obtain ⟨o, p, l, al, sh, d⟩ := s
  cases p with
  | acq => exact lk_kd_acq l d
  | rel => exact lk_kd_rel l d
  | shr b w k =>
    cases k
    · rfl
    · unfold Ts.step
      dsimp only
      cases (d.swap 1 (uw w) (uw (iw (w + b)))).1 <;> rfl
  | tch c k => cases k <;> rfl
theorem s2_kd (m : Mc) (t : Nat) (h : Th) (p : Tp) : (m.s2 t h p).lk.kd = h.lk.kd := by
  have key : ∀ (s : Ts) (b : Bool), (let s1 := bif b then s else s.ready; bif s1.over then s1 else s1.step).lk.kd = s.lk.kd := by
    intro s b
    dsimp only
    cases b
    · dsimp only [cond_false]
      cases s.ready.over
      · exact (ts_kd_step _).trans (ts_kd_ready s)
      · exact ts_kd_ready s
    · dsimp only [cond_true]
      cases s.over
      · exact ts_kd_step s
      · rfl
  exact key _ _
theorem cntQ_same {c : Cal} {l l' : List Ac} (h : ∀ a ∈ l', quietA c a = false) : cntQ c (l ++ l') = cntQ c l := by rw [cntQ_app, cntQ_zero h, Nat.add_zero]
theorem cntQ_congr {c c' : Cal} {l : List Ac} (h : ∀ a ∈ l, quietA c a = quietA c' a) : cntQ c l = cntQ c' l := List.countP_congr fun a ha => by rw [h a ha]
theorem p_acq {p : Tp} (h : p.op = 120) : p = .acq := by
  cases p with
  | acq => rfl
  | rel => cases h
  | shr b w k =>
    have h9 : (bif decide (b < 0) then (123 : Int) else 122) = 120 := h
    cases hb : decide (b < 0) <;> rw [hb] at h9 <;> cases h9
  | tch c k => cases h
theorem qinv_step {m : Mc} (H : Hist m) (Q : QInv m) (h1 : 1 ≤ m.kd ∧ m.kd ≤ 7) (h5 : m.kd ≠ 5) {t : Nat} {h : Th} {p : Tp} (hh : m.ths[t]? = some h) (hp : h.task = some p) : QInv (m.step t h p) := by
  have hlt : t < m.ths.length := (List.getElem?_eq_some_iff.1 hh).1
  obtain ⟨i0, c0, e1, e2, e3, e4, e5⟩ := H.thr t h p hh hp
  have hln : h.last.toNat = i0 := by omega
  have hg : m.calls[h.last.toNat]?.getD cal0 = c0 := by rw [hln, e2]; rfl
  have hi0 : i0 < m.calls.length := (List.getElem?_eq_some_iff.1 e2).1
  have hnn := H.nn
  have hk := Q.kd t h hh
  have hk2 := s2_kd m t h p
  obtain ⟨_, l, hl1, hl2, hl3⟩ := s2_ac m t h p
  -- a call of another
  have hoth : ∀ (i : Nat) (c : Cal), i ≠ i0 → m.calls[i]? = some c → (∀ a ∈ l, quietA c a = false) ∧ (c.fin = -1 → c.th.toNat ≠ t) := by
    intro i c hi hc
    have k := H.cal i c hc
    have hne : c.fin = -1 → c.th.toNat ≠ t := fun hf e => by
      obtain ⟨h', p', g1, g2, g3⟩ := k.cur hf
      rw [e, hh] at g1
      injection g1 with g1
      subst g1
      omega
    refine ⟨fun a ha => ?_, hne⟩
    obtain ⟨a1, a2⟩ := hl3 a ha
    unfold quietA
    by_cases hf : c.fin = -1
    · have := hne hf
      have := k.th.1
      rw [show (a.th == c.th) = false by rw [beq_eq_false_iff_ne]; omega]
      rfl
    · have k1 := k.fin.1
      have k2 := k.fin.2
      rw [show decide (c.fin < 0) = false by simp; omega, show decide (a.mv ≤ c.fin) = false by simp; omega]
      simp
  -- the thread's own
  have hown : c0.op = 120 → ∃ r : Bool × Lk × Dk, (m.s2 t h p).over = r.1 ∧ (m.s2 t h p).lk = r.2.1 ∧ (m.s2 t h p).d = r.2.2 ∧
      ((c0.pt < 0 ∧ ((r.2.2.pt = c0.pt ∧ r.1 = false ∧ aft r.2.1 = none) ∨ (r.2.2.pt = m.moves ∧ (r.1 = true ∨ aft r.2.1 = some 0)))) ∨
       (0 ≤ c0.pt ∧ r.2.2.pt = c0.pt ∧ ∃ n, n ≤ qB m.kd ∧ cntQ c0 m.log ≤ n ∧ (((∀ a ∈ l, a.kd = 1) ∧ (r.1 = true ∨ aft r.2.1 = some n)) ∨ (r.1 = false ∧ aft r.2.1 = some (n + 1))))) := by
    intro ho
    obtain rfl := p_acq (e5.symm.trans ho)
    obtain ⟨l', g1, g2, g3, g4, g5, g6⟩ := s2_acq (m := m) (t := t) (h := h) (by rw [hk]; exact h5)
    rw [hg] at g4 g5 g6
    refine ⟨_, g4, g5, g6, ?_⟩
    have hq := qt_acq (l := l') (by rw [g1, hk]; exact h1) (by rw [g1, hk]; exact h5) ⟨m.words, m.log, t, m.moves, false, c0.pt, h.ak, h.av⟩
    rw [g6] at hl1
    generalize l'.acq ⟨m.words, m.log, t, m.moves, false, c0.pt, h.ak, h.av⟩ = r at hq hl1 ⊢
    by_cases hpt : 0 ≤ c0.pt
    · obtain ⟨h', n, f1, f2, f3, f4⟩ := Q.cur i0 c0 e2 ho hpt e4
      rw [show c0.th.toNat = t by omega, hh] at f1
      injection f1 with f1
      subst f1
      have hla : aft l' = some n := by rw [g2 f2]; exact f3
      unfold QtOk at hq
      rw [hla] at hq
      obtain ⟨q1, q2⟩ := hq
      refine Or.inr ⟨hpt, q1, n, by have := aft_bnd f3; rw [hk] at this; exact this, f4, ?_⟩
      rcases q2 with ⟨⟨ls, q3, q4⟩, q5⟩ | ⟨q3, q4, _⟩
      · have : ls = l := List.append_cancel_left (q3.symm.trans hl1)
        subst this
        exact Or.inl ⟨q4, q5⟩
      · exact Or.inr ⟨q3, q4⟩
    · have hla : aft l' = none := by
        cases hr : h.ready with
        | false => exact g3 hr
        | true =>
          rw [g2 hr]
          exact Q.pre i0 c0 h e2 ho (by omega) e4 (by rw [show c0.th.toNat = t by omega]; exact hh) hr
      unfold QtOk at hq
      rw [hla] at hq
      exact Or.inl ⟨by omega, hq⟩
  rw [step_eq, hg, hln]
  have hop := s2_op m t h p
  generalize m.s2 t h p = s2 at hk2 hl1 hown hop ⊢
  have hset : ∀ (i : Nat) (c : Cal), (m.calls.set i0 (bif s2.over then { c0 with pt := s2.d.pt, fin := m.moves, ak := s2.d.ak, av := s2.d.av } else { c0 with pt := s2.d.pt }))[i]? = some c → (i = i0 ∧ c = (bif s2.over then { c0 with pt := s2.d.pt, fin := m.moves, ak := s2.d.ak, av := s2.d.av } else { c0 with pt := s2.d.pt })) ∨ (i ≠ i0 ∧ m.calls[i]? = some c) := by
    intro i c hc
    by_cases hi : i0 = i
    · subst hi
      rw [List.getElem?_set_self hi0] at hc
      injection hc with hc
      exact Or.inl ⟨rfl, hc.symm⟩
    · rw [List.getElem?_set_ne hi] at hc
      exact Or.inr ⟨fun e => hi e.symm, hc⟩
  -- counts of the thread's own call behind the step
  have hlogs : ∀ a ∈ m.log, a.mv < m.moves := H.log
  have hnew : ∀ (c : Cal), c.pt = m.moves → cntQ c (m.log ++ l) = 0 := fun c hc => cntQ_zero fun a ha => by
    have : a.mv ≤ m.moves := by
      rcases List.mem_append.1 ha with ha | ha
      · have := hlogs a ha; omega
      · rw [(hl3 a ha).1]; exact Int.le_refl _
    unfold quietA
    rw [show decide (c.pt < a.mv) = false by simp; omega]
    simp
  have hcnt : ∀ (c : Cal), c.th = c0.th → c.pt = c0.pt → (c.fin = -1 ∨ c.fin = m.moves) → cntQ c m.log = cntQ c0 m.log := fun c k1 k2 k3 => cntQ_congr fun a ha => by
    have := hlogs a ha
    unfold quietA
    rw [k1, k2, e4]
    rcases k3 with k3 | k3
    · rw [k3]
    · rw [k3, show decide (a.mv ≤ m.moves) = true by simp; omega]
      simp
  have hls : ∀ (c : Cal), (∀ a ∈ l, a.kd = 1) → cntQ c (m.log ++ l) = cntQ c m.log := fun c hc => cntQ_same fun a ha => by
    unfold quietA
    rw [hc a ha]
    simp
  have hle : ∀ (c : Cal), cntQ c (m.log ++ l) ≤ cntQ c m.log + 1 := fun c => by
    rw [cntQ_app]
    have : cntQ c l ≤ l.length := List.countP_le_length
    omega
  refine ⟨fun t' h' hh' => ?_, fun i c hc ho hpt hf => ?_, fun i c hc ho hpt hf => ?_, fun i c h' hc ho hpt hf hh' hr => ?_⟩
  · have h2 : (m.ths.set t (⟨bif s2.over then none else some s2.task, true, h.last, s2.d.ak, s2.d.av, s2.lk, s2.alone, s2.shares⟩ : Th))[t']? = some h' := hh'
    by_cases e : t = t'
    · subst e
      rw [List.getElem?_set_self hlt] at h2
      injection h2 with h2
      subst h2
      exact hk2.trans hk
    · rw [List.getElem?_set_ne e] at h2
      exact Q.kd t' h' h2
  · show cntQ c s2.d.log ≤ qB m.kd
    rw [hl1]
    rcases hset i c hc with ⟨rfl, hc2⟩ | ⟨hi, hc2⟩
    · cases hov : s2.over with
      | false =>
        rw [hov] at hc2
        subst hc2
        exact absurd e4 hf
      | true =>
        rw [hov] at hc2
        subst hc2
        obtain ⟨r, f1, f2, f3, f4⟩ := hown ho
        rw [f3] at hpt ⊢
        rcases f4 with ⟨f5, f6⟩ | ⟨f5, f6, n, f7, f8, f9⟩
        · rcases f6 with ⟨f6, f7, _⟩ | ⟨f6, _⟩
          · rw [← f1, hov] at f7; cases f7
          · rw [hnew _ f6]; exact Nat.zero_le _
        · rcases f9 with ⟨g1, _⟩ | ⟨g1, _⟩
          · rw [hls _ g1]
            exact Nat.le_trans (Nat.le_of_eq (hcnt _ rfl f6 (Or.inr rfl))) (by omega)
          · rw [← f1, hov] at g1; cases g1
    · rw [cntQ_same (hoth i c hi hc2).1]
      exact Q.fin i c hc2 ho hpt hf
  · rcases hset i c hc with ⟨rfl, hc2⟩ | ⟨hi, hc2⟩
    · cases hov : s2.over with
      | true =>
        rw [hov] at hc2
        subst hc2
        have h9 : m.moves = -1 := hf
        omega
      | false =>
        rw [hov] at hc2
        subst hc2
        obtain ⟨r, f1, f2, f3, f4⟩ := hown ho
        have hth : ∀ u : Th, (m.ths.set t u)[c0.th.toNat]? = some u := fun u => by rw [show c0.th.toNat = t by omega, List.getElem?_set_self hlt]
        have hpt' : 0 ≤ s2.d.pt := hpt
        rw [f3] at hpt'
        rcases f4 with ⟨f5, f6⟩ | ⟨f5, f6, n, f7, f8, f9⟩
        · rcases f6 with ⟨f6, _, _⟩ | ⟨f6, f7⟩
          · omega
          · rcases f7 with f7 | f7
            · rw [← f1, hov] at f7; cases f7
            · refine ⟨_, 0, hth _, rfl, by rw [← f2] at f7; exact f7, ?_⟩
              show cntQ _ s2.d.log ≤ 0
              rw [hl1, hnew _ (by rw [← f3] at f6; exact f6)]
              exact Nat.le_refl _
        · rcases f9 with ⟨g1, g2⟩ | ⟨_, g2⟩
          · rcases g2 with g2 | g2
            · rw [← f1, hov] at g2; cases g2
            · refine ⟨_, n, hth _, rfl, by rw [← f2] at g2; exact g2, ?_⟩
              show cntQ _ s2.d.log ≤ n
              rw [hl1, hls _ g1]
              exact Nat.le_trans (Nat.le_of_eq (hcnt _ rfl (by rw [← f3] at f6; exact f6) (Or.inl e4))) f8
          · refine ⟨_, n + 1, hth _, rfl, by rw [← f2] at g2; exact g2, ?_⟩
            show cntQ _ s2.d.log ≤ n + 1
            rw [hl1]
            refine Nat.le_trans (hle _) ?_
            exact Nat.succ_le_succ (Nat.le_trans (Nat.le_of_eq (hcnt _ rfl (by rw [← f3] at f6; exact f6) (Or.inl e4))) f8)
    · obtain ⟨k1, k2⟩ := hoth i c hi hc2
      obtain ⟨h', n, g1, g2, g3, g4⟩ := Q.cur i c hc2 ho hpt hf
      refine ⟨h', n, ?_, g2, g3, ?_⟩
      · show (m.ths.set t _)[c.th.toNat]? = _
        rw [List.getElem?_set_ne (k2 hf).symm]
        exact g1
      · show cntQ c s2.d.log ≤ n
        rw [hl1, cntQ_same k1]
        exact g4
  · have h2 : (m.ths.set t (⟨bif s2.over then none else some s2.task, true, h.last, s2.d.ak, s2.d.av, s2.lk, s2.alone, s2.shares⟩ : Th))[c.th.toNat]? = some h' := hh'
    rcases hset i c hc with ⟨rfl, hc2⟩ | ⟨hi, hc2⟩
    · cases hov : s2.over with
      | true =>
        rw [hov] at hc2
        subst hc2
        have h9 : m.moves = -1 := hf
        omega
      | false =>
        rw [hov] at hc2
        subst hc2
        have h3 : (m.ths.set t (⟨bif s2.over then none else some s2.task, true, h.last, s2.d.ak, s2.d.av, s2.lk, s2.alone, s2.shares⟩ : Th))[c0.th.toNat]? = some h' := h2
        rw [show c0.th.toNat = t by omega, List.getElem?_set_self hlt] at h3
        injection h3 with h3
        subst h3
        obtain ⟨r, f1, f2, f3, f4⟩ := hown ho
        have hpt' : s2.d.pt < 0 := hpt
        rw [f3] at hpt'
        show aft s2.lk = none
        rw [f2]
        rcases f4 with ⟨f5, f6⟩ | ⟨f5, f6, _⟩
        · rcases f6 with ⟨_, _, f6⟩ | ⟨f6, _⟩
          · exact f6
          · omega
        · omega
    · obtain ⟨_, k2⟩ := hoth i c hi hc2
      rw [List.getElem?_set_ne (k2 hf).symm] at h2
      exact Q.pre i c h' hc2 ho hpt hf h2 hr
theorem qinv_move {m : Mc} (H : Hist m) (Q : QInv m) (h1 : 1 ≤ m.kd ∧ m.kd ≤ 7) (h5 : m.kd ≠ 5) (v : Mo) : QInv (m.move v).2 := by
  have hk := move_kind m v
  generalize (m.move v).2 = m' at hk ⊢
  cases hk with
  | full h => exact Q
  | tick => exact qinv_tick Q
  | begun t h p w ht hh hn hm => exact qinv_begun H Q ht hh hn
  | step t h p hh hp => exact qinv_step H Q h1 h5 hh hp
theorem qinv_moves (l : List Mo) {m : Mc} (H : Hist m) (Q : QInv m) (h1 : 1 ≤ m.kd ∧ m.kd ≤ 7) (h5 : m.kd ≠ 5) : QInv (m.moves_ l) := by
  induction l generalizing m with
  | nil => exact Q
  | cons v l ih => exact ih (hist_move H v) (qinv_move H Q h1 h5 v) (by rw [move_kd]; exact h1) (by rw [move_kd]; exact h5)
theorem qinv0 (k T : Int) : QInv (mc0 k T) := by
  refine ⟨fun t h hh => ?_, fun i c hc => ?_, fun i c hc => ?_, fun i c h hc => ?_⟩
  · have h9 : ((List.range T.toNat).map (th0 k T))[t]? = some h := hh
    rw [List.getElem?_map] at h9
    cases hr : (List.range T.toNat)[t]? with
    | none => rw [hr] at h9; cases h9
    | some z =>
      rw [hr] at h9
      injection h9 with h9
      subst h9
      rfl
  all_goals (have h9 : ([] : List Cal)[i]? = some c := hc; simp at h9)
/-- behind an acquire's point: no stores; of the node's lock two -/
theorem quiet_all {k T : Int} (hk : 1 ≤ k ∧ k ≤ 7) (h5 : k ≠ 5) (ms : List Mo) {i : Nat} {c : Cal} (hc : ((mc0 k T).moves_ ms).calls[i]? = some c) (ho : c.op = 120) (hp : 0 ≤ c.pt) : cntQ c ((mc0 k T).moves_ ms).log ≤ qB k := by
  have Q := qinv_moves ms (hist0 k T) (qinv0 k T) hk h5
  have hkd : ((mc0 k T).moves_ ms).kd = k := moves_kd _ _
  by_cases hf : c.fin = -1
  · obtain ⟨h, n, g1, _, g3, g4⟩ := Q.cur i c hc ho hp hf
    have h9 := aft_bnd g3
    rw [Q.kd _ h g1, hkd] at h9
    omega
  · have h9 := Q.fin i c hc ho hp hf
    rw [hkd] at h9
    exact h9
end Go.Proofs.Ytjnmlgfkiebkgaa
