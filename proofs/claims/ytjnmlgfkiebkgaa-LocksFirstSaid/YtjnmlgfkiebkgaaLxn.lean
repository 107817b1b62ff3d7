/-
  LocksExclude, plainly: what the law looks at, move by move.
-/
import Derived.Test.YtjnmlgfkiebkgaaLqi
namespace Go.Proofs.Ytjnmlgfkiebkgaa
open Go.RowKit
set_option linter.unusedVariables false
set_option linter.unusedSimpArgs false

def thz : Th := ⟨none, false, -1, 0, 0, ⟨0, 0, 0, 0, 0, 0⟩, false, false⟩
/-- thread t -/
def Mc.tt (m : Mc) (t : Nat) : Th := m.ths[t]?.getD thz
/-- word a -/
def wd (W : List Int) (a : Nat) : Int := W[a]?.getD 0
theorem wd_self {W : List Int} {i : Nat} {v : Int} (h : i < W.length) : wd (W.set i v) i = v := by
  unfold wd
  rw [List.getElem?_set_self h]
  rfl
theorem wd_ne {W : List Int} {i j : Nat} {v : Int} (h : i ≠ j) : wd (W.set i v) j = wd W j := by
  unfold wd
  rw [List.getElem?_set_ne h]
/-- the desk, unused -/
theorem ld_v {d : Dk} {a : Int} (hu : d.used = false) (ha : 0 ≤ a) : (d.load a).1 = wd d.words a.toNat := by
  unfold Dk.load Dk.opn
  rw [hu]
  by_cases hb : a < d.words.length
  · rw [show decide (0 ≤ a) = true by simpa using ha, show decide (a < d.words.length) = true by simpa using hb]
    rfl
  · rw [show decide (a < d.words.length) = false by simpa using hb]
    simp only [Bool.and_false, cond_false]
    unfold wd
    rw [List.getElem?_eq_none (by omega)]
    rfl
theorem ld_w (d : Dk) (a : Int) : (d.load a).2.words = d.words := by unfold Dk.load; cases d.opn a <;> rfl
theorem sto_w {d : Dk} {a w : Int} (hu : d.used = false) (ha : 0 ≤ a) : (d.store a w).words = d.words.set a.toNat w := by
  unfold Dk.store Dk.opn
  rw [hu]
  by_cases hb : a < d.words.length
  · rw [show decide (0 ≤ a) = true by simpa using ha, show decide (a < d.words.length) = true by simpa using hb]
    rfl
  · rw [show decide (a < d.words.length) = false by simpa using hb]
    simp only [Bool.and_false, cond_false]
    rw [List.set_eq_of_length_le (by omega)]
theorem sw_b {d : Dk} {a o w : Int} (hu : d.used = false) (ha : 0 ≤ a ∧ a < d.words.length) : (d.swap a o w).1 = (wd d.words a.toNat == o) := by
  unfold Dk.swap Dk.opn
  rw [hu, show decide (0 ≤ a) = true by simpa using ha.1, show decide (a < d.words.length) = true by simpa using ha.2]
  show (bif d.word a == o then _ else _ : Bool × Dk).1 = _
  show _ = (d.word a == o)
  cases d.word a == o <;> rfl
theorem sw_w {d : Dk} {a o w : Int} (hu : d.used = false) (ha : 0 ≤ a ∧ a < d.words.length) : (d.swap a o w).2.words = bif wd d.words a.toNat == o then d.words.set a.toNat w else d.words := by
  unfold Dk.swap Dk.opn
  rw [hu, show decide (0 ≤ a) = true by simpa using ha.1, show decide (a < d.words.length) = true by simpa using ha.2]
  show (bif d.word a == o then _ else _ : Bool × Dk).2.words = (bif d.word a == o then _ else _)
  cases d.word a == o <;> rfl
theorem iw_id {x : Int} (h : -9223372036854775808 ≤ x ∧ x ≤ 9223372036854775807) : iw x = x := by
  unfold iw wrap64
  omega
theorem uw_id {x : Int} (h : 0 ≤ x ∧ x ≤ 18446744073709551615) : uw x = x := by
  unfold uw
  rw [show IntKind.u64.wrap x = x % 18446744073709551616 from rfl]
  omega

/-- what a step does -/
theorem tt_begun_self {m : Mc} {t : Nat} {h : Th} {p : Tp} {v : Mo} (hh : m.ths[t]? = some h) : (m.begun t h p v).tt t = { h with task := some p, ready := false, last := m.calls.length, ak := 1, av := 0 } := by
  show ((m.ths.set t _)[t]?).getD thz = _
  rw [List.getElem?_set_self (List.getElem?_eq_some_iff.1 hh).1]
  rfl
theorem tt_begun_ne {m : Mc} {t s : Nat} {h : Th} {p : Tp} {v : Mo} (hs : s ≠ t) : (m.begun t h p v).tt s = m.tt s := by
  show ((m.ths.set t _)[s]?).getD thz = _
  rw [List.getElem?_set_ne hs.symm]
  rfl
theorem tt_step_self {m : Mc} {t : Nat} {h : Th} {p : Tp} (hh : m.ths[t]? = some h) : (m.step t h p).tt t = ⟨bif (m.s2 t h p).over then none else some (m.s2 t h p).task, true, h.last, (m.s2 t h p).d.ak, (m.s2 t h p).d.av, (m.s2 t h p).lk, (m.s2 t h p).alone, (m.s2 t h p).shares⟩ := by
  rw [step_eq]
  show ((m.ths.set t _)[t]?).getD thz = _
  rw [List.getElem?_set_self (List.getElem?_eq_some_iff.1 hh).1]
  rfl
theorem tt_step_ne {m : Mc} {t s : Nat} {h : Th} {p : Tp} (hs : s ≠ t) : (m.step t h p).tt s = m.tt s := by
  rw [step_eq]
  show ((m.ths.set t _)[s]?).getD thz = _
  rw [List.getElem?_set_ne hs.symm]
  rfl
theorem tt_of {m : Mc} {t : Nat} {h : Th} (hh : m.ths[t]? = some h) : m.tt t = h := by unfold Mc.tt; rw [hh]; rfl
theorem tt_out {m : Mc} {t : Nat} (h : m.ths.length ≤ t) : m.tt t = thz := by unfold Mc.tt; rw [List.getElem?_eq_none h]; rfl
theorem tt_some {m : Mc} {t : Nat} (h : t < m.ths.length) : m.ths[t]? = some (m.tt t) := by
  unfold Mc.tt
  rw [List.getElem?_eq_getElem h]
  rfl
/-- the desk of a step -/
def Mc.dk (m : Mc) (t : Nat) (h : Th) : Dk := ⟨m.words, m.log, t, m.moves, false, (m.calls[h.last.toNat]?.getD cal0).pt, h.ak, h.av⟩
theorem s2_rel (m : Mc) (t : Nat) (h : Th) : m.s2 t h .rel = ⟨(h.lk.rel (m.dk t h)).1, .rel, (h.lk.rel (m.dk t h)).2.1, !(h.lk.rel (m.dk t h)).1, h.shares, (h.lk.rel (m.dk t h)).2.2⟩ := by
  unfold Mc.s2
  cases h.ready <;> rfl
theorem s2_tch (m : Mc) (t : Nat) (h : Th) (c : Int) (k : Bool) : m.s2 t h (.tch c k) =
    bif !k then ⟨false, .tch ((m.dk t h).load 0).1 true, h.lk, h.alone, h.shares, ((m.dk t h).load 0).2⟩
    else ⟨true, .tch c k, h.lk, h.alone, h.shares, ((m.dk t h).store 0 (uw (c + 1))).answer 2 (iw c)⟩ := by
  unfold Mc.s2
  cases h.ready <;> cases k <;> rfl
theorem s2_shr (m : Mc) (t : Nat) (h : Th) (b w : Int) (k : Bool) : m.s2 t h (.shr b w k) =
    bif !k then ⟨false, .shr b (iw ((m.dk t h).load 1).1) (decide (b < 0) || decide (0 ≤ iw ((m.dk t h).load 1).1)), h.lk, h.alone, h.shares, ((m.dk t h).load 1).2⟩
    else bif ((m.dk t h).swap 1 (uw w) (uw (iw (w + b)))).1 then ⟨true, .shr b w false, h.lk, h.alone, decide (0 < b), bif decide (0 < b) then ((m.dk t h).swap 1 (uw w) (uw (iw (w + b)))).2.point else ((m.dk t h).swap 1 (uw w) (uw (iw (w + b)))).2⟩
    else ⟨false, .shr b w false, h.lk, h.alone, h.shares, ((m.dk t h).swap 1 (uw w) (uw (iw (w + b)))).2⟩ := by
  unfold Mc.s2
  cases h.ready <;> cases k <;> rfl
/-- the lock that an acquire's step begins from -/
def Th.lk0 (h : Th) : Lk := bif h.ready then h.lk else { h.lk with at_ := 0 }
theorem s2_acq5 (m : Mc) (t : Nat) (h : Th) (h5 : h.lk.kd ≠ 5) : m.s2 t h .acq = ⟨(h.lk0.acq (m.dk t h)).1, .acq, (h.lk0.acq (m.dk t h)).2.1, (h.lk0.acq (m.dk t h)).1, h.shares, (h.lk0.acq (m.dk t h)).2.2⟩ := by
  unfold Mc.s2 Th.lk0
  cases h.ready with
  | true => rfl
  | false =>
    have hb : ∀ d, h.lk.beg d = (false, { h.lk with at_ := 0 }, d) := fun d => by
      unfold Lk.beg
      rw [show (h.lk.kd == 5) = false by simpa using h5]
      rfl
    dsimp only [cond_false, Ts.ready]
    rw [hb]
    rfl

/-- what holds of a thread, whatever the kind -/
structure WF (kd : Int) (h : Th) : Prop where
  acq : h.task = some .acq → h.alone = false ∧ h.shares = false
  rel : h.task = some .rel → h.alone = true
  tch : ∀ c k, h.task = some (.tch c k) → h.alone = true
  shr : ∀ b w k, h.task = some (.shr b w k) → h.alone = false ∧ (k = true → -9223372036854775808 ≤ w ∧ w ≤ 9223372036854775807) ∧ ((b = 1 ∧ kd = 7 ∧ h.shares = false ∧ (k = true → 0 ≤ w)) ∨ (b = -1 ∧ h.shares = true))
  sh : h.shares = true → kd = 7
  ex : h.alone = true → h.shares = false
theorem wf_z (kd : Int) : WF kd thz := ⟨(fun e => by cases e), (fun e => by cases e), (fun _ _ e => by cases e), (fun _ _ _ e => by cases e), (fun e => by cases e), (fun e => by cases e)⟩
/-- machine and threads -/
structure Gd (m : Mc) : Prop where
  hist : Hist m
  kd : ∀ (t : Nat) (h : Th), m.ths[t]? = some h → h.lk.kd = m.kd ∧ h.lk.me = t ∧ h.lk.all = m.ths.length
  wf : ∀ t, WF m.kd (m.tt t)
abbrev Sm (l : Lk) (r : Bool × Lk × Dk) : Prop := r.2.1.me = l.me ∧ r.2.1.all = l.all
theorem sm_up {l l' : Lk} {d : Dk} (h : l'.me = l.me ∧ l'.all = l.all) : Sm l (l'.up d) := q_if (P := Sm l) h h
theorem sm_acq (l : Lk) (d : Dk) : Sm l (l.acq d) :=
  let r : l.me = l.me ∧ l.all = l.all := ⟨rfl, rfl⟩
  q_if (P := Sm l) (q_if (P := Sm l) r (q_if (P := Sm l) (q_if (P := Sm l) r r) r))
    (q_if (P := Sm l) (q_if (P := Sm l) r (q_if (P := Sm l) r (q_if (P := Sm l) (q_if (P := Sm l) r r) r)))
      (q_if (P := Sm l) (q_if (P := Sm l) r (q_if (P := Sm l) r (q_if (P := Sm l) (q_if (P := Sm l) (q_if (P := Sm l) r r) r) (q_if (P := Sm l) r (q_if (P := Sm l) r (q_if (P := Sm l) r r))))))
        (q_if (P := Sm l) (q_if (P := Sm l) r (q_if (P := Sm l) r (q_if (P := Sm l) (q_if (P := Sm l) r (q_if (P := Sm l) (sm_up r) r)) (q_if (P := Sm l) r (sm_up r)))))
          (q_if (P := Sm l) (q_if (P := Sm l) r (q_if (P := Sm l) r (q_if (P := Sm l) r (q_if (P := Sm l) r (q_if (P := Sm l) r (q_if (P := Sm l) r r)))))) (q_if (P := Sm l) r r)))))
theorem sm_rel (l : Lk) (d : Dk) : Sm l (l.rel d) :=
  let r : l.me = l.me ∧ l.all = l.all := ⟨rfl, rfl⟩
  q_if (P := Sm l) r (q_if (P := Sm l) r (q_if (P := Sm l) (q_if (P := Sm l) r (q_if (P := Sm l) (q_if (P := Sm l) r r) r)) (q_if (P := Sm l) r (q_if (P := Sm l) r r))))
theorem sm_beg (l : Lk) (d : Dk) : Sm l (l.beg d) := by
  unfold Lk.beg
  exact q_if (P := Sm l) (q_if (P := Sm l) ⟨rfl, rfl⟩ ⟨rfl, rfl⟩) ⟨rfl, rfl⟩
theorem s2_same (m : Mc) (t : Nat) (h : Th) (p : Tp) : (m.s2 t h p).lk.me = h.lk.me ∧ (m.s2 t h p).lk.all = h.lk.all := by
  have hr : ∀ s : Ts, s.ready.lk.me = s.lk.me ∧ s.ready.lk.all = s.lk.all := fun s => by
    obtain ⟨o, p, l, al, sh, d⟩ := s
    cases p with
    | acq => exact sm_beg l d
    | _ => exact ⟨rfl, rfl⟩
  have hs : ∀ s : Ts, s.step.lk.me = s.lk.me ∧ s.step.lk.all = s.lk.all := fun s => by
    obtain ⟨o, p, l, al, sh, d⟩ := s
    cases p with
    | acq => exact sm_acq l d
    | rel => exact sm_rel l d
    | shr b w k =>
      cases k
      · exact ⟨rfl, rfl⟩
      · unfold Ts.step
        dsimp only
        cases (d.swap 1 (uw w) (uw (iw (w + b)))).1 <;> exact ⟨rfl, rfl⟩
    | tch c k => cases k <;> exact ⟨rfl, rfl⟩
  have key : ∀ (s : Ts) (b : Bool), (let s1 := bif b then s else s.ready; bif s1.over then s1 else s1.step).lk.me = s.lk.me ∧ (let s1 := bif b then s else s.ready; bif s1.over then s1 else s1.step).lk.all = s.lk.all := by
    intro s b
    dsimp only
    cases b
    · dsimp only [cond_false]
      cases s.ready.over
      · exact ⟨(hs _).1.trans (hr s).1, (hs _).2.trans (hr s).2⟩
      · exact hr s
    · dsimp only [cond_true]
      cases s.over
      · exact hs s
      · exact ⟨rfl, rfl⟩
  exact key _ _
theorem s2_acqa (m : Mc) (t : Nat) (h : Th) : (m.s2 t h .acq).task = .acq ∧ (m.s2 t h .acq).alone = (m.s2 t h .acq).over ∧ (m.s2 t h .acq).shares = h.shares := by
  unfold Mc.s2
  cases h.ready with
  | true => exact ⟨rfl, rfl, rfl⟩
  | false =>
    dsimp only [cond_false]
    cases hb : (Ts.ready ⟨false, .acq, h.lk, h.alone, h.shares, ⟨m.words, m.log, t, m.moves, false, (m.calls[h.last.toNat]?.getD cal0).pt, h.ak, h.av⟩⟩).over with
    | true => exact ⟨rfl, rfl, rfl⟩
    | false => exact ⟨rfl, rfl, rfl⟩
/-- a thread's own well-being behind a step -/
theorem wf_step {m : Mc} {t : Nat} {h : Th} {p : Tp} (hp : h.task = some p) (W : WF m.kd h) : WF m.kd ⟨bif (m.s2 t h p).over then none else some (m.s2 t h p).task, true, h.last, (m.s2 t h p).d.ak, (m.s2 t h p).d.av, (m.s2 t h p).lk, (m.s2 t h p).alone, (m.s2 t h p).shares⟩ := by
  cases p with
  | acq =>
    obtain ⟨e1, e2, e3⟩ := s2_acqa m t h
    rw [e1, e2, e3, (W.acq hp).2]
    cases (m.s2 t h .acq).over
    · exact ⟨fun _ => ⟨rfl, rfl⟩, (fun e => by cases e), (fun _ _ e => by cases e), (fun _ _ _ e => by cases e), (fun e => by cases e), (fun e => by cases e)⟩
    · exact ⟨(fun e => by cases e), (fun e => by cases e), (fun _ _ e => by cases e), (fun _ _ _ e => by cases e), (fun e => by cases e), fun _ => rfl⟩
  | rel =>
    rw [s2_rel]
    dsimp only
    have hs := W.ex (W.rel hp)
    rw [hs]
    cases (h.lk.rel (m.dk t h)).1
    · exact ⟨(fun e => by cases e), fun _ => rfl, (fun _ _ e => by cases e), (fun _ _ _ e => by cases e), (fun e => by cases e), fun _ => rfl⟩
    · exact ⟨(fun e => by cases e), (fun e => by cases e), (fun _ _ e => by cases e), (fun _ _ _ e => by cases e), (fun e => by cases e), fun _ => rfl⟩
  | tch c k =>
    have ha := W.tch c k hp
    have hs := W.ex ha
    rw [s2_tch]
    cases k
    · exact ⟨(fun e => by cases e), (fun e => by cases e), fun _ _ _ => ha, (fun _ _ _ e => by cases e), W.sh, W.ex⟩
    · exact ⟨(fun e => by cases e), (fun e => by cases e), (fun _ _ e => by cases e), (fun _ _ _ e => by cases e), W.sh, W.ex⟩
  | shr b w k =>
    obtain ⟨ha, hw, hb⟩ := W.shr b w k hp
    have hi : ∀ x : Int, -9223372036854775808 ≤ iw x ∧ iw x ≤ 9223372036854775807 := fun x => by unfold iw wrap64; omega
    rw [s2_shr]
    cases k
    · refine ⟨(fun e => by cases e), (fun e => by cases e), (fun _ _ e => by cases e), fun b' w' k' e => ?_, W.sh, W.ex⟩
      have e' : Tp.shr b (iw ((m.dk t h).load 1).1) (decide (b < 0) || decide (0 ≤ iw ((m.dk t h).load 1).1)) = Tp.shr b' w' k' := by
        have e0 : some (Tp.shr b (iw ((m.dk t h).load 1).1) (decide (b < 0) || decide (0 ≤ iw ((m.dk t h).load 1).1))) = some (Tp.shr b' w' k') := e
        injection e0
      injection e' with e1 e2 e3
      subst e1 e2 e3
      refine ⟨ha, fun _ => hi _, ?_⟩
      rcases hb with ⟨rfl, h7, hs, _⟩ | ⟨rfl, hs⟩
      · refine Or.inl ⟨rfl, h7, hs, fun e => ?_⟩
        rw [show decide ((1 : Int) < 0) = false by decide, Bool.false_or] at e
        exact of_decide_eq_true e
      · exact Or.inr ⟨rfl, hs⟩
    · cases ((m.dk t h).swap 1 (uw w) (uw (iw (w + b)))).1
      · refine ⟨(fun e => by cases e), (fun e => by cases e), (fun _ _ e => by cases e), fun b' w' k' e => ?_, W.sh, W.ex⟩
        have e' : Tp.shr b w false = Tp.shr b' w' k' := by
          have e0 : some (Tp.shr b w false) = some (Tp.shr b' w' k') := e
          injection e0
        injection e' with e1 e2 e3
        subst e1 e2 e3
        refine ⟨ha, (fun e => by cases e), ?_⟩
        rcases hb with ⟨rfl, h7, hs, _⟩ | ⟨rfl, hs⟩
        · exact Or.inl ⟨rfl, h7, hs, (fun e => by cases e)⟩
        · exact Or.inr ⟨rfl, hs⟩
      · refine ⟨(fun e => by cases e), (fun e => by cases e), (fun _ _ e => by cases e), (fun _ _ _ e => by cases e), fun e => ?_, fun e => ?_⟩
        · rcases hb with ⟨_, h7, _⟩ | ⟨rfl, _⟩
          · exact h7
          · cases e
        · have : h.alone = true := e
          rw [ha] at this
          cases this
theorem bif_some {α : Type} {b : Bool} {x : Option α} {p : α} (h : (bif b then none else x) = some p) : b = false ∧ x = some p := by
  cases b
  · exact ⟨rfl, h⟩
  · cases h
theorem bif_some' {α : Type} {b : Bool} {x : Option α} {p : α} (h : (bif b then x else none) = some p) : b = true ∧ x = some p := by
  cases b
  · cases h
  · exact ⟨rfl, h⟩
theorem wf_begun {m : Mc} {h : Th} {p : Tp} {op : Int} {l a v : Int} (hm : m.make h op = some p) (W : WF m.kd h) : WF m.kd { h with task := some p, ready := false, last := l, ak := a, av := v } := by
  unfold Mc.make at hm
  cases h0 : op == 120 with
  | true =>
    rw [h0] at hm
    obtain ⟨e, hm⟩ := bif_some (b := h.alone || h.shares) hm
    obtain ⟨ha, hs⟩ := Bool.or_eq_false_iff.1 e
    injection hm with hm
    subst hm
    exact ⟨fun _ => ⟨ha, hs⟩, (fun e => by cases e), (fun _ _ e => by cases e), (fun _ _ _ e => by cases e), W.sh, W.ex⟩
  | false =>
  cases h1 : op == 121 with
  | true =>
    rw [h0, h1] at hm
    obtain ⟨ha, hm⟩ := bif_some' (b := h.alone) hm
    injection hm with hm
    subst hm
    exact ⟨(fun e => by cases e), fun _ => ha, (fun _ _ e => by cases e), (fun _ _ _ e => by cases e), W.sh, W.ex⟩
  | false =>
  cases h2 : op == 122 with
  | true =>
    rw [h0, h1, h2] at hm
    obtain ⟨e, hm⟩ := bif_some (b := m.kd != 7 || (h.alone || h.shares)) hm
    obtain ⟨h7, e⟩ := Bool.or_eq_false_iff.1 e
    obtain ⟨ha, hs⟩ := Bool.or_eq_false_iff.1 e
    injection hm with hm
    subst hm
    refine ⟨(fun e => by cases e), (fun e => by cases e), (fun _ _ e => by cases e), fun b w k e => ?_, W.sh, W.ex⟩
    have e' : Tp.shr 1 0 false = Tp.shr b w k := by
      have e0 : some (Tp.shr 1 0 false) = some (Tp.shr b w k) := e
      injection e0
    injection e' with e1 e2 e3
    subst e1 e2 e3
    exact ⟨ha, (fun e => by cases e), Or.inl ⟨rfl, by simpa using h7, hs, (fun e => by cases e)⟩⟩
  | false =>
  cases h3 : op == 123 with
  | true =>
    rw [h0, h1, h2, h3] at hm
    obtain ⟨hs, hm⟩ := bif_some' (b := h.shares) hm
    injection hm with hm
    subst hm
    refine ⟨(fun e => by cases e), (fun e => by cases e), (fun _ _ e => by cases e), fun b w k e => ?_, W.sh, W.ex⟩
    have e' : Tp.shr (-1) 0 false = Tp.shr b w k := by
      have e0 : some (Tp.shr (-1) 0 false) = some (Tp.shr b w k) := e
      injection e0
    injection e' with e1 e2 e3
    subst e1 e2 e3
    refine ⟨?_, (fun e => by cases e), Or.inr ⟨rfl, hs⟩⟩
    show h.alone = false
    have := W.ex
    cases ha : h.alone
    · rfl
    · rw [this ha] at hs
      cases hs
  | false =>
  cases h4 : op == 124 with
  | true =>
    rw [h0, h1, h2, h3, h4] at hm
    obtain ⟨ha, hm⟩ := bif_some' (b := h.alone) hm
    injection hm with hm
    subst hm
    exact ⟨(fun e => by cases e), (fun e => by cases e), fun _ _ _ => ha, (fun _ _ _ e => by cases e), W.sh, W.ex⟩
  | false =>
    rw [h0, h1, h2, h3, h4] at hm
    cases hm
theorem gd0 (k T : Int) (hT : 0 ≤ T) : Gd (mc0 k T) := by
  have hth : ∀ t h, (mc0 k T).ths[t]? = some h → h = th0 k T t ∧ t < T.toNat := fun t h hh => by
    have : ((List.range T.toNat).map (th0 k T))[t]? = some h := hh
    rw [List.getElem?_map] at this
    cases hr : (List.range T.toNat)[t]? with
    | none => rw [hr] at this; cases this
    | some z =>
      rw [hr] at this
      injection this with this
      obtain ⟨h1, h2⟩ := List.getElem?_eq_some_iff.1 hr
      rw [List.getElem_range] at h2
      subst h2
      exact ⟨this.symm, by simpa using h1⟩
  refine ⟨hist0 k T, fun t h hh => ?_, fun t => ?_⟩
  · obtain ⟨rfl, ht⟩ := hth t h hh
    refine ⟨rfl, rfl, ?_⟩
    show T = (((List.range T.toNat).map (th0 k T)).length : Nat)
    simp
    omega
  · by_cases ht : t < (mc0 k T).ths.length
    · obtain ⟨e, _⟩ := hth t _ (tt_some ht)
      rw [e]
      exact ⟨(fun e => by cases e), (fun e => by cases e), (fun _ _ e => by cases e), (fun _ _ _ e => by cases e), (fun e => by cases e), (fun e => by cases e)⟩
    · rw [tt_out (by omega)]
      exact wf_z _
theorem gd_move {m : Mc} (G : Gd m) (v : Mo) : Gd (m.move v).2 := by
  have hh0 := hist_move G.hist v
  have hk := move_kind m v
  generalize (m.move v).2 = m' at hk hh0 ⊢
  cases hk with
  | full h => exact G
  | tick => exact ⟨hh0, G.kd, G.wf⟩
  | begun t h p w ht hh hn hm =>
    refine ⟨hh0, fun s h' hs => ?_, fun s => ?_⟩
    · have h2 : (m.ths.set t { h with task := some p, ready := false, last := (m.calls.length : Int), ak := 1, av := 0 })[s]? = some h' := hs
      show _ ∧ _ ∧ h'.lk.all = ((m.ths.set t _).length : Nat)
      rw [List.length_set]
      by_cases e : s = t
      · subst e
        rw [List.getElem?_set_self (List.getElem?_eq_some_iff.1 hh).1] at h2
        injection h2 with h2
        subst h2
        exact G.kd s h hh
      · rw [List.getElem?_set_ne (fun e' => e e'.symm)] at h2
        exact G.kd s h' h2
    · by_cases e : s = t
      · subst e
        rw [tt_begun_self hh]
        have := G.wf s
        rw [tt_of hh] at this
        exact wf_begun hm this
      · rw [tt_begun_ne e]
        exact G.wf s
  | step t h p hh hp =>
    refine ⟨hh0, fun s h' hs => ?_, fun s => ?_⟩
    · rw [step_eq] at hs
      have h2 : (m.ths.set t (⟨bif (m.s2 t h p).over then none else some (m.s2 t h p).task, true, h.last, (m.s2 t h p).d.ak, (m.s2 t h p).d.av, (m.s2 t h p).lk, (m.s2 t h p).alone, (m.s2 t h p).shares⟩ : Th))[s]? = some h' := hs
      show _ ∧ _ ∧ h'.lk.all = ((m.ths.set t _).length : Nat)
      rw [List.length_set]
      by_cases e : s = t
      · subst e
        rw [List.getElem?_set_self (List.getElem?_eq_some_iff.1 hh).1] at h2
        injection h2 with h2
        subst h2
        obtain ⟨k1, k2, k3⟩ := G.kd s h hh
        obtain ⟨k4, k5⟩ := s2_same m s h p
        exact ⟨(s2_kd m s h p).trans k1, k4.trans k2, k5.trans k3⟩
      · rw [List.getElem?_set_ne (fun e' => e e'.symm)] at h2
        exact G.kd s h' h2
    · by_cases e : s = t
      · subst e
        rw [tt_step_self hh]
        have := G.wf s
        rw [tt_of hh] at this
        exact wf_step hp this
      · rw [tt_step_ne e]
        exact G.wf s
end Go.Proofs.Ytjnmlgfkiebkgaa
namespace Go.Proofs.Ytjnmlgfkiebkgaa
open Go.RowKit
set_option linter.unusedVariables false
set_option linter.unusedSimpArgs false

/-- where a thread stands in its acquire -/
def Th.pl (h : Th) : Int := match h.task with
  | some .acq => bif h.ready then h.lk.at_ else 0
  | _ => 0
/-- it has come, and waits -/
def Th.wt (h : Th) : Bool := (aft { h.lk with at_ := h.pl }).isSome
/-- the point of its last call -/
def Mc.lpt (m : Mc) (t : Nat) : Int := (m.calls[(m.tt t).last.toNat]?.getD cal0).pt
def Mc.lbeg (m : Mc) (t : Nat) : Int := (m.calls[(m.tt t).last.toNat]?.getD cal0).beg
theorem wt_task {h : Th} (e : h.wt = true) : h.task = some .acq ∧ h.ready = true := by
  unfold Th.wt at e
  have h0 : h.pl = 0 → False := fun h0 => by
    rw [h0, aft_zero rfl] at e
    cases e
  unfold Th.pl at h0
  cases ht : h.task with
  | none => rw [ht] at h0; exact absurd rfl h0
  | some p =>
    rw [ht] at h0
    cases p with
    | acq =>
      refine ⟨rfl, ?_⟩
      cases hr : h.ready with
      | true => rfl
      | false => rw [hr] at h0; exact absurd rfl h0
    | _ => exact absurd rfl h0
theorem lk0_pl {h : Th} (e : h.task = some .acq) : h.lk0 = { h.lk with at_ := h.pl } := by
  unfold Th.lk0 Th.pl
  rw [e]
  cases h.ready <;> rfl
/-- what a step leaves of the others -/
structure Otr (m m' : Mc) (t : Nat) : Prop where
  tt : ∀ s, s ≠ t → m'.tt s = m.tt s
  pt : ∀ s, s ≠ t → (m.tt s).task = some .acq → m'.lpt s = m.lpt s ∧ m'.lbeg s = m.lbeg s
theorem last_of {m : Mc} (H : Hist m) {s : Nat} {p : Tp} (e : (m.tt s).task = some p) : ∃ (i : Nat) (c : Cal), (m.tt s).last = (i : Int) ∧ m.calls[i]? = some c ∧ c.th = s ∧ c.fin = -1 ∧ c.op = p.op := by
  have hlt : s < m.ths.length := by
    by_cases h : s < m.ths.length
    · exact h
    · rw [tt_out (by omega)] at e
      cases e
  exact H.thr s _ p (tt_some hlt) e
theorem lpt_lt {m : Mc} (H : Hist m) {s : Nat} (e : (m.tt s).wt = true) : m.lpt s < m.moves := by
  obtain ⟨i, c, h1, h2, _⟩ := last_of H (wt_task e).1
  unfold Mc.lpt
  rw [h1, show ((i : Int)).toNat = i from rfl, h2]
  exact (H.cal i c h2).pt.2
theorem oth_step {m : Mc} (H : Hist m) {t : Nat} {h : Th} {p : Tp} (hh : m.ths[t]? = some h) (hp : h.task = some p) : Otr m (m.step t h p) t := by
  refine ⟨fun s hs => tt_step_ne hs, fun s hs e => ?_⟩
  obtain ⟨i, c, h1, h2, h3, _⟩ := last_of H e
  obtain ⟨j, c', k1, k2, k3, _⟩ := H.thr t h p hh hp
  have hij : j ≠ i := fun e9 => by
    subst e9
    rw [h2] at k2
    injection k2 with k2
    subst k2
    omega
  have key : (m.step t h p).calls[i]? = m.calls[i]? := by
    rw [step_eq]
    show (m.calls.set h.last.toNat _)[i]? = _
    rw [k1, show ((j : Int)).toNat = j from rfl, List.getElem?_set_ne hij]
  unfold Mc.lpt Mc.lbeg
  rw [tt_step_ne hs, h1, show ((i : Int)).toNat = i from rfl, key]
  exact ⟨rfl, rfl⟩
theorem oth_begun {m : Mc} (H : Hist m) {t : Nat} {h : Th} {p : Tp} {v : Mo} : Otr m (m.begun t h p v) t := by
  refine ⟨fun s hs => tt_begun_ne hs, fun s hs e => ?_⟩
  obtain ⟨i, c, h1, h2, _⟩ := last_of H e
  have key : (m.begun t h p v).calls[i]? = m.calls[i]? := by
    show (m.calls ++ [_])[i]? = _
    rw [List.getElem?_append_left (List.getElem?_eq_some_iff.1 h2).1]
  unfold Mc.lpt Mc.lbeg
  rw [tt_begun_ne hs, h1, show ((i : Int)).toNat = i from rfl, key]
  exact ⟨rfl, rfl⟩
theorem oth_tick {m m' : Mc} (h : m' = { m with moves := m.moves + 1 }) (t : Nat) : Otr m m' t := by
  subst h
  exact ⟨fun _ _ => rfl, fun _ _ _ => ⟨rfl, rfl⟩⟩

/-- the threads that have come, in their order; the head may be in -/
structure QS (m : Mc) (Q : List Nat) : Prop where
  nd : Q.Nodup
  mem : ∀ t, t ∈ Q ↔ ((m.tt t).alone || (m.tt t).wt) = true
  hd : ∀ t, (m.tt t).alone = true → Q.head? = some t
  inc : Q.Pairwise (fun a b => (m.tt a).wt = true → m.lpt a < m.lpt b)
section
variable {m m' : Mc} {t : Nat} {Q R : List Nat}
theorem QS.one (q : QS m Q) {s t : Nat} (h : (m.tt s).alone = true) (h' : (m.tt t).alone = true) : s = t := by
  have := q.hd s h
  rw [q.hd t h'] at this
  injection this with this
  exact this.symm
/-- the head has come ahead of all others that wait -/
theorem QS.first (q : QS m (t :: R)) (hw : (m.tt t).wt = true) {s : Nat} (hs : s ≠ t) (h : (m.tt s).wt = true) : m.lpt t < m.lpt s := by
  have hm : s ∈ t :: R := (q.mem s).2 (by rw [h]; simp)
  rcases List.mem_cons.1 hm with e | hm
  · exact absurd e hs
  · exact (List.pairwise_cons.1 q.inc).1 s hm hw
theorem QS.inc_of (q : QS m Q) (o : Otr m m' t) (h : ∀ s ∈ Q, s = t → ((m'.tt t).wt = true → (m.tt t).wt = true) ∧ ((m'.tt t).wt = true → m'.lpt t = m.lpt t)) (hal : ∀ s ∈ Q, (m.tt s).wt = true ∨ Q.head? = some s) (hall : (m.tt t).wt = true → m'.lpt t = m.lpt t) : Q.Pairwise (fun a b => (m'.tt a).wt = true → m'.lpt a < m'.lpt b) := by
  have h1 := q.inc
  have hnd := q.nd
  clear q
  induction Q with
  | nil => exact .nil
  | cons a Q ih =>
    obtain ⟨g1, g2⟩ := List.pairwise_cons.1 h1
    obtain ⟨n1, n2⟩ := List.nodup_cons.1 hnd
    have hnot : ∀ b ∈ Q, (m.tt b).wt = true := fun b hb => by
      rcases hal b (List.mem_cons_of_mem _ hb) with h9 | h9
      · exact h9
      · injection h9 with h9
        subst h9
        exact absurd hb n1
    refine List.pairwise_cons.2 ⟨fun b hb hw => ?_, ih (fun s hs => h s (List.mem_cons_of_mem _ hs)) (fun s hs => Or.inl (hnot s hs)) g2 n2⟩
    have hb' : m'.lpt b = m.lpt b := by
      by_cases e : b = t
      · subst e
        exact hall (hnot b hb)
      · exact (o.pt b e (wt_task (hnot b hb)).1).1
    by_cases e : a = t
    · subst e
      obtain ⟨k1, k2⟩ := h a (List.mem_cons_self ..) rfl
      rw [k2 hw, hb']
      exact g1 b hb (k1 hw)
    · rw [o.tt a e] at hw
      rw [(o.pt a e (wt_task hw).1).1, hb']
      exact g1 b hb hw
theorem QS.wait (q : QS m Q) : ∀ s ∈ Q, (m.tt s).wt = true ∨ Q.head? = some s := fun s hs => by
  have := (q.mem s).1 hs
  cases hw : (m.tt s).wt with
  | true => exact Or.inl rfl
  | false =>
    rw [hw, Bool.or_false] at this
    exact Or.inr (q.hd s this)
theorem QS.same (q : QS m Q) (o : Otr m m' t) (ha : (m'.tt t).alone = (m.tt t).alone) (hw : (m'.tt t).wt = (m.tt t).wt) (hp : (m.tt t).wt = true → m'.lpt t = m.lpt t) : QS m' Q := by
  refine ⟨q.nd, fun s => ?_, fun s h => ?_, q.inc_of o (fun s _ _ => ⟨fun e => by rw [← hw]; exact e, fun e => hp (by rw [← hw]; exact e)⟩) q.wait hp⟩
  · by_cases e : s = t
    · subst e
      rw [ha, hw]
      exact q.mem s
    · rw [o.tt s e]
      exact q.mem s
  · by_cases e : s = t
    · subst e
      rw [ha] at h
      exact q.hd s h
    · rw [o.tt s e] at h
      exact q.hd s h
theorem QS.enter (q : QS m (t :: R)) (o : Otr m m' t) (ha : (m'.tt t).alone = true) (hw : (m'.tt t).wt = false) (hw0 : (m.tt t).wt = true) (hp : m'.lpt t = m.lpt t) : QS m' (t :: R) := by
  refine ⟨q.nd, fun s => ?_, fun s h => ?_, q.inc_of o (fun s _ _ => ⟨(fun e => by rw [hw] at e; cases e), (fun e => by rw [hw] at e; cases e)⟩) q.wait (fun _ => hp)⟩
  · by_cases e : s = t
    · subst e
      rw [ha]
      simp
    · rw [o.tt s e]
      exact q.mem s
  · by_cases e : s = t
    · subst e
      rfl
    · rw [o.tt s e] at h
      exact q.hd s h
theorem QS.leave (q : QS m (t :: R)) (o : Otr m m' t) (ha : (m'.tt t).alone = false) (hw : (m'.tt t).wt = false) (hw0 : (m.tt t).wt = false) : QS m' R := by
  obtain ⟨n1, n2⟩ := List.nodup_cons.1 q.nd
  have hI := q.inc_of o (fun s _ _ => ⟨(fun e => by rw [hw] at e; cases e), (fun e => by rw [hw] at e; cases e)⟩) q.wait (fun e => by rw [hw0] at e; cases e)
  refine ⟨n2, fun s => ?_, fun s h => ?_, (List.pairwise_cons.1 hI).2⟩
  · by_cases e : s = t
    · subst e
      rw [ha, hw]
      exact ⟨fun h => absurd h n1, fun h => by cases h⟩
    · rw [o.tt s e, ← q.mem s]
      exact ⟨fun h => List.mem_cons_of_mem _ h, fun h => (List.mem_cons.1 h).resolve_left e⟩
  · by_cases e : s = t
    · subst e
      rw [ha] at h
      cases h
    · rw [o.tt s e] at h
      have := q.hd s h
      injection this with this
      exact absurd this.symm e
theorem QS.join (q : QS m Q) (H : Hist m) (o : Otr m m' t) (ha0 : (m.tt t).alone = false) (hw0 : (m.tt t).wt = false) (ha : (m'.tt t).alone = true ∧ Q = [] ∨ (m'.tt t).alone = false ∧ (m'.tt t).wt = true) (hp : m'.lpt t = m.moves) : QS m' (Q ++ [t]) := by
  have hn : t ∉ Q := fun h => by
    have := (q.mem t).1 h
    rw [ha0, hw0] at this
    cases this
  have hI := q.inc_of o (fun s hs e => absurd (e ▸ hs) hn) q.wait (fun e => by rw [hw0] at e; cases e)
  refine ⟨List.nodup_append.2 ⟨q.nd, by simp, fun a h1 b h2 e => ?_⟩, fun s => ?_, fun s h => ?_, List.pairwise_append.2 ⟨hI, by simp, fun a h1 b h2 hw => ?_⟩⟩
  · rw [List.mem_singleton] at h2
    subst h2 e
    exact hn h1
  · rw [List.mem_append, List.mem_singleton]
    by_cases e : s = t
    · subst e
      refine ⟨fun _ => ?_, fun _ => Or.inr rfl⟩
      rcases ha with ⟨h, _⟩ | ⟨_, h⟩ <;> rw [h] <;> simp
    · rw [o.tt s e, ← q.mem s]
      exact ⟨fun h => h.resolve_right e, Or.inl⟩
  · by_cases e : s = t
    · subst e
      rcases ha with ⟨_, rfl⟩ | ⟨h', _⟩
      · rfl
      · rw [h'] at h
        cases h
    · rw [o.tt s e] at h
      have := q.hd s h
      cases Q with
      | nil => cases this
      | cons a Q => exact this
  · rw [List.mem_singleton] at h2
    subst h2
    have e : a ≠ b := fun e => hn (e ▸ h1)
    rw [o.tt a e] at hw
    rw [(o.pt a e (wt_task hw).1).1, hp]
    exact lpt_lt H hw
end
end Go.Proofs.Ytjnmlgfkiebkgaa
namespace Go.Proofs.Ytjnmlgfkiebkgaa
open Go.RowKit
set_option linter.unusedVariables false
set_option linter.unusedSimpArgs false

/-- nothing of the lock's changes -/
structure Stl (m m' : Mc) (t : Nat) : Prop where
  oth : Otr m m' t
  al : (m'.tt t).alone = (m.tt t).alone
  lk : (m'.tt t).lk = (m.tt t).lk
  pl : (m'.tt t).pl = (m.tt t).pl
  sh : (m'.tt t).shares = (m.tt t).shares
  pt : (m.tt t).task = some .acq → m'.lpt t = m.lpt t ∧ m'.lbeg t = m.lbeg t
  wd : ∀ a, 1 ≤ a → wd m'.words a = wd m.words a
  wl : m'.words.length = m.words.length
  mv : m.moves ≤ m'.moves
  tl : m'.ths.length = m.ths.length
section
variable {m m' : Mc} {t : Nat}
theorem Stl.lks (S : Stl m m' t) (s : Nat) : (m'.tt s).lk = (m.tt s).lk := by
  by_cases e : s = t
  · subst e; exact S.lk
  · rw [S.oth.tt s e]
theorem Stl.als (S : Stl m m' t) (s : Nat) : (m'.tt s).alone = (m.tt s).alone := by
  by_cases e : s = t
  · subst e; exact S.al
  · rw [S.oth.tt s e]
theorem Stl.shs (S : Stl m m' t) (s : Nat) : (m'.tt s).shares = (m.tt s).shares := by
  by_cases e : s = t
  · subst e; exact S.sh
  · rw [S.oth.tt s e]
theorem Stl.pls (S : Stl m m' t) (s : Nat) : (m'.tt s).pl = (m.tt s).pl := by
  by_cases e : s = t
  · subst e; exact S.pl
  · rw [S.oth.tt s e]
theorem Stl.wts (S : Stl m m' t) (s : Nat) : (m'.tt s).wt = (m.tt s).wt := by
  unfold Th.wt
  rw [S.lks s, S.pls s]
theorem Stl.qs {Q : List Nat} (S : Stl m m' t) (q : QS m Q) : QS m' Q := q.same S.oth S.al (S.wts t) fun h => (S.pt (wt_task h).1).1
end
/-- a step of an acquire -/
structure AcqV (m m' : Mc) (t : Nat) (d : Dk) (l : Lk) (r : Bool × Lk × Dk) : Prop where
  req : r = l.acq d
  dw : d.words = m.words
  du : d.used = false
  dn : d.now = m.moves
  dp : d.pt = m.lpt t
  kd : l.kd = m.kd
  me : l.me = t
  all : l.all = m.ths.length
  lt : t < m.ths.length
  x : l.x = (m.tt t).lk.x
  y : l.y = (m.tt t).lk.y
  pl0 : l.at_ = (m.tt t).pl
  al0 : (m.tt t).alone = false
  sh0 : (m.tt t).shares = false
  wt0 : (m.tt t).wt = (aft l).isSome
  w : m'.words = r.2.2.words
  al : (m'.tt t).alone = r.1
  sh : (m'.tt t).shares = false
  lk : (m'.tt t).lk = r.2.1
  pl : (m'.tt t).pl = bif r.1 then 0 else r.2.1.at_
  wt : (m'.tt t).wt = (!r.1 && (aft r.2.1).isSome)
  lpt : m'.lpt t = r.2.2.pt
  lbeg : m'.lbeg t = m.lbeg t
  mv : m'.moves = m.moves + 1
  tl : m'.ths.length = m.ths.length
  oth : Otr m m' t
/-- a step of a release -/
structure RelV (m m' : Mc) (t : Nat) (d : Dk) (l : Lk) (r : Bool × Lk × Dk) : Prop where
  req : r = l.rel d
  dw : d.words = m.words
  du : d.used = false
  kd : l.kd = m.kd
  me : l.me = t
  all : l.all = m.ths.length
  lt : t < m.ths.length
  leq : l = (m.tt t).lk
  al0 : (m.tt t).alone = true
  sh0 : (m.tt t).shares = false
  pl0 : (m.tt t).pl = 0
  wt0 : (m.tt t).wt = false
  w : m'.words = r.2.2.words
  al : (m'.tt t).alone = !r.1
  sh : (m'.tt t).shares = false
  lk : (m'.tt t).lk = r.2.1
  pl : (m'.tt t).pl = 0
  wt : (m'.tt t).wt = false
  mv : m'.moves = m.moves + 1
  tl : m'.ths.length = m.ths.length
  oth : Otr m m' t
/-- a step of a share, or of the end of one -/
structure ShrV (m m' : Mc) (t : Nat) : Prop where
  kd : m.kd = 7
  al0 : (m.tt t).alone = false
  al : (m'.tt t).alone = false
  mv : m'.moves = m.moves + 1
  tl : m'.ths.length = m.ths.length
  lt : t < m.ths.length
  wl : m'.words.length = m.words.length
  oth : Otr m m' t
  how : (m'.words = m.words ∧ (m'.tt t).shares = (m.tt t).shares) ∨
    (∃ w : Int, 0 ≤ w ∧ w ≤ 9223372036854775807 ∧ wd m.words 1 = uw w ∧ m'.words = m.words.set 1 (uw (iw (w + 1))) ∧ (m.tt t).shares = false ∧ (m'.tt t).shares = true) ∨
    (∃ w : Int, -9223372036854775808 ≤ w ∧ w ≤ 9223372036854775807 ∧ wd m.words 1 = uw w ∧ m'.words = m.words.set 1 (uw (iw (w + -1))) ∧ (m.tt t).shares = true ∧ (m'.tt t).shares = false)
theorem pl_none {h : Th} (e : h.task = none) : h.pl = 0 := by unfold Th.pl; rw [e]
theorem wt_none {h : Th} (e : h.pl = 0) : h.wt = false := by
  unfold Th.wt
  rw [e, aft_zero rfl]
  rfl
theorem pl_ne {h : Th} {p : Tp} (e : h.task = some p) (hp : p ≠ .acq) : h.pl = 0 := by
  unfold Th.pl
  rw [e]
  cases p with
  | acq => exact absurd rfl hp
  | _ => rfl
theorem lpt_step {m : Mc} (H : Hist m) {t : Nat} {h : Th} {p : Tp} (hh : m.ths[t]? = some h) (hp : h.task = some p) : (m.step t h p).lpt t = (m.s2 t h p).d.pt ∧ (m.step t h p).lbeg t = m.lbeg t ∧ (m.dk t h).pt = m.lpt t := by
  obtain ⟨j, c', k1, k2, k3, _⟩ := H.thr t h p hh hp
  have hj := (List.getElem?_eq_some_iff.1 k2).1
  have e2 : (m.step t h p).calls[h.last.toNat]? = some (bif (m.s2 t h p).over then { m.calls[h.last.toNat]?.getD cal0 with pt := (m.s2 t h p).d.pt, fin := m.moves, ak := (m.s2 t h p).d.ak, av := (m.s2 t h p).d.av } else { m.calls[h.last.toNat]?.getD cal0 with pt := (m.s2 t h p).d.pt }) := by
    rw [step_eq]
    show (m.calls.set h.last.toNat _)[h.last.toNat]? = _
    rw [List.getElem?_set_self (by rw [k1]; exact hj)]
  have e3 : (m.tt t).last = h.last := by rw [tt_of hh]
  have e4 : ((m.step t h p).tt t).last = h.last := by rw [tt_step_self hh]
  unfold Mc.lpt Mc.lbeg Mc.dk
  rw [e3, e4, e2]
  refine ⟨?_, ?_, rfl⟩ <;> cases (m.s2 t h p).over <;> rfl
theorem len_step (m : Mc) (t : Nat) (h : Th) (p : Tp) : (m.step t h p).ths.length = m.ths.length ∧ (m.step t h p).words.length = m.words.length := by
  obtain ⟨h1, _⟩ := s2_ac m t h p
  rw [step_eq]
  refine ⟨?_, h1⟩
  show (m.ths.set t _).length = _
  rw [List.length_set]
theorem step_w (m : Mc) (t : Nat) (h : Th) (p : Tp) : (m.step t h p).words = (m.s2 t h p).d.words := by rw [step_eq]
theorem step_mv (m : Mc) (t : Nat) (h : Th) (p : Tp) : (m.step t h p).moves = m.moves + 1 := by rw [step_eq]
theorem acq_view {m : Mc} (G : Gd m) {t : Nat} {h : Th} (hh : m.ths[t]? = some h) (hp : h.task = some .acq) (h5 : m.kd ≠ 5) : ∃ l r, AcqV m (m.step t h .acq) t (m.dk t h) l r := by
  obtain ⟨g1, g2, g3⟩ := G.kd t h hh
  have gw := G.wf t
  rw [tt_of hh] at gw
  obtain ⟨w1, w2⟩ := gw.acq hp
  obtain ⟨e1, e2, e3⟩ := lpt_step G.hist hh hp
  have hs := s2_acq5 m t h (by rw [g1]; exact h5)
  rw [lk0_pl hp] at hs
  have ht := tt_step_self (p := .acq) hh
  obtain ⟨r, hr⟩ : ∃ r, r = Lk.acq { h.lk with at_ := h.pl } (m.dk t h) := ⟨_, rfl⟩
  rw [← hr] at hs
  rw [hs] at ht e1
  have hlt := (List.getElem?_eq_some_iff.1 hh).1
  refine ⟨{ h.lk with at_ := h.pl }, r, hr, rfl, rfl, rfl, e3, g1, g2, g3, hlt, ?_, ?_, ?_, ?_, ?_, ?_, ?_, ?_, ?_, ?_, ?_, ?_, e1, e2, ?_, (len_step m t h .acq).1, oth_step G.hist hh hp⟩
  · rw [tt_of hh]
  · rw [tt_of hh]
  · rw [tt_of hh]
  · rw [tt_of hh]; exact w1
  · rw [tt_of hh]; exact w2
  · rw [tt_of hh]; rfl
  · rw [step_w, hs]
  · rw [ht]
  · rw [ht]; exact w2
  · rw [ht]
  · rw [ht]
    dsimp only
    cases r.1 <;> rfl
  · rw [ht]
    dsimp only
    unfold Th.wt Th.pl
    cases r.1
    · rfl
    · dsimp only [cond_true]
      rw [aft_zero rfl]
      rfl
  · rw [step_mv]
theorem rel_view {m : Mc} (G : Gd m) {t : Nat} {h : Th} (hh : m.ths[t]? = some h) (hp : h.task = some .rel) : ∃ l r, RelV m (m.step t h .rel) t (m.dk t h) l r := by
  obtain ⟨g1, g2, g3⟩ := G.kd t h hh
  have gw := G.wf t
  rw [tt_of hh] at gw
  have w1 := gw.rel hp
  have w2 := gw.ex w1
  have hs := s2_rel m t h
  have ht := tt_step_self (p := .rel) hh
  obtain ⟨r, hr⟩ : ∃ r, r = Lk.rel h.lk (m.dk t h) := ⟨_, rfl⟩
  rw [← hr] at hs
  rw [hs] at ht
  have hlt := (List.getElem?_eq_some_iff.1 hh).1
  have hp0 : h.pl = 0 := pl_ne hp (by simp)
  have hp1 : ((m.step t h .rel).tt t).pl = 0 := by
    rw [ht]
    unfold Th.pl
    dsimp only
    cases r.1 <;> rfl
  refine ⟨h.lk, r, hr, rfl, rfl, g1, g2, g3, hlt, ?_, ?_, ?_, ?_, ?_, ?_, ?_, ?_, ?_, hp1, wt_none hp1, ?_, (len_step m t h .rel).1, oth_step G.hist hh hp⟩
  · rw [tt_of hh]
  · rw [tt_of hh]; exact w1
  · rw [tt_of hh]; exact w2
  · rw [tt_of hh]; exact hp0
  · rw [tt_of hh]; exact wt_none hp0
  · rw [step_w, hs]
  · rw [ht]
  · rw [ht]; exact w2
  · rw [ht]
  · rw [step_mv]
theorem tch_view {m : Mc} (G : Gd m) {t : Nat} {h : Th} {c : Int} {k : Bool} (hh : m.ths[t]? = some h) (hp : h.task = some (.tch c k)) : Stl m (m.step t h (.tch c k)) t := by
  have hs := s2_tch m t h c k
  have ht := tt_step_self (p := .tch c k) hh
  have hp0 : h.pl = 0 := pl_ne hp (by simp)
  have hw0 : (m.tt t).task ≠ some .acq := by rw [tt_of hh, hp]; simp
  have hz : ∀ a, 1 ≤ a → ∀ w, wd ((m.dk t h).store 0 w).words a = wd m.words a := fun a ha w => by
    rw [sto_w rfl (Int.le_refl 0)]
    exact wd_ne (by show 0 ≠ a; omega)
  have hl : ∀ w, ((m.dk t h).store 0 w).words.length = m.words.length := fun w => by
    rw [sto_w rfl (Int.le_refl 0), List.length_set]
    rfl
  refine ⟨oth_step G.hist hh hp, ?_, ?_, ?_, ?_, fun e => absurd e hw0, fun a ha => ?_, ?_, ?_, (len_step m t h _).1⟩
  · rw [ht, hs, tt_of hh]; cases k <;> rfl
  · rw [ht, hs, tt_of hh]; cases k <;> rfl
  · rw [ht, hs, tt_of hh, hp0]; cases k <;> rfl
  · rw [ht, hs, tt_of hh]; cases k <;> rfl
  · rw [step_w, hs]
    cases k
    · show wd ((m.dk t h).load 0).2.words a = _
      rw [ld_w]
      rfl
    · exact hz a ha _
  · rw [step_w, hs]
    cases k
    · show ((m.dk t h).load 0).2.words.length = _
      rw [ld_w]
      rfl
    · exact hl _
  · rw [step_mv]
    omega
theorem shr_view {m : Mc} (G : Gd m) {t : Nat} {h : Th} {b w : Int} {k : Bool} (hh : m.ths[t]? = some h) (hp : h.task = some (.shr b w k)) (hl1 : 2 ≤ m.words.length) : ShrV m (m.step t h (.shr b w k)) t := by
  have gw := G.wf t
  rw [tt_of hh] at gw
  obtain ⟨w1, w2, w3⟩ := gw.shr b w k hp
  have hs := s2_shr m t h b w k
  have ht := tt_step_self (p := .shr b w k) hh
  have h7 : m.kd = 7 := by
    rcases w3 with ⟨_, h7, _⟩ | ⟨_, h7⟩
    · exact h7
    · exact gw.sh h7
  have hin : (0 : Int) ≤ 1 ∧ (1 : Int) < (m.dk t h).words.length := ⟨by decide, by show (1 : Int) < m.words.length; omega⟩
  refine ⟨h7, by rw [tt_of hh]; exact w1, ?_, by rw [step_mv], (len_step m t h _).1, (List.getElem?_eq_some_iff.1 hh).1, (len_step m t h _).2, oth_step G.hist hh hp, ?_⟩
  · rw [ht, hs]
    cases k
    · exact w1
    · cases ((m.dk t h).swap 1 (uw w) (uw (iw (w + b)))).1 <;> exact w1
  · rw [ht, step_w, hs, tt_of hh]
    cases k with
    | false =>
      refine Or.inl ⟨?_, rfl⟩
      show ((m.dk t h).load 1).2.words = _
      rw [ld_w]
      rfl
    | true =>
      have e1 := sw_b (o := uw w) (w := uw (iw (w + b))) (d := m.dk t h) rfl hin
      have e2 := sw_w (o := uw w) (w := uw (iw (w + b))) (d := m.dk t h) rfl hin
      cases hb : ((m.dk t h).swap 1 (uw w) (uw (iw (w + b)))).1 with
      | false =>
        rw [hb] at e1
        rw [← e1] at e2
        exact Or.inl ⟨e2, rfl⟩
      | true =>
        rw [hb] at e1
        rw [← e1] at e2
        have e3 : wd m.words 1 = uw w := by have h9 := e1.symm; rw [beq_iff_eq] at h9; exact h9
        obtain ⟨k1, k2⟩ := w2 rfl
        refine Or.inr ?_
        rcases w3 with ⟨rfl, _, g1, g2⟩ | ⟨rfl, g1⟩
        · exact Or.inl ⟨w, g2 rfl, k2, e3, e2, g1, rfl⟩
        · exact Or.inr ⟨w, k1, k2, e3, e2, g1, rfl⟩
theorem begun_view {m : Mc} (G : Gd m) {t : Nat} {h : Th} {p : Tp} {v : Mo} (hh : m.ths[t]? = some h) (hn : h.task = none) : Stl m (m.begun t h p v) t := by
  have ht := tt_begun_self (p := p) (v := v) hh
  have hp0 : h.pl = 0 := pl_none hn
  have hw0 : (m.tt t).task ≠ some .acq := by rw [tt_of hh, hn]; simp
  refine ⟨oth_begun G.hist, by rw [ht, tt_of hh], by rw [ht, tt_of hh], ?_, by rw [ht, tt_of hh], fun e => absurd e hw0, fun _ _ => rfl, rfl, by show m.moves ≤ m.moves + 1; omega, by show (m.ths.set t _).length = _; rw [List.length_set]⟩
  rw [ht, tt_of hh, hp0]
  cases p <;> rfl
/-- what a move may do -/
inductive MvV (m m' : Mc) : Prop
  | stl (t : Nat) : Stl m m' t → MvV m m'
  | acq (t : Nat) (d : Dk) (l : Lk) (r : Bool × Lk × Dk) : AcqV m m' t d l r → MvV m m'
  | rel (t : Nat) (d : Dk) (l : Lk) (r : Bool × Lk × Dk) : RelV m m' t d l r → MvV m m'
  | shr (t : Nat) : ShrV m m' t → MvV m m'
theorem mv_full {m : Mc} (h : 65536 ≤ m.moves) (v : Mo) : (m.move v).2 = m := by
  unfold Mc.move
  rw [show decide (65536 ≤ m.moves) = true by simpa using h]
  rfl
theorem mv_view {m : Mc} (G : Gd m) (h5 : m.kd ≠ 5) (hl : 2 ≤ m.words.length) (v : Mo) : MvV m (m.move v).2 := by
  have hk := move_kind m v
  generalize (m.move v).2 = m' at hk ⊢
  cases hk with
  | full h => exact .stl 0 ⟨⟨fun _ _ => rfl, fun _ _ _ => ⟨rfl, rfl⟩⟩, rfl, rfl, rfl, rfl, fun _ => ⟨rfl, rfl⟩, fun _ _ => rfl, rfl, Int.le_refl _, rfl⟩
  | tick => exact .stl 0 ⟨⟨fun _ _ => rfl, fun _ _ _ => ⟨rfl, rfl⟩⟩, rfl, rfl, rfl, rfl, fun _ => ⟨rfl, rfl⟩, fun _ _ => rfl, rfl, by show m.moves ≤ m.moves + 1; omega, rfl⟩
  | begun t h p w ht hh hn hm => exact .stl t (begun_view G hh hn)
  | step t h p hh hp =>
    cases p with
    | acq =>
      obtain ⟨l, r, V⟩ := acq_view G hh hp h5
      exact .acq t _ l r V
    | rel =>
      obtain ⟨l, r, V⟩ := rel_view G hh hp
      exact .rel t _ l r V
    | tch c k => exact .stl t (tch_view G hh hp)
    | shr b w k => exact .shr t (shr_view G hh hp hl)
/-- who comes in has come first -/
def Ev (m m' : Mc) : Prop := ∀ t, (m'.tt t).alone = true → (m.tt t).alone = false → ∀ s, s ≠ t → (m.tt s).wt = true → m'.lpt t < m.lpt s
theorem Stl.ev {m m' : Mc} {t : Nat} (S : Stl m m' t) : Ev m m' := fun s h1 h2 => by rw [S.als s, h2] at h1; cases h1
theorem ev_of {m m' : Mc} {t : Nat} (o : Otr m m' t) (h : (m'.tt t).alone = true → (m.tt t).alone = false → ∀ s, s ≠ t → (m.tt s).wt = true → m'.lpt t < m.lpt s) : Ev m m' := fun u h1 h2 => by
  by_cases e : u = t
  · subst e; exact h h1 h2
  · rw [o.tt u e, h2] at h1; cases h1
end Go.Proofs.Ytjnmlgfkiebkgaa
namespace Go.Proofs.Ytjnmlgfkiebkgaa
open Go.RowKit
set_option linter.unusedVariables false
set_option linter.unusedSimpArgs false

/-- the tickets of those who have come: from what is served on, one by one -/
def TC (x : Nat → Int) : Int → List Nat → Int → Prop
  | s, [], n => n = s
  | s, t :: Q, n => x t = s ∧ TC x (s + 1) Q n
theorem TC.congr {x x' : Nat → Int} {Q : List Nat} {a n : Int} (h : ∀ s ∈ Q, x' s = x s) (c : TC x a Q n) : TC x' a Q n := by
  induction Q generalizing a with
  | nil => exact c
  | cons b Q ih => exact ⟨(h b (List.mem_cons_self ..)).trans c.1, ih (fun s hs => h s (List.mem_cons_of_mem _ hs)) c.2⟩
theorem TC.app {x : Nat → Int} {Q : List Nat} {a n : Int} {t : Nat} (c : TC x a Q n) (h : x t = n) : TC x a (Q ++ [t]) (n + 1) := by
  induction Q generalizing a with
  | nil =>
    have c' : n = a := c
    exact ⟨h.trans c', by show n + 1 = a + 1; rw [c']⟩
  | cons b Q ih => exact ⟨c.1, ih c.2⟩
theorem TC.le {x : Nat → Int} {Q : List Nat} {a n : Int} (c : TC x a Q n) : a ≤ n := by
  induction Q generalizing a with
  | nil => exact Int.le_of_eq (Eq.symm c)
  | cons b Q ih => have := ih c.2; omega
theorem TC.ge {x : Nat → Int} {Q : List Nat} {a n : Int} (c : TC x a Q n) {t : Nat} (h : t ∈ Q) : a ≤ x t := by
  induction Q generalizing a with
  | nil => cases h
  | cons b Q ih =>
    rcases List.mem_cons.1 h with rfl | h
    · exact Int.le_of_eq c.1.symm
    · have := ih c.2 h; omega
theorem TC.head {x : Nat → Int} {Q : List Nat} {a n : Int} (c : TC x a Q n) {t : Nat} (h : t ∈ Q) (hx : x t = a) : ∃ R, Q = t :: R := by
  cases Q with
  | nil => cases h
  | cons b Q =>
    rcases List.mem_cons.1 h with rfl | h
    · exact ⟨Q, rfl⟩
    · have := c.2.ge h; omega
def I2 (m : Mc) : Prop := ∃ Q, QS m Q ∧ TC (fun s => (m.tt s).lk.x) (wd m.words 2) Q (wd m.words 1) ∧ 0 ≤ wd m.words 2 ∧ wd m.words 1 ≤ m.moves ∧ 3 ≤ m.words.length
theorem i2_stl {m m' : Mc} {t : Nat} (S : Stl m m' t) (I : I2 m) : I2 m' := by
  obtain ⟨Q, q, c, h1, h2, h3⟩ := I
  refine ⟨Q, S.qs q, ?_, ?_, ?_, ?_⟩
  · rw [S.wd 1 (by omega), S.wd 2 (by omega)]
    exact c.congr fun s _ => by show (m'.tt s).lk.x = (m.tt s).lk.x; rw [S.lks s]
  · rw [S.wd 2 (by omega)]; exact h1
  · rw [S.wd 1 (by omega)]; have := S.mv; omega
  · rw [S.wl]; exact h3
theorem aft2 {me all at_ x y : Int} (h0 : at_ ≠ 0) (h1 : at_ ≠ 1) : aft ⟨2, me, all, at_, x, y⟩ = some 0 := by
  show (bif at_ == 0 || at_ == 1 then none else some 0) = some 0
  rw [show (at_ == 0) = false by simpa using h0, show (at_ == 1) = false by simpa using h1]
  rfl
theorem not_mem_wt {m : Mc} {Q : List Nat} (q : QS m Q) {t : Nat} (ha : (m.tt t).alone = false) (hw : (m.tt t).wt = false) : t ∉ Q := fun h => by
  have := (q.mem t).1 h
  rw [ha, hw] at this
  cases this
theorem mem_wt {m : Mc} {Q : List Nat} (q : QS m Q) {t : Nat} (hw : (m.tt t).wt = true) : t ∈ Q := (q.mem t).2 (by rw [hw]; simp)
theorem i2_acq {m m' : Mc} {t : Nat} {d : Dk} {l : Lk} {r : Bool × Lk × Dk} (V : AcqV m m' t d l r) (H : Hist m) (hk : m.kd = 2) (hm : m.moves < 65536) (I : I2 m) : I2 m' ∧ Ev m m' := by
  obtain ⟨Q, q, c, h1, h2, h3⟩ := I
  have hr := V.req
  have hkd := V.kd
  rw [hk] at hkd
  have hw0 := V.wt0
  have hpl := V.pl0
  have hlx := V.x
  have hme := V.me
  obtain ⟨kd, me, all, at_, x, y⟩ := l
  dsimp only at hkd hpl hlx hme
  subst hkd
  have hr' : r = Lk.tickA ⟨2, me, all, at_, x, y⟩ d := hr
  unfold Lk.tickA at hr'
  dsimp only at hr'
  have hin : (0 : Int) ≤ 1 ∧ (1 : Int) < d.words.length := ⟨by decide, by rw [V.dw]; omega⟩
  have oths : ∀ s, s ≠ t → (m'.tt s).lk = (m.tt s).lk := fun s hs => by rw [V.oth.tt s hs]
  have hc := c.le
  by_cases e0 : at_ = 0
  · subst e0
    have hr2 : r = (false, ⟨2, me, all, 1, (d.load 1).1, y⟩, (d.load 1).2) := hr'
    have hwt : (m.tt t).wt = false := hw0
    have hn := not_mem_wt q V.al0 hwt
    have hW : m'.words = m.words := by rw [V.w, hr2]; show (d.load 1).2.words = _; rw [ld_w, V.dw]
    have ha : (m'.tt t).alone = false := by rw [V.al, hr2]
    have hw' : (m'.tt t).wt = false := by rw [V.wt, hr2]; rfl
    refine ⟨⟨Q, q.same V.oth (by rw [ha, V.al0]) (by rw [hw', hwt]) (fun e => by rw [hwt] at e; cases e), ?_, ?_, ?_, ?_⟩, ev_of V.oth fun h => by rw [ha] at h; cases h⟩
    · rw [hW]
      exact c.congr fun s hs => by show (m'.tt s).lk.x = (m.tt s).lk.x; rw [oths s (fun e => hn (e ▸ hs))]
    · rw [hW]; exact h1
    · rw [hW, V.mv]; omega
    · rw [hW]; exact h3
  by_cases e1 : at_ = 1
  · subst e1
    have hwt : (m.tt t).wt = false := hw0
    have hn := not_mem_wt q V.al0 hwt
    have b1 := sw_b (o := x) (w := uw (x + 1)) V.du hin
    have b2 := sw_w (o := x) (w := uw (x + 1)) V.du hin
    have hr2 : r = bif (d.swap 1 x (uw (x + 1))).1 then (false, ⟨2, me, all, 2, x, y⟩, (d.swap 1 x (uw (x + 1))).2.point) else (false, ⟨2, me, all, 0, x, y⟩, (d.swap 1 x (uw (x + 1))).2) := hr'
    have hpn : (d.swap 1 x (uw (x + 1))).2.point.pt = m.moves := (swap_now _ _ _ _).trans V.dn
    rw [b1] at hr2
    rw [V.dw] at b2 hr2
    cases hb : (wd m.words (1 : Int).toNat == x) with
    | false =>
      rw [hb] at hr2 b2
      have hr3 : r = (false, ⟨2, me, all, 0, x, y⟩, (d.swap 1 x (uw (x + 1))).2) := hr2
      have hW : m'.words = m.words := by rw [V.w, hr3]; exact b2
      have ha : (m'.tt t).alone = false := by rw [V.al, hr3]
      have hw' : (m'.tt t).wt = false := by rw [V.wt, hr3]; rfl
      refine ⟨⟨Q, q.same V.oth (by rw [ha, V.al0]) (by rw [hw', hwt]) (fun e => by rw [hwt] at e; cases e), ?_, ?_, ?_, ?_⟩, ev_of V.oth fun h => by rw [ha] at h; cases h⟩
      · rw [hW]
        exact c.congr fun s hs => by show (m'.tt s).lk.x = (m.tt s).lk.x; rw [oths s (fun e => hn (e ▸ hs))]
      · rw [hW]; exact h1
      · rw [hW, V.mv]; omega
      · rw [hW]; exact h3
    | true =>
      have hx1 : wd m.words 1 = x := by simpa using hb
      rw [hb] at hr2 b2
      have hr3 : r = (false, ⟨2, me, all, 2, x, y⟩, (d.swap 1 x (uw (x + 1))).2.point) := hr2
      have hW : m'.words = m.words.set 1 (x + 1) := by
        rw [V.w, hr3]
        show (d.swap 1 x (uw (x + 1))).2.words = _
        rw [b2, uw_id (by omega)]
        rfl
      have ha : (m'.tt t).alone = false := by rw [V.al, hr3]
      have hw' : (m'.tt t).wt = true := by rw [V.wt, hr3]; rfl
      have hp : m'.lpt t = m.moves := by rw [V.lpt, hr3]; exact hpn
      refine ⟨⟨Q ++ [t], q.join H V.oth V.al0 hwt (Or.inr ⟨ha, hw'⟩) hp, ?_, ?_, ?_, ?_⟩, ev_of V.oth fun h => by rw [ha] at h; cases h⟩
      · rw [hW, wd_self (by omega), wd_ne (by decide)]
        rw [hx1] at c
        refine TC.app (c.congr fun s hs => ?_) ?_
        · show (m'.tt s).lk.x = (m.tt s).lk.x
          rw [oths s (fun e => hn (e ▸ hs))]
        · show (m'.tt t).lk.x = x
          rw [V.lk, hr3]
      · rw [hW, wd_ne (by decide)]; exact h1
      · rw [hW, wd_self (by omega), V.mv]; omega
      · rw [hW, List.length_set]; exact h3
  · have hwt : (m.tt t).wt = true := by rw [hw0, aft2 e0 e1]; rfl
    have hr2 : r = ((d.load 2).1 == x, ⟨2, me, all, at_, x, y⟩, (d.load 2).2) := by
      rw [show (at_ == 0) = false by simpa using e0, show (at_ == 1) = false by simpa using e1] at hr'
      exact hr'
    have hv : (d.load 2).1 = wd m.words 2 := by rw [ld_v V.du (by decide), V.dw]; rfl
    rw [hv] at hr2
    have hW : m'.words = m.words := by rw [V.w, hr2]; show (d.load 2).2.words = _; rw [ld_w, V.dw]
    have hp : m'.lpt t = m.lpt t := by rw [V.lpt, hr2]; show (d.load 2).2.pt = _; rw [load_pt, V.dp]
    have hlk : (m'.tt t).lk.x = (m.tt t).lk.x := by rw [V.lk, hr2]; exact hlx
    have hm' := mem_wt q hwt
    have hcc : ∀ s, (m'.tt s).lk.x = (m.tt s).lk.x := fun s => by
      by_cases e : s = t
      · subst e; exact hlk
      · rw [oths s e]
    cases hb : (wd m.words 2 == x) with
    | false =>
      rw [hb] at hr2
      have ha : (m'.tt t).alone = false := by rw [V.al, hr2]
      have hw' : (m'.tt t).wt = true := by rw [V.wt, hr2, aft2 e0 e1]; rfl
      refine ⟨⟨Q, q.same V.oth (by rw [ha, V.al0]) (by rw [hw', hwt]) (fun _ => hp), ?_, ?_, ?_, ?_⟩, ev_of V.oth fun h => by rw [ha] at h; cases h⟩
      · rw [hW]
        exact c.congr fun s _ => hcc s
      · rw [hW]; exact h1
      · rw [hW, V.mv]; omega
      · rw [hW]; exact h3
    | true =>
      rw [hb] at hr2
      have hx1 : wd m.words 2 = x := by simpa using hb
      obtain ⟨R, rfl⟩ := c.head hm' (by show (m.tt t).lk.x = _; rw [hx1, hlx])
      have ha : (m'.tt t).alone = true := by rw [V.al, hr2]
      have hw' : (m'.tt t).wt = false := by rw [V.wt, hr2]; rfl
      refine ⟨⟨t :: R, q.enter V.oth ha hw' hwt hp, ?_, ?_, ?_, ?_⟩, ev_of V.oth fun _ _ s hs hw => by rw [hp]; exact q.first hwt hs hw⟩
      · rw [hW]
        exact c.congr fun s _ => hcc s
      · rw [hW]; exact h1
      · rw [hW, V.mv]; omega
      · rw [hW]; exact h3
theorem hd_cons {m : Mc} {Q : List Nat} (q : QS m Q) {t : Nat} (ha : (m.tt t).alone = true) : ∃ R, Q = t :: R := by
  have := q.hd t ha
  cases Q with
  | nil => cases this
  | cons b R =>
    injection this with this
    subst this
    exact ⟨R, rfl⟩
theorem i2_rel {m m' : Mc} {t : Nat} {d : Dk} {l : Lk} {r : Bool × Lk × Dk} (V : RelV m m' t d l r) (hk : m.kd = 2) (hm : m.moves < 65536) (I : I2 m) : I2 m' ∧ Ev m m' := by
  obtain ⟨Q, q, c, h1, h2, h3⟩ := I
  have hr := V.req
  have hkd := V.kd
  rw [hk] at hkd
  have hl := V.leq
  obtain ⟨kd, me, all, at_, x, y⟩ := l
  dsimp only at hkd
  subst hkd
  have hr' : r = (true, ⟨2, me, all, at_, x, y⟩, d.store 2 (uw (x + 1))) := hr
  obtain ⟨R, rfl⟩ := hd_cons q V.al0
  have hx : (m.tt t).lk.x = x := by rw [← hl]
  have hx2 : x = wd m.words 2 := hx.symm.trans c.1
  have hc := c.2.le
  have hW : m'.words = m.words.set 2 (x + 1) := by
    rw [V.w, hr']
    show (d.store 2 (uw (x + 1))).words = _
    rw [sto_w V.du (by decide), V.dw, uw_id (by omega)]
    rfl
  have ha : (m'.tt t).alone = false := by rw [V.al, hr']; rfl
  obtain ⟨n1, n2⟩ := List.nodup_cons.1 q.nd
  refine ⟨⟨R, q.leave V.oth ha V.wt V.wt0, ?_, ?_, ?_, ?_⟩, ev_of V.oth fun h => by rw [ha] at h; cases h⟩
  · rw [hW, wd_self (by omega), wd_ne (by decide), hx2]
    exact c.2.congr fun s hs => by show (m'.tt s).lk.x = (m.tt s).lk.x; rw [V.oth.tt s (fun e => n1 (e ▸ hs))]
  · rw [hW, wd_self (by omega)]; omega
  · rw [hW, wd_ne (by decide), V.mv]; omega
  · rw [hW, List.length_set]; exact h3
theorem wd_rep (n i : Nat) : wd (List.replicate n 0) i = 0 := by
  unfold wd
  rw [List.getElem?_replicate]
  split <;> rfl
theorem tt0 (k T : Int) (t : Nat) : ((mc0 k T).tt t).alone = false ∧ ((mc0 k T).tt t).shares = false ∧ ((mc0 k T).tt t).task = none ∧ (t < T.toNat → ((mc0 k T).tt t).lk = lk0 k T t) := by
  unfold Mc.tt
  have e : (mc0 k T).ths[t]? = ((List.range T.toNat).map (th0 k T))[t]? := rfl
  rw [e, List.getElem?_map]
  by_cases h : t < T.toNat
  · rw [List.getElem?_range h]
    exact ⟨rfl, rfl, rfl, fun _ => rfl⟩
  · rw [List.getElem?_eq_none (by simpa using h)]
    exact ⟨rfl, rfl, rfl, fun h9 => absurd h9 h⟩
theorem wt0 (k T : Int) (t : Nat) : ((mc0 k T).tt t).wt = false := wt_none (pl_none (tt0 k T t).2.2.1)
theorem qs0 (k T : Int) : QS (mc0 k T) [] :=
  ⟨.nil, fun t => by rw [(tt0 k T t).1, wt0]; simp, (fun t h => by rw [(tt0 k T t).1] at h; cases h), .nil⟩
theorem i2_0 (T : Int) : I2 (mc0 2 T) := by
  have e : (mc0 2 T).words = List.replicate 3 0 := rfl
  refine ⟨[], qs0 2 T, ?_, ?_, ?_, ?_⟩
  · rw [e, wd_rep, wd_rep]; rfl
  · rw [e, wd_rep]; decide
  · rw [e, wd_rep]; exact Int.le_refl _
  · rw [e]; simp
theorem i2_move {m : Mc} (G : Gd m) (hk : m.kd = 2) (I : I2 m) (v : Mo) : I2 (m.move v).2 ∧ Ev m (m.move v).2 := by
  by_cases hm : m.moves < 65536
  · have hV := mv_view G (by rw [hk]; decide) (by obtain ⟨_, _, _, _, _, h⟩ := I; omega) v
    generalize (m.move v).2 = m' at hV ⊢
    cases hV with
    | stl t S => exact ⟨i2_stl S I, S.ev⟩
    | acq t d l r V => exact i2_acq V G.hist hk hm I
    | rel t d l r V => exact i2_rel V hk hm I
    | shr t V => have := V.kd; omega
  · rw [mv_full (by omega)]
    exact ⟨I, fun t h1 h2 => by rw [h1] at h2; cases h2⟩
end Go.Proofs.Ytjnmlgfkiebkgaa
namespace Go.Proofs.Ytjnmlgfkiebkgaa
open Go.RowKit
set_option linter.unusedVariables false
set_option linter.unusedSimpArgs false

/-- the nodes of those who have come: each looks at the node of the one ahead -/
def CC (x y : Nat → Int) : Int → List Nat → Int → Prop
  | f, [], tl => tl = f
  | f, t :: Q, tl => y t = f ∧ CC x y (x t) Q tl
theorem CC.congr {x y x' y' : Nat → Int} {Q : List Nat} {f tl : Int} (h : ∀ s ∈ Q, x' s = x s ∧ y' s = y s) (c : CC x y f Q tl) : CC x' y' f Q tl := by
  induction Q generalizing f with
  | nil => exact c
  | cons b Q ih =>
    obtain ⟨h1, h2⟩ := h b (List.mem_cons_self ..)
    refine ⟨h2.trans c.1, ?_⟩
    rw [h1]
    exact ih (fun s hs => h s (List.mem_cons_of_mem _ hs)) c.2
theorem CC.app {x y : Nat → Int} {Q : List Nat} {f tl : Int} {t : Nat} (c : CC x y f Q tl) (h : y t = tl) : CC x y f (Q ++ [t]) (x t) := by
  induction Q generalizing f with
  | nil =>
    have c' : tl = f := c
    exact ⟨h.trans c', rfl⟩
  | cons b Q ih => exact ⟨c.1, ih c.2⟩
theorem CC.look {x y : Nat → Int} {Q : List Nat} {f tl : Int} (c : CC x y f Q tl) {t : Nat} (h : t ∈ Q) : ((∃ R, Q = t :: R) ∧ y t = f) ∨ ∃ s ∈ Q, y t = x s := by
  induction Q generalizing f with
  | nil => cases h
  | cons b Q ih =>
    rcases List.mem_cons.1 h with rfl | h
    · exact Or.inl ⟨⟨Q, rfl⟩, c.1⟩
    · rcases ih c.2 h with ⟨_, h2⟩ | ⟨s, h1, h2⟩
      · exact Or.inr ⟨b, List.mem_cons_self .., h2⟩
      · exact Or.inr ⟨s, List.mem_cons_of_mem _ h1, h2⟩
theorem CC.tail {x y : Nat → Int} {Q : List Nat} {f tl : Int} (c : CC x y f Q tl) : tl = f ∨ ∃ s ∈ Q, tl = x s := by
  induction Q generalizing f with
  | nil => exact Or.inl c
  | cons b Q ih =>
    rcases ih c.2 with h | ⟨s, h1, h2⟩
    · exact Or.inr ⟨b, List.mem_cons_self .., h⟩
    · exact Or.inr ⟨s, List.mem_cons_of_mem _ h1, h2⟩
theorem QS.lt {m : Mc} {Q : List Nat} (q : QS m Q) {s : Nat} (h : s ∈ Q) : s < m.ths.length := by
  by_cases e : s < m.ths.length
  · exact e
  · have := (q.mem s).1 h
    rw [tt_out (by omega)] at this
    cases this
theorem pl_lt {m : Mc} {s : Nat} (h : (m.tt s).pl ≠ 0) : s < m.ths.length := by
  by_cases e : s < m.ths.length
  · exact e
  · rw [tt_out (by omega)] at h
    exact absurd rfl h
/-- the queue's lock: words, own nodes, the free node -/
structure J3 (W : List Int) (T : Nat) (x p : Nat → Int) (f : Int) (Q : List Nat) : Prop where
  inj : ∀ s t, s < T → t < T → s ≠ t → x s ≠ x t
  fre : ∀ s, s < T → x s ≠ f
  rng : ∀ s, s < T → 0 ≤ x s ∧ x s ≤ T
  frg : 0 ≤ f ∧ f ≤ T
  f0 : wd W (2 + f).toNat = 0
  q1 : ∀ s ∈ Q, wd W (2 + x s).toNat = 1
  p1 : ∀ s, p s = 1 ∨ p s = 2 → wd W (2 + x s).toNat = 1
  len : W.length = 3 + T
  T16 : T ≤ 16
def I3 (m : Mc) : Prop := ∃ Q f, QS m Q ∧ CC (fun s => (m.tt s).lk.x) (fun s => (m.tt s).lk.y) f Q (wd m.words 1) ∧ J3 m.words m.ths.length (fun s => (m.tt s).lk.x) (fun s => (m.tt s).pl) f Q
theorem i3_stl {m m' : Mc} {t : Nat} (S : Stl m m' t) (I : I3 m) : I3 m' := by
  obtain ⟨Q, f, q, c, j⟩ := I
  have hx : (fun s => (m'.tt s).lk.x) = (fun s => (m.tt s).lk.x) := funext fun s => by rw [S.lks s]
  have hy : (fun s => (m'.tt s).lk.y) = (fun s => (m.tt s).lk.y) := funext fun s => by rw [S.lks s]
  have hp : (fun s => (m'.tt s).pl) = (fun s => (m.tt s).pl) := funext fun s => S.pls s
  refine ⟨Q, f, S.qs q, ?_, ?_⟩
  · rw [hx, hy, S.wd 1 (by omega)]
    exact c
  · rw [hx, hp, S.tl]
    have hf := j.frg
    exact ⟨j.inj, j.fre, j.rng, j.frg, by rw [S.wd _ (by omega)]; exact j.f0, fun s hs => by have := j.rng s (q.lt hs); rw [S.wd _ (by omega)]; exact j.q1 s hs,
      fun s hs => by
        have := j.rng s (pl_lt (m := m) (by (try dsimp only at hs); omega))
        rw [S.wd _ (by omega)]
        exact j.p1 s hs, by rw [S.wl]; exact j.len, j.T16⟩
theorem aft3 {me all at_ x y : Int} (h0 : at_ ≠ 0) (h1 : at_ ≠ 1) (h2 : at_ ≠ 2) : aft ⟨3, me, all, at_, x, y⟩ = some 0 := by
  show (bif at_ == 0 || (at_ == 1 || at_ == 2) then none else some 0) = some 0
  rw [show (at_ == 0) = false by simpa using h0, show (at_ == 1) = false by simpa using h1, show (at_ == 2) = false by simpa using h2]
  rfl
theorem i3_acq {m m' : Mc} {t : Nat} {d : Dk} {l : Lk} {r : Bool × Lk × Dk} (V : AcqV m m' t d l r) (H : Hist m) (hk : m.kd = 3) (I : I3 m) : I3 m' ∧ Ev m m' := by
  obtain ⟨Q, f, q, c, j⟩ := I
  have hr := V.req
  have hkd := V.kd
  rw [hk] at hkd
  have hw0 := V.wt0
  have hpl := V.pl0
  have hlx := V.x
  have hly := V.y
  obtain ⟨kd, me, all, at_, x, y⟩ := l
  (try dsimp only at hkd hpl hlx hly)
  subst hkd
  have hr' : r = Lk.queueA ⟨3, me, all, at_, x, y⟩ d := hr
  unfold Lk.queueA at hr'
  try dsimp only at hr'
  have T16 := j.T16
  have hln := j.len
  have hf := j.frg
  have hxr : 0 ≤ x ∧ x ≤ m.ths.length := by have := j.rng t V.lt; (try dsimp only at this); omega
  have hin : (0 : Int) ≤ 1 ∧ (1 : Int) < d.words.length := ⟨by decide, by rw [V.dw]; omega⟩
  have oths : ∀ s, s ≠ t → (m'.tt s).lk = (m.tt s).lk := fun s hs => by rw [V.oth.tt s hs]
  have opls : ∀ s, s ≠ t → (m'.tt s).pl = (m.tt s).pl := fun s hs => by rw [V.oth.tt s hs]
  have hne : ∀ s, s < m.ths.length → s ≠ t → (m.tt s).lk.x ≠ x := fun s hs e => by rw [hlx]; exact j.inj s t hs V.lt e
  have hnf : x ≠ f := by rw [hlx]; exact j.fre t V.lt
  -- no own node changes
  have keepx : (m'.tt t).lk.x = x → (fun s => (m'.tt s).lk.x) = (fun s => (m.tt s).lk.x) := fun h => funext fun s => by
    by_cases e : s = t
    · subst e; exact h.trans hlx
    · show (m'.tt s).lk.x = _
      rw [oths s e]
  by_cases e0 : at_ = 0
  · subst e0
    have hr2 : r = (false, ⟨3, me, all, 1, x, y⟩, d.store (iw (2 + x)) 1) := hr'
    have hwt : (m.tt t).wt = false := hw0
    have hn := not_mem_wt q V.al0 hwt
    have hW : m'.words = m.words.set (2 + x).toNat 1 := by rw [V.w, hr2]; show (d.store (iw (2 + x)) 1).words = _; rw [iw_id (by omega), sto_w V.du (by omega), V.dw]
    have ha : (m'.tt t).alone = false := by rw [V.al, hr2]
    have hw' : (m'.tt t).wt = false := by rw [V.wt, hr2]; rfl
    have hx' := keepx (by rw [V.lk, hr2])
    have hp' : (m'.tt t).pl = 1 := by rw [V.pl, hr2]; rfl
    refine ⟨⟨Q, f, q.same V.oth (by rw [ha, V.al0]) (by rw [hw', hwt]) (fun e => by rw [hwt] at e; cases e), ?_, ?_⟩, ev_of V.oth fun h => by rw [ha] at h; cases h⟩
    · rw [hW, wd_ne (by omega)]
      exact c.congr fun s hs => by (try dsimp only); rw [oths s (fun e => hn (e ▸ hs))]; exact ⟨rfl, rfl⟩
    · rw [hx', V.tl, hW]
      refine ⟨j.inj, j.fre, j.rng, j.frg, by rw [wd_ne (by omega)]; exact j.f0, fun s hs => ?_, fun s hs => ?_, by rw [List.length_set]; exact hln, T16⟩
      · have := j.rng s (q.lt hs)
        have := hne s (q.lt hs) (fun e => hn (e ▸ hs))
        (try dsimp only at *)
        rw [wd_ne (by omega)]
        exact j.q1 s hs
      · (try dsimp only at hs ⊢)
        by_cases e : s = t
        · subst e
          rw [← hlx, wd_self (by omega)]
        · rw [opls s e] at hs
          have hlt := pl_lt (m := m) (s := s) (by omega)
          have := j.rng s hlt
          have := hne s hlt e
          (try dsimp only at *)
          rw [wd_ne (by omega)]
          exact j.p1 s hs
  by_cases e1 : at_ = 1
  · subst e1
    have hr2 : r = (false, ⟨3, me, all, 2, x, (d.load 1).1⟩, (d.load 1).2) := hr'
    have hwt : (m.tt t).wt = false := hw0
    have hn := not_mem_wt q V.al0 hwt
    have hW : m'.words = m.words := by rw [V.w, hr2]; show (d.load 1).2.words = _; rw [ld_w, V.dw]
    have ha : (m'.tt t).alone = false := by rw [V.al, hr2]
    have hw' : (m'.tt t).wt = false := by rw [V.wt, hr2]; rfl
    have hx' := keepx (by rw [V.lk, hr2])
    refine ⟨⟨Q, f, q.same V.oth (by rw [ha, V.al0]) (by rw [hw', hwt]) (fun e => by rw [hwt] at e; cases e), ?_, ?_⟩, ev_of V.oth fun h => by rw [ha] at h; cases h⟩
    · rw [hW]
      exact c.congr fun s hs => by (try dsimp only); rw [oths s (fun e => hn (e ▸ hs))]; exact ⟨rfl, rfl⟩
    · rw [hx', V.tl, hW]
      refine ⟨j.inj, j.fre, j.rng, j.frg, j.f0, j.q1, fun s hs => ?_, hln, T16⟩
      (try dsimp only at hs ⊢)
      by_cases e : s = t
      · subst e
        exact j.p1 s (Or.inl hpl.symm)
      · rw [opls s e] at hs
        exact j.p1 s hs
  by_cases e2 : at_ = 2
  · subst e2
    have hwt : (m.tt t).wt = false := hw0
    have hn := not_mem_wt q V.al0 hwt
    have b1 := sw_b (o := y) (w := uw x) V.du hin
    have b2 := sw_w (o := y) (w := uw x) V.du hin
    have hr2 : r = bif (d.swap 1 y (uw x)).1 then (false, ⟨3, me, all, 3, x, y⟩, (d.swap 1 y (uw x)).2.point) else (false, ⟨3, me, all, 1, x, y⟩, (d.swap 1 y (uw x)).2) := hr'
    have hpn : (d.swap 1 y (uw x)).2.point.pt = m.moves := (swap_now _ _ _ _).trans V.dn
    rw [b1] at hr2
    rw [V.dw] at b2 hr2
    cases hb : (wd m.words (1 : Int).toNat == y) with
    | false =>
      rw [hb] at hr2 b2
      have hr3 : r = (false, ⟨3, me, all, 1, x, y⟩, (d.swap 1 y (uw x)).2) := hr2
      have hW : m'.words = m.words := by rw [V.w, hr3]; exact b2
      have ha : (m'.tt t).alone = false := by rw [V.al, hr3]
      have hw' : (m'.tt t).wt = false := by rw [V.wt, hr3]; rfl
      have hx' := keepx (by rw [V.lk, hr3])
      refine ⟨⟨Q, f, q.same V.oth (by rw [ha, V.al0]) (by rw [hw', hwt]) (fun e => by rw [hwt] at e; cases e), ?_, ?_⟩, ev_of V.oth fun h => by rw [ha] at h; cases h⟩
      · rw [hW]
        exact c.congr fun s hs => by (try dsimp only); rw [oths s (fun e => hn (e ▸ hs))]; exact ⟨rfl, rfl⟩
      · rw [hx', V.tl, hW]
        refine ⟨j.inj, j.fre, j.rng, j.frg, j.f0, j.q1, fun s hs => ?_, hln, T16⟩
        (try dsimp only at hs ⊢)
        by_cases e : s = t
        · subst e
          exact j.p1 s (Or.inr hpl.symm)
        · rw [opls s e] at hs
          exact j.p1 s hs
    | true =>
      have hy1 : wd m.words 1 = y := by simpa using hb
      rw [hb] at hr2 b2
      have hr3 : r = (false, ⟨3, me, all, 3, x, y⟩, (d.swap 1 y (uw x)).2.point) := hr2
      have hW : m'.words = m.words.set 1 x := by
        rw [V.w, hr3]
        show (d.swap 1 y (uw x)).2.words = _
        rw [b2, uw_id (by omega)]
        rfl
      have ha : (m'.tt t).alone = false := by rw [V.al, hr3]
      have hw' : (m'.tt t).wt = true := by rw [V.wt, hr3]; rfl
      have hp : m'.lpt t = m.moves := by rw [V.lpt, hr3]; exact hpn
      have hx' := keepx (by rw [V.lk, hr3])
      have hp' : (m'.tt t).pl = 3 := by rw [V.pl, hr3]; rfl
      refine ⟨⟨Q ++ [t], f, q.join H V.oth V.al0 hwt (Or.inr ⟨ha, hw'⟩) hp, ?_, ?_⟩, ev_of V.oth fun h => by rw [ha] at h; cases h⟩
      · rw [hW, wd_self (by omega)]
        rw [hy1] at c
        have h9 := CC.app (t := t) (c.congr (x' := fun s => (m'.tt s).lk.x) (y' := fun s => (m'.tt s).lk.y) fun s hs => by (try dsimp only); rw [oths s (fun e => hn (e ▸ hs))]; exact ⟨rfl, rfl⟩) (show (m'.tt t).lk.y = y by rw [V.lk, hr3])
        (try dsimp only at h9)
        rw [show (m'.tt t).lk.x = x by rw [V.lk, hr3]] at h9
        exact h9
      · rw [hx', V.tl, hW]
        refine ⟨j.inj, j.fre, j.rng, j.frg, by rw [wd_ne (by omega)]; exact j.f0, fun s hs => ?_, fun s hs => ?_, by rw [List.length_set]; exact hln, T16⟩
        · (try dsimp only at hs ⊢)
          rcases List.mem_append.1 hs with hs | hs
          · have := j.rng s (q.lt hs)
            (try dsimp only at this)
            rw [wd_ne (by omega)]
            exact j.q1 s hs
          · rw [List.mem_singleton] at hs
            subst hs
            rw [← hlx, wd_ne (by omega), hlx]
            exact j.p1 s (Or.inr hpl.symm)
        · (try dsimp only at hs ⊢)
          by_cases e : s = t
          · subst e
            omega
          · rw [opls s e] at hs
            have := j.rng s (pl_lt (m := m) (s := s) (by omega))
            (try dsimp only at this)
            rw [wd_ne (by omega)]
            exact j.p1 s hs
  · have hwt : (m.tt t).wt = true := by rw [hw0, aft3 e0 e1 e2]; rfl
    have hm' := mem_wt q hwt
    have hlook := c.look hm'
    (try dsimp only at hlook)
    rw [← hly] at hlook
    have hyr : 0 ≤ y ∧ y ≤ m.ths.length := by
      rcases hlook with ⟨_, h⟩ | ⟨s, h1, h2⟩
      · omega
      · have := j.rng s (q.lt h1); (try dsimp only at this); omega
    have HL := Lib.hid hlook
    clear hlook
    have hr2 : r = ((d.load (iw (2 + iw y))).1 == 0, ⟨3, me, all, at_, x, y⟩, (d.load (iw (2 + iw y))).2) := by
      rw [show (at_ == 0) = false by simpa using e0, show (at_ == 1) = false by simpa using e1, show (at_ == 2) = false by simpa using e2] at hr'
      exact hr'
    have hv : (d.load (iw (2 + iw y))).1 = wd m.words (2 + y).toNat := by rw [iw_id (x := y) (by omega), iw_id (by omega), ld_v V.du (by omega), V.dw]
    rw [hv] at hr2
    have hW : m'.words = m.words := by rw [V.w, hr2]; show (d.load _).2.words = _; rw [ld_w, V.dw]
    have hp : m'.lpt t = m.lpt t := by rw [V.lpt, hr2]; show (d.load _).2.pt = _; rw [load_pt, V.dp]
    have hx' := keepx (by rw [V.lk, hr2])
    have hy' : (fun s => (m'.tt s).lk.y) = (fun s => (m.tt s).lk.y) := funext fun s => by
      by_cases e : s = t
      · subst e
        show (m'.tt s).lk.y = _
        rw [V.lk, hr2]
        exact hly
      · show (m'.tt s).lk.y = _
        rw [oths s e]
    have hj : (m'.tt t).pl ≠ 1 → (m'.tt t).pl ≠ 2 → J3 m'.words m'.ths.length (fun s => (m'.tt s).lk.x) (fun s => (m'.tt s).pl) f Q := fun h1 h2 => by
      rw [hx', V.tl, hW]
      refine ⟨j.inj, j.fre, j.rng, j.frg, j.f0, j.q1, fun s hs => ?_, hln, T16⟩
      (try dsimp only at hs ⊢)
      by_cases e : s = t
      · subst e
        omega
      · rw [opls s e] at hs
        exact j.p1 s hs
    cases hb : (wd m.words (2 + y).toNat == 0) with
    | false =>
      rw [hb] at hr2
      have ha : (m'.tt t).alone = false := by rw [V.al, hr2]
      have hw' : (m'.tt t).wt = true := by rw [V.wt, hr2, aft3 e0 e1 e2]; rfl
      have hp' : (m'.tt t).pl = at_ := by rw [V.pl, hr2]; rfl
      refine ⟨⟨Q, f, q.same V.oth (by rw [ha, V.al0]) (by rw [hw', hwt]) (fun _ => hp), ?_, hj (by omega) (by omega)⟩, ev_of V.oth fun h => by rw [ha] at h; cases h⟩
      rw [hW, hx', hy']
      exact c
    | true =>
      rw [hb] at hr2
      have hx1 : wd m.words (2 + y).toNat = 0 := by simpa using hb
      have ha : (m'.tt t).alone = true := by rw [V.al, hr2]
      have hw' : (m'.tt t).wt = false := by rw [V.wt, hr2]; rfl
      have hp' : (m'.tt t).pl = 0 := by rw [V.pl, hr2]; rfl
      rcases HL.out with ⟨⟨R, rfl⟩, h⟩ | ⟨s, h1, h2⟩
      · refine ⟨⟨t :: R, f, q.enter V.oth ha hw' hwt hp, ?_, hj (by omega) (by omega)⟩, ev_of V.oth fun _ _ s hs hw => by rw [hp]; exact q.first hwt hs hw⟩
        rw [hW, hx', hy']
        exact c
      · have := j.q1 s h1
        (try dsimp only at this)
        rw [← h2, hx1] at this
        omega
theorem i3_rel {m m' : Mc} {t : Nat} {d : Dk} {l : Lk} {r : Bool × Lk × Dk} (V : RelV m m' t d l r) (hk : m.kd = 3) (I : I3 m) : I3 m' ∧ Ev m m' := by
  obtain ⟨Q, f, q, c, j⟩ := I
  have hr := V.req
  have hkd := V.kd
  rw [hk] at hkd
  have hl := V.leq
  obtain ⟨kd, me, all, at_, x, y⟩ := l
  (try dsimp only at hkd)
  subst hkd
  have hr' : r = (true, ⟨3, me, all, at_, iw y, y⟩, d.store (iw (2 + x)) 0) := hr
  obtain ⟨R, rfl⟩ := hd_cons q V.al0
  have hx : (m.tt t).lk.x = x := by rw [← hl]
  have hy : (m.tt t).lk.y = y := by rw [← hl]
  have hyf : y = f := hy.symm.trans c.1
  have T16 := j.T16
  have hln := j.len
  have hf := j.frg
  have hxr : 0 ≤ x ∧ x ≤ m.ths.length := by have := j.rng t V.lt; (try dsimp only at this); omega
  have hnf : x ≠ f := by rw [← hx]; exact j.fre t V.lt
  have hW : m'.words = m.words.set (2 + x).toNat 0 := by
    rw [V.w, hr']
    show (d.store (iw (2 + x)) 0).words = _
    rw [iw_id (by omega), sto_w V.du (by omega), V.dw]
  have ha : (m'.tt t).alone = false := by rw [V.al, hr']; rfl
  have hx' : (m'.tt t).lk.x = f := by rw [V.lk, hr']; show iw y = f; rw [iw_id (by omega), hyf]
  obtain ⟨n1, n2⟩ := List.nodup_cons.1 q.nd
  have hxs : ∀ s, s ≠ t → (m'.tt s).lk = (m.tt s).lk := fun s hs => by rw [V.oth.tt s hs]
  have c2 := c.2
  (try dsimp only at c2)
  rw [hx] at c2
  refine ⟨⟨R, x, q.leave V.oth ha V.wt V.wt0, ?_, ?_⟩, ev_of V.oth fun h => by rw [ha] at h; cases h⟩
  · rw [hW, wd_ne (by omega)]
    exact c2.congr fun s hs => by (try dsimp only); rw [hxs s (fun e => n1 (e ▸ hs))]; exact ⟨rfl, rfl⟩
  · rw [V.tl, hW]
    refine ⟨fun a b h1 h2 h3 => ?_, fun a h1 => ?_, fun a h1 => ?_, by omega, by rw [wd_self (by omega)], fun a h1 => ?_, fun a h1 => ?_, by rw [List.length_set]; exact hln, T16⟩
    · (try dsimp only)
      by_cases ea : a = t
      · subst ea
        rw [hx', hxs b (fun e => h3 e.symm)]
        exact (j.fre b h2).symm
      · rw [hxs a ea]
        by_cases eb : b = t
        · subst eb
          rw [hx']
          exact j.fre a h1
        · rw [hxs b eb]
          exact j.inj a b h1 h2 h3
    · (try dsimp only)
      by_cases ea : a = t
      · subst ea
        rw [hx']
        exact hnf.symm
      · rw [hxs a ea, ← hx]
        exact j.inj a t h1 V.lt ea
    · (try dsimp only)
      by_cases ea : a = t
      · subst ea
        rw [hx']
        exact hf
      · rw [hxs a ea]
        exact j.rng a h1
    · (try dsimp only)
      have ea : a ≠ t := fun e => n1 (e ▸ h1)
      have h2 := q.lt (List.mem_cons_of_mem t h1)
      have h3 := j.rng a h2
      have h4 := j.inj a t h2 V.lt ea
      (try dsimp only at h3 h4)
      rw [hxs a ea, wd_ne (by omega)]
      exact j.q1 a (List.mem_cons_of_mem _ h1)
    · (try dsimp only at h1 ⊢)
      have ea : a ≠ t := fun e => by subst e; rw [V.pl] at h1; omega
      rw [V.oth.tt a ea] at h1 ⊢
      have h2 := pl_lt (m := m) (s := a) (by omega)
      have h3 := j.rng a h2
      have h4 := j.inj a t h2 V.lt ea
      (try dsimp only at h3 h4)
      rw [wd_ne (by omega)]
      exact j.p1 a h1
theorem i3_0 (T : Int) (hT : 1 ≤ T ∧ T ≤ 16) : I3 (mc0 3 T) := by
  have e : (mc0 3 T).words = (List.replicate (3 + T.toNat) (0 : Int)).set 1 T := rfl
  have hl : (mc0 3 T).ths.length = T.toNat := by show ((List.range T.toNat).map _).length = _; simp
  have hx : ∀ s, s < T.toNat → ((mc0 3 T).tt s).lk.x = s := fun s hs => by rw [(tt0 3 T s).2.2.2 hs]; rfl
  refine ⟨[], T, qs0 3 T, ?_, ?_⟩
  · rw [e, wd_self (by simp; omega)]
    rfl
  · rw [hl]
    refine ⟨fun s t h1 h2 h3 => ?_, fun s h1 => ?_, fun s h1 => ?_, by omega, ?_, (fun s h => by cases h), fun s h => ?_, ?_, by omega⟩
    · (try dsimp only)
      rw [hx s h1, hx t h2]
      omega
    · (try dsimp only)
      rw [hx s h1]
      omega
    · (try dsimp only)
      rw [hx s h1]
      omega
    · rw [e, wd_ne (by omega), wd_rep]
    · (try dsimp only at h)
      rw [pl_none (tt0 3 T s).2.2.1] at h
      omega
    · rw [e, List.length_set, List.length_replicate]
theorem i3_move {m : Mc} (G : Gd m) (hk : m.kd = 3) (I : I3 m) (v : Mo) : I3 (m.move v).2 ∧ Ev m (m.move v).2 := by
  have hV := mv_view G (by rw [hk]; decide) (by obtain ⟨_, _, _, _, j⟩ := I; have := j.len; omega) v
  generalize (m.move v).2 = m' at hV ⊢
  cases hV with
  | stl t S => exact ⟨i3_stl S I, S.ev⟩
  | acq t d l r V => exact i3_acq V G.hist hk I
  | rel t d l r V => exact i3_rel V hk I
  | shr t V => have := V.kd; omega
end Go.Proofs.Ytjnmlgfkiebkgaa
namespace Go.Proofs.Ytjnmlgfkiebkgaa
open Go.RowKit
set_option linter.unusedVariables false
set_option linter.unusedSimpArgs false

/-- b stands behind a -/
def Lnk (W : List Int) (p y : Nat → Int) (a b : Nat) : Prop :=
  (p b = 3 ∧ y b = a + 1 ∧ wd W (2 + 2 * a) = 0) ∨ (p b = 4 ∧ y b = a + 1 ∧ wd W (2 + 2 * a) = 0 ∧ wd W (3 + 2 * b) = 1) ∨ (p b = 5 ∧ wd W (2 + 2 * a) = b + 1 ∧ wd W (3 + 2 * b) = 1)
/-- those who stand behind a, to the tail -/
def NC (W : List Int) (p y : Nat → Int) : Nat → List Nat → Int → Prop
  | a, [], tl => tl = a + 1 ∧ wd W (2 + 2 * a) = 0
  | a, b :: Q, tl => Lnk W p y a b ∧ NC W p y b Q tl
theorem Lnk.congr {W W' : List Int} {p y p' y' : Nat → Int} {a b : Nat} (h1 : p' b = p b) (h2 : y' b = y b) (h3 : wd W' (2 + 2 * a) = wd W (2 + 2 * a)) (h4 : wd W' (3 + 2 * b) = wd W (3 + 2 * b)) (h : Lnk W p y a b) : Lnk W' p' y' a b := by
  unfold Lnk at h ⊢
  rw [h1, h2, h3, h4]
  exact h
theorem NC.congr {W W' : List Int} {p y p' y' : Nat → Int} {Q : List Nat} {a : Nat} {tl : Int} (h : ∀ b ∈ Q, p' b = p b ∧ y' b = y b ∧ wd W' (3 + 2 * b) = wd W (3 + 2 * b)) (h' : ∀ b ∈ a :: Q, wd W' (2 + 2 * b) = wd W (2 + 2 * b)) (c : NC W p y a Q tl) : NC W' p' y' a Q tl := by
  induction Q generalizing a with
  | nil => exact ⟨c.1, (h' a (List.mem_cons_self ..)).trans c.2⟩
  | cons b Q ih =>
    obtain ⟨h1, h2, h3⟩ := h b (List.mem_cons_self ..)
    exact ⟨c.1.congr h1 h2 (h' a (List.mem_cons_self ..)) h3, ih (fun s hs => h s (List.mem_cons_of_mem _ hs)) (fun s hs => h' s (List.mem_cons_of_mem _ hs)) c.2⟩
theorem NC.tail {W : List Int} {p y : Nat → Int} {Q : List Nat} {a : Nat} {tl : Int} (c : NC W p y a Q tl) : ∃ b ∈ a :: Q, tl = b + 1 ∧ (b = a → Q.Nodup → a ∉ Q → Q = []) := by
  induction Q generalizing a with
  | nil => exact ⟨a, List.mem_cons_self .., c.1, fun _ _ _ => rfl⟩
  | cons b Q ih =>
    obtain ⟨e, h1, h2, h3⟩ := ih c.2
    exact ⟨e, List.mem_cons_of_mem _ h1, h2, fun he _ hn => absurd (he ▸ h1) hn⟩
theorem NC.app {W : List Int} {p y : Nat → Int} {Q : List Nat} {a t : Nat} {tl : Int} (c : NC W p y a Q tl) (h1 : p t = 3) (h2 : y t = tl) (h3 : wd W (2 + 2 * t) = 0) : NC W p y a (Q ++ [t]) (t + 1) := by
  induction Q generalizing a with
  | nil => exact ⟨Or.inl ⟨h1, h2.trans c.1, c.2⟩, rfl, h3⟩
  | cons b Q ih => exact ⟨c.1, ih c.2⟩
theorem NC.pl {W : List Int} {p y : Nat → Int} {Q : List Nat} {a t : Nat} {tl : Int} (c : NC W p y a Q tl) (h : t ∈ Q) : p t = 3 ∨ p t = 4 ∨ (p t = 5 ∧ wd W (3 + 2 * t) = 1) := by
  induction Q generalizing a with
  | nil => cases h
  | cons b Q ih =>
    rcases List.mem_cons.1 h with rfl | h
    · rcases c.1 with h | h | h
      · exact Or.inl h.1
      · exact Or.inr (Or.inl h.1)
      · exact Or.inr (Or.inr ⟨h.1, h.2.2⟩)
    · exact ih c.2 h
theorem NC.pred {W : List Int} {p y : Nat → Int} {Q : List Nat} {a t : Nat} {tl : Int} (c : NC W p y a Q tl) (h : t ∈ Q) (h5 : p t ≠ 5) : ∃ e ∈ a :: Q, y t = e + 1 := by
  induction Q generalizing a with
  | nil => cases h
  | cons b Q ih =>
    rcases List.mem_cons.1 h with rfl | h
    · rcases c.1 with h | h | h
      · exact ⟨a, List.mem_cons_self .., h.2.1⟩
      · exact ⟨a, List.mem_cons_self .., h.2.1⟩
      · exact absurd h.1 h5
    · obtain ⟨e, h1, h2⟩ := ih c.2 h
      exact ⟨e, List.mem_cons_of_mem _ h1, h2⟩
/-- t says that it waits -/
theorem NC.wait {W W' : List Int} {p y p' y' : Nat → Int} {Q : List Nat} {a t : Nat} {tl : Int} (c : NC W p y a Q tl) (h : t ∈ Q) (hn : Q.Nodup) (h3 : p t = 3) (h4 : p' t = 4) (hp : ∀ s, s ≠ t → p' s = p s) (hy : ∀ s, y' s = y s) (h1 : wd W' (3 + 2 * t) = 1) (ho : ∀ i, i ≠ 3 + 2 * t → wd W' i = wd W i) : NC W' p' y' a Q tl := by
  induction Q generalizing a with
  | nil => cases h
  | cons b Q ih =>
    obtain ⟨n1, n2⟩ := List.nodup_cons.1 hn
    by_cases e : b = t
    · subst e
      refine ⟨?_, c.2.congr (fun s hs => ?_) fun s _ => ho _ (by omega)⟩
      · rcases c.1 with g | g | g
        · exact Or.inr (Or.inl ⟨h4, (hy b).trans g.2.1, (ho _ (by omega)).trans g.2.2, h1⟩)
        · have := g.1; omega
        · have := g.1; omega
      · have e2 : s ≠ b := fun e => n1 (e ▸ hs)
        exact ⟨hp s e2, hy s, ho _ (by omega)⟩
    · refine ⟨c.1.congr (hp b e) (hy b) (ho _ (by omega)) (ho _ (by omega)), ih c.2 ?_ n2⟩
      rcases List.mem_cons.1 h with e' | h
      · exact absurd e'.symm e
      · exact h
/-- t tells the one ahead -/
theorem NC.link {W W' : List Int} {p y p' y' : Nat → Int} {Q : List Nat} {a t e : Nat} {tl : Int} (c : NC W p y a Q tl) (h : t ∈ Q) (hn : (a :: Q).Nodup) (h4 : p t = 4) (he : y t = e + 1) (h5 : p' t = 5) (hp : ∀ s, s ≠ t → p' s = p s) (hy : ∀ s, y' s = y s) (h1 : wd W' (2 + 2 * e) = t + 1) (ho : ∀ i, i ≠ 2 + 2 * e → wd W' i = wd W i) : NC W' p' y' a Q tl := by
  induction Q generalizing a with
  | nil => cases h
  | cons b Q ih =>
    obtain ⟨n1, n2⟩ := List.nodup_cons.1 hn
    obtain ⟨n3, n4⟩ := List.nodup_cons.1 n2
    by_cases eb : b = t
    · subst eb
      rcases c.1 with g | g | g
      · have := g.1; omega
      · have hea : e = a := by have := g.2.1; omega
        subst hea
        refine ⟨Or.inr (Or.inr ⟨h5, h1, (ho _ (by omega)).trans g.2.2.2⟩), c.2.congr (fun s hs => ?_) fun s hs => ho _ ?_⟩
        · have e2 : s ≠ b := fun e => n3 (e ▸ hs)
          exact ⟨hp s e2, hy s, ho _ (by omega)⟩
        · have e2 : s ≠ e := fun e9 => n1 (e9 ▸ hs)
          omega
      · have := g.1; omega
    · have ht : t ∈ Q := by
        rcases List.mem_cons.1 h with e' | h
        · exact absurd e'.symm eb
        · exact h
      obtain ⟨e9, g1, g2⟩ := c.2.pred ht (by omega)
      have : e9 = e := by omega
      subst this
      have hne : e9 ≠ a := fun e => n1 (e ▸ g1)
      exact ⟨c.1.congr (hp b eb) (hy b) (ho _ (by omega)) (ho _ (by omega)), ih c.2 ht n2⟩
/-- the head: it is in (and knows whom it must tell, if it ends), or has been told -/
def HD (W : List Int) (al : Nat → Bool) (ra x p : Nat → Int) : Nat → List Nat → Prop := fun a R =>
  (al a = true ∧ ((ra a = 0 ∨ ra a = 1 ∨ ra a = 2) ∨ ∃ b R', R = b :: R' ∧ x a = b + 1 ∧ p b = 5)) ∨ (p a = 5 ∧ wd W (3 + 2 * a) = 0)
def L4 (W : List Int) (al : Nat → Bool) (ra x y p : Nat → Int) : List Nat → Prop
  | [] => wd W 1 = 0
  | a :: R => HD W al ra x p a R ∧ NC W p y a R (wd W 1)
structure J4 (W : List Int) (T : Nat) (p : Nat → Int) : Prop where
  p1 : ∀ s, p s = 1 ∨ p s = 2 → wd W (2 + 2 * s) = 0
  len : W.length = 2 + 2 * T
  T16 : T ≤ 16
abbrev Mc.fal (m : Mc) : Nat → Bool := fun s => (m.tt s).alone
abbrev Mc.fra (m : Mc) : Nat → Int := fun s => (m.tt s).lk.at_
abbrev Mc.fx (m : Mc) : Nat → Int := fun s => (m.tt s).lk.x
abbrev Mc.fy (m : Mc) : Nat → Int := fun s => (m.tt s).lk.y
abbrev Mc.fp (m : Mc) : Nat → Int := fun s => (m.tt s).pl
def I4 (m : Mc) : Prop := ∃ Q, QS m Q ∧ L4 m.words m.fal m.fra m.fx m.fy m.fp Q ∧ J4 m.words m.ths.length m.fp
theorem l4_congr {W W' : List Int} {al al' : Nat → Bool} {ra x y p ra' x' y' p' : Nat → Int} {Q : List Nat} (h : ∀ s ∈ Q, al' s = al s ∧ ra' s = ra s ∧ x' s = x s ∧ y' s = y s ∧ p' s = p s ∧ wd W' (2 + 2 * s) = wd W (2 + 2 * s) ∧ wd W' (3 + 2 * s) = wd W (3 + 2 * s)) (h1 : wd W' 1 = wd W 1) (L : L4 W al ra x y p Q) : L4 W' al' ra' x' y' p' Q := by
  cases Q with
  | nil => exact h1.trans L
  | cons a R =>
    obtain ⟨k1, k2, k3, k4, k5, k6, k7⟩ := h a (List.mem_cons_self ..)
    refine ⟨?_, ?_⟩
    · rcases L.1 with ⟨g1, g2⟩ | ⟨g1, g2⟩
      · refine Or.inl ⟨k1.trans g1, ?_⟩
        rw [k2, k3]
        rcases g2 with g2 | ⟨b, R', rfl, g3, g4⟩
        · exact Or.inl g2
        · exact Or.inr ⟨b, R', rfl, g3, ((h b (by simp)).2.2.2.2.1).trans g4⟩
      · exact Or.inr ⟨k5.trans g1, k7.trans g2⟩
    · rw [h1]
      exact L.2.congr (fun b hb => by obtain ⟨_, _, _, g4, g5, _, g7⟩ := h b (List.mem_cons_of_mem _ hb); exact ⟨g5, g4, g7⟩) fun b hb => (h b hb).2.2.2.2.2.1
theorem i4_stl {m m' : Mc} {t : Nat} (S : Stl m m' t) (I : I4 m) : I4 m' := by
  obtain ⟨Q, q, L, j⟩ := I
  refine ⟨Q, S.qs q, l4_congr (fun s _ => ?_) (S.wd 1 (by omega)) L, fun s hs => ?_, by rw [S.wl, S.tl]; exact j.len, by rw [S.tl]; exact j.T16⟩
  · refine ⟨S.als s, ?_, ?_, ?_, S.pls s, S.wd _ (by omega), S.wd _ (by omega)⟩
    · show (m'.tt s).lk.at_ = (m.tt s).lk.at_; rw [S.lks s]
    · show (m'.tt s).lk.x = (m.tt s).lk.x; rw [S.lks s]
    · show (m'.tt s).lk.y = (m.tt s).lk.y; rw [S.lks s]
  · have hs' : (m'.tt s).pl = 1 ∨ (m'.tt s).pl = 2 := hs
    rw [S.pls s] at hs'
    rw [S.wd _ (by omega)]
    exact j.p1 s hs'
theorem aft4 {me all at_ x y : Int} (h0 : at_ ≠ 0) (h1 : at_ ≠ 1) (h2 : at_ ≠ 2) : (aft ⟨4, me, all, at_, x, y⟩).isSome = true := by
  show (bif at_ == 0 || (at_ == 1 || at_ == 2) then none else bif at_ == 3 then some 0 else bif at_ == 4 then some 1 else some 2).isSome = true
  rw [show (at_ == 0) = false by simpa using h0, show (at_ == 1) = false by simpa using h1, show (at_ == 2) = false by simpa using h2]
  cases at_ == 3 <;> cases at_ == 4 <;> rfl
theorem nword_id {t : Int} (h : 0 ≤ t ∧ t ≤ 100) : nword t = 2 + 2 * t := by
  unfold nword
  rw [iw_id (x := 2 * t) (by omega), iw_id (by omega)]
/-- a step that changes neither those who have come nor what they stand by -/
theorem i4_out {m m' : Mc} {t : Nat} {Q : List Nat} (q : QS m Q) (q' : QS m' Q) (o : Otr m m' t) (hn : t ∉ Q) (L : L4 m.words m.fal m.fra m.fx m.fy m.fp Q) (j : J4 m.words m.ths.length m.fp) (htl : m'.ths.length = m.ths.length) (hwl : m'.words.length = m.words.length)
    (hw : ∀ i, i ≠ 2 + 2 * t → wd m'.words i = wd m.words i) (hp : (m'.tt t).pl = 1 ∨ (m'.tt t).pl = 2 → wd m'.words (2 + 2 * t) = 0) : I4 m' := by
  refine ⟨Q, q', l4_congr (fun s hs => ?_) (hw 1 (by omega)) L, fun s hs => ?_, by rw [hwl, htl]; exact j.len, by rw [htl]; exact j.T16⟩
  · have e : s ≠ t := fun e => hn (e ▸ hs)
    refine ⟨?_, ?_, ?_, ?_, ?_, hw _ (by omega), hw _ (by omega)⟩ <;> (dsimp only [Mc.fal, Mc.fra, Mc.fx, Mc.fy, Mc.fp]; rw [o.tt s e])
  · by_cases e : s = t
    · subst e
      exact hp hs
    · have hs' : (m'.tt s).pl = 1 ∨ (m'.tt s).pl = 2 := hs
      rw [o.tt s e] at hs'
      rw [hw _ (by omega)]
      exact j.p1 s hs'
theorem pl_alone {m : Mc} (G : Gd m) {s : Nat} (h : (m.tt s).alone = true) : (m.tt s).pl = 0 := by
  unfold Th.pl
  cases e : (m.tt s).task with
  | none => rfl
  | some p =>
    cases p with
    | acq =>
      have := ((G.wf s).acq e).1
      rw [h] at this
      cases this
    | _ => rfl
set_option maxHeartbeats 2000000 in
theorem i4_acq {m m' : Mc} {t : Nat} {d : Dk} {l : Lk} {r : Bool × Lk × Dk} (V : AcqV m m' t d l r) (G : Gd m) (hk : m.kd = 4) (I : I4 m) : I4 m' ∧ Ev m m' := by
  obtain ⟨Q, q, L, j⟩ := I
  have hr := V.req
  have hkd := V.kd
  rw [hk] at hkd
  have hw0 := V.wt0
  have hpl := V.pl0
  have hlx := V.x
  have hly := V.y
  have hme := V.me
  have hlt := V.lt
  obtain ⟨kd, me, all, at_, x, y⟩ := l
  dsimp only at hkd hpl hlx hly hme
  subst hkd hme
  have hr' : r = Lk.nodeA ⟨4, t, all, at_, x, y⟩ d := hr
  unfold Lk.nodeA at hr'
  dsimp only at hr'
  have T16 := j.T16
  have hln := j.len
  have hin : (0 : Int) ≤ 1 ∧ (1 : Int) < d.words.length := ⟨by decide, by rw [V.dw]; omega⟩
  have hnw : nword (t : Int) = 2 + 2 * t := nword_id (by omega)
  rw [hnw] at hr'
  clear hnw
  have oths : ∀ s, s ≠ t → (m'.tt s).lk = (m.tt s).lk := fun s hs => by rw [V.oth.tt s hs]
  have opls : ∀ s, s ≠ t → (m'.tt s).pl = (m.tt s).pl := fun s hs => by rw [V.oth.tt s hs]
  have hp2 : ∀ s, s ≠ t → (m'.tt s).pl = 1 ∨ (m'.tt s).pl = 2 → wd m.words (2 + 2 * s) = 0 := fun s hs h => by
    rw [opls s hs] at h
    exact j.p1 s h
  by_cases e0 : at_ = 0
  · subst e0
    have hr2 : r = (false, ⟨4, t, all, 1, x, y⟩, d.store (2 + 2 * t) 0) := hr'
    have hwt : (m.tt t).wt = false := hw0
    have hW : m'.words = m.words.set (2 + 2 * t) 0 := by rw [V.w, hr2]; show (d.store (2 + 2 * t) 0).words = _; rw [sto_w V.du (by omega), V.dw, show ((2 : Int) + 2 * t).toNat = 2 + 2 * t by omega]
    have ha : (m'.tt t).alone = false := by rw [V.al, hr2]
    have hw' : (m'.tt t).wt = false := by rw [V.wt, hr2]; rfl
    refine ⟨i4_out q (q.same V.oth (by rw [ha, V.al0]) (by rw [hw', hwt]) (fun e => by rw [hwt] at e; cases e)) V.oth (not_mem_wt q V.al0 hwt) L j V.tl (by rw [hW, List.length_set]) (fun i hi => by rw [hW, wd_ne (fun e => hi e.symm)]) fun _ => by rw [hW, wd_self (by omega)], ev_of V.oth fun h => by rw [ha] at h; cases h⟩
  by_cases e1 : at_ = 1
  · subst e1
    have hr2 : r = (false, ⟨4, t, all, 2, x, (d.load 1).1⟩, (d.load 1).2) := hr'
    have hwt : (m.tt t).wt = false := hw0
    have hW : m'.words = m.words := by rw [V.w, hr2]; show (d.load 1).2.words = _; rw [ld_w, V.dw]
    have ha : (m'.tt t).alone = false := by rw [V.al, hr2]
    have hw' : (m'.tt t).wt = false := by rw [V.wt, hr2]; rfl
    refine ⟨i4_out q (q.same V.oth (by rw [ha, V.al0]) (by rw [hw', hwt]) (fun e => by rw [hwt] at e; cases e)) V.oth (not_mem_wt q V.al0 hwt) L j V.tl (by rw [hW]) (fun i hi => by rw [hW]) fun _ => by rw [hW]; exact j.p1 t (Or.inl hpl.symm), ev_of V.oth fun h => by rw [ha] at h; cases h⟩
  by_cases e2 : at_ = 2
  · subst e2
    have hwt : (m.tt t).wt = false := hw0
    have hn := not_mem_wt q V.al0 hwt
    have hs1 : uw (iw ((t : Int) + 1)) = t + 1 := by rw [iw_id (by omega), uw_id (by omega)]
    rw [hs1] at hr'
    clear hs1
    have b1 := sw_b (o := y) (w := (t : Int) + 1) V.du hin
    have b2 := sw_w (o := y) (w := (t : Int) + 1) V.du hin
    have hpn : (d.swap 1 y ((t : Int) + 1)).2.point.pt = m.moves := (swap_now _ _ _ _).trans V.dn
    have hnx : wd m.words (2 + 2 * t) = 0 := j.p1 t (Or.inr hpl.symm)
    have hr2 : r = bif (d.swap 1 y ((t : Int) + 1)).1 then (bif y == 0 then (true, ⟨4, t, all, 0, x, y⟩, (d.swap 1 y ((t : Int) + 1)).2.point) else (false, ⟨4, t, all, 3, x, y⟩, (d.swap 1 y ((t : Int) + 1)).2.point)) else (false, ⟨4, t, all, 1, x, y⟩, (d.swap 1 y ((t : Int) + 1)).2) := hr'
    rw [b1] at hr2
    rw [V.dw] at b2 hr2
    cases hb : (wd m.words (1 : Int).toNat == y) with
    | false =>
      rw [hb] at hr2 b2
      have hr3 : r = (false, ⟨4, t, all, 1, x, y⟩, (d.swap 1 y ((t : Int) + 1)).2) := hr2
      have hW : m'.words = m.words := by rw [V.w, hr3]; exact b2
      have ha : (m'.tt t).alone = false := by rw [V.al, hr3]
      have hw' : (m'.tt t).wt = false := by rw [V.wt, hr3]; rfl
      refine ⟨i4_out q (q.same V.oth (by rw [ha, V.al0]) (by rw [hw', hwt]) (fun e => by rw [hwt] at e; cases e)) V.oth hn L j V.tl (by rw [hW]) (fun i hi => by rw [hW]) fun _ => by rw [hW]; exact hnx, ev_of V.oth fun h => by rw [ha] at h; cases h⟩
    | true =>
      have hy1 : wd m.words 1 = y := by simpa using hb
      rw [hb] at hr2 b2
      have hW : ∀ d' : Dk, r.2.2 = d' → d'.words = (d.swap 1 y ((t : Int) + 1)).2.words → m'.words = m.words.set 1 (t + 1) := fun d' h1 h2 => by
        rw [V.w, h1, h2, b2]
        rfl
      have hjj : (m'.tt t).pl ≠ 1 → (m'.tt t).pl ≠ 2 → m'.words = m.words.set 1 (t + 1) → J4 m'.words m'.ths.length m'.fp := fun g1 g2 hW => by
        refine ⟨fun s hs => ?_, by rw [hW, List.length_set, V.tl]; exact hln, by rw [V.tl]; exact T16⟩
        have hs' : (m'.tt s).pl = 1 ∨ (m'.tt s).pl = 2 := hs
        by_cases e : s = t
        · subst e; omega
        · rw [hW, wd_ne (by omega)]
          exact hp2 s e hs'
      cases hy : (y == 0) with
      | true =>
        rw [hy] at hr2
        have hr3 : r = (true, ⟨4, t, all, 0, x, y⟩, (d.swap 1 y ((t : Int) + 1)).2.point) := hr2
        have hy0 : y = 0 := by simpa using hy
        have hW' := hW (d.swap 1 y ((t : Int) + 1)).2.point (congrArg (fun r => r.2.2) hr3) rfl
        have ha : (m'.tt t).alone = true := by rw [V.al, hr3]
        have hw' : (m'.tt t).wt = false := by rw [V.wt, hr3]; rfl
        have hp : m'.lpt t = m.moves := by rw [V.lpt, hr3]; exact hpn
        have hp' : (m'.tt t).pl = 0 := by rw [V.pl, hr3]; rfl
        have hQ : Q = [] := by
          cases Q with
          | nil => rfl
          | cons a R =>
            obtain ⟨b, _, h9, _⟩ := L.2.tail
            omega
        subst hQ
        refine ⟨⟨[t], q.join G.hist V.oth V.al0 hwt (Or.inl ⟨ha, rfl⟩) hp, ⟨Or.inl ⟨ha, Or.inl (Or.inl ?_)⟩, ?_, ?_⟩, hjj (by omega) (by omega) hW'⟩, ev_of V.oth fun _ _ s hs hw => ?_⟩
        · show (m'.tt t).lk.at_ = 0
          rw [V.lk, hr3]
        · rw [hW', wd_self (by omega)]
        · rw [hW', wd_ne (by omega)]
          exact hnx
        · have := mem_wt q hw
          cases this
      | false =>
        rw [hy] at hr2
        have hr3 : r = (false, ⟨4, t, all, 3, x, y⟩, (d.swap 1 y ((t : Int) + 1)).2.point) := hr2
        have hy0 : y ≠ 0 := by simpa using hy
        have hW' := hW (d.swap 1 y ((t : Int) + 1)).2.point (congrArg (fun r => r.2.2) hr3) rfl
        have ha : (m'.tt t).alone = false := by rw [V.al, hr3]
        have hw' : (m'.tt t).wt = true := by rw [V.wt, hr3]; rfl
        have hp : m'.lpt t = m.moves := by rw [V.lpt, hr3]; exact hpn
        have hp' : (m'.tt t).pl = 3 := by rw [V.pl, hr3]; rfl
        cases Q with
        | nil =>
          have h9 : wd m.words 1 = 0 := L
          omega
        | cons a R =>
          have hc : ∀ s ∈ a :: R, s ≠ t := fun s hs e => hn (e ▸ hs)
          have hww : ∀ i, i ≠ 1 → wd m'.words i = wd m.words i := fun i hi => by rw [hW', wd_ne (fun e => hi e.symm)]
          refine ⟨⟨a :: R ++ [t], q.join G.hist V.oth V.al0 hwt (Or.inr ⟨ha, hw'⟩) hp, ⟨?_, ?_⟩, hjj (by omega) (by omega) hW'⟩, ev_of V.oth fun h => by rw [ha] at h; cases h⟩
          · have hat := hc a (List.mem_cons_self ..)
            rcases L.1 with ⟨g1, g2⟩ | ⟨g1, g2⟩
            · refine Or.inl ⟨by show (m'.tt a).alone = true; rw [V.oth.tt a hat]; exact g1, ?_⟩
              rcases g2 with g2 | ⟨b, R', rfl, g3, g4⟩
              · refine Or.inl ?_
                show (m'.tt a).lk.at_ = 0 ∨ (m'.tt a).lk.at_ = 1 ∨ (m'.tt a).lk.at_ = 2
                rw [oths a hat]
                exact g2
              · have hbt := hc b (by simp)
                refine Or.inr ⟨b, R' ++ [t], rfl, ?_, ?_⟩
                · show (m'.tt a).lk.x = _; rw [oths a hat]; exact g3
                · show (m'.tt b).pl = _; rw [opls b hbt]; exact g4
            · refine Or.inr ⟨?_, ?_⟩
              · show (m'.tt a).pl = _; rw [opls a hat]; exact g1
              · rw [hww _ (by omega)]; exact g2
          · have h9 := NC.app (t := t) (tl := wd m.words 1) (L.2.congr (W' := m'.words) (p' := m'.fp) (y' := m'.fy) (fun b hb => by
              have hbt := hc b (List.mem_cons_of_mem _ hb)
              refine ⟨opls b hbt, ?_, hww _ (by omega)⟩
              show (m'.tt b).lk.y = (m.tt b).lk.y
              rw [oths b hbt]) fun b _ => hww _ (by omega)) hp' (by show (m'.tt t).lk.y = _; rw [V.lk, hr3]; exact hy1.symm) (by rw [hww _ (by omega)]; exact hnx)
            rw [show wd m'.words 1 = t + 1 by rw [hW', wd_self (by omega)]]
            exact h9
  · have hwt : (m.tt t).wt = true := by rw [hw0]; exact aft4 e0 e1 e2
    have hm' := mem_wt q hwt
    cases Q with
    | nil => cases hm'
    | cons a R =>
    have hnd := q.nd
    obtain ⟨n1, n2⟩ := List.nodup_cons.1 hnd
    have L1 := L.1
    have L2 := L.2
    -- not the head, at 3 or 4
    have htR : (m.tt t).pl ≠ 5 → t ∈ R := fun h5 => by
      rcases List.mem_cons.1 hm' with e | h
      · subst e
        rcases L1 with ⟨g1, _⟩ | ⟨g1, _⟩
        · have g1' : (m.tt t).alone = true := g1
          rw [V.al0] at g1'
          cases g1'
        · exact absurd g1 h5
      · exact h
    by_cases e3 : at_ = 3
    · subst e3
      have hr2 : r = (false, ⟨4, t, all, 4, x, y⟩, d.store (iw (2 + 2 * t + 1)) 1) := hr'
      rw [iw_id (by omega)] at hr2
      have hW : m'.words = m.words.set (3 + 2 * t) 1 := by rw [V.w, hr2]; show (d.store (2 + 2 * t + 1) 1).words = _; rw [sto_w V.du (by omega), V.dw, show ((2 : Int) + 2 * t + 1).toNat = 3 + 2 * t by omega]
      have ha : (m'.tt t).alone = false := by rw [V.al, hr2]
      have hw' : (m'.tt t).wt = true := by rw [V.wt, hr2]; rfl
      have hp : m'.lpt t = m.lpt t := by rw [V.lpt, hr2]; show (d.store _ _).pt = _; rw [store_pt, V.dp]
      have hp' : (m'.tt t).pl = 4 := by rw [V.pl, hr2]; rfl
      have htr := htR (by omega)
      have hat : a ≠ t := fun e => n1 (e ▸ htr)
      have hww : ∀ i, i ≠ 3 + 2 * t → wd m'.words i = wd m.words i := fun i hi => by rw [hW, wd_ne (fun e => hi e.symm)]
      have hyy : ∀ s, m'.fy s = m.fy s := fun s => by
        by_cases e : s = t
        · subst e
          show (m'.tt s).lk.y = (m.tt s).lk.y
          rw [V.lk, hr2]
          exact hly
        · show (m'.tt s).lk.y = (m.tt s).lk.y
          rw [oths s e]
      refine ⟨⟨a :: R, q.same V.oth (by rw [ha, V.al0]) (by rw [hw', hwt]) (fun _ => hp), ⟨?_, ?_⟩, fun s hs => ?_, by rw [hW, List.length_set, V.tl]; exact hln, by rw [V.tl]; exact T16⟩, ev_of V.oth fun h => by rw [ha] at h; cases h⟩
      · rcases L1 with ⟨g1, g2⟩ | ⟨g1, g2⟩
        · refine Or.inl ⟨by show (m'.tt a).alone = true; rw [V.oth.tt a hat]; exact g1, ?_⟩
          rcases g2 with g2 | ⟨b, R', rfl, g3, g4⟩
          · refine Or.inl ?_
            show (m'.tt a).lk.at_ = 0 ∨ (m'.tt a).lk.at_ = 1 ∨ (m'.tt a).lk.at_ = 2
            rw [oths a hat]
            exact g2
          · have g4' : (m.tt b).pl = 5 := g4
            have hbt : b ≠ t := fun e => by subst e; omega
            refine Or.inr ⟨b, R', rfl, ?_, ?_⟩
            · show (m'.tt a).lk.x = _; rw [oths a hat]; exact g3
            · show (m'.tt b).pl = _; rw [opls b hbt]; exact g4
        · refine Or.inr ⟨?_, ?_⟩
          · show (m'.tt a).pl = _; rw [opls a hat]; exact g1
          · rw [hww _ (by omega)]; exact g2
      · rw [hww 1 (by omega)]
        exact L2.wait htr n2 hpl.symm hp' opls hyy (by rw [hW, wd_self (by omega)]) hww
      · have hs' : (m'.tt s).pl = 1 ∨ (m'.tt s).pl = 2 := hs
        by_cases e : s = t
        · subst e; omega
        · rw [hww _ (by omega)]
          exact hp2 s e hs'
    by_cases e4 : at_ = 4
    · subst e4
      have htr := htR (by omega)
      have hat : a ≠ t := fun e => n1 (e ▸ htr)
      obtain ⟨e, he1, he2⟩ := L2.pred htr (by show (m.tt t).pl ≠ 5; omega)
      have hye : y = e + 1 := hly.trans he2
      have hel := q.lt he1
      have hr2 : r = (false, ⟨4, t, all, 5, x, y⟩, d.store (nword (iw (iw y - 1))) (uw (iw ((t : Int) + 1)))) := hr'
      rw [iw_id (x := y) (by omega), iw_id (x := y - 1) (by omega), nword_id (by omega), iw_id (x := (t : Int) + 1) (by omega), uw_id (by omega)] at hr2
      have hW : m'.words = m.words.set (2 + 2 * e) (t + 1) := by rw [V.w, hr2]; show (d.store (2 + 2 * (y - 1)) (t + 1)).words = _; rw [sto_w V.du (by omega), V.dw, show ((2 : Int) + 2 * (y - 1)).toNat = 2 + 2 * e by omega]
      have ha : (m'.tt t).alone = false := by rw [V.al, hr2]
      have hw' : (m'.tt t).wt = true := by rw [V.wt, hr2]; rfl
      have hp : m'.lpt t = m.lpt t := by rw [V.lpt, hr2]; show (d.store _ _).pt = _; rw [store_pt, V.dp]
      have hp' : (m'.tt t).pl = 5 := by rw [V.pl, hr2]; rfl
      have hww : ∀ i, i ≠ 2 + 2 * e → wd m'.words i = wd m.words i := fun i hi => by rw [hW, wd_ne (fun e => hi e.symm)]
      have hyy : ∀ s, m'.fy s = m.fy s := fun s => by
        by_cases e : s = t
        · subst e
          show (m'.tt s).lk.y = (m.tt s).lk.y
          rw [V.lk, hr2]
          exact hly
        · show (m'.tt s).lk.y = (m.tt s).lk.y
          rw [oths s e]
      refine ⟨⟨a :: R, q.same V.oth (by rw [ha, V.al0]) (by rw [hw', hwt]) (fun _ => hp), ⟨?_, ?_⟩, fun s hs => ?_, by rw [hW, List.length_set, V.tl]; exact hln, by rw [V.tl]; exact T16⟩, ev_of V.oth fun h => by rw [ha] at h; cases h⟩
      · rcases L1 with ⟨g1, g2⟩ | ⟨g1, g2⟩
        · refine Or.inl ⟨by show (m'.tt a).alone = true; rw [V.oth.tt a hat]; exact g1, ?_⟩
          rcases g2 with g2 | ⟨b, R', rfl, g3, g4⟩
          · refine Or.inl ?_
            show (m'.tt a).lk.at_ = 0 ∨ (m'.tt a).lk.at_ = 1 ∨ (m'.tt a).lk.at_ = 2
            rw [oths a hat]
            exact g2
          · have g4' : (m.tt b).pl = 5 := g4
            have hbt : b ≠ t := fun e => by subst e; omega
            refine Or.inr ⟨b, R', rfl, ?_, ?_⟩
            · show (m'.tt a).lk.x = _; rw [oths a hat]; exact g3
            · show (m'.tt b).pl = _; rw [opls b hbt]; exact g4
        · refine Or.inr ⟨?_, ?_⟩
          · show (m'.tt a).pl = _; rw [opls a hat]; exact g1
          · rw [hww _ (by omega)]; exact g2
      · rw [hww 1 (by omega)]
        exact L2.link htr hnd hpl.symm he2 hp' opls hyy (by rw [hW, wd_self (by omega)]) hww
      · have hs' : (m'.tt s).pl = 1 ∨ (m'.tt s).pl = 2 := hs
        by_cases e9 : s = t
        · subst e9; omega
        · by_cases e8 : s = e
          · subst e8
            have hs2 : (m.tt s).pl = 1 ∨ (m.tt s).pl = 2 := by rw [← opls s e9]; exact hs'
            exfalso
            rcases List.mem_cons.1 he1 with e7 | h7
            · subst e7
              rcases L1 with ⟨g1, _⟩ | ⟨g1, _⟩
              · have g1' : (m.tt s).alone = true := g1
                have := pl_alone G g1'
                omega
              · have g1' : (m.tt s).pl = 5 := g1
                omega
            · have h6 : (m.tt s).pl = 3 ∨ (m.tt s).pl = 4 ∨ ((m.tt s).pl = 5 ∧ _) := L2.pl h7
              omega
          · rw [hww _ (by omega)]
            exact hp2 s e9 hs'
    · have hr2 : r = bif (d.load (2 + 2 * t + 1)).1 == 0 then (true, ⟨4, t, all, 0, x, y⟩, (d.load (2 + 2 * t + 1)).2) else (false, ⟨4, t, all, at_, x, y⟩, (d.load (2 + 2 * t + 1)).2) := by
        rw [show (at_ == 0) = false by simpa using e0, show (at_ == 1) = false by simpa using e1, show (at_ == 2) = false by simpa using e2, show (at_ == 3) = false by simpa using e3, show (at_ == 4) = false by simpa using e4] at hr'
        rw [iw_id (x := (2 : Int) + 2 * t + 1) (by omega)] at hr'
        exact hr'
      have hv : (d.load (2 + 2 * t + 1)).1 = wd m.words (3 + 2 * t) := by rw [ld_v V.du (by omega), V.dw, show ((2 : Int) + 2 * t + 1).toNat = 3 + 2 * t by omega]
      rw [hv] at hr2
      cases hb : (wd m.words (3 + 2 * t) == 0) with
      | false =>
        rw [hb] at hr2
        have hr3 : r = (false, ⟨4, t, all, at_, x, y⟩, (d.load (2 + 2 * t + 1)).2) := hr2
        have hW : m'.words = m.words := by rw [V.w, hr3]; show (d.load _).2.words = _; rw [ld_w, V.dw]
        have hp : m'.lpt t = m.lpt t := by rw [V.lpt, hr3]; show (d.load _).2.pt = _; rw [load_pt, V.dp]
        have ha : (m'.tt t).alone = false := by rw [V.al, hr3]
        have hw' : (m'.tt t).wt = true := by rw [V.wt, hr3]; exact aft4 e0 e1 e2
        have hb0 : wd m.words (3 + 2 * t) ≠ 0 := by simpa using hb
        have hp' : (m'.tt t).pl = at_ := by rw [V.pl, hr3]; rfl
        refine ⟨⟨a :: R, q.same V.oth (by rw [ha, V.al0]) (by rw [hw', hwt]) (fun _ => hp), ⟨?_, ?_⟩, fun s hs => ?_, by rw [hW, V.tl]; exact hln, by rw [V.tl]; exact T16⟩, ev_of V.oth fun h => by rw [ha] at h; cases h⟩
        · rcases L1 with ⟨g1, g2⟩ | ⟨g1, g2⟩
          · have hat : a ≠ t := fun e => by
              subst e
              have g1' : (m.tt a).alone = true := g1
              rw [V.al0] at g1'
              cases g1'
            refine Or.inl ⟨by show (m'.tt a).alone = true; rw [V.oth.tt a hat]; exact g1, ?_⟩
            rcases g2 with g2 | ⟨b, R', rfl, g3, g4⟩
            · refine Or.inl ?_
              show (m'.tt a).lk.at_ = 0 ∨ (m'.tt a).lk.at_ = 1 ∨ (m'.tt a).lk.at_ = 2
              rw [oths a hat]
              exact g2
            · refine Or.inr ⟨b, R', rfl, ?_, ?_⟩
              · show (m'.tt a).lk.x = _; rw [oths a hat]; exact g3
              · show (m'.tt b).pl = _
                by_cases e : b = t
                · subst e
                  rw [hp', hpl]
                  exact g4
                · rw [opls b e]; exact g4
          · have hat : a ≠ t := fun e => by subst e; exact hb0 g2
            refine Or.inr ⟨?_, ?_⟩
            · show (m'.tt a).pl = _; rw [opls a hat]; exact g1
            · rw [hW]; exact g2
        · rw [hW]
          refine L2.congr (fun b _ => ?_) fun _ _ => rfl
          by_cases e : b = t
          · subst e
            refine ⟨?_, ?_, rfl⟩
            · show (m'.tt b).pl = (m.tt b).pl; rw [hp', hpl]
            · show (m'.tt b).lk.y = (m.tt b).lk.y; rw [V.lk, hr3]; exact hly
          · refine ⟨opls b e, ?_, rfl⟩
            show (m'.tt b).lk.y = (m.tt b).lk.y
            rw [oths b e]
        · have hs' : (m'.tt s).pl = 1 ∨ (m'.tt s).pl = 2 := hs
          rw [hW]
          by_cases e : s = t
          · subst e; omega
          · exact hp2 s e hs'
      | true =>
        rw [hb] at hr2
        have hr3 : r = (true, ⟨4, t, all, 0, x, y⟩, (d.load (2 + 2 * t + 1)).2) := hr2
        have hW : m'.words = m.words := by rw [V.w, hr3]; show (d.load _).2.words = _; rw [ld_w, V.dw]
        have hp : m'.lpt t = m.lpt t := by rw [V.lpt, hr3]; show (d.load _).2.pt = _; rw [load_pt, V.dp]
        have ha : (m'.tt t).alone = true := by rw [V.al, hr3]
        have hw' : (m'.tt t).wt = false := by rw [V.wt, hr3]; rfl
        have hb0 : wd m.words (3 + 2 * t) = 0 := by simpa using hb
        have hp' : (m'.tt t).pl = 0 := by rw [V.pl, hr3]; rfl
        -- it is the head
        have hat : a = t := by
          rcases List.mem_cons.1 hm' with e | h
          · exact e.symm
          · have h6 : (m.tt t).pl = 3 ∨ (m.tt t).pl = 4 ∨ ((m.tt t).pl = 5 ∧ wd m.words (3 + 2 * t) = 1) := L2.pl h
            omega
        subst hat
        refine ⟨⟨a :: R, q.enter V.oth ha hw' hwt hp, ⟨Or.inl ⟨ha, Or.inl (Or.inl ?_)⟩, ?_⟩, fun s hs => ?_, by rw [hW, V.tl]; exact hln, by rw [V.tl]; exact T16⟩, ev_of V.oth fun _ _ s hs hw => by rw [hp]; exact q.first hwt hs hw⟩
        · show (m'.tt a).lk.at_ = 0
          rw [V.lk, hr3]
        · rw [hW]
          refine L2.congr (fun b hb9 => ?_) fun _ _ => rfl
          have e : b ≠ a := fun e => n1 (e ▸ hb9)
          refine ⟨opls b e, ?_, rfl⟩
          show (m'.tt b).lk.y = (m.tt b).lk.y
          rw [oths b e]
        · have hs' : (m'.tt s).pl = 1 ∨ (m'.tt s).pl = 2 := hs
          rw [hW]
          by_cases e : s = a
          · subst e; omega
          · exact hp2 s e hs'
theorem i4_rel {m m' : Mc} {t : Nat} {d : Dk} {l : Lk} {r : Bool × Lk × Dk} (V : RelV m m' t d l r) (hk : m.kd = 4) (I : I4 m) : I4 m' ∧ Ev m m' := by
  obtain ⟨Q, q, L, j⟩ := I
  have hr := V.req
  have hkd := V.kd
  rw [hk] at hkd
  have hl := V.leq
  have hme := V.me
  have hlt := V.lt
  obtain ⟨kd, me, all, at_, x, y⟩ := l
  dsimp only at hkd hme
  subst hkd hme
  have hr' : r = Lk.nodeR ⟨4, t, all, at_, x, y⟩ d := hr
  unfold Lk.nodeR at hr'
  dsimp only at hr'
  have T16 := j.T16
  have hln := j.len
  have hin : (0 : Int) ≤ 1 ∧ (1 : Int) < d.words.length := ⟨by decide, by rw [V.dw]; omega⟩
  rw [nword_id (t := (t : Int)) (by omega)] at hr'
  obtain ⟨R, rfl⟩ := hd_cons q V.al0
  obtain ⟨n1, n2⟩ := List.nodup_cons.1 q.nd
  have hra : (m.tt t).lk.at_ = at_ := by rw [← hl]
  have hrx : (m.tt t).lk.x = x := by rw [← hl]
  have oths : ∀ s, s ≠ t → (m'.tt s).lk = (m.tt s).lk := fun s hs => by rw [V.oth.tt s hs]
  have opls : ∀ s, s ≠ t → (m'.tt s).pl = (m.tt s).pl := fun s hs => by rw [V.oth.tt s hs]
  have hp1 : ∀ s, (m'.tt s).pl = 1 ∨ (m'.tt s).pl = 2 → s ≠ t ∧ wd m.words (2 + 2 * s) = 0 := fun s h => by
    have e : s ≠ t := fun e => by subst e; rw [V.pl] at h; omega
    rw [opls s e] at h
    exact ⟨e, j.p1 s h⟩
  have L2 := L.2
  have hnc : ∀ W', (∀ b ∈ R, wd W' (3 + 2 * b) = wd m.words (3 + 2 * b)) → (∀ b ∈ R, wd W' (2 + 2 * b) = wd m.words (2 + 2 * b)) → ∀ a tl, NC m.words m.fp m.fy a R tl → wd W' (2 + 2 * a) = wd m.words (2 + 2 * a) → NC W' m'.fp m'.fy a R tl := fun W' h3 h2 a tl c ha => by
    refine c.congr (fun b hb => ?_) fun b hb => ?_
    · have e : b ≠ t := fun e => n1 (e ▸ hb)
      refine ⟨opls b e, ?_, h3 b hb⟩
      show (m'.tt b).lk.y = (m.tt b).lk.y
      rw [oths b e]
    · rcases List.mem_cons.1 hb with rfl | hb
      · exact ha
      · exact h2 b hb
  -- it stays in
  have stay : r.1 = false → m'.words = m.words → ((r.2.1.at_ = 0 ∨ r.2.1.at_ = 1 ∨ r.2.1.at_ = 2) ∨ ∃ b R', R = b :: R' ∧ r.2.1.x = b + 1 ∧ (m.tt b).pl = 5) → I4 m' ∧ Ev m m' := fun g1 g2 g3 => by
    have ha : (m'.tt t).alone = true := by rw [V.al, g1]; rfl
    refine ⟨⟨t :: R, q.same V.oth (by rw [ha, V.al0]) (by rw [V.wt, V.wt0]) (fun e => by rw [V.wt0] at e; cases e), ⟨Or.inl ⟨ha, ?_⟩, ?_⟩, fun s hs => ?_, by rw [g2, V.tl]; exact hln, by rw [V.tl]; exact T16⟩, ev_of V.oth fun _ h => by rw [V.al0] at h; cases h⟩
    · rcases g3 with g3 | ⟨b, R', rfl, g4, g5⟩
      · refine Or.inl ?_
        show (m'.tt t).lk.at_ = 0 ∨ (m'.tt t).lk.at_ = 1 ∨ (m'.tt t).lk.at_ = 2
        rw [V.lk]
        exact g3
      · refine Or.inr ⟨b, R', rfl, ?_, ?_⟩
        · show (m'.tt t).lk.x = _; rw [V.lk]; exact g4
        · show (m'.tt b).pl = _
          rw [opls b (fun e => n1 (e ▸ List.mem_cons_self ..))]
          exact g5
    · rw [g2]
      exact hnc _ (fun _ _ => rfl) (fun _ _ => rfl) _ _ L2 rfl
    · rw [g2]
      exact (hp1 s hs).2
  by_cases e02 : at_ = 0 ∨ at_ = 2
  · have hv : (d.load (2 + 2 * t)).1 = wd m.words (2 + 2 * t) := by rw [ld_v V.du (by omega), V.dw, show ((2 : Int) + 2 * t).toNat = 2 + 2 * t by omega]
    have hr2 : r = (false, ⟨4, t, all, bif wd m.words (2 + 2 * t) != 0 then 3 else bif at_ == 0 then 1 else 2, wd m.words (2 + 2 * t), y⟩, (d.load (2 + 2 * t)).2) := by
      rw [show (at_ == 0 || at_ == 2) = true by simpa using e02, hv] at hr'
      exact hr'
    refine stay (by rw [hr2]) (by rw [V.w, hr2]; show (d.load _).2.words = _; rw [ld_w, V.dw]) ?_
    rw [hr2]
    dsimp only
    cases hb : (wd m.words (2 + 2 * t) != 0) with
    | false =>
      refine Or.inl ?_
      cases at_ == 0
      · exact Or.inr (Or.inr rfl)
      · exact Or.inr (Or.inl rfl)
    | true =>
      have hb0 : wd m.words (2 + 2 * t) ≠ 0 := by simpa using hb
      refine Or.inr ?_
      cases R with
      | nil => exact absurd L2.2 hb0
      | cons b R' =>
        refine ⟨b, R', rfl, ?_⟩
        rcases L2.1 with g | g | g
        · exact absurd g.2.2 hb0
        · exact absurd g.2.2.1 hb0
        · exact ⟨g.2.1, g.1⟩
  have b02 : (at_ == 0 || at_ == 2) = false := by simpa using e02
  by_cases e1 : at_ = 1
  · subst e1
    have hs1 : uw (iw ((t : Int) + 1)) = t + 1 := by rw [iw_id (by omega), uw_id (by omega)]
    have hr2 : r = bif (d.swap 1 (t + 1) 0).1 then (true, ⟨4, t, all, 0, x, y⟩, (d.swap 1 (t + 1) 0).2) else (false, ⟨4, t, all, 2, x, y⟩, (d.swap 1 (t + 1) 0).2) := by
      rw [hs1] at hr'
      exact hr'
    clear hs1
    have b1 := sw_b (o := (t : Int) + 1) (w := 0) V.du hin
    have b2 := sw_w (o := (t : Int) + 1) (w := 0) V.du hin
    rw [b1] at hr2
    rw [V.dw] at b2 hr2
    cases hb : (wd m.words (1 : Int).toNat == (t : Int) + 1) with
    | false =>
      rw [hb] at hr2 b2
      have hr3 : r = (false, ⟨4, t, all, 2, x, y⟩, (d.swap 1 ((t : Int) + 1) 0).2) := hr2
      exact stay (by rw [hr3]) (by rw [V.w, hr3]; exact b2) (Or.inl (Or.inr (Or.inr (by rw [hr3]))))
    | true =>
      rw [hb] at hr2 b2
      have hr3 : r = (true, ⟨4, t, all, 0, x, y⟩, (d.swap 1 ((t : Int) + 1) 0).2) := hr2
      have ht1 : wd m.words 1 = t + 1 := by rw [beq_iff_eq] at hb; exact hb
      have hW : m'.words = m.words.set 1 0 := by rw [V.w, hr3]; exact b2
      have ha : (m'.tt t).alone = false := by rw [V.al, hr3]; rfl
      obtain ⟨b, h1, h2, h3⟩ := L2.tail
      have hbt : b = t := by omega
      have hR := h3 hbt n2 n1
      subst hR
      refine ⟨⟨[], q.leave V.oth ha V.wt V.wt0, ?_, fun s hs => ?_, by rw [hW, List.length_set, V.tl]; exact hln, by rw [V.tl]; exact T16⟩, ev_of V.oth fun h => by rw [ha] at h; cases h⟩
      · show wd m'.words 1 = 0
        rw [hW, wd_self (by omega)]
      · rw [hW, wd_ne (by omega)]
        exact (hp1 s hs).2
  · -- it tells the next one
    have b1 : (at_ == 1) = false := by simpa using e1
    have hhd := L.1
    rcases hhd with ⟨_, g⟩ | ⟨g, _⟩
    · rcases g with g | ⟨b, R', rfl, g3, g4⟩
      · have g' : (m.tt t).lk.at_ = 0 ∨ (m.tt t).lk.at_ = 1 ∨ (m.tt t).lk.at_ = 2 := g
        rw [hra] at g'
        omega
      · have g3' : (m.tt t).lk.x = b + 1 := g3
        rw [hrx] at g3'
        subst g3'
        have hbl := q.lt (s := b) (by simp)
        have hr2 : r = (true, ⟨4, t, all, 0, (b : Int) + 1, y⟩, d.store (2 + 2 * b + 1) 0) := by
          rw [b02, b1] at hr'
          rw [iw_id (x := (b : Int) + 1) (by omega), iw_id (x := (b : Int) + 1 - 1) (by omega), show (b : Int) + 1 - 1 = b by omega, nword_id (t := (b : Int)) (by omega), iw_id (x := (2 : Int) + 2 * b + 1) (by omega)] at hr'
          exact hr'
        have hW : m'.words = m.words.set (3 + 2 * b) 0 := by rw [V.w, hr2]; show (d.store _ 0).words = _; rw [sto_w V.du (by omega), V.dw, show ((2 : Int) + 2 * b + 1).toNat = 3 + 2 * b by omega]
        have ha : (m'.tt t).alone = false := by rw [V.al, hr2]; rfl
        obtain ⟨n3, n4⟩ := List.nodup_cons.1 n2
        refine ⟨⟨b :: R', q.leave V.oth ha V.wt V.wt0, ⟨Or.inr ⟨?_, ?_⟩, ?_⟩, fun s hs => ?_, by rw [hW, List.length_set, V.tl]; exact hln, by rw [V.tl]; exact T16⟩, ev_of V.oth fun h => by rw [ha] at h; cases h⟩
        · show (m'.tt b).pl = 5
          rw [opls b (fun e => n1 (e ▸ List.mem_cons_self ..))]
          exact g4
        · rw [hW, wd_self (by omega)]
        · rw [hW, wd_ne (by omega)]
          refine L2.2.congr (fun s hs => ?_) fun s hs => wd_ne (by omega)
          have e : s ≠ t := fun e => n1 (e ▸ List.mem_cons_of_mem _ hs)
          have e2 : s ≠ b := fun e => n3 (e ▸ hs)
          refine ⟨opls s e, ?_, wd_ne (by omega)⟩
          show (m'.tt s).lk.y = (m.tt s).lk.y
          rw [oths s e]
        · rw [hW, wd_ne (by omega)]
          exact (hp1 s hs).2
    · have g' : (m.tt t).pl = 5 := g
      rw [V.pl0] at g'
      omega
theorem i4_0 (T : Int) (hT : 1 ≤ T ∧ T ≤ 16) : I4 (mc0 4 T) := by
  have e : (mc0 4 T).words = List.replicate (2 + 2 * T.toNat) 0 := rfl
  have hl : (mc0 4 T).ths.length = T.toNat := by show ((List.range T.toNat).map _).length = _; simp
  refine ⟨[], qs0 4 T, ?_, fun s h => ?_, ?_, by rw [hl]; omega⟩
  · show wd (mc0 4 T).words 1 = 0
    rw [e, wd_rep]
  · rw [e, wd_rep]
  · rw [e, hl]; simp
theorem i4_move {m : Mc} (G : Gd m) (hk : m.kd = 4) (hT : 1 ≤ m.ths.length) (I : I4 m) (v : Mo) : I4 (m.move v).2 ∧ Ev m (m.move v).2 := by
  have hV := mv_view G (by rw [hk]; decide) (by obtain ⟨_, _, _, j⟩ := I; have := j.len; omega) v
  generalize (m.move v).2 = m' at hV ⊢
  cases hV with
  | stl t S => exact ⟨i4_stl S I, S.ev⟩
  | acq t d l r V => exact i4_acq V G hk I
  | rel t d l r V => exact i4_rel V hk I
  | shr t V => have := V.kd; omega
end Go.Proofs.Ytjnmlgfkiebkgaa
namespace Go.Proofs.Ytjnmlgfkiebkgaa
open Go.RowKit
set_option linter.unusedVariables false
set_option linter.unusedSimpArgs false

/-- how many of the first n -/
def ct (n : Nat) (f : Nat → Bool) : Nat := (List.range n).countP f
theorem ct_succ (n : Nat) (f : Nat → Bool) : ct (n + 1) f = ct n f + (bif f n then 1 else 0) := by
  unfold ct
  rw [List.range_succ, List.countP_append]
  cases h : f n <;> simp [h]
theorem ct_le (n : Nat) (f : Nat → Bool) : ct n f ≤ n := by
  unfold ct
  have := List.countP_le_length (p := f) (l := List.range n)
  rw [List.length_range] at this
  exact this
theorem ct_mono {n : Nat} {f g : Nat → Bool} (h : ∀ s, s < n → f s = true → g s = true) : ct n f ≤ ct n g := by
  induction n with
  | zero => exact Nat.le_refl _
  | succ n ih =>
    rw [ct_succ, ct_succ]
    have h1 := ih fun s hs => h s (by omega)
    have h2 := h n (by omega)
    cases hf : f n with
    | false => simp; omega
    | true => rw [h2 hf]; simp; omega
theorem ct_congr {n : Nat} {f g : Nat → Bool} (h : ∀ s, s < n → f s = g s) : ct n f = ct n g :=
  Nat.le_antisymm (ct_mono fun s hs e => by rw [← h s hs]; exact e) (ct_mono fun s hs e => by rw [h s hs]; exact e)
theorem ct_lt {n t : Nat} {f g : Nat → Bool} (h : ∀ s, s < n → f s = true → g s = true) (ht : t < n) (hf : f t = false) (hg : g t = true) : ct n f + 1 ≤ ct n g := by
  induction n with
  | zero => omega
  | succ n ih =>
    rw [ct_succ, ct_succ]
    by_cases e : t = n
    · subst e
      have h1 := ct_mono (n := t) (f := f) (g := g) fun s hs => h s (by omega)
      rw [hf, hg]
      simp
      omega
    · have h1 := ih (fun s hs => h s (by omega)) (by omega)
      have h2 := h n (by omega)
      cases hf : f n with
      | false => simp; omega
      | true => rw [h2 hf]; simp; omega
theorem ct_inc {n t : Nat} {f g : Nat → Bool} (h : ∀ s, s ≠ t → f s = g s) (ht : t < n) (hf : f t = false) (hg : g t = true) : ct n g = ct n f + 1 := by
  induction n with
  | zero => omega
  | succ n ih =>
    rw [ct_succ, ct_succ]
    by_cases e : t = n
    · subst e
      rw [ct_congr (f := g) (g := f) fun s hs => (h s (by omega)).symm, hf, hg]
      rfl
    · rw [ih (by omega), h n (by omega)]
      omega
theorem ct_zero {n : Nat} {f : Nat → Bool} (h : ct n f = 0) : ∀ s, s < n → f s = false := fun s hs => by
  cases e : f s with
  | false => rfl
  | true =>
    have := ct_lt (f := fun _ => false) (g := f) (fun _ _ e => by cases e) hs rfl e
    omega
theorem ct_none {n : Nat} {f : Nat → Bool} (h : ∀ s, s < n → f s = false) : ct n f = 0 := by
  rw [ct_congr h]
  unfold ct
  simp
theorem ct_one {n s t : Nat} {f : Nat → Bool} (h : ct n f ≤ 1) (hs : s < n) (ht : t < n) (h1 : f s = true) (h2 : f t = true) : s = t := by
  by_cases e : s = t
  · exact e
  · have h3 := ct_lt (f := fun _ => false) (g := fun u => u == s) (fun _ _ e => by cases e) hs rfl (by simp)
    have h4 := ct_lt (f := fun u => u == s) (g := f) (fun u _ e => by rw [beq_iff_eq] at e; rw [e]; exact h1) ht (by simp; exact fun e' => e e'.symm) h2
    omega
/-- who holds the lock alone is the only one -/
def Exc (m : Mc) : Prop := ∀ s t, (m.tt s).alone = true → ((m.tt t).alone = true ∨ (m.tt t).shares = true) → s = t
theorem exc_qs {m : Mc} (G : Gd m) (hk : m.kd ≠ 7) {Q : List Nat} (q : QS m Q) : Exc m := fun s t h1 h2 => by
  rcases h2 with h2 | h2
  · exact q.one h1 h2
  · exact absurd ((G.wf t).sh h2) hk
def lim (k : Int) : Int := bif k == 7 then 18446744073709551615 else 1
def I1 (m : Mc) : Prop := 2 ≤ m.words.length ∧ m.ths.length ≤ 16 ∧
  ((wd m.words 1 = lim m.kd ∧ ∃ t, (m.tt t).alone = true ∧ (∀ s, s ≠ t → (m.tt s).alone = false) ∧ ∀ s, (m.tt s).shares = false) ∨
   (wd m.words 1 = ct m.ths.length (fun s => (m.tt s).shares) ∧ ∀ s, (m.tt s).alone = false))
theorem exc_1 {m : Mc} (I : I1 m) : Exc m := fun s t h1 h2 => by
  obtain ⟨_, _, I⟩ := I
  rcases I with ⟨_, u, g1, g2, g3⟩ | ⟨_, g⟩
  · have hs : s = u := by
      by_cases e : s = u
      · exact e
      · rw [g2 s e] at h1; cases h1
    rcases h2 with h2 | h2
    · by_cases e : t = u
      · rw [hs, e]
      · rw [g2 t e] at h2; cases h2
    · rw [g3 t] at h2; cases h2
  · rw [g s] at h1
    cases h1
theorem i1_stl {m m' : Mc} {t : Nat} (S : Stl m m' t) (hk : m'.kd = m.kd) (I : I1 m) : I1 m' := by
  obtain ⟨h1, h2, I⟩ := I
  refine ⟨by rw [S.wl]; exact h1, by rw [S.tl]; exact h2, ?_⟩
  rw [S.wd 1 (by omega), S.tl, hk]
  rcases I with ⟨g0, u, g1, g2, g3⟩ | ⟨g0, g⟩
  · exact Or.inl ⟨g0, u, by rw [S.als]; exact g1, fun s hs => by rw [S.als]; exact g2 s hs, fun s => by rw [S.shs]; exact g3 s⟩
  · refine Or.inr ⟨?_, fun s => by rw [S.als]; exact g s⟩
    rw [g0]
    congr 1
    exact ct_congr fun s _ => (S.shs s).symm
theorem lim_pos (k : Int) : lim k ≠ 0 := by
  unfold lim
  cases k == 7 <;> decide
theorem shr_out {m : Mc} {s : Nat} (h : m.ths.length ≤ s) : (m.tt s).shares = false := by rw [tt_out h]; rfl
theorem i1_acq {m m' : Mc} {t : Nat} {d : Dk} {l : Lk} {r : Bool × Lk × Dk} (V : AcqV m m' t d l r) (hk : m.kd = 1 ∨ m.kd = 7) (hk' : m'.kd = m.kd) (I : I1 m) : I1 m' := by
  obtain ⟨h1, h2, I⟩ := I
  have hr := V.req
  have hkd := V.kd
  have hin : (0 : Int) ≤ 1 ∧ (1 : Int) < d.words.length := ⟨by decide, by rw [V.dw]; omega⟩
  have hr2 : r = bif (d.swap 1 0 (lim m.kd)).1 then (true, l, (d.swap 1 0 (lim m.kd)).2.point) else (false, l, (d.swap 1 0 (lim m.kd)).2) := by
    rw [← hkd] at hk ⊢
    unfold Lk.acq Lk.flagA at hr
    unfold lim
    rcases hk with hk | hk <;> (rw [hk] at hr ⊢; exact hr)
  have b1 := sw_b (o := 0) (w := lim m.kd) V.du hin
  have b2 := sw_w (o := 0) (w := lim m.kd) V.du hin
  rw [b1] at hr2
  rw [V.dw] at b2 hr2
  have oal : ∀ s, s ≠ t → (m'.tt s).alone = (m.tt s).alone := fun s hs => by rw [V.oth.tt s hs]
  have osh : ∀ s, (m'.tt s).shares = (m.tt s).shares := fun s => by
    by_cases e : s = t
    · subst e; rw [V.sh, V.sh0]
    · rw [V.oth.tt s e]
  cases hb : (wd m.words (1 : Int).toNat == 0) with
  | false =>
    rw [hb] at hr2 b2
    have hr3 : r = (false, l, (d.swap 1 0 (lim m.kd)).2) := hr2
    have hW : m'.words = m.words := by rw [V.w, hr3]; exact b2
    have ha : ∀ s, (m'.tt s).alone = (m.tt s).alone := fun s => by
      by_cases e : s = t
      · subst e; rw [V.al, hr3, V.al0]
      · exact oal s e
    refine ⟨by rw [hW]; exact h1, by rw [V.tl]; exact h2, ?_⟩
    rw [hW, V.tl, hk']
    rcases I with ⟨g0, u, g1, g2, g3⟩ | ⟨g0, g⟩
    · exact Or.inl ⟨g0, u, by rw [ha]; exact g1, fun s hs => by rw [ha]; exact g2 s hs, fun s => by rw [osh]; exact g3 s⟩
    · refine Or.inr ⟨?_, fun s => by rw [ha]; exact g s⟩
      rw [g0]
      congr 1
      exact ct_congr fun s _ => (osh s).symm
  | true =>
    rw [hb] at hr2 b2
    have hr3 : r = (true, l, (d.swap 1 0 (lim m.kd)).2.point) := hr2
    have h0 : wd m.words 1 = 0 := by rw [beq_iff_eq] at hb; exact hb
    have hW : m'.words = m.words.set 1 (lim m.kd) := by rw [V.w, hr3]; exact b2
    refine ⟨by rw [hW, List.length_set]; exact h1, by rw [V.tl]; exact h2, ?_⟩
    rcases I with ⟨g0, _⟩ | ⟨g0, g⟩
    · exact absurd (g0.symm.trans h0) (lim_pos _)
    · refine Or.inl ⟨by rw [hW, wd_self (by omega), hk'], t, by rw [V.al, hr3], fun s hs => by rw [oal s hs]; exact g s, fun s => ?_⟩
      rw [osh]
      by_cases hs : s < m.ths.length
      · exact ct_zero (f := fun s => (m.tt s).shares) (by omega) s hs
      · exact shr_out (by omega)
theorem i1_rel {m m' : Mc} {t : Nat} {d : Dk} {l : Lk} {r : Bool × Lk × Dk} (V : RelV m m' t d l r) (hk : m.kd = 1 ∨ m.kd = 7) (I : I1 m) : I1 m' := by
  obtain ⟨h1, h2, I⟩ := I
  have hr := V.req
  have hkd := V.kd
  have hr2 : r = (true, l, d.store 1 0) := by
    rw [← hkd] at hk
    unfold Lk.rel at hr
    rcases hk with hk | hk <;> (rw [hk] at hr; exact hr)
  have hW : m'.words = m.words.set 1 0 := by rw [V.w, hr2]; show (d.store 1 0).words = _; rw [sto_w V.du (by decide), V.dw]; rfl
  have osh : ∀ s, (m'.tt s).shares = (m.tt s).shares := fun s => by
    by_cases e : s = t
    · subst e; rw [V.sh, V.sh0]
    · rw [V.oth.tt s e]
  refine ⟨by rw [hW, List.length_set]; exact h1, by rw [V.tl]; exact h2, ?_⟩
  rcases I with ⟨g0, u, g1, g2, g3⟩ | ⟨_, g⟩
  · have hu : t = u := by
      by_cases e : t = u
      · exact e
      · have := g2 t e
        rw [V.al0] at this
        cases this
    subst hu
    refine Or.inr ⟨?_, fun s => ?_⟩
    · rw [hW, wd_self (by omega), V.tl, ct_none (f := fun s => (m'.tt s).shares) fun s _ => by rw [osh]; exact g3 s]
      rfl
    · by_cases e : s = t
      · subst e; rw [V.al, hr2]; rfl
      · rw [V.oth.tt s e]; exact g2 s e
  · have := g t
    rw [V.al0] at this
    cases this
theorem i1_shr {m m' : Mc} {t : Nat} (V : ShrV m m' t) (hk' : m'.kd = m.kd) (I : I1 m) : I1 m' := by
  obtain ⟨h1, h2, I⟩ := I
  have ha : ∀ s, (m'.tt s).alone = (m.tt s).alone := fun s => by
    by_cases e : s = t
    · subst e; rw [V.al, V.al0]
    · rw [V.oth.tt s e]
  have osh : ∀ s, s ≠ t → (m'.tt s).shares = (m.tt s).shares := fun s hs => by rw [V.oth.tt s hs]
  have hl7 : lim m.kd = 18446744073709551615 := by rw [V.kd]; rfl
  have hct := ct_le m.ths.length (fun s => (m.tt s).shares)
  refine ⟨by rw [V.wl]; exact h1, by rw [V.tl]; exact h2, ?_⟩
  rcases V.how with ⟨g1, g2⟩ | ⟨w, w1, w2, g1, g2, g3, g4⟩ | ⟨w, w1, w2, g1, g2, g3, g4⟩
  · have osh' : ∀ s, (m'.tt s).shares = (m.tt s).shares := fun s => by
      by_cases e : s = t
      · subst e; exact g2
      · exact osh s e
    rw [g1, V.tl, hk']
    rcases I with ⟨g0, u, k1, k2, k3⟩ | ⟨g0, g⟩
    · exact Or.inl ⟨g0, u, by rw [ha]; exact k1, fun s hs => by rw [ha]; exact k2 s hs, fun s => by rw [osh']; exact k3 s⟩
    · refine Or.inr ⟨?_, fun s => by rw [ha]; exact g s⟩
      rw [g0]
      congr 1
      exact ct_congr fun s _ => (osh' s).symm
  · rw [uw_id (by omega)] at g1
    rcases I with ⟨g0, _⟩ | ⟨g0, g⟩
    · omega
    · refine Or.inr ⟨?_, fun s => by rw [ha]; exact g s⟩
      rw [g2, wd_self (by omega), V.tl, ct_inc (f := fun s => (m.tt s).shares) (g := fun s => (m'.tt s).shares) (fun s hs => (osh s hs).symm) V.lt g3 g4]
      rw [iw_id (by omega), uw_id (by omega)]
      omega
  · rcases I with ⟨_, _, _, _, k3⟩ | ⟨g0, g⟩
    · rw [k3 t] at g3
      cases g3
    · have hc := ct_inc (f := fun s => (m'.tt s).shares) (g := fun s => (m.tt s).shares) (fun s hs => osh s hs) V.lt g4 g3
      have hw : w = (ct m.ths.length (fun s => (m.tt s).shares) : Nat) := by
        have e : uw w = w % 18446744073709551616 := rfl
        omega
      refine Or.inr ⟨?_, fun s => by rw [ha]; exact g s⟩
      rw [g2, wd_self (by omega), V.tl, iw_id (by omega), uw_id (by omega)]
      omega
theorem i1_0 (k T : Int) (hk : k = 1 ∨ k = 7) (hT : 1 ≤ T ∧ T ≤ 16) : I1 (mc0 k T) := by
  have e : (mc0 k T).words = List.replicate 2 0 := by rcases hk with rfl | rfl <;> rfl
  have hl : (mc0 k T).ths.length = T.toNat := by show ((List.range T.toNat).map _).length = _; simp
  refine ⟨by rw [e]; simp, by rw [hl]; omega, Or.inr ⟨?_, fun s => (tt0 k T s).1⟩⟩
  rw [e, wd_rep, ct_none fun s _ => (tt0 k T s).2.1]
  rfl
theorem kd_move (m : Mc) (v : Mo) : (m.move v).2.kd = m.kd := by
  have hk := move_kind m v
  generalize (m.move v).2 = m' at hk ⊢
  cases hk <;> rfl
theorem i1_move {m : Mc} (G : Gd m) (hk : m.kd = 1 ∨ m.kd = 7) (I : I1 m) (v : Mo) : I1 (m.move v).2 := by
  have hV := mv_view G (by omega) I.1 v
  have hkm := kd_move m v
  generalize (m.move v).2 = m' at hV hkm ⊢
  cases hV with
  | stl t S => exact i1_stl S hkm I
  | acq t d l r V => exact i1_acq V hk hkm I
  | rel t d l r V => exact i1_rel V hk I
  | shr t V => exact i1_shr V hkm I
end Go.Proofs.Ytjnmlgfkiebkgaa
namespace Go.Proofs.Ytjnmlgfkiebkgaa
open Go.RowKit
set_option linter.unusedVariables false
set_option linter.unusedSimpArgs false

/-- j has said at level l that it comes: it has passed it, or stands behind its store of the victim -/
def inS (q a : Nat → Int) (l : Int) (j : Nat) : Bool := decide (l ≤ q j) || (decide (q j = l - 1) && decide (2 ≤ a j))
/-- q: levels passed; a: the place; y: the thread that is looked at -/
structure F5 (T : Nat) (q a y : Nat → Int) (al : Nat → Bool) (lev : Nat → Int) (vic : Int → Int) : Prop where
  rq : ∀ s, s < T → 0 ≤ q s ∧ 0 ≤ a s ∧ ((al s = false ∧ q s ≤ T - 2) ∨ (al s = true ∧ q s = T - 1 ∧ a s = 0))
  lv : ∀ s, s < T → lev s = bif a s == 0 then q s else q s + 1
  ry : ∀ s, s < T → a s = 2 → 0 ≤ y s ∧ y s < T ∧ y s ≠ s
  A : ∀ s, s < T → ∀ l : Int, 1 ≤ l → l ≤ q s → ∀ j, j < T → j ≠ s → inS q a l j = true → vic l ≠ s
  W : ∀ s, s < T → a s = 2 → ∀ j, j < T → j ≠ s → (j : Int) < y s → inS q a (q s + 1) j = true → vic (q s + 1) ≠ s
  B : ∀ l : Int, 1 ≤ l → l ≤ T - 1 → (∃ v, v < T ∧ vic l = v ∧ inS q a l v = true) ∨ (ct T (inS q a l) : Int) ≤ T - l
section
variable {T : Nat} {q a y q' a' y' : Nat → Int} {al al' : Nat → Bool} {lev lev' : Nat → Int} {vic vic' : Int → Int} {t : Nat}
theorem inS_le {l : Int} {j : Nat} (h : inS q a l j = true) : l - 1 ≤ q j := by
  unfold inS at h
  simp only [Bool.or_eq_true, Bool.and_eq_true, decide_eq_true_eq] at h
  omega
theorem inS_lev (F : F5 T q a y al lev vic) {l : Int} {j : Nat} (hj : j < T) (h : inS q a l j = true) : l ≤ lev j := by
  unfold inS at h
  simp only [Bool.or_eq_true, Bool.and_eq_true, decide_eq_true_eq] at h
  rw [F.lv j hj]
  rcases h with h | ⟨h1, h2⟩
  · cases a j == 0
    · simp; omega
    · simp; omega
  · rw [show (a j == 0) = false by rw [beq_eq_false_iff_ne]; omega]
    simp
    omega
theorem F5.ge (F : F5 T q a y al lev vic) {l j : Nat} (h : (l : Int) ≤ T - 1) : (ct T (fun s => decide ((l : Int) ≤ q s)) : Int) ≤ T - l := by
  have key : ∀ l : Nat, (l : Int) ≤ T - 1 → (ct T (fun s => decide ((l : Int) ≤ q s)) : Int) ≤ T - l := by
    intro l
    induction l with
    | zero =>
      intro _
      have := ct_le T (fun s => decide (((0 : Nat) : Int) ≤ q s))
      omega
    | succ l ih =>
      intro hl
      have h1 := ih (by omega)
      have hS : (ct T (inS q a (l + 1)) : Int) ≤ T - l := by
        have := ct_mono (n := T) (f := inS q a (l + 1)) (g := fun s => decide ((l : Int) ≤ q s)) fun s _ e => by
          have := inS_le e
          simp
          omega
        omega
      have hP : ct T (fun s => decide (((l + 1 : Nat) : Int) ≤ q s)) ≤ ct T (inS q a (l + 1)) := ct_mono fun s _ e => by
        unfold inS
        rw [decide_eq_true_eq] at e
        rw [show decide ((l : Int) + 1 ≤ q s) = true by simp; omega]
        rfl
      by_cases hsm : (ct T (inS q a (l + 1)) : Int) ≤ T - (l + 1)
      · omega
      · rcases F.B (l + 1) (by omega) (by omega) with ⟨v, v1, v2, v3⟩ | h9
        · have hv : ¬ ((l : Int) + 1 ≤ q v) := fun hv => by
            -- another one is there too
            obtain ⟨j, j1, j2, j3⟩ : ∃ j, j < T ∧ j ≠ v ∧ inS q a (l + 1) j = true := by
              by_cases e : ∃ j, j < T ∧ j ≠ v ∧ inS q a (l + 1) j = true
              · exact e
              · exfalso
                have h2 : ct T (inS q a (l + 1)) ≤ ct T (fun s => s == v) := ct_mono fun s hs h => by
                  rw [beq_iff_eq]
                  by_cases e9 : s = v
                  · exact e9
                  · exact absurd ⟨s, hs, e9, h⟩ e
                have h3 := ct_inc (n := T) (t := v) (f := fun _ => false) (g := fun s => s == v) (fun s hs => by simp [hs]) v1 rfl (by simp)
                rw [ct_none (f := fun _ => false) fun _ _ => rfl] at h3
                omega
            exact F.A v v1 (l + 1) (by omega) hv j j1 j2 j3 v2
          have h4 := ct_lt (n := T) (f := fun s => decide (((l + 1 : Nat) : Int) ≤ q s)) (g := inS q a (l + 1)) (fun s _ e => by
            unfold inS
            rw [decide_eq_true_eq] at e
            rw [show decide ((l : Int) + 1 ≤ q s) = true by simp; omega]
            rfl) v1 (by simp; omega) v3
          omega
        · omega
  exact key l h
/-- nobody else is in -/
theorem F5.exc (F : F5 T q a y al lev vic) (hT : 2 ≤ T) {s t : Nat} (hs : s < T) (ht : t < T) (h1 : al s = true) (h2 : al t = true) : s = t := by
  have h := F.ge (l := T - 1) (j := 0) (by omega)
  refine ct_one (n := T) (f := fun s => decide (((T - 1 : Nat) : Int) ≤ q s)) (by omega) hs ht ?_ ?_
  · have := (F.rq s hs).2.2
    rw [h1] at this
    simp at this ⊢
    omega
  · have := (F.rq t ht).2.2
    rw [h2] at this
    simp at this ⊢
    omega
/-- a step that leaves those who have come -/
theorem F5.keep (F : F5 T q a y al lev vic) (ht : t < T) (hq : ∀ s, s ≠ t → q' s = q s ∧ a' s = a s ∧ y' s = y s ∧ al' s = al s) (hl : ∀ s, s < T → s ≠ t → lev' s = lev s) (hS : ∀ l : Int, 1 ≤ l → inS q' a' l t = inS q a l t)
    (h1 : 0 ≤ q' t ∧ 0 ≤ a' t ∧ ((al' t = false ∧ q' t ≤ T - 2) ∨ (al' t = true ∧ q' t = T - 1 ∧ a' t = 0))) (h2 : lev' t = bif a' t == 0 then q' t else q' t + 1) (h3 : a' t = 2 → 0 ≤ y' t ∧ y' t < T ∧ y' t ≠ t)
    (h4 : ∀ l : Int, q t < l → l ≤ q' t → ∀ j, j < T → j ≠ t → inS q a l j = true → vic l ≠ t) (h5 : a' t = 2 → ∀ j, j < T → j ≠ t → (j : Int) < y' t → inS q a (q' t + 1) j = true → vic (q' t + 1) ≠ t) : F5 T q' a' y' al' lev' vic := by
  have hS' : ∀ l : Int, 1 ≤ l → ∀ j, inS q' a' l j = inS q a l j := fun l h0 j => by
    by_cases e : j = t
    · subst e; exact hS l h0
    · unfold inS
      rw [(hq j e).1, (hq j e).2.1]
  refine ⟨fun s hs => ?_, fun s hs => ?_, fun s hs ha => ?_, fun s hs l l1 l2 j j1 j2 j3 => ?_, fun s hs ha j j1 j2 j3 j4 => ?_, fun l l1 l2 => ?_⟩
  · by_cases e : s = t
    · subst e; exact h1
    · obtain ⟨k1, k2, k3, k4⟩ := hq s e
      rw [k1, k2, k4]
      exact F.rq s hs
  · by_cases e : s = t
    · subst e; exact h2
    · obtain ⟨k1, k2, k3, k4⟩ := hq s e
      rw [k1, k2, hl s hs e]
      exact F.lv s hs
  · by_cases e : s = t
    · subst e; exact h3 ha
    · obtain ⟨k1, k2, k3, k4⟩ := hq s e
      rw [k2] at ha
      rw [k3]
      exact F.ry s hs ha
  · rw [hS' l l1] at j3
    by_cases e : s = t
    · subst e
      by_cases e2 : l ≤ q s
      · exact F.A s hs l l1 e2 j j1 j2 j3
      · exact h4 l (by omega) l2 j j1 j2 j3
    · rw [(hq s e).1] at l2
      exact F.A s hs l l1 l2 j j1 j2 j3
  · by_cases e : s = t
    · subst e
      rw [hS' _ (by omega)] at j4
      exact h5 ha j j1 j2 j3 j4
    · obtain ⟨k1, k2, k3, k4⟩ := hq s e
      have hqs := (F.rq s hs).1
      rw [k2] at ha
      rw [k3] at j3
      rw [k1] at j4 ⊢
      rw [hS' _ (by omega)] at j4
      exact F.W s hs ha j j1 j2 j3 j4
  · rcases F.B l l1 l2 with ⟨v, v1, v2, v3⟩ | h9
    · exact Or.inl ⟨v, v1, v2, by rw [hS' l l1]; exact v3⟩
    · refine Or.inr ?_
      rw [ct_congr (g := inS q a l) fun s _ => hS' l l1 s]
      exact h9
/-- t names itself as the victim of its level -/
theorem F5.vict (F : F5 T q a y al lev vic) (ht : t < T) (hq : ∀ s, s ≠ t → q' s = q s ∧ a' s = a s ∧ y' s = y s ∧ al' s = al s) (hl : ∀ s, s < T → lev' s = lev s) (h0 : a t = 1) (h1 : q' t = q t) (h2 : a' t = 2) (h3 : al' t = al t) (h4 : 0 ≤ y' t ∧ y' t < T ∧ y' t ≠ t) (h5 : ∀ j : Nat, (j : Int) < y' t → j = t) (hv : vic' (q t + 1) = t) (hv' : ∀ l : Int, 1 ≤ l → l ≤ T - 1 → l ≠ q t + 1 → vic' l = vic l) : F5 T q' a' y' al' lev' vic' := by
  have hqt := F.rq t ht
  have hqr : q t ≤ T - 2 ∧ al t = false := by
    rcases hqt.2.2 with h | h
    · exact ⟨h.2, h.1⟩
    · omega
  have hSt : ∀ l : Int, l ≠ q t + 1 → inS q' a' l t = inS q a l t := fun l hl => by
    unfold inS
    rw [h1, h0, h2, show decide (q t = l - 1) = false by simp; omega]
    simp
  have hSo : ∀ (l : Int) (j : Nat), j ≠ t → inS q' a' l j = inS q a l j := fun l j e => by
    unfold inS
    rw [(hq j e).1, (hq j e).2.1]
  have hSs : inS q' a' (q t + 1) t = true := by
    unfold inS
    rw [h1, h2]
    simp
  refine ⟨fun s hs => ?_, fun s hs => ?_, fun s hs ha => ?_, fun s hs l l1 l2 j j1 j2 j3 => ?_, fun s hs ha j j1 j2 j3 j4 => ?_, fun l l1 l2 => ?_⟩
  · by_cases e : s = t
    · subst e
      rw [h1, h2, h3]
      exact ⟨hqt.1, by decide, Or.inl ⟨hqr.2, hqr.1⟩⟩
    · obtain ⟨k1, k2, k3, k4⟩ := hq s e
      rw [k1, k2, k4]
      exact F.rq s hs
  · rw [hl s hs, F.lv s hs]
    by_cases e : s = t
    · subst e
      rw [h1, h2, h0]
      rfl
    · obtain ⟨k1, k2, k3, k4⟩ := hq s e
      rw [k1, k2]
  · by_cases e : s = t
    · subst e; exact h4
    · obtain ⟨k1, k2, k3, k4⟩ := hq s e
      rw [k2] at ha
      rw [k3]
      exact F.ry s hs ha
  · by_cases e : s = t
    · subst e
      rw [h1] at l2
      rw [hSo l j j2] at j3
      rw [hv' l l1 (by omega) (by omega)]
      exact F.A s hs l l1 l2 j j1 j2 j3
    · rw [(hq s e).1] at l2
      by_cases el : l = q t + 1
      · subst el
        rw [hv]
        omega
      · have hlT : l ≤ T - 1 := by have := (F.rq s hs).2.2; omega
        rw [hv' l l1 hlT el]
        refine F.A s hs l l1 l2 j j1 j2 ?_
        by_cases ej : j = t
        · subst ej; rw [← hSt l el]; exact j3
        · rw [← hSo l j ej]; exact j3
  · by_cases e : s = t
    · subst e
      exact absurd (h5 j j3) j2
    · obtain ⟨k1, k2, k3, k4⟩ := hq s e
      have hqs := F.rq s hs
      rw [k2] at ha
      rw [k3] at j3
      rw [k1] at j4 ⊢
      by_cases el : q s + 1 = q t + 1
      · rw [el, hv]
        omega
      · rw [hv' _ (by omega) (by omega) el]
        refine F.W s hs ha j j1 j2 j3 ?_
        by_cases ej : j = t
        · subst ej; rw [← hSt _ el]; exact j4
        · rw [← hSo _ j ej]; exact j4
  · by_cases el : l = q t + 1
    · subst el
      exact Or.inl ⟨t, ht, hv, hSs⟩
    · have hS' : ∀ j, inS q' a' l j = inS q a l j := fun j => by
        by_cases ej : j = t
        · subst ej; exact hSt l el
        · exact hSo l j ej
      rcases F.B l l1 l2 with ⟨v, v1, v2, v3⟩ | h9
      · exact Or.inl ⟨v, v1, by rw [hv' l l1 l2 el]; exact v2, by rw [hS']; exact v3⟩
      · refine Or.inr ?_
        rw [ct_congr (g := inS q a l) fun s _ => hS' s]
        exact h9
/-- t, which is in, goes -/
theorem F5.leave (F : F5 T q a y al lev vic) (hT : 2 ≤ T) (ht : t < T) (hq : ∀ s, s ≠ t → q' s = q s ∧ a' s = a s ∧ y' s = y s ∧ al' s = al s) (hl : ∀ s, s < T → s ≠ t → lev' s = lev s) (h0 : al t = true) (h1 : q' t = 0) (h2 : a' t = 0) (h3 : al' t = false) (h4 : lev' t = 0) : F5 T q' a' y' al' lev' vic := by
  have hqt : q t = T - 1 ∧ a t = 0 := by
    rcases (F.rq t ht).2.2 with h | h
    · rw [h0] at h; exact absurd h.1 (by decide)
    · exact h.2
  have hSt : ∀ l : Int, 1 ≤ l → inS q' a' l t = false := fun l hl => by
    unfold inS
    rw [h1, h2]
    simp
    omega
  have hSo : ∀ (l : Int) (j : Nat), j ≠ t → inS q' a' l j = inS q a l j := fun l j e => by
    unfold inS
    rw [(hq j e).1, (hq j e).2.1]
  refine ⟨fun s hs => ?_, fun s hs => ?_, fun s hs ha => ?_, fun s hs l l1 l2 j j1 j2 j3 => ?_, fun s hs ha j j1 j2 j3 j4 => ?_, fun l l1 l2 => ?_⟩
  · by_cases e : s = t
    · subst e
      rw [h1, h2, h3]
      exact ⟨Int.le_refl _, Int.le_refl _, Or.inl ⟨rfl, by omega⟩⟩
    · obtain ⟨k1, k2, k3, k4⟩ := hq s e
      rw [k1, k2, k4]
      exact F.rq s hs
  · by_cases e : s = t
    · subst e
      rw [h1, h2, h4]
      rfl
    · obtain ⟨k1, k2, k3, k4⟩ := hq s e
      rw [k1, k2, hl s hs e]
      exact F.lv s hs
  · by_cases e : s = t
    · subst e; omega
    · obtain ⟨k1, k2, k3, k4⟩ := hq s e
      rw [k2] at ha
      rw [k3]
      exact F.ry s hs ha
  · by_cases e : s = t
    · subst e; omega
    · rw [(hq s e).1] at l2
      by_cases ej : j = t
      · subst ej
        rw [hSt l l1] at j3
        cases j3
      · rw [hSo l j ej] at j3
        exact F.A s hs l l1 l2 j j1 j2 j3
  · by_cases e : s = t
    · subst e; omega
    · obtain ⟨k1, k2, k3, k4⟩ := hq s e
      have hqs := (F.rq s hs).1
      rw [k2] at ha
      rw [k3] at j3
      rw [k1] at j4 ⊢
      by_cases ej : j = t
      · subst ej
        rw [hSt _ (by omega)] at j4
        cases j4
      · rw [hSo _ j ej] at j4
        exact F.W s hs ha j j1 j2 j3 j4
  · have hin : inS q a l t = true := by
      unfold inS
      rw [show decide (l ≤ q t) = true by simp; omega]
      rfl
    have hc := ct_inc (n := T) (t := t) (f := inS q' a' l) (g := inS q a l) (fun s hs => hSo l s hs) ht (hSt l l1) hin
    have hS : (ct T (inS q a l) : Int) ≤ T - (l - 1) := by
      have h5 := F.ge (l := (l - 1).toNat) (j := 0) (by omega)
      have h6 := ct_mono (n := T) (f := inS q a l) (g := fun s => decide ((((l - 1).toNat : Nat) : Int) ≤ q s)) fun s _ e => by
        have := inS_le e
        simp
        omega
      omega
    exact Or.inr (by omega)
end
end Go.Proofs.Ytjnmlgfkiebkgaa
namespace Go.Proofs.Ytjnmlgfkiebkgaa
open Go.RowKit
set_option linter.unusedVariables false
set_option linter.unusedSimpArgs false

/-- the next one of the others -/
theorem oth_spec (l : Lk) {t T : Nat} (hm : l.me = t) (ha : l.all = T) (hT : T ≤ 16) (ht : t < T) {k : Int} (hk : -1 ≤ k ∧ k < T) :
    k < l.oth k ∧ l.oth k ≤ T ∧ (∀ j : Nat, k < j → (j : Int) < l.oth k → j = t) ∧ (l.oth k < T → l.oth k ≠ t) ∧ (k = -1 → 2 ≤ T → l.oth k < T) := by
  have e : l.oth k = min (if k + 1 = t then k + 1 + 1 else k + 1) (T : Int) := by
    unfold Lk.oth
    dsimp only
    rw [iw_id (x := k + 1) (by omega), hm, ha]
    by_cases h : k + 1 = t
    · rw [show (k + 1 == (t : Int)) = true by simpa using h, if_pos h, iw_id (x := k + 1 + 1) (by omega)]
      rfl
    · rw [show (k + 1 == (t : Int)) = false by simpa using h, if_neg h]
      rfl
  rw [e]
  by_cases h : k + 1 = t
  · rw [if_pos h]
    refine ⟨by omega, by omega, fun j j1 j2 => by omega, fun j1 => by omega, fun j1 j2 => by omega⟩
  · rw [if_neg h]
    refine ⟨by omega, by omega, fun j j1 j2 => by omega, fun j1 => by omega, fun j1 j2 => by omega⟩
/-- levels passed -/
def Th.q (h : Th) : Int := match h.task with
  | some .acq => bif h.ready then h.lk.x - 1 else 0
  | _ => bif h.alone then h.lk.all - 1 else 0
def acOf (p : Int) : Int := bif p == 0 then 0 else bif p == 1 then 1 else bif p == 2 then 2 else 3
def Th.ac (h : Th) : Int := acOf h.pl
theorem ac_ge {p : Int} (h0 : p ≠ 0) (h1 : p ≠ 1) (h2 : p ≠ 2) : acOf p = 3 := by
  unfold acOf
  rw [show (p == 0) = false by simpa using h0, show (p == 1) = false by simpa using h1, show (p == 2) = false by simpa using h2]
  rfl
theorem q_ne {h : Th} {p : Tp} (e : h.task = some p) (hp : p ≠ .acq) : h.q = bif h.alone then h.lk.all - 1 else 0 := by
  unfold Th.q
  rw [e]
  cases p with
  | acq => exact absurd rfl hp
  | _ => rfl
theorem q_none {h : Th} (e : h.task = none) : h.q = bif h.alone then h.lk.all - 1 else 0 := by
  unfold Th.q
  rw [e]
abbrev Mc.gq (m : Mc) : Nat → Int := fun s => (m.tt s).q
abbrev Mc.ga (m : Mc) : Nat → Int := fun s => (m.tt s).ac
abbrev Mc.gl (m : Mc) : Nat → Int := fun s => wd m.words (1 + s)
abbrev Mc.gv (m : Mc) : Int → Int := fun l => wd m.words (m.ths.length + max l 1).toNat
def I5 (m : Mc) : Prop := m.ths.length ≤ 16 ∧ m.words.length = 2 * m.ths.length ∧ (2 ≤ m.ths.length → F5 m.ths.length m.gq m.ga m.fy m.fal m.gl m.gv)
theorem exc_5 {m : Mc} (G : Gd m) (hk : m.kd = 5) (I : I5 m) : Exc m := fun s t h1 h2 => by
  have h2' : (m.tt t).alone = true := by
    rcases h2 with h2 | h2
    · exact h2
    · have := (G.wf t).sh h2
      omega
  have hl : ∀ s, (m.tt s).alone = true → s < m.ths.length := fun s h => by
    by_cases e : s < m.ths.length
    · exact e
    · rw [tt_out (by omega)] at h
      cases h
  have hs := hl s h1
  have ht := hl t h2'
  by_cases hT : 2 ≤ m.ths.length
  · exact (I.2.2 hT).exc hT hs ht h1 h2'
  · omega
theorem filt_step {m : Mc} (G : Gd m) (hk : m.kd = 5) {t : Nat} {h : Th} (hh : m.ths[t]? = some h) (hp : h.task = some .acq) (hT : 2 ≤ m.ths.length) :
    m.s2 t h .acq = (let r := Lk.filtA { h.lk with at_ := h.pl, x := h.q + 1 } (m.dk t h); ⟨r.1, .acq, r.2.1, r.1, h.shares, r.2.2⟩) := by
  obtain ⟨g1, g2, g3⟩ := G.kd t h hh
  have ha : ∀ (l : Lk) (d : Dk), l.kd = 5 → l.acq d = l.filtA d := fun l d e => by
    unfold Lk.acq
    rw [e]
    rfl
  have hpl : h.pl = bif h.ready then h.lk.at_ else 0 := by unfold Th.pl; rw [hp]
  have hq : h.q = bif h.ready then h.lk.x - 1 else 0 := by unfold Th.q; rw [hp]
  unfold Mc.s2
  cases hr : h.ready with
  | true =>
    rw [hr] at hpl hq
    have e : ({ h.lk with at_ := h.pl, x := h.q + 1 } : Lk) = h.lk := by
      rw [hpl, hq]
      have hx : h.lk.x - 1 + 1 = h.lk.x := by omega
      show (⟨h.lk.kd, h.lk.me, h.lk.all, h.lk.at_, h.lk.x - 1 + 1, h.lk.y⟩ : Lk) = h.lk
      rw [hx]
    rw [e, ← ha h.lk _ (g1.trans hk)]
    rfl
  | false =>
    rw [hr] at hpl hq
    have hb : ∀ d, h.lk.beg d = (false, { h.lk with at_ := 0, x := 1 }, d) := fun d => by
      unfold Lk.beg
      rw [show (h.lk.kd == 5) = true by simp [g1, hk], show decide (1 < h.lk.all) = true by simp [g3]; omega]
      rfl
    rw [hpl, hq, show ((bif false then h.lk.x - 1 else 0) + 1 : Int) = 1 from rfl, show (bif false then h.lk.at_ else 0) = (0 : Int) from rfl]
    rw [← ha _ _ (show ({ h.lk with at_ := 0, x := 1 } : Lk).kd = 5 from g1.trans hk)]
    dsimp only [cond_false, Ts.ready]
    rw [hb]
    rfl
/-- a step of the filter's acquire -/
structure A5V (m m' : Mc) (t : Nat) (d : Dk) (l : Lk) (r : Bool × Lk × Dk) : Prop where
  req : r = l.filtA d
  dw : d.words = m.words
  du : d.used = false
  me : l.me = t
  all : l.all = m.ths.length
  lt : t < m.ths.length
  x : l.x = (m.tt t).q + 1
  y : l.y = (m.tt t).lk.y
  pl0 : l.at_ = (m.tt t).pl
  al0 : (m.tt t).alone = false
  w : m'.words = r.2.2.words
  al : (m'.tt t).alone = r.1
  lk : (m'.tt t).lk = r.2.1
  pl : (m'.tt t).pl = bif r.1 then 0 else r.2.1.at_
  q : (m'.tt t).q = bif r.1 then r.2.1.all - 1 else r.2.1.x - 1
  tl : m'.ths.length = m.ths.length
  oth : Otr m m' t
theorem acq_view5 {m : Mc} (G : Gd m) (hk : m.kd = 5) {t : Nat} {h : Th} (hh : m.ths[t]? = some h) (hp : h.task = some .acq) (hT : 2 ≤ m.ths.length) : ∃ l r, A5V m (m.step t h .acq) t (m.dk t h) l r := by
  obtain ⟨g1, g2, g3⟩ := G.kd t h hh
  have gw := G.wf t
  rw [tt_of hh] at gw
  obtain ⟨w1, w2⟩ := gw.acq hp
  have hs := filt_step G hk hh hp hT
  have ht := tt_step_self (p := .acq) hh
  obtain ⟨r, hr⟩ : ∃ r, r = Lk.filtA { h.lk with at_ := h.pl, x := h.q + 1 } (m.dk t h) := ⟨_, rfl⟩
  dsimp only at hs
  rw [← hr] at hs
  rw [hs] at ht
  have hlt := (List.getElem?_eq_some_iff.1 hh).1
  refine ⟨{ h.lk with at_ := h.pl, x := h.q + 1 }, r, hr, rfl, rfl, g2, g3, hlt, ?_, ?_, ?_, ?_, ?_, ?_, ?_, ?_, ?_, (len_step m t h .acq).1, oth_step G.hist hh hp⟩
  · rw [tt_of hh]
  · rw [tt_of hh]
  · rw [tt_of hh]
  · rw [tt_of hh]; exact w1
  · rw [step_w, hs]
  · rw [ht]
  · rw [ht]
  · rw [ht]
    dsimp only
    cases r.1 <;> rfl
  · rw [ht]
    dsimp only
    cases r.1 <;> rfl
theorem up_eq (l : Lk) (d : Dk) (h : -9223372036854775808 ≤ l.x ∧ l.x < 1000) : l.up d = bif decide (l.x + 1 < l.all) then (false, { l with at_ := 0, x := l.x + 1 }, d) else (true, { l with at_ := 0, x := l.x + 1 }, d.point) := by
  unfold Lk.up
  rw [iw_id (x := l.x + 1) (by omega)]
theorem i5_acq {m m' : Mc} {t : Nat} {d : Dk} {l : Lk} {r : Bool × Lk × Dk} (V : A5V m m' t d l r) (hT : 2 ≤ m.ths.length) (I : I5 m) : I5 m' := by
  obtain ⟨T16, hwl, F⟩ := I
  have F := F hT
  have hr := V.req
  have hpl := V.pl0
  have hlx := V.x
  have hly := V.y
  have hme := V.me
  have hall := V.all
  have hlt := V.lt
  obtain ⟨kd, me, all, at_, x, y⟩ := l
  dsimp only at hpl hlx hly hme hall
  subst hme hall
  unfold Lk.filtA at hr
  dsimp only at hr
  have hq0 : 0 ≤ x - 1 ∧ x - 1 ≤ m.ths.length - 2 := by
    have h9 : 0 ≤ (m.tt t).q ∧ 0 ≤ (m.tt t).ac ∧ (((m.tt t).alone = false ∧ (m.tt t).q ≤ m.ths.length - 2) ∨ ((m.tt t).alone = true ∧ (m.tt t).q = m.ths.length - 1 ∧ (m.tt t).ac = 0)) := F.rq t hlt
    rw [V.al0] at h9
    simp at h9
    omega
  have oths : ∀ s, s ≠ t → m'.gq s = m.gq s ∧ m'.ga s = m.ga s ∧ m'.fy s = m.fy s ∧ m'.fal s = m.fal s := fun s hs => by
    dsimp only [Mc.gq, Mc.ga, Mc.fy, Mc.fal]
    rw [V.oth.tt s hs]
    exact ⟨rfl, rfl, rfl, rfl⟩
  have hgq : m.gq t = x - 1 := by show (m.tt t).q = _; omega
  have hal0 : m.fal t = false := V.al0
  -- where words stay
  have same : ∀ (l : Lk) (d' : Dk) (b : Bool), r = (b, l, d') → d'.words = m.words → (b = true → l.all = m.ths.length) →
      (∀ k : Int, 1 ≤ k → inS m'.gq m'.ga k t = inS m.gq m.ga k t) → (b = true → l.all - 1 = m.ths.length - 1) →
      (b = false → 0 ≤ l.x - 1 ∧ l.x - 1 ≤ m.ths.length - 2) →
      (wd m.words (1 + t) = bif (m'.tt t).ac == 0 then (bif b then l.all - 1 else l.x - 1) else (bif b then l.all - 1 else l.x - 1) + 1) →
      (m'.ga t = 2 → 0 ≤ l.y ∧ l.y < m.ths.length ∧ l.y ≠ t) →
      (∀ k : Int, m.gq t < k → k ≤ (bif b then l.all - 1 else l.x - 1) → ∀ j, j < m.ths.length → j ≠ t → inS m.gq m.ga k j = true → m.gv k ≠ t) →
      (m'.ga t = 2 → ∀ j : Nat, j < m.ths.length → j ≠ t → (j : Int) < l.y → inS m.gq m.ga ((bif b then l.all - 1 else l.x - 1) + 1) j = true → m.gv ((bif b then l.all - 1 else l.x - 1) + 1) ≠ t) → I5 m' := by
    intro l d' b e1 e2 e3 e4 e5 e6 e7 e8 e9 e10
    have hW : m'.words = m.words := by rw [V.w, e1]; exact e2
    have hq' : m'.gq t = bif b then l.all - 1 else l.x - 1 := by show (m'.tt t).q = _; rw [V.q, e1]
    have ha' : m'.fal t = b := by show (m'.tt t).alone = _; rw [V.al, e1]
    have hy' : m'.fy t = l.y := by show (m'.tt t).lk.y = _; rw [V.lk, e1]
    have hac : b = true → (m'.tt t).ac = 0 := fun eb => by
      unfold Th.ac
      rw [V.pl, e1, eb]
      rfl
    have hac0 : 0 ≤ (m'.tt t).ac := by unfold Th.ac acOf; cases (m'.tt t).pl == 0 <;> cases (m'.tt t).pl == 1 <;> cases (m'.tt t).pl == 2 <;> decide
    refine ⟨by rw [V.tl]; exact T16, by rw [hW, V.tl]; exact hwl, fun _ => ?_⟩
    rw [V.tl]
    have hgl : m'.gl = m.gl := funext fun s => by show wd m'.words _ = _; rw [hW]
    have hgv : m'.gv = m.gv := funext fun k => by show wd m'.words _ = _; rw [hW, V.tl]
    rw [hgl, hgv]
    refine F.keep hlt oths (fun _ _ _ => rfl) e4 ?_ ?_ ?_ ?_ ?_
    · rw [hq', ha']
      cases hb : b with
      | true =>
        rw [hb] at e5
        refine ⟨?_, hac0, Or.inr ⟨rfl, ?_, hac hb⟩⟩
        · show 0 ≤ l.all - 1
          have := e5 rfl
          omega
        · exact e5 rfl
      | false =>
        have := e6 hb
        exact ⟨this.1, hac0, Or.inl ⟨rfl, this.2⟩⟩
    · rw [hq']
      exact e7
    · rw [hy']; exact e8
    · rw [hq']; exact e9
    · rw [hq', hy']; exact e10
  by_cases e0 : at_ = 0
  · subst e0
    have hr2 : r = (false, ⟨kd, t, m.ths.length, 1, x, y⟩, d.store (iw (1 + t)) (uw x)) := hr
    rw [iw_id (by omega), uw_id (by omega)] at hr2
    have hW : m'.words = m.words.set (1 + t) x := by rw [V.w, hr2]; show (d.store (1 + t) x).words = _; rw [sto_w V.du (by omega), V.dw, show ((1 : Int) + t).toNat = 1 + t by omega]
    have hac0 : m.ga t = 0 := by show acOf (m.tt t).pl = 0; rw [← hpl]; rfl
    have hac : m'.ga t = 1 := by show acOf (m'.tt t).pl = 1; rw [V.pl, hr2]; rfl
    have hq' : m'.gq t = x - 1 := by show (m'.tt t).q = _; rw [V.q, hr2]; rfl
    have ha' : m'.fal t = false := by show (m'.tt t).alone = _; rw [V.al, hr2]
    refine ⟨by rw [V.tl]; exact T16, by rw [hW, List.length_set, V.tl]; exact hwl, fun _ => ?_⟩
    rw [V.tl]
    have hgv : m'.gv = m.gv := funext fun k => by show wd m'.words _ = wd m.words _; rw [hW, V.tl, wd_ne (by omega)]
    rw [hgv]
    refine F.keep hlt oths (fun s hs e => ?_) (fun k _ => ?_) ⟨by omega, by omega, Or.inl ⟨ha', by omega⟩⟩ ?_ (fun h => by omega) (fun k k1 k2 => by omega) (fun h => by omega)
    · show wd m'.words (1 + s) = wd m.words (1 + s)
      rw [hW, wd_ne (by omega)]
    · unfold inS
      rw [hq', hac, hgq, hac0]
      rfl
    · show wd m'.words (1 + t) = _
      rw [hac, hq', hW, wd_self (by omega)]
      show x = x - 1 + 1
      omega
  by_cases e1 : at_ = 1
  · subst e1
    have hr2 : r = (false, ⟨kd, t, m.ths.length, 2, x, Lk.oth ⟨kd, t, m.ths.length, 1, x, y⟩ (-1)⟩, d.store (iw (m.ths.length + x)) (uw t)) := hr
    obtain ⟨o1, o2, o3, o4, o5⟩ := oth_spec ⟨kd, t, m.ths.length, 1, x, y⟩ rfl rfl T16 hlt (k := -1) (by omega)
    generalize Lk.oth ⟨kd, t, m.ths.length, 1, x, y⟩ (-1) = o at hr2 o1 o2 o3 o4 o5
    rw [iw_id (by omega), uw_id (by omega)] at hr2
    have hW : m'.words = m.words.set ((m.ths.length : Int) + x).toNat t := by rw [V.w, hr2]; show (d.store (m.ths.length + x) t).words = _; rw [sto_w V.du (by omega), V.dw]
    have hac0 : m.ga t = 1 := by show acOf (m.tt t).pl = 1; rw [← hpl]; rfl
    have hac : m'.ga t = 2 := by show acOf (m'.tt t).pl = 2; rw [V.pl, hr2]; rfl
    have hq' : m'.gq t = x - 1 := by show (m'.tt t).q = _; rw [V.q, hr2]; rfl
    have ha' : m'.fal t = false := by show (m'.tt t).alone = _; rw [V.al, hr2]
    have hy' : m'.fy t = o := by show (m'.tt t).lk.y = _; rw [V.lk, hr2]
    have o6 := o5 rfl hT
    have o7 := o4 o6
    refine ⟨by rw [V.tl]; exact T16, by rw [hW, List.length_set, V.tl]; exact hwl, fun _ => ?_⟩
    rw [V.tl]
    refine F.vict hlt oths (fun s hs => ?_) hac0 (by omega) hac (by rw [ha', hal0]) (by rw [hy']; exact ⟨by omega, o6, o7⟩) (fun j hj => ?_) ?_ (fun k k1 k2 k3 => ?_)
    · show wd m'.words (1 + s) = wd m.words (1 + s)
      rw [hW, wd_ne (by omega)]
    · rw [hy'] at hj
      exact o3 j (by omega) hj
    · show wd m'.words _ = _
      rw [hW, V.tl, hgq, show (m.ths.length + max (x - 1 + 1) 1 : Int).toNat = ((m.ths.length : Int) + x).toNat by omega, wd_self (by omega)]
    · show wd m'.words _ = wd m.words _
      rw [hW, V.tl, wd_ne (by omega)]
  -- to pass the level
  have pass : ∀ (y' : Int) (d' : Dk), r = Lk.up ⟨kd, t, m.ths.length, at_, x, y'⟩ d' → d'.words = m.words → 2 ≤ m.ga t → (∀ j, j < m.ths.length → j ≠ t → inS m.gq m.ga x j = true → m.gv x ≠ t) → I5 m' := fun y' d' h1 h2 h3 h4 => by
    rw [up_eq _ _ (by dsimp only; omega)] at h1
    dsimp only at h1
    have hlev : wd m.words (1 + t) = x := by
      have h9 := F.lv t hlt
      rw [show (m.ga t == 0) = false by rw [beq_eq_false_iff_ne]; omega, hgq] at h9
      have h9' : wd m.words (1 + t) = x - 1 + 1 := h9
      omega
    have hSt : ∀ b : Bool, (m'.tt t).ac = 0 → m'.gq t = x → ∀ k : Int, 1 ≤ k → inS m'.gq m'.ga k t = inS m.gq m.ga k t := fun b g1 g2 k hk => by
      have g1' : m'.ga t = 0 := g1
      unfold inS
      rw [g1', g2, hgq]
      by_cases e : k ≤ x - 1
      · rw [show decide (k ≤ x - 1) = true by simpa using e, show decide (k ≤ x) = true by simp; omega]
        rfl
      · by_cases e2 : k = x
        · subst e2
          rw [show decide (k ≤ k) = true by simp, show decide (k - 1 = k - 1) = true by simp, show decide (2 ≤ m.ga t) = true by simpa using h3]
          simp
        · rw [show decide (k ≤ x - 1) = false by simp; omega, show decide (k ≤ x) = false by simp; omega, show decide (x - 1 = k - 1) = false by simp; omega]
          simp
    cases hb : decide (x + 1 < (m.ths.length : Int)) with
    | true =>
      rw [hb] at h1
      have h5 : x + 1 < (m.ths.length : Int) := of_decide_eq_true hb
      have hr3 : r = (false, ⟨kd, t, m.ths.length, 0, x + 1, y'⟩, d') := h1
      have g1 : (m'.tt t).ac = 0 := by show acOf (m'.tt t).pl = 0; rw [V.pl, hr3]; rfl
      have g2 : m'.gq t = x := by show (m'.tt t).q = x; rw [V.q, hr3]; show x + 1 - 1 = x; omega
      refine same _ _ _ hr3 h2 (fun h => by cases h) (hSt false g1 g2) (fun h => by cases h) (fun _ => ⟨?_, ?_⟩) ?_ (fun h => ?_) (fun k k1 k2 j j1 j2 j3 => ?_) (fun h => ?_)
      · show 0 ≤ x + 1 - 1; omega
      · show x + 1 - 1 ≤ _; omega
      · rw [g1, hlev]
        show x = x + 1 - 1
        omega
      · have h' : (m'.tt t).ac = 2 := h
        omega
      · have k2' : k ≤ x + 1 - 1 := k2
        have : k = x := by omega
        subst this
        exact h4 j j1 j2 j3
      · have h' : (m'.tt t).ac = 2 := h
        omega
    | false =>
      rw [hb] at h1
      have h5 : ¬ x + 1 < (m.ths.length : Int) := of_decide_eq_false hb
      have hr3 : r = (true, ⟨kd, t, m.ths.length, 0, x + 1, y'⟩, d'.point) := h1
      have g1 : (m'.tt t).ac = 0 := by show acOf (m'.tt t).pl = 0; rw [V.pl, hr3]; rfl
      have g2 : m'.gq t = x := by show (m'.tt t).q = x; rw [V.q, hr3]; show (m.ths.length : Int) - 1 = x; omega
      refine same _ _ _ hr3 h2 (fun _ => rfl) (hSt true g1 g2) (fun _ => rfl) (fun h => by cases h) ?_ (fun h => ?_) (fun k k1 k2 j j1 j2 j3 => ?_) (fun h => ?_)
      · rw [g1, hlev]
        show x = (m.ths.length : Int) - 1
        omega
      · have h' : (m'.tt t).ac = 2 := h
        omega
      · have k2' : k ≤ (m.ths.length : Int) - 1 := k2
        have : k = x := by omega
        subst this
        exact h4 j j1 j2 j3
      · have h' : (m'.tt t).ac = 2 := h
        omega
  have hlev2 : 2 ≤ m.ga t → wd m.words (1 + t) = x := fun h3 => by
    have h9 := F.lv t hlt
    rw [show (m.ga t == 0) = false by rw [beq_eq_false_iff_ne]; omega, hgq] at h9
    have h9' : wd m.words (1 + t) = x - 1 + 1 := h9
    omega
  by_cases e2 : at_ = 2
  · subst e2
    have hac0 : m.ga t = 2 := by show acOf (m.tt t).pl = 2; rw [← hpl]; rfl
    obtain ⟨y0, y1, y2⟩ : 0 ≤ y ∧ y < m.ths.length ∧ y ≠ t := by
      have := F.ry t hlt hac0
      have h9 : 0 ≤ (m.tt t).lk.y ∧ (m.tt t).lk.y < m.ths.length ∧ (m.tt t).lk.y ≠ t := this
      rw [← hly] at h9
      exact h9
    obtain ⟨j0, rfl⟩ : ∃ j0 : Nat, y = j0 := ⟨y.toNat, by omega⟩
    have hj0 : j0 < m.ths.length := by omega
    have hlvy := F.lv j0 hj0
    have hrqy := F.rq j0 hj0
    have hlvr : 0 ≤ wd m.words (1 + j0) ∧ wd m.words (1 + j0) ≤ m.ths.length := by
      have h9 : wd m.words (1 + j0) = _ := hlvy
      rw [h9]
      cases m.ga j0 == 0
      · show 0 ≤ m.gq j0 + 1 ∧ m.gq j0 + 1 ≤ m.ths.length; omega
      · show 0 ≤ m.gq j0 ∧ m.gq j0 ≤ m.ths.length; omega
    have hv : (d.load (iw (1 + j0))).1 = wd m.words (1 + j0) := by rw [iw_id (by omega), ld_v V.du (by omega), V.dw, show ((1 : Int) + j0).toNat = 1 + j0 by omega]
    have hdw : (d.load (iw (1 + j0))).2.words = m.words := by rw [ld_w, V.dw]
    obtain ⟨o1, o2, o3, o4, o5⟩ := oth_spec ⟨kd, t, m.ths.length, 2, x, j0⟩ rfl rfl T16 hlt (k := j0) (by omega)
    rw [show ((2 : Int) == 0) = false from rfl, show ((2 : Int) == 1) = false from rfl, show ((2 : Int) == 2) = true from rfl, cond_false, cond_false, cond_true] at hr
    have hr2 := hr
    clear hr
    generalize Lk.oth ⟨kd, t, m.ths.length, 2, x, j0⟩ j0 = o at hr2 o1 o2 o3 o4 o5
    rw [hv] at hr2
    clear hv
    rw [iw_id (x := wd m.words (1 + j0)) (by omega)] at hr2
    cases hb : decide (x ≤ wd m.words (1 + j0)) with
    | true =>
      rw [hb] at hr2
      have hr3 : r = (false, ⟨kd, t, m.ths.length, 3, x, j0⟩, (d.load (iw (1 + j0))).2) := hr2
      have g1 : (m'.tt t).ac = 3 := by show acOf (m'.tt t).pl = 3; rw [V.pl, hr3]; rfl
      have g1' : m'.ga t = 3 := g1
      have g2 : m'.gq t = x - 1 := by show (m'.tt t).q = _; rw [V.q, hr3]; rfl
      refine same _ _ _ hr3 hdw (fun h => by cases h) (fun k _ => ?_) (fun h => by cases h) (fun _ => hq0) ?_ (fun h => by omega) (fun k k1 k2 => ?_) (fun h => by omega)
      · unfold inS
        rw [g1', g2, hgq, hac0]
        rfl
      · rw [g1, hlev2 (by omega)]
        show x = x - 1 + 1
        omega
      · have k2' : k ≤ x - 1 := k2
        omega
    | false =>
      rw [hb] at hr2
      have hno : inS m.gq m.ga x j0 = false := by
        cases h9 : inS m.gq m.ga x j0 with
        | false => rfl
        | true =>
          have h8 : x ≤ wd m.words (1 + j0) := inS_lev F hj0 h9
          rw [decide_eq_false_iff_not] at hb
          exact absurd h8 hb
      have hW2 : ∀ j : Nat, j < m.ths.length → j ≠ t → (j : Int) < o → inS m.gq m.ga x j = true → m.gv x ≠ t := fun j j1 j2 j3 j4 => by
        by_cases ej : j = j0
        · subst ej
          rw [hno] at j4
          cases j4
        · by_cases ej2 : j < j0
          · have h9 := F.W t hlt hac0 j j1 j2 (by show (j : Int) < (m.tt t).lk.y; omega)
            rw [hgq, show x - 1 + 1 = x by omega] at h9
            exact h9 j4
          · exact absurd (o3 j (by omega) j3) j2
      cases hc : (o == (m.ths.length : Int)) with
      | true =>
        rw [hc] at hr2
        have ho : o = m.ths.length := by simpa using hc
        exact pass o _ hr2 hdw (by omega) fun j j1 j2 j3 => hW2 j j1 j2 (by omega) j3
      | false =>
        rw [hc] at hr2
        have ho : o ≠ m.ths.length := by simpa using hc
        have hr3 : r = (false, ⟨kd, t, m.ths.length, 2, x, o⟩, (d.load (iw (1 + j0))).2) := hr2
        have g1 : (m'.tt t).ac = 2 := by show acOf (m'.tt t).pl = 2; rw [V.pl, hr3]; rfl
        have g1' : m'.ga t = 2 := g1
        have g2 : m'.gq t = x - 1 := by show (m'.tt t).q = _; rw [V.q, hr3]; rfl
        refine same _ _ _ hr3 hdw (fun h => by cases h) (fun k _ => ?_) (fun h => by cases h) (fun _ => hq0) ?_ (fun _ => ⟨?_, ?_, ?_⟩) (fun k k1 k2 => ?_) (fun _ j j1 j2 j3 j4 => ?_)
        · unfold inS
          rw [g1', g2, hgq, hac0]
        · rw [g1, hlev2 (by omega)]
          show x = x - 1 + 1
          omega
        · show 0 ≤ o; omega
        · show o < _; omega
        · exact o4 (by omega)
        · have k2' : k ≤ x - 1 := k2
          omega
        · have j4' : inS m.gq m.ga (x - 1 + 1) j = true := j4
          show m.gv (x - 1 + 1) ≠ t
          rw [show x - 1 + 1 = x by omega] at j4' ⊢
          exact hW2 j j1 j2 j3 j4'
  · have hac0 : m.ga t = 3 := by show acOf (m.tt t).pl = 3; rw [← hpl]; exact ac_ge e0 e1 e2
    rw [show (at_ == 0) = false by simpa using e0, show (at_ == 1) = false by simpa using e1, show (at_ == 2) = false by simpa using e2] at hr
    have hr2 : r = bif (d.load (iw (m.ths.length + x))).1 == uw t then (false, ⟨kd, t, m.ths.length, 2, x, Lk.oth ⟨kd, t, m.ths.length, at_, x, y⟩ (-1)⟩, (d.load (iw (m.ths.length + x))).2) else Lk.up ⟨kd, t, m.ths.length, at_, x, y⟩ (d.load (iw (m.ths.length + x))).2 := hr
    obtain ⟨o1, o2, o3, o4, o5⟩ := oth_spec ⟨kd, t, m.ths.length, at_, x, y⟩ rfl rfl T16 hlt (k := -1) (by omega)
    generalize Lk.oth ⟨kd, t, m.ths.length, at_, x, y⟩ (-1) = o at hr2 o1 o2 o3 o4 o5
    have hv : (d.load (iw (m.ths.length + x))).1 = m.gv x := by
      rw [iw_id (by omega), ld_v V.du (by omega), V.dw]
      show _ = wd m.words _
      rw [show ((m.ths.length : Int) + max x 1).toNat = ((m.ths.length : Int) + x).toNat by omega]
    have hdw : (d.load (iw (m.ths.length + x))).2.words = m.words := by rw [ld_w, V.dw]
    rw [hv] at hr2
    clear hv
    rw [uw_id (by omega)] at hr2
    cases hb : (m.gv x == (t : Int)) with
    | true =>
      rw [hb] at hr2
      have hr3 : r = (false, ⟨kd, t, m.ths.length, 2, x, o⟩, (d.load (iw (m.ths.length + x))).2) := hr2
      have g1 : (m'.tt t).ac = 2 := by show acOf (m'.tt t).pl = 2; rw [V.pl, hr3]; rfl
      have g1' : m'.ga t = 2 := g1
      have g2 : m'.gq t = x - 1 := by show (m'.tt t).q = _; rw [V.q, hr3]; rfl
      have o6 := o5 rfl hT
      refine same _ _ _ hr3 hdw (fun h => by cases h) (fun k _ => ?_) (fun h => by cases h) (fun _ => hq0) ?_ (fun _ => ⟨?_, o6, o4 o6⟩) (fun k k1 k2 => ?_) (fun _ j j1 j2 j3 => ?_)
      · unfold inS
        rw [g1', g2, hgq, hac0]
        rfl
      · rw [g1, hlev2 (by omega)]
        show x = x - 1 + 1
        omega
      · show 0 ≤ o; omega
      · have k2' : k ≤ x - 1 := k2
        omega
      · exact absurd (o3 j (by omega) j3) j2
    | false =>
      rw [hb] at hr2
      have hv9 : m.gv x ≠ t := by rw [beq_eq_false_iff_ne] at hb; exact hb
      exact pass y _ hr2 hdw (by omega) fun _ _ _ _ => hv9
theorem i5_rel {m m' : Mc} {t : Nat} {d : Dk} {l : Lk} {r : Bool × Lk × Dk} (V : RelV m m' t d l r) (hk : m.kd = 5) (hq : (m'.tt t).q = bif (m'.tt t).alone then (m'.tt t).lk.all - 1 else 0) (I : I5 m) : I5 m' := by
  obtain ⟨T16, hwl, F⟩ := I
  have hr := V.req
  have hkd := V.kd
  rw [hk] at hkd
  have hme := V.me
  have hlt := V.lt
  obtain ⟨kd, me, all, at_, x, y⟩ := l
  dsimp only at hkd hme
  subst hkd hme
  have hr2 : r = (true, ⟨5, t, all, at_, x, y⟩, d.store (iw (1 + t)) 0) := hr
  rw [iw_id (by omega)] at hr2
  have hW : m'.words = m.words.set (1 + t) 0 := by rw [V.w, hr2]; show (d.store (1 + t) 0).words = _; rw [sto_w V.du (by omega), V.dw, show ((1 : Int) + t).toNat = 1 + t by omega]
  have ha : (m'.tt t).alone = false := by rw [V.al, hr2]; rfl
  rw [ha] at hq
  refine ⟨by rw [V.tl]; exact T16, by rw [hW, List.length_set, V.tl]; exact hwl, fun hT => ?_⟩
  rw [V.tl] at hT ⊢
  have hgv : m'.gv = m.gv := funext fun k => by show wd m'.words _ = wd m.words _; rw [hW, V.tl, wd_ne (by omega)]
  rw [hgv]
  refine (F hT).leave hT hlt (fun s hs => ?_) (fun s hs e => ?_) V.al0 hq ?_ ha ?_
  · dsimp only [Mc.gq, Mc.ga, Mc.fy, Mc.fal]
    rw [V.oth.tt s hs]
    exact ⟨rfl, rfl, rfl, rfl⟩
  · show wd m'.words (1 + s) = wd m.words (1 + s)
    rw [hW, wd_ne (by omega)]
  · show acOf (m'.tt t).pl = 0
    rw [V.pl]
    rfl
  · show wd m'.words (1 + t) = 0
    rw [hW, wd_self (by omega)]
theorem i5_stl {m m' : Mc} {t : Nat} (S : Stl m m' t) (hq : (m'.tt t).q = (m.tt t).q) (I : I5 m) : I5 m' := by
  obtain ⟨T16, hwl, F⟩ := I
  refine ⟨by rw [S.tl]; exact T16, by rw [S.wl, S.tl]; exact hwl, fun hT => ?_⟩
  rw [S.tl] at hT ⊢
  have e1 : m'.gq = m.gq := funext fun s => by
    by_cases e : s = t
    · subst e; exact hq
    · show (m'.tt s).q = (m.tt s).q
      rw [S.oth.tt s e]
  have e2 : m'.ga = m.ga := funext fun s => by show acOf (m'.tt s).pl = acOf (m.tt s).pl; rw [S.pls s]
  have e3 : m'.fy = m.fy := funext fun s => by show (m'.tt s).lk.y = (m.tt s).lk.y; rw [S.lks s]
  have e4 : m'.fal = m.fal := funext fun s => S.als s
  have e5 : m'.gl = m.gl := funext fun s => S.wd _ (by omega)
  have e6 : m'.gv = m.gv := funext fun k => by show wd m'.words _ = wd m.words _; rw [S.tl, S.wd _ (by omega)]
  rw [e1, e2, e3, e4, e5, e6]
  exact F hT
theorem i5_move {m : Mc} (G : Gd m) (hk : m.kd = 5) (hT1 : 1 ≤ m.ths.length) (I : I5 m) (v : Mo) (hT : 2 ≤ m.ths.length) : I5 (m.move v).2 := by
  have hmk := move_kind m v
  have hG' := gd_move G v
  generalize (m.move v).2 = m' at hmk hG' ⊢
  cases hmk with
  | full h => exact I
  | tick => exact I
  | begun t h p w ht hh hn hm =>
    refine i5_stl (begun_view G hh hn) ?_ I
    have gw := hG'.wf t
    rw [tt_begun_self hh] at gw ⊢
    rw [tt_of hh, q_none hn]
    cases p with
    | acq =>
      have h9 : h.alone = false := (gw.acq rfl).1
      rw [h9]
      rfl
    | _ => rfl
  | step t h p hh hp =>
    cases p with
    | acq =>
      obtain ⟨l, r, V⟩ := acq_view5 G hk hh hp hT
      exact i5_acq V hT I
    | rel =>
      obtain ⟨l, r, V⟩ := rel_view G hh hp
      refine i5_rel V hk ?_ I
      rw [tt_step_self hh, s2_rel]
      unfold Th.q
      dsimp only
      cases (h.lk.rel (m.dk t h)).1 <;> rfl
    | tch c k =>
      refine i5_stl (tch_view G hh hp) ?_ I
      rw [tt_step_self hh, s2_tch, tt_of hh, q_ne hp (by simp)]
      cases k <;> rfl
    | shr b w k =>
      have gw := G.wf t
      rw [tt_of hh] at gw
      obtain ⟨_, _, h9⟩ := gw.shr b w k hp
      rcases h9 with ⟨_, h7, _⟩ | ⟨_, h7⟩
      · omega
      · have := gw.sh h7; omega
theorem i5_0 (T : Int) (hT : 1 ≤ T ∧ T ≤ 16) : I5 (mc0 5 T) := by
  have e : (mc0 5 T).words = List.replicate (2 * T.toNat) 0 := rfl
  have hl : (mc0 5 T).ths.length = T.toNat := by show ((List.range T.toNat).map _).length = _; simp
  have hq : ∀ s, (mc0 5 T).gq s = 0 := fun s => by
    show ((mc0 5 T).tt s).q = 0
    rw [q_none (tt0 5 T s).2.2.1, (tt0 5 T s).1]
    rfl
  have ha : ∀ s, (mc0 5 T).ga s = 0 := fun s => by
    show acOf ((mc0 5 T).tt s).pl = 0
    rw [pl_none (tt0 5 T s).2.2.1]
    rfl
  refine ⟨by rw [hl]; omega, by rw [e, hl]; simp, fun h2 => ?_⟩
  rw [hl] at h2 ⊢
  refine ⟨fun s hs => ?_, fun s hs => ?_, fun s hs h => ?_, fun s hs l l1 l2 => ?_, fun s hs h => ?_, fun l l1 l2 => ?_⟩
  · rw [hq, ha]
    exact ⟨Int.le_refl _, Int.le_refl _, Or.inl ⟨(tt0 5 T s).1, by omega⟩⟩
  · show wd _ _ = _
    rw [hq, ha, e, wd_rep]
    rfl
  · rw [ha] at h; omega
  · rw [hq] at l2; omega
  · rw [ha] at h; omega
  · refine Or.inr ?_
    rw [ct_none fun s _ => ?_]
    · omega
    · unfold inS
      rw [hq, ha]
      simp
      omega
end Go.Proofs.Ytjnmlgfkiebkgaa
namespace Go.Proofs.Ytjnmlgfkiebkgaa
open Go.RowKit
set_option linter.unusedVariables false
set_option linter.unusedSimpArgs false

/-- j (at p, looking at x, with y) is out, or will have a number above yi, that of i -/
def Dr (p x y : Int) (i : Nat) (yi : Int) : Prop := p = 0 ∨ (p = 1 ∧ (x ≤ i ∨ yi ≤ y)) ∨ (p = 2 ∧ yi ≤ y)
/-- i goes ahead of j -/
def Gg (p x y : Int) (i j : Nat) (yi : Int) : Prop := Dr p x y i yi ∨ (3 ≤ p ∧ (yi < y ∨ (yi = y ∧ i < j)))
/-- j, which has begun behind i's point, does not go by i -/
def Fq (p x y : Int) (i : Nat) (yi : Int) : Prop := Dr p x y i yi ∨ (p = 3 ∧ yi < y) ∨ ((p = 4 ∨ p = 5) ∧ yi < y ∧ x ≤ i)
structure Sf (T : Nat) (n p x y num cho : Int) (s : Nat) : Prop where
  r : 0 ≤ p ∧ p ≤ 6
  n0 : p = 0 → num = 0 ∧ cho = 0
  n1 : p = 1 ∨ p = 2 → num = 0 ∧ cho = 1 ∧ 0 ≤ y ∧ y ≤ n
  x1 : p = 1 ∨ p = 4 ∨ p = 5 → 0 ≤ x ∧ x < T ∧ x ≠ s
  n3 : 3 ≤ p → num = y ∧ 1 ≤ y ∧ y ≤ n
  c3 : p = 3 → cho = 1
  c4 : 4 ≤ p → cho = 0
structure B6 (T : Nat) (n : Int) (p x y num cho pt bg : Nat → Int) : Prop where
  s : ∀ s, s < T → Sf T n (p s) (x s) (y s) (num s) (cho s) s
  g : ∀ i j, i < T → j < T → i ≠ j → (((p i = 4 ∨ p i = 5) ∧ (j : Int) < x i) ∨ p i = 6) → Gg (p j) (x j) (y j) i j (y i)
  g5 : ∀ i j, i < T → j < T → p i = 5 → x i = j → Dr (p j) (x j) (y j) i (y i) ∨ 3 ≤ p j
  f : ∀ i j, i < T → j < T → i ≠ j → (p i = 4 ∨ p i = 5) → (1 ≤ p j ∧ p j ≤ 5) → pt i < bg j → Fq (p j) (x j) (y j) i (y i)
theorem Sf.mono {T : Nat} {n n' p x y num cho : Int} {s : Nat} (h : Sf T n p x y num cho s) (hn : n ≤ n') : Sf T n' p x y num cho s :=
  ⟨h.r, h.n0, fun e => by have := h.n1 e; exact ⟨this.1, this.2.1, this.2.2.1, by omega⟩, h.x1, fun e => by have := h.n3 e; exact ⟨this.1, this.2.1, by omega⟩, h.c3, h.c4⟩
section
variable {T : Nat} {n n' : Int} {p x y num cho pt bg p' x' y' num' cho' pt' bg' : Nat → Int} {t : Nat}
theorem B6.exc (B : B6 T n p x y num cho pt bg) {i j : Nat} (hi : i < T) (hj : j < T) (h1 : p i = 6) (h2 : p j = 6) : i = j := by
  by_cases e : i = j
  · exact e
  · have g1 := B.g i j hi hj e (Or.inr h1)
    have g2 := B.g j i hj hi (fun e' => e e'.symm) (Or.inr h2)
    unfold Gg Dr at g1 g2
    omega
theorem B6.upd (B : B6 T n p x y num cho pt bg) (ht : t < T) (hn : n ≤ n') (ho : ∀ s, s ≠ t → p' s = p s ∧ x' s = x s ∧ y' s = y s) (hw : ∀ s, s < T → s ≠ t → num' s = num s ∧ cho' s = cho s)
    (hg : ∀ s, s < T → s ≠ t → 1 ≤ p s ∧ p s ≤ 5 → pt' s = pt s ∧ bg' s = bg s) (hs : Sf T n' (p' t) (x' t) (y' t) (num' t) (cho' t) t)
    (hGj : ∀ i, i < T → i ≠ t → num i = y i → Gg (p t) (x t) (y t) i t (y i) → Gg (p' t) (x' t) (y' t) i t (y i))
    (h5j : ∀ i, i < T → i ≠ t → num i = y i → (Dr (p t) (x t) (y t) i (y i) ∨ 3 ≤ p t) → (Dr (p' t) (x' t) (y' t) i (y i) ∨ 3 ≤ p' t))
    (hFj : ∀ i, i < T → i ≠ t → num i = y i → 1 ≤ y i → 1 ≤ p' t ∧ p' t ≤ 5 → pt i < bg' t → (1 ≤ p t ∧ p t ≤ 5 → pt i < bg t → Fq (p t) (x t) (y t) i (y i)) → Fq (p' t) (x' t) (y' t) i (y i))
    (hGi : ∀ j, j < T → j ≠ t → (((p' t = 4 ∨ p' t = 5) ∧ (j : Int) < x' t) ∨ p' t = 6) → Gg (p j) (x j) (y j) t j (y' t))
    (h5i : ∀ j, j < T → p' t = 5 → x' t = j → Dr (p j) (x j) (y j) t (y' t) ∨ 3 ≤ p j)
    (hFi : ∀ j, j < T → j ≠ t → (p' t = 4 ∨ p' t = 5) → 1 ≤ p j ∧ p j ≤ 5 → pt' t < bg j → Fq (p j) (x j) (y j) t (y' t)) : B6 T n' p' x' y' num' cho' pt' bg' := by
  refine ⟨fun s hs' => ?_, fun i j hi hj hij h => ?_, fun i j hi hj h1 h2 => ?_, fun i j hi hj hij h1 h2 h3 => ?_⟩
  · by_cases e : s = t
    · subst e; exact hs
    · obtain ⟨k1, k2, k3⟩ := ho s e
      obtain ⟨k4, k5⟩ := hw s hs' e
      rw [k1, k2, k3, k4, k5]
      exact (B.s s hs').mono hn
  · by_cases ei : i = t
    · subst ei
      have ej : j ≠ i := fun e => hij e.symm
      obtain ⟨k1, k2, k3⟩ := ho j ej
      rw [k1, k2, k3]
      exact hGi j hj ej h
    · obtain ⟨k1, k2, k3⟩ := ho i ei
      rw [k1, k2] at h
      rw [k3]
      have hnum : num i = y i := ((B.s i hi).n3 (by omega)).1
      by_cases ej : j = t
      · subst ej
        exact hGj i hi ei hnum (B.g i j hi hj hij h)
      · obtain ⟨k4, k5, k6⟩ := ho j ej
        rw [k4, k5, k6]
        exact B.g i j hi hj hij h
  · by_cases ei : i = t
    · subst ei
      have ej : j ≠ i := fun e => by
        have := hs.x1 (Or.inr (Or.inr h1))
        omega
      obtain ⟨k1, k2, k3⟩ := ho j ej
      rw [k1, k2, k3]
      exact h5i j hj h1 h2
    · obtain ⟨k1, k2, k3⟩ := ho i ei
      rw [k1] at h1
      rw [k2] at h2
      rw [k3]
      have hnum : num i = y i := ((B.s i hi).n3 (by omega)).1
      by_cases ej : j = t
      · subst ej
        exact h5j i hi ei hnum (B.g5 i j hi hj h1 h2)
      · obtain ⟨k4, k5, k6⟩ := ho j ej
        rw [k4, k5, k6]
        exact B.g5 i j hi hj h1 h2
  · by_cases ei : i = t
    · subst ei
      have ej : j ≠ i := fun e => hij e.symm
      obtain ⟨k1, k2, k3⟩ := ho j ej
      rw [k1] at h2
      rw [(hg j hj ej h2).2] at h3
      rw [k1, k2, k3]
      exact hFi j hj ej h1 h2 h3
    · obtain ⟨k1, k2, k3⟩ := ho i ei
      rw [k1] at h1
      rw [(hg i hi ei (by omega)).1] at h3
      rw [k3]
      have hnum := (B.s i hi).n3 (by omega)
      by_cases ej : j = t
      · subst ej
        exact hFj i hi ei hnum.1 hnum.2.1 h2 h3 (fun h4 h5 => B.f i j hi hj hij h1 h4 h5)
      · obtain ⟨k4, k5, k6⟩ := ho j ej
        rw [k4] at h2
        rw [(hg j hj ej h2).2] at h3
        rw [k4, k5, k6]
        exact B.f i j hi hj hij h1 h2 h3
end
def bcOf (p : Int) : Int := bif p == 0 then 0 else bif p == 1 then 1 else bif p == 2 then 2 else bif p == 3 then 3 else bif p == 4 then 4 else 5
def Th.bp (h : Th) : Int := bif h.alone then 6 else bcOf h.pl
theorem bc_ge {p : Int} (h0 : p ≠ 0) (h1 : p ≠ 1) (h2 : p ≠ 2) (h3 : p ≠ 3) (h4 : p ≠ 4) : bcOf p = 5 := by
  unfold bcOf
  rw [show (p == 0) = false by simpa using h0, show (p == 1) = false by simpa using h1, show (p == 2) = false by simpa using h2, show (p == 3) = false by simpa using h3, show (p == 4) = false by simpa using h4]
  rfl
theorem bc_pos {p : Int} (h : 1 ≤ bcOf p) : p ≠ 0 := fun e => by subst e; exact absurd h (by decide)
abbrev Mc.bp (m : Mc) : Nat → Int := fun s => (m.tt s).bp
abbrev Mc.bn (m : Mc) : Nat → Int := fun s => wd m.words (2 + 2 * s)
abbrev Mc.bc (m : Mc) : Nat → Int := fun s => wd m.words (1 + 2 * s)
def I6 (m : Mc) : Prop := m.ths.length ≤ 16 ∧ m.words.length = 1 + 2 * m.ths.length ∧ 0 ≤ m.moves ∧ B6 m.ths.length m.moves m.bp m.fx m.fy m.bn m.bc m.lpt m.lbeg
theorem bp_acq {m : Mc} {s : Nat} (h : 1 ≤ (m.tt s).bp ∧ (m.tt s).bp ≤ 5) : (m.tt s).task = some .acq ∧ (m.tt s).alone = false ∧ s < m.ths.length := by
  unfold Th.bp at h
  cases ha : (m.tt s).alone with
  | true => rw [ha] at h; exact absurd h.2 (by show ¬ ((6 : Int) ≤ 5); decide)
  | false =>
    rw [ha] at h
    have hp := bc_pos (p := (m.tt s).pl) h.1
    refine ⟨?_, rfl, pl_lt hp⟩
    unfold Th.pl at hp
    cases ht : (m.tt s).task with
    | none => rw [ht] at hp; exact absurd rfl hp
    | some p =>
      rw [ht] at hp
      cases p with
      | acq => rfl
      | _ => exact absurd rfl hp
theorem lbeg_lt {m : Mc} (H : Hist m) {s : Nat} (e : (m.tt s).task = some .acq) : m.lbeg s < m.moves := by
  obtain ⟨i, c, h1, h2, _⟩ := last_of H e
  unfold Mc.lbeg
  rw [h1, show ((i : Int)).toNat = i from rfl, h2]
  exact (H.cal i c h2).beg.2
theorem exc_6 {m : Mc} (G : Gd m) (hk : m.kd = 6) (I : I6 m) : Exc m := fun s t h1 h2 => by
  have h2' : (m.tt t).alone = true := by
    rcases h2 with h2 | h2
    · exact h2
    · have := (G.wf t).sh h2
      omega
  have hl : ∀ s, (m.tt s).alone = true → s < m.ths.length ∧ m.bp s = 6 := fun s h => by
    refine ⟨?_, by show (m.tt s).bp = 6; unfold Th.bp; rw [h]; rfl⟩
    by_cases e : s < m.ths.length
    · exact e
    · rw [tt_out (by omega)] at h
      cases h
  exact I.2.2.2.exc (hl s h1).1 (hl t h2').1 (hl s h1).2 (hl t h2').2
/-- nobody comes in ahead of one that had its number before it began -/
def Ev6 (m m' : Mc) : Prop := ∀ t, (m'.tt t).alone = true → (m.tt t).alone = false → ∀ s, s ≠ t → (m.tt s).wt = true → m'.lbeg t ≤ m.lpt s
theorem ev6_of {m m' : Mc} {t : Nat} (o : Otr m m' t) (h : (m'.tt t).alone = true → (m.tt t).alone = false → ∀ s, s ≠ t → (m.tt s).wt = true → m'.lbeg t ≤ m.lpt s) : Ev6 m m' := fun u h1 h2 => by
  by_cases e : u = t
  · subst e; exact h h1 h2
  · rw [o.tt u e, h2] at h1; cases h1
theorem wt6 {m : Mc} (G : Gd m) (hk : m.kd = 6) {s : Nat} (h : (m.tt s).wt = true) : s < m.ths.length ∧ (m.bp s = 4 ∨ m.bp s = 5) := by
  have ht := (wt_task h).1
  have hpl : (m.tt s).pl ≠ 0 := fun e => by rw [wt_none e] at h; cases h
  have hlt := pl_lt hpl
  have hkd := (G.kd s _ (tt_some hlt)).1
  have ha := ((G.wf s).acq ht).1
  refine ⟨hlt, ?_⟩
  show (m.tt s).bp = 4 ∨ (m.tt s).bp = 5
  unfold Th.bp
  rw [ha]
  show bcOf (m.tt s).pl = 4 ∨ bcOf (m.tt s).pl = 5
  unfold Th.wt aft at h
  dsimp only at h
  rw [hkd, hk] at h
  unfold bcOf
  cases h0 : (m.tt s).pl == 0 with
  | true => rw [h0] at h; cases h
  | false =>
  cases h1 : (m.tt s).pl == 1 with
  | true => rw [h0, h1] at h; cases h
  | false =>
  cases h2 : (m.tt s).pl == 2 with
  | true => rw [h0, h1, h2] at h; cases h
  | false =>
  cases h3 : (m.tt s).pl == 3 with
  | true => rw [h0, h1, h2, h3] at h; cases h
  | false =>
    cases (m.tt s).pl == 4
    · exact Or.inr rfl
    · exact Or.inl rfl
theorem i6_stl {m m' : Mc} {t : Nat} (S : Stl m m' t) (I : I6 m) : I6 m' := by
  obtain ⟨T16, hwl, hm0, B⟩ := I
  have hmv := S.mv
  refine ⟨by rw [S.tl]; exact T16, by rw [S.wl, S.tl]; exact hwl, by omega, ?_⟩
  rw [S.tl]
  have e1 : m'.bp = m.bp := funext fun s => by show (m'.tt s).bp = (m.tt s).bp; unfold Th.bp; rw [S.als s, S.pls s]
  have e2 : m'.fx = m.fx := funext fun s => by show (m'.tt s).lk.x = (m.tt s).lk.x; rw [S.lks s]
  have e3 : m'.fy = m.fy := funext fun s => by show (m'.tt s).lk.y = (m.tt s).lk.y; rw [S.lks s]
  have e4 : m'.bn = m.bn := funext fun s => S.wd _ (by omega)
  have e5 : m'.bc = m.bc := funext fun s => S.wd _ (by omega)
  rw [e1, e2, e3, e4, e5]
  have hpb : ∀ s, 1 ≤ m.bp s ∧ m.bp s ≤ 5 → m'.lpt s = m.lpt s ∧ m'.lbeg s = m.lbeg s := fun s h => by
    obtain ⟨h1, h2, h3⟩ := bp_acq h
    by_cases e : s = t
    · subst e
      refine S.pt h1
    · exact S.oth.pt s e h1
  refine ⟨fun s hs => (B.s s hs).mono hmv, B.g, B.g5, fun i j hi hj hij h1 h2 h3 => ?_⟩
  rw [(hpb i (by omega)).1, (hpb j h2).2] at h3
  exact B.f i j hi hj hij h1 h2 h3
end Go.Proofs.Ytjnmlgfkiebkgaa
namespace Go.Proofs.Ytjnmlgfkiebkgaa
open Go.RowKit
set_option linter.unusedVariables false
set_option linter.unusedSimpArgs false

theorem i6_acq {m m' : Mc} {t : Nat} {d : Dk} {l : Lk} {r : Bool × Lk × Dk} (V : AcqV m m' t d l r) (G : Gd m) (hk : m.kd = 6) (hm : m.moves < 65536) (I : I6 m) : I6 m' ∧ Ev6 m m' := by
  obtain ⟨T16, hwl, hm0, B⟩ := I
  have hr := V.req
  have hkd := V.kd
  rw [hk] at hkd
  have hpl := V.pl0
  have hlx := V.x
  have hly := V.y
  have hme := V.me
  have hall := V.all
  have hlt := V.lt
  obtain ⟨kd, me, all, at_, x, y⟩ := l
  dsimp only at hkd hpl hlx hly hme hall
  subst hkd hme hall
  have hr' : r = Lk.bakeA ⟨6, t, m.ths.length, at_, x, y⟩ d := hr
  unfold Lk.bakeA at hr'
  dsimp only at hr'
  clear hr
  have hpt : m.bp t = bcOf at_ := by show (m.tt t).bp = _; unfold Th.bp; rw [V.al0, ← hpl]; rfl
  have hfx : m.fx t = x := hlx.symm
  have hfy : m.fy t = y := hly.symm
  have hS := B.s t hlt
  rw [hpt, hfx, hfy] at hS
  have ho : ∀ s, s ≠ t → m'.bp s = m.bp s ∧ m'.fx s = m.fx s ∧ m'.fy s = m.fy s := fun s hs => by
    dsimp only [Mc.bp, Mc.fx, Mc.fy]
    rw [V.oth.tt s hs]
    exact ⟨rfl, rfl, rfl⟩
  have hg : ∀ s, s < m.ths.length → s ≠ t → 1 ≤ m.bp s ∧ m.bp s ≤ 5 → m'.lpt s = m.lpt s ∧ m'.lbeg s = m.lbeg s := fun s _ hs h => V.oth.pt s hs (bp_acq h).1
  have hlb := V.lbeg
  have hnow : ∀ s, 1 ≤ m.bp s ∧ m.bp s ≤ 5 → m.lbeg s < m.moves := fun s h => lbeg_lt G.hist (bp_acq h).1
  -- the end of each arm
  have fin : ∀ (b : Bool) (l' : Lk) (d' : Dk), r = (b, l', d') → m'.words.length = m.words.length → (∀ s, s < m.ths.length → s ≠ t → m'.bn s = m.bn s ∧ m'.bc s = m.bc s) →
      ∀ q, (bif b then 6 else bcOf l'.at_) = q → Sf m.ths.length (m.moves + 1) q l'.x l'.y (m'.bn t) (m'.bc t) t →
      (∀ i, i < m.ths.length → i ≠ t → m.bn i = m.fy i → Gg (bcOf at_) x y i t (m.fy i) → Gg q l'.x l'.y i t (m.fy i)) →
      (∀ i, i < m.ths.length → i ≠ t → m.bn i = m.fy i → (Dr (bcOf at_) x y i (m.fy i) ∨ 3 ≤ bcOf at_) → (Dr q l'.x l'.y i (m.fy i) ∨ 3 ≤ q)) →
      (∀ i, i < m.ths.length → i ≠ t → m.bn i = m.fy i → 1 ≤ m.fy i → 1 ≤ q ∧ q ≤ 5 → m.lpt i < m.lbeg t → (1 ≤ bcOf at_ ∧ bcOf at_ ≤ 5 → Fq (bcOf at_) x y i (m.fy i)) → Fq q l'.x l'.y i (m.fy i)) →
      (∀ j, j < m.ths.length → j ≠ t → (((q = 4 ∨ q = 5) ∧ (j : Int) < l'.x) ∨ q = 6) → Gg (m.bp j) (m.fx j) (m.fy j) t j l'.y) →
      (∀ j, j < m.ths.length → q = 5 → l'.x = j → Dr (m.bp j) (m.fx j) (m.fy j) t l'.y ∨ 3 ≤ m.bp j) →
      (∀ j, j < m.ths.length → j ≠ t → (q = 4 ∨ q = 5) → 1 ≤ m.bp j ∧ m.bp j ≤ 5 → d'.pt < m.lbeg j → Fq (m.bp j) (m.fx j) (m.fy j) t l'.y) → I6 m' := by
    intro b l' d' e1 e2 e3 q eq e4 e5 e6 e7 e8 e9 e10
    have hp' : m'.bp t = q := by
      show (m'.tt t).bp = q
      unfold Th.bp
      rw [V.al, V.pl, e1, ← eq]
      dsimp only
      cases b <;> rfl
    have hx' : m'.fx t = l'.x := by show (m'.tt t).lk.x = _; rw [V.lk, e1]
    have hy' : m'.fy t = l'.y := by show (m'.tt t).lk.y = _; rw [V.lk, e1]
    have hpt' : m'.lpt t = d'.pt := by rw [V.lpt, e1]
    refine ⟨by rw [V.tl]; exact T16, by rw [e2, V.tl]; exact hwl, by rw [V.mv]; omega, ?_⟩
    rw [V.tl, V.mv]
    refine B.upd hlt (by omega) ho e3 hg ?_ ?_ ?_ ?_ ?_ ?_ ?_
    · rw [hp', hx', hy']; exact e4
    · rw [hp', hx', hy', hpt, hfx, hfy]; exact e5
    · rw [hp', hx', hy', hpt, hfx, hfy]; exact e6
    · rw [hp', hx', hy', hpt, hfx, hfy, hlb]
      exact fun i h1 h2 h3 h4 h5 h6 h7 => e7 i h1 h2 h3 h4 h5 h6 fun h8 => h7 h8 h6
    · rw [hp', hx', hy']; exact e8
    · rw [hp', hx', hy']; exact e9
    · rw [hp', hy', hpt']; exact e10
  have notin : ∀ {b : Bool} {l' : Lk} {d' : Dk}, r = (b, l', d') → b = false → Ev6 m m' := fun e1 e2 => ev6_of V.oth fun h => by rw [V.al, e1, e2] at h; cases h
  have hlen : ∀ i v, m'.words = m.words.set i v → m'.words.length = m.words.length := fun i v h => by rw [h, List.length_set]
  by_cases e0 : at_ = 0
  · subst e0
    obtain ⟨o1, o2, o3, o4, o5⟩ := oth_spec ⟨6, t, m.ths.length, 0, x, y⟩ rfl rfl T16 hlt (k := -1) (by omega)
    have hr2 : r = (false, ⟨6, t, m.ths.length, bif Lk.oth ⟨6, t, m.ths.length, 0, x, y⟩ (-1) == (m.ths.length : Int) then 2 else 1, Lk.oth ⟨6, t, m.ths.length, 0, x, y⟩ (-1), 0⟩, d.store (iw (1 + iw (2 * t))) 1) := hr'
    clear hr'
    generalize Lk.oth ⟨6, t, m.ths.length, 0, x, y⟩ (-1) = o at hr2 o1 o2 o3 o4 o5
    rw [iw_id (x := 2 * (t : Int)) (by omega), iw_id (x := 1 + 2 * (t : Int)) (by omega)] at hr2
    have hW : m'.words = m.words.set (1 + 2 * t) 1 := by rw [V.w, hr2]; show (d.store (1 + 2 * t) 1).words = _; rw [sto_w V.du (by omega), V.dw, show ((1 : Int) + 2 * t).toNat = 1 + 2 * t by omega]
    have hn0 := hS.n0 rfl
    have hbn : m'.bn t = m.bn t := by show wd m'.words _ = wd m.words _; rw [hW, wd_ne (by omega)]
    have hbc : m'.bc t = 1 := by show wd m'.words _ = 1; rw [hW, wd_self (by omega)]
    have hoth : ∀ s, s < m.ths.length → s ≠ t → m'.bn s = m.bn s ∧ m'.bc s = m.bc s := fun s h1 h2 => ⟨by show wd m'.words _ = wd m.words _; rw [hW, wd_ne (by omega)], by show wd m'.words _ = wd m.words _; rw [hW, wd_ne (by omega)]⟩
    refine ⟨?_, notin hr2 rfl⟩
    cases hb : (o == (m.ths.length : Int)) with
    | true =>
      have ho9 : o = m.ths.length := by simpa using hb
      rw [hb] at hr2
      refine fin _ _ _ hr2 (hlen _ _ hW) hoth 2 rfl ⟨by decide, (fun h => by omega), fun _ => ⟨by rw [hbn]; exact hn0.1, hbc, Int.le_refl _, by show 0 ≤ m.moves + 1; omega⟩, (fun h => by omega), (fun h => by omega), (fun h => by omega), (fun h => by omega)⟩ (fun i h1 h2 => ?_) (fun i h1 h2 => ?_) (fun i h1 h2 => ?_) (fun j h1 h2 h3 => by omega) (fun j h1 h2 => by omega) (fun j h1 h2 h3 => by omega)
      · exact absurd (o3 i (by omega) (by omega)) h2
      · exact absurd (o3 i (by omega) (by omega)) h2
      · exact absurd (o3 i (by omega) (by omega)) h2
    | false =>
      have ho9 : o ≠ m.ths.length := by simpa using hb
      have ho8 := o4 (by omega)
      rw [hb] at hr2
      have hle : ∀ i : Nat, i < m.ths.length → i ≠ t → o ≤ i := fun i h1 h2 => by
        by_cases e : (i : Int) < o
        · exact absurd (o3 i (by omega) e) h2
        · omega
      refine fin _ _ _ hr2 (hlen _ _ hW) hoth 1 rfl ⟨by decide, (fun h => by omega), fun _ => ⟨by rw [hbn]; exact hn0.1, hbc, Int.le_refl _, by show 0 ≤ m.moves + 1; omega⟩, fun _ => ⟨by show 0 ≤ o; omega, by show o < _; omega, ho8⟩, (fun h => by omega), (fun h => by omega), (fun h => by omega)⟩ (fun i h1 h2 _ _ => Or.inl (Or.inr (Or.inl ⟨rfl, Or.inl (hle i h1 h2)⟩))) (fun i h1 h2 _ _ => Or.inl (Or.inr (Or.inl ⟨rfl, Or.inl (hle i h1 h2)⟩))) (fun i h1 h2 _ _ _ _ _ => Or.inl (Or.inr (Or.inl ⟨rfl, Or.inl (hle i h1 h2)⟩))) (fun j h1 h2 h3 => by omega) (fun j h1 h2 => by omega) (fun j h1 h2 h3 => by omega)
  by_cases e1 : at_ = 1
  · subst e1
    obtain ⟨x0, x1, x2⟩ := hS.x1 (Or.inl rfl)
    obtain ⟨n1, n2, n3, n4⟩ := hS.n1 (Or.inl rfl)
    obtain ⟨j0, rfl⟩ : ∃ j0 : Nat, x = j0 := ⟨x.toNat, by omega⟩
    have hj0 : j0 < m.ths.length := by omega
    obtain ⟨o1, o2, o3, o4, o5⟩ := oth_spec ⟨6, t, m.ths.length, 1, j0, y⟩ rfl rfl T16 hlt (k := j0) (by omega)
    have hr2 : r = (false, ⟨6, t, m.ths.length, bif Lk.oth ⟨6, t, m.ths.length, 1, j0, y⟩ j0 == (m.ths.length : Int) then 2 else 1, Lk.oth ⟨6, t, m.ths.length, 1, j0, y⟩ j0, max y (iw (d.load (iw (2 + iw (2 * j0)))).1)⟩, (d.load (iw (2 + iw (2 * j0)))).2) := hr'
    clear hr'
    generalize Lk.oth ⟨6, t, m.ths.length, 1, j0, y⟩ j0 = o at hr2 o1 o2 o3 o4 o5
    rw [iw_id (x := 2 * (j0 : Int)) (by omega), iw_id (x := 2 + 2 * (j0 : Int)) (by omega)] at hr2
    have hv : (d.load (2 + 2 * j0)).1 = m.bn j0 := by rw [ld_v V.du (by omega), V.dw, show ((2 : Int) + 2 * j0).toNat = 2 + 2 * j0 by omega]
    have hvr : 0 ≤ m.bn j0 ∧ m.bn j0 ≤ m.moves := by
      have h9 := B.s j0 hj0
      have h8 := h9.r
      by_cases e : m.bp j0 = 0
      · have := (h9.n0 e).1; omega
      · by_cases e2 : m.bp j0 = 1 ∨ m.bp j0 = 2
        · have := (h9.n1 e2).1; omega
        · have := h9.n3 (by omega); omega
    rw [hv] at hr2
    clear hv
    rw [iw_id (x := m.bn j0) (by omega)] at hr2
    have hW : m'.words = m.words := by rw [V.w, hr2]; show (d.load _).2.words = _; rw [ld_w, V.dw]
    have hbn : m'.bn t = m.bn t := by show wd m'.words _ = wd m.words _; rw [hW]
    have hbc : m'.bc t = m.bc t := by show wd m'.words _ = wd m.words _; rw [hW]
    have hoth : ∀ s, s < m.ths.length → s ≠ t → m'.bn s = m.bn s ∧ m'.bc s = m.bc s := fun s _ _ => ⟨by show wd m'.words _ = wd m.words _; rw [hW], by show wd m'.words _ = wd m.words _; rw [hW]⟩
    refine ⟨?_, notin hr2 rfl⟩
    have b1 : bcOf 1 = 1 := rfl
    -- a number that will be above, or is to be read yet
    have key : ∀ i : Nat, i < m.ths.length → i ≠ t → m.bn i = m.fy i → Dr 1 j0 y i (m.fy i) → o ≤ i ∨ m.fy i ≤ max y (m.bn j0) := fun i h1 h2 h3 h4 => by
      by_cases e : (i : Int) = j0
      · have e' : i = j0 := by omega
        subst e'
        exact Or.inr (by omega)
      · unfold Dr at h4
        by_cases e3 : m.fy i ≤ y
        · exact Or.inr (by omega)
        · have h5 : (j0 : Int) < i := by omega
          by_cases e4 : (i : Int) < o
          · exact absurd (o3 i h5 e4) h2
          · exact Or.inl (by omega)
    have gd : ∀ i : Nat, Gg 1 j0 y i t (m.fy i) → Dr 1 j0 y i (m.fy i) := fun i h => h.resolve_right fun h9 => by omega
    cases hb : (o == (m.ths.length : Int)) with
    | true =>
      have ho9 : o = m.ths.length := by simpa using hb
      rw [hb] at hr2
      have key2 : ∀ i : Nat, i < m.ths.length → i ≠ t → m.bn i = m.fy i → Dr 1 j0 y i (m.fy i) → Dr 2 o (max y (m.bn j0)) i (m.fy i) := fun i h1 h2 h3 h4 => by
        rcases key i h1 h2 h3 h4 with h | h
        · omega
        · exact Or.inr (Or.inr ⟨rfl, h⟩)
      refine fin _ _ _ hr2 (by rw [hW]) hoth 2 rfl ⟨by decide, (fun h => by omega), fun _ => ⟨by rw [hbn]; exact n1, by rw [hbc]; exact n2, by show 0 ≤ max y (m.bn j0); omega, by show max y (m.bn j0) ≤ m.moves + 1; omega⟩, (fun h => by omega), (fun h => by omega), (fun h => by omega), (fun h => by omega)⟩ (fun i h1 h2 h3 h4 => Or.inl (key2 i h1 h2 h3 (gd i h4))) (fun i h1 h2 h3 h4 => Or.inl (key2 i h1 h2 h3 (h4.resolve_right fun h9 => by rw [b1] at h9; omega))) (fun i h1 h2 h3 _ _ _ h4 => Or.inl (key2 i h1 h2 h3 ?_)) (fun j h1 h2 h3 => by omega) (fun j h1 h2 => by omega) (fun j h1 h2 h3 => by omega)
      rcases h4 (by rw [b1]; decide) with h | h | h
      · exact h
      · rw [b1] at h; omega
      · rw [b1] at h; omega
    | false =>
      have ho9 : o ≠ m.ths.length := by simpa using hb
      have ho8 := o4 (by omega)
      rw [hb] at hr2
      have key2 : ∀ i : Nat, i < m.ths.length → i ≠ t → m.bn i = m.fy i → Dr 1 j0 y i (m.fy i) → Dr 1 o (max y (m.bn j0)) i (m.fy i) := fun i h1 h2 h3 h4 => Or.inr (Or.inl ⟨rfl, key i h1 h2 h3 h4⟩)
      refine fin _ _ _ hr2 (by rw [hW]) hoth 1 rfl ⟨by decide, (fun h => by omega), fun _ => ⟨by rw [hbn]; exact n1, by rw [hbc]; exact n2, by show 0 ≤ max y (m.bn j0); omega, by show max y (m.bn j0) ≤ m.moves + 1; omega⟩, fun _ => ⟨by show 0 ≤ o; omega, by show o < _; omega, ho8⟩, (fun h => by omega), (fun h => by omega), (fun h => by omega)⟩ (fun i h1 h2 h3 h4 => Or.inl (key2 i h1 h2 h3 (gd i h4))) (fun i h1 h2 h3 h4 => Or.inl (key2 i h1 h2 h3 (h4.resolve_right fun h9 => by rw [b1] at h9; omega))) (fun i h1 h2 h3 _ _ _ h4 => Or.inl (key2 i h1 h2 h3 ?_)) (fun j h1 h2 h3 => by omega) (fun j h1 h2 => by omega) (fun j h1 h2 h3 => by omega)
      rcases h4 (by rw [b1]; decide) with h | h | h
      · exact h
      · rw [b1] at h; omega
      · rw [b1] at h; omega
  by_cases e2 : at_ = 2
  · subst e2
    obtain ⟨n1, n2, n3, n4⟩ := hS.n1 (Or.inr rfl)
    have hr2 : r = (false, ⟨6, t, m.ths.length, 3, x, iw (y + 1)⟩, d.store (iw (2 + iw (2 * t))) (uw (iw (y + 1)))) := hr'
    clear hr'
    rw [iw_id (x := 2 * (t : Int)) (by omega), iw_id (x := 2 + 2 * (t : Int)) (by omega), iw_id (x := y + 1) (by omega), uw_id (x := y + 1) (by omega)] at hr2
    have hW : m'.words = m.words.set (2 + 2 * t) (y + 1) := by rw [V.w, hr2]; show (d.store (2 + 2 * t) (y + 1)).words = _; rw [sto_w V.du (by omega), V.dw, show ((2 : Int) + 2 * t).toNat = 2 + 2 * t by omega]
    have hbn : m'.bn t = y + 1 := by show wd m'.words _ = _; rw [hW, wd_self (by omega)]
    have hbc : m'.bc t = m.bc t := by show wd m'.words _ = wd m.words _; rw [hW, wd_ne (by omega)]
    have hoth : ∀ s, s < m.ths.length → s ≠ t → m'.bn s = m.bn s ∧ m'.bc s = m.bc s := fun s h1 h2 => ⟨by show wd m'.words _ = wd m.words _; rw [hW, wd_ne (by omega)], by show wd m'.words _ = wd m.words _; rw [hW, wd_ne (by omega)]⟩
    have b1 : bcOf 2 = 2 := rfl
    refine ⟨fin _ _ _ hr2 (hlen _ _ hW) hoth 3 rfl ⟨by decide, (fun h => by omega), (fun h => by omega), (fun h => by omega), fun _ => ⟨hbn, by show 1 ≤ y + 1; omega, by show y + 1 ≤ m.moves + 1; omega⟩, fun _ => by rw [hbc]; exact n2, (fun h => by omega)⟩ (fun i _ _ _ h => ?_) (fun i _ _ _ _ => Or.inr (by decide)) (fun i _ _ _ _ _ _ h => ?_) (fun j h1 h2 h3 => by omega) (fun j h1 h2 => by omega) (fun j h1 h2 h3 => by omega), notin hr2 rfl⟩
    · rw [b1] at h
      unfold Gg Dr at h ⊢
      dsimp only
      omega
    · rw [b1] at h
      have h := h (by omega)
      unfold Fq Dr at h ⊢
      dsimp only
      omega
  by_cases e3 : at_ = 3
  · subst e3
    obtain ⟨n1, n2, n3⟩ := hS.n3 (by decide)
    have n4 := hS.c3 rfl
    obtain ⟨o1, o2, o3, o4, o5⟩ := oth_spec ⟨6, t, m.ths.length, 3, x, y⟩ rfl rfl T16 hlt (k := -1) (by omega)
    have hr2 : r = (Lk.oth ⟨6, t, m.ths.length, 3, x, y⟩ (-1) == (m.ths.length : Int), ⟨6, t, m.ths.length, 4, Lk.oth ⟨6, t, m.ths.length, 3, x, y⟩ (-1), y⟩, (d.store (iw (1 + iw (2 * t))) 0).point) := hr'
    clear hr'
    generalize Lk.oth ⟨6, t, m.ths.length, 3, x, y⟩ (-1) = o at hr2 o1 o2 o3 o4 o5
    rw [iw_id (x := 2 * (t : Int)) (by omega), iw_id (x := 1 + 2 * (t : Int)) (by omega)] at hr2
    have hW : m'.words = m.words.set (1 + 2 * t) 0 := by rw [V.w, hr2]; show (d.store (1 + 2 * t) 0).words = _; rw [sto_w V.du (by omega), V.dw, show ((1 : Int) + 2 * t).toNat = 1 + 2 * t by omega]
    have hpn : (d.store (1 + 2 * (t : Int)) 0).point.pt = m.moves := (store_now _ _ _).trans V.dn
    have hbn : m'.bn t = m.bn t := by show wd m'.words _ = wd m.words _; rw [hW, wd_ne (by omega)]
    have hbc : m'.bc t = 0 := by show wd m'.words _ = _; rw [hW, wd_self (by omega)]
    have hoth : ∀ s, s < m.ths.length → s ≠ t → m'.bn s = m.bn s ∧ m'.bc s = m.bc s := fun s h1 h2 => ⟨by show wd m'.words _ = wd m.words _; rw [hW, wd_ne (by omega)], by show wd m'.words _ = wd m.words _; rw [hW, wd_ne (by omega)]⟩
    have b1 : bcOf 3 = 3 := rfl
    have hle : ∀ i : Nat, i < m.ths.length → i ≠ t → o ≤ i := fun i h1 h2 => by
      by_cases e : (i : Int) < o
      · exact absurd (o3 i (by omega) e) h2
      · omega
    cases hb : (o == (m.ths.length : Int)) with
    | true =>
      have ho9 : o = m.ths.length := by simpa using hb
      rw [hb] at hr2
      refine ⟨fin _ _ _ hr2 (hlen _ _ hW) hoth 6 rfl ⟨by decide, (fun h => by omega), (fun h => by omega), (fun h => by omega), fun _ => ⟨by rw [hbn]; exact n1, n2, by show y ≤ m.moves + 1; omega⟩, (fun h => by omega), fun _ => hbc⟩ (fun i h1 h2 _ h => ?_) (fun i _ _ _ _ => Or.inr (by decide)) (fun i _ _ _ _ h => by omega) (fun j h1 h2 h3 => ?_) (fun j h1 h2 => by omega) (fun j h1 h2 h3 => by omega), ev6_of V.oth fun _ _ s hs hw => ?_⟩
      · have := hle i h1 h2; omega
      · have := hle j h1 h2; omega
      · have h1 := wt6 G hk hw
        have := hle s h1.1 hs
        omega
    | false =>
      have ho9 : o ≠ m.ths.length := by simpa using hb
      have ho8 := o4 (by omega)
      rw [hb] at hr2
      refine ⟨fin _ _ _ hr2 (hlen _ _ hW) hoth 4 rfl ⟨by decide, (fun h => by omega), (fun h => by omega), fun _ => ⟨by show 0 ≤ o; omega, by show o < _; omega, ho8⟩, fun _ => ⟨by rw [hbn]; exact n1, n2, by show y ≤ m.moves + 1; omega⟩, (fun h => by omega), fun _ => hbc⟩ (fun i h1 h2 _ h => ?_) (fun i _ _ _ _ => Or.inr (by decide)) (fun i h1 h2 _ _ _ _ h => ?_) (fun j h1 h2 h3 => ?_) (fun j h1 h2 => by omega) (fun j h1 h2 h3 h4 h5 => ?_), notin hr2 rfl⟩
      · rw [b1] at h
        unfold Gg Dr at h ⊢
        dsimp only
        omega
      · rw [b1] at h
        have h := h (by omega)
        have := hle i h1 h2
        unfold Fq Dr at h ⊢
        dsimp only
        omega
      · have := hle j h1 h2
        dsimp only at h3
        omega
      · have := hnow j h4
        rw [hpn] at h5
        omega
  have hS4 : 4 ≤ bcOf at_ := by
    unfold bcOf
    rw [show (at_ == 0) = false by simpa using e0, show (at_ == 1) = false by simpa using e1, show (at_ == 2) = false by simpa using e2, show (at_ == 3) = false by simpa using e3]
    cases at_ == 4 <;> decide
  have hS5 : bcOf at_ ≤ 5 := by
    unfold bcOf
    rw [show (at_ == 0) = false by simpa using e0, show (at_ == 1) = false by simpa using e1, show (at_ == 2) = false by simpa using e2, show (at_ == 3) = false by simpa using e3]
    cases at_ == 4 <;> decide
  obtain ⟨n1, n2, n3⟩ := hS.n3 (by omega)
  have n4 := hS.c4 hS4
  obtain ⟨x0, x1, x2⟩ := hS.x1 (by omega)
  obtain ⟨j0, rfl⟩ : ∃ j0 : Nat, x = j0 := ⟨x.toNat, by omega⟩
  have hj0 : j0 < m.ths.length := by omega
  have hB0 := B.s j0 hj0
  have hwait : m.bp t = 4 ∨ m.bp t = 5 := by omega
  have hgt : ∀ j, j < m.ths.length → j ≠ t → (j : Int) < j0 → Gg (m.bp j) (m.fx j) (m.fy j) t j y := fun j h1 h2 h3 => by
    have := B.g t j hlt h1 (fun e => h2 e.symm) (Or.inl ⟨hwait, by rw [hfx]; exact h3⟩)
    rw [hfy] at this
    exact this
  have hft : ∀ j, j < m.ths.length → j ≠ t → 1 ≤ m.bp j ∧ m.bp j ≤ 5 → m.lpt t < m.lbeg j → Fq (m.bp j) (m.fx j) (m.fy j) t y := fun j h1 h2 h3 h4 => by
    have := B.f t j hlt h1 (fun e => h2 e.symm) hwait h3 h4
    rw [hfy] at this
    exact this
  by_cases e4 : at_ = 4
  · subst e4
    have hr2 : r = (false, ⟨6, t, m.ths.length, bif (d.load (iw (1 + iw (2 * j0)))).1 == 0 then 5 else 4, j0, y⟩, (d.load (iw (1 + iw (2 * j0)))).2) := hr'
    clear hr'
    rw [iw_id (x := 2 * (j0 : Int)) (by omega), iw_id (x := 1 + 2 * (j0 : Int)) (by omega)] at hr2
    have hv : (d.load (1 + 2 * j0)).1 = m.bc j0 := by rw [ld_v V.du (by omega), V.dw, show ((1 : Int) + 2 * j0).toNat = 1 + 2 * j0 by omega]
    rw [hv] at hr2
    clear hv
    have hW : m'.words = m.words := by rw [V.w, hr2]; show (d.load _).2.words = _; rw [ld_w, V.dw]
    have hbn : m'.bn t = m.bn t := by show wd m'.words _ = wd m.words _; rw [hW]
    have hbc : m'.bc t = m.bc t := by show wd m'.words _ = wd m.words _; rw [hW]
    have hoth : ∀ s, s < m.ths.length → s ≠ t → m'.bn s = m.bn s ∧ m'.bc s = m.bc s := fun s _ _ => ⟨by show wd m'.words _ = wd m.words _; rw [hW], by show wd m'.words _ = wd m.words _; rw [hW]⟩
    have hdp : (d.load (1 + 2 * (j0 : Int))).2.pt = m.lpt t := (load_pt _ _).trans V.dp
    have b1 : bcOf 4 = 4 := rfl
    cases hb : (m.bc j0 == 0) with
    | true =>
      have hc0 : m.bc j0 = 0 := by rw [beq_iff_eq] at hb; exact hb
      rw [hb] at hr2
      refine ⟨fin _ _ _ hr2 (by rw [hW]) hoth 5 rfl ⟨by decide, (fun h => by omega), (fun h => by omega), fun _ => ⟨x0, x1, x2⟩, fun _ => ⟨by rw [hbn]; exact n1, n2, by show y ≤ m.moves + 1; omega⟩, (fun h => by omega), fun _ => by rw [hbc]; exact n4⟩ (fun i h1 h2 _ h => ?_) (fun i _ _ _ _ => Or.inr (by decide)) (fun i h1 h2 _ _ _ _ h => ?_) (fun j h1 h2 h3 => ?_) (fun j h1 _ h2 => ?_) (fun j h1 h2 _ h4 h5 => ?_), notin hr2 rfl⟩
      · rw [b1] at h
        unfold Gg Dr at h ⊢
        dsimp only
        omega
      · rw [b1] at h
        have h := h (by omega)
        unfold Fq Dr at h ⊢
        dsimp only
        omega
      · rcases h3 with ⟨_, h3⟩ | h3
        · exact hgt j h1 h2 h3
        · omega
      · have hjj : j = j0 := by dsimp only at h2; omega
        subst hjj
        have g1 := hB0.r
        have g2 := hB0.n1
        have g3 := hB0.c3
        unfold Dr
        by_cases g4 : m.bp j = 0
        · exact Or.inl (Or.inl g4)
        · refine Or.inr ?_
          by_cases g5 : m.bp j = 1 ∨ m.bp j = 2
          · have := (g2 g5).2.1; omega
          · omega
      · rw [hdp] at h5
        exact hft j h1 h2 h4 h5
    | false =>
      rw [hb] at hr2
      refine ⟨fin _ _ _ hr2 (by rw [hW]) hoth 4 rfl ⟨by decide, (fun h => by omega), (fun h => by omega), fun _ => ⟨x0, x1, x2⟩, fun _ => ⟨by rw [hbn]; exact n1, n2, by show y ≤ m.moves + 1; omega⟩, (fun h => by omega), fun _ => by rw [hbc]; exact n4⟩ (fun i h1 h2 _ h => h) (fun i _ _ _ _ => Or.inr (by decide)) (fun i h1 h2 _ _ _ _ h => h (by rw [b1]; decide)) (fun j h1 h2 h3 => ?_) (fun j h1 h2 => by omega) (fun j h1 h2 _ h4 h5 => ?_), notin hr2 rfl⟩
      · rcases h3 with ⟨_, h3⟩ | h3
        · exact hgt j h1 h2 h3
        · omega
      · rw [hdp] at h5
        exact hft j h1 h2 h4 h5
  · have b5 : bcOf at_ = 5 := bc_ge e0 e1 e2 e3 e4
    obtain ⟨o1, o2, o3, o4, o5⟩ := oth_spec ⟨6, t, m.ths.length, at_, j0, y⟩ rfl rfl T16 hlt (k := j0) (by omega)
    rw [show (at_ == 0) = false by simpa using e0, show (at_ == 1) = false by simpa using e1, show (at_ == 2) = false by simpa using e2, show (at_ == 3) = false by simpa using e3, show (at_ == 4) = false by simpa using e4, cond_false, cond_false, cond_false, cond_false, cond_false] at hr'
    rw [iw_id (x := 2 * (j0 : Int)) (by omega), iw_id (x := 2 + 2 * (j0 : Int)) (by omega)] at hr'
    have hv : (d.load (2 + 2 * j0)).1 = m.bn j0 := by rw [ld_v V.du (by omega), V.dw, show ((2 : Int) + 2 * j0).toNat = 2 + 2 * j0 by omega]
    have hvr : 0 ≤ m.bn j0 ∧ m.bn j0 ≤ m.moves := by
      have h8 := hB0.r
      by_cases e : m.bp j0 = 0
      · have := (hB0.n0 e).1; omega
      · by_cases e2 : m.bp j0 = 1 ∨ m.bp j0 = 2
        · have := (hB0.n1 e2).1; omega
        · have := hB0.n3 (by omega); omega
    rw [hv] at hr'
    clear hv
    rw [iw_id (x := m.bn j0) (by omega)] at hr'
    generalize Lk.oth ⟨6, t, m.ths.length, at_, j0, y⟩ j0 = o at hr' o1 o2 o3 o4 o5
    have hdp : (d.load (2 + 2 * (j0 : Int))).2.pt = m.lpt t := (load_pt _ _).trans V.dp
    have hdw : (d.load (2 + 2 * (j0 : Int))).2.words = m.words := by rw [ld_w, V.dw]
    cases hb : (m.bn j0 != 0 && (decide (m.bn j0 < y) || m.bn j0 == y && decide ((j0 : Int) < t))) with
    | true =>
      rw [hb, cond_true] at hr'
      have hW : m'.words = m.words := by rw [V.w, hr']; exact hdw
      have hbn : m'.bn t = m.bn t := by show wd m'.words _ = wd m.words _; rw [hW]
      have hbc : m'.bc t = m.bc t := by show wd m'.words _ = wd m.words _; rw [hW]
      have hoth : ∀ s, s < m.ths.length → s ≠ t → m'.bn s = m.bn s ∧ m'.bc s = m.bc s := fun s _ _ => ⟨by show wd m'.words _ = wd m.words _; rw [hW], by show wd m'.words _ = wd m.words _; rw [hW]⟩
      refine ⟨fin _ _ _ hr' (by rw [hW]) hoth 5 b5 ⟨by decide, (fun h => by omega), (fun h => by omega), fun _ => ⟨x0, x1, x2⟩, fun _ => ⟨by rw [hbn]; exact n1, n2, by show y ≤ m.moves + 1; omega⟩, (fun h => by omega), fun _ => by rw [hbc]; exact n4⟩ (fun i h1 h2 _ h => by rw [b5] at h; exact h) (fun i _ _ _ _ => Or.inr (by decide)) (fun i h1 h2 _ _ _ _ h => by rw [b5] at h; exact h (by decide)) (fun j h1 h2 h3 => ?_) (fun j h1 _ h2 => ?_) (fun j h1 h2 _ h4 h5 => ?_), notin hr' rfl⟩
      · rcases h3 with ⟨_, h3⟩ | h3
        · exact hgt j h1 h2 h3
        · omega
      · have h9 := B.g5 t j hlt h1 (by rw [hpt]; exact b5) (by rw [hfx]; exact h2)
        rw [hfy] at h9
        exact h9
      · rw [hdp] at h5
        exact hft j h1 h2 h4 h5
    | false =>
      rw [hb, cond_false] at hr'
      have hb2 : m.bn j0 = 0 ∨ (¬ m.bn j0 < y ∧ ¬ (m.bn j0 = y ∧ (j0 : Int) < t)) := by
        by_cases g1 : m.bn j0 = 0
        · exact Or.inl g1
        · refine Or.inr ?_
          rw [show (m.bn j0 != 0) = true by simpa using g1, Bool.true_and, Bool.or_eq_false_iff] at hb
          obtain ⟨g2, g3⟩ := hb
          refine ⟨of_decide_eq_false g2, fun ⟨g4, g5⟩ => ?_⟩
          rw [show (m.bn j0 == y) = true by simpa using g4, show decide ((j0 : Int) < t) = true by simpa using g5] at g3
          cases g3
      have hW : m'.words = m.words := by rw [V.w, hr']; exact hdw
      have hbn : m'.bn t = m.bn t := by show wd m'.words _ = wd m.words _; rw [hW]
      have hbc : m'.bc t = m.bc t := by show wd m'.words _ = wd m.words _; rw [hW]
      have hoth : ∀ s, s < m.ths.length → s ≠ t → m'.bn s = m.bn s ∧ m'.bc s = m.bc s := fun s _ _ => ⟨by show wd m'.words _ = wd m.words _; rw [hW], by show wd m'.words _ = wd m.words _; rw [hW]⟩
      have hpass : ∀ j : Nat, j < m.ths.length → j ≠ t → (j : Int) < o → Gg (m.bp j) (m.fx j) (m.fy j) t j y := fun j h1 h2 h3 => by
        by_cases g1 : j < j0
        · exact hgt j h1 h2 (by omega)
        · by_cases g2 : j = j0
          · subst g2
            have h9 := B.g5 t j hlt h1 (by rw [hpt]; exact b5) (by rw [hfx])
            rw [hfy] at h9
            rcases h9 with h9 | h9
            · exact Or.inl h9
            · have h8 := hB0.n3 h9
              exact Or.inr ⟨h9, by omega⟩
          · exact absurd (o3 j (by omega) h3) h2
      -- one that began behind i's point does not go by i
      have hback : ∀ i : Nat, i < m.ths.length → i ≠ t → m.bn i = m.fy i → 1 ≤ m.fy i → Fq 5 j0 y i (m.fy i) → m.fy i < y ∧ o ≤ i := fun i h1 h2 h3 h4 h5 => by
        have h6 : m.fy i < y ∧ (j0 : Int) ≤ i := by unfold Fq Dr at h5; omega
        refine ⟨h6.1, ?_⟩
        by_cases g1 : i = j0
        · subst g1
          omega
        · by_cases g2 : (i : Int) < o
          · exact absurd (o3 i (by omega) g2) h2
          · omega
      cases hc : (o == (m.ths.length : Int)) with
      | true =>
        have ho9 : o = m.ths.length := by simpa using hc
        rw [hc] at hr'
        refine ⟨fin _ _ _ hr' (by rw [hW]) hoth 6 rfl ⟨by decide, (fun h => by omega), (fun h => by omega), (fun h => by omega), fun _ => ⟨by rw [hbn]; exact n1, n2, by show y ≤ m.moves + 1; omega⟩, (fun h => by omega), fun _ => by rw [hbc]; exact n4⟩ (fun i h1 h2 _ h => ?_) (fun i _ _ _ _ => Or.inr (by decide)) (fun i _ _ _ _ h => by omega) (fun j h1 h2 _ => hpass j h1 h2 (by omega)) (fun j h1 h2 => by omega) (fun j h1 h2 h3 => by omega), ev6_of V.oth fun _ _ s hs hw => ?_⟩
        · rw [b5] at h
          unfold Gg Dr at h ⊢
          dsimp only
          omega
        · obtain ⟨h1, h2⟩ := wt6 G hk hw
          rw [hlb]
          by_cases g1 : m.lbeg t ≤ m.lpt s
          · exact g1
          · have h3 := (B.s s h1).n3 (by omega)
            have h4 := B.f s t h1 hlt hs h2 (by omega) (by omega)
            rw [hpt, b5, hfx, hfy] at h4
            have := (hback s h1 hs h3.1 h3.2.1 h4).2
            omega
      | false =>
        have ho9 : o ≠ m.ths.length := by simpa using hc
        have ho8 := o4 (by omega)
        rw [hc] at hr'
        refine ⟨fin _ _ _ hr' (by rw [hW]) hoth 4 rfl ⟨by decide, (fun h => by omega), (fun h => by omega), fun _ => ⟨by show 0 ≤ o; omega, by show o < _; omega, ho8⟩, fun _ => ⟨by rw [hbn]; exact n1, n2, by show y ≤ m.moves + 1; omega⟩, (fun h => by omega), fun _ => by rw [hbc]; exact n4⟩ (fun i h1 h2 _ h => ?_) (fun i _ _ _ _ => Or.inr (by decide)) (fun i h1 h2 h3 h4 _ _ h => ?_) (fun j h1 h2 h3 => ?_) (fun j h1 h2 => by omega) (fun j h1 h2 _ h4 h5 => ?_), notin hr' rfl⟩
        · rw [b5] at h
          unfold Gg Dr at h ⊢
          dsimp only
          omega
        · rw [b5] at h
          exact Or.inr (Or.inr ⟨Or.inl rfl, hback i h1 h2 h3 h4 (h (by decide))⟩)
        · rcases h3 with ⟨_, h3⟩ | h3
          · exact hpass j h1 h2 h3
          · omega
        · rw [hdp] at h5
          exact hft j h1 h2 h4 h5
theorem i6_rel {m m' : Mc} {t : Nat} {d : Dk} {l : Lk} {r : Bool × Lk × Dk} (V : RelV m m' t d l r) (hk : m.kd = 6) (I : I6 m) : I6 m' ∧ Ev6 m m' := by
  obtain ⟨T16, hwl, hm0, B⟩ := I
  have hr := V.req
  have hkd := V.kd
  rw [hk] at hkd
  have hme := V.me
  have hlt := V.lt
  obtain ⟨kd, me, all, at_, x, y⟩ := l
  dsimp only at hkd hme
  subst hkd hme
  have hr2 : r = (true, ⟨6, t, all, at_, x, y⟩, d.store (iw (2 + iw (2 * t))) 0) := hr
  rw [iw_id (x := 2 * (t : Int)) (by omega), iw_id (x := 2 + 2 * (t : Int)) (by omega)] at hr2
  have hW : m'.words = m.words.set (2 + 2 * t) 0 := by rw [V.w, hr2]; show (d.store (2 + 2 * t) 0).words = _; rw [sto_w V.du (by omega), V.dw, show ((2 : Int) + 2 * t).toNat = 2 + 2 * t by omega]
  have ha : (m'.tt t).alone = false := by rw [V.al, hr2]; rfl
  have hp0 : m.bp t = 6 := by show (m.tt t).bp = 6; unfold Th.bp; rw [V.al0]; rfl
  have hp' : m'.bp t = 0 := by show (m'.tt t).bp = 0; unfold Th.bp; rw [ha, V.pl]; rfl
  have hS := B.s t hlt
  have hbc : m'.bc t = m.bc t := by show wd m'.words _ = wd m.words _; rw [hW, wd_ne (by omega)]
  refine ⟨⟨by rw [V.tl]; exact T16, by rw [hW, List.length_set, V.tl]; exact hwl, by rw [V.mv]; omega, ?_⟩, ev6_of V.oth fun h => by rw [ha] at h; cases h⟩
  rw [V.tl, V.mv]
  refine B.upd hlt (by omega) (fun s hs => ?_) (fun s h1 h2 => ⟨?_, ?_⟩) (fun s _ hs h => V.oth.pt s hs (bp_acq h).1) ?_ (fun i _ _ _ _ => Or.inl (Or.inl hp')) (fun i _ _ _ _ => Or.inl (Or.inl hp')) (fun i _ _ _ _ h => by omega) (fun j _ _ h => by omega) (fun j _ h => by omega) (fun j _ _ h => by omega)
  · dsimp only [Mc.bp, Mc.fx, Mc.fy]
    rw [V.oth.tt s hs]
    exact ⟨rfl, rfl, rfl⟩
  · show wd m'.words _ = wd m.words _
    rw [hW, wd_ne (by omega)]
  · show wd m'.words _ = wd m.words _
    rw [hW, wd_ne (by omega)]
  · rw [hp']
    exact ⟨by decide, fun _ => ⟨by show wd m'.words _ = 0; rw [hW, wd_self (by omega)], by rw [hbc]; exact hS.c4 (by omega)⟩, (fun h => by omega), (fun h => by omega), (fun h => by omega), (fun h => by omega), (fun h => by omega)⟩
theorem i6_move {m : Mc} (G : Gd m) (hk : m.kd = 6) (hT : 1 ≤ m.ths.length) (I : I6 m) (v : Mo) : I6 (m.move v).2 ∧ Ev6 m (m.move v).2 := by
  by_cases hm : m.moves < 65536
  · have hV := mv_view G (by rw [hk]; decide) (by have := I.2.1; omega) v
    generalize (m.move v).2 = m' at hV ⊢
    cases hV with
    | stl t S => exact ⟨i6_stl S I, fun s h1 h2 => by rw [S.als s, h2] at h1; cases h1⟩
    | acq t d l r V => exact i6_acq V G hk hm I
    | rel t d l r V => exact i6_rel V hk I
    | shr t V => have := V.kd; omega
  · rw [mv_full (by omega)]
    exact ⟨I, fun t h1 h2 => by rw [h1] at h2; cases h2⟩
theorem i6_0 (T : Int) (hT : 1 ≤ T ∧ T ≤ 16) : I6 (mc0 6 T) := by
  have e : (mc0 6 T).words = List.replicate (1 + 2 * T.toNat) 0 := rfl
  have hl : (mc0 6 T).ths.length = T.toNat := by show ((List.range T.toNat).map _).length = _; simp
  have hp : ∀ s, (mc0 6 T).bp s = 0 := fun s => by
    show ((mc0 6 T).tt s).bp = 0
    unfold Th.bp
    rw [(tt0 6 T s).1, pl_none (tt0 6 T s).2.2.1]
    rfl
  refine ⟨by rw [hl]; omega, by rw [e, hl]; simp, Int.le_refl _, ?_⟩
  refine ⟨fun s hs => ?_, fun i j _ _ _ h => ?_, fun i j _ _ h => ?_, fun i j _ _ _ h => ?_⟩
  · rw [hp]
    exact ⟨by decide, fun _ => ⟨by show wd _ _ = 0; rw [e, wd_rep], by show wd _ _ = 0; rw [e, wd_rep]⟩, (fun h => by omega), (fun h => by omega), (fun h => by omega), (fun h => by omega), (fun h => by omega)⟩
  · rw [hp] at h; omega
  · rw [hp] at h; omega
  · rw [hp] at h; omega
end Go.Proofs.Ytjnmlgfkiebkgaa
namespace Go.Proofs.Ytjnmlgfkiebkgaa
open Go.RowKit
set_option linter.unusedVariables false
set_option linter.unusedSimpArgs false

/-- whatever the kind -/
structure Sx (m : Mc) : Prop where
  g : Gd m
  t1 : 1 ≤ m.ths.length
  t16 : m.ths.length ≤ 16
  ik : ((m.kd = 1 ∨ m.kd = 7) ∧ I1 m) ∨ (m.kd = 2 ∧ I2 m) ∨ (m.kd = 3 ∧ I3 m) ∨ (m.kd = 4 ∧ I4 m) ∨ (m.kd = 5 ∧ I5 m) ∨ (m.kd = 6 ∧ I6 m)
  one : m.kd = 5 → m.ths.length = 1 → ∀ s, (m.tt s).task = some .acq → (m.tt s).ready = false
theorem Sx.exc {m : Mc} (S : Sx m) : Exc m := by
  rcases S.ik with ⟨_, I⟩ | ⟨hk, Q, q, _⟩ | ⟨hk, Q, f, q, _⟩ | ⟨hk, Q, q, _⟩ | ⟨hk, I⟩ | ⟨hk, I⟩
  · exact exc_1 I
  · exact exc_qs S.g (by omega) q
  · exact exc_qs S.g (by omega) q
  · exact exc_qs S.g (by omega) q
  · exact exc_5 S.g hk I
  · exact exc_6 S.g hk I
theorem st_move {m : Mc} (S : Sx m) (v : Mo) : Sx (m.move v).2 := by
  have hb := move_bnd m v
  have hkd := kd_move m v
  refine ⟨gd_move S.g v, by rw [hb.2.2.2]; exact S.t1, by rw [hb.2.2.2]; exact S.t16, ?_, ?_⟩
  · rw [hkd]
    rcases S.ik with ⟨hk, I⟩ | ⟨hk, I⟩ | ⟨hk, I⟩ | ⟨hk, I⟩ | ⟨hk, I⟩ | ⟨hk, I⟩
    · exact Or.inl ⟨hk, i1_move S.g hk I v⟩
    · exact Or.inr (Or.inl ⟨hk, (i2_move S.g hk I v).1⟩)
    · exact Or.inr (Or.inr (Or.inl ⟨hk, (i3_move S.g hk I v).1⟩))
    · exact Or.inr (Or.inr (Or.inr (Or.inl ⟨hk, (i4_move S.g hk S.t1 I v).1⟩)))
    · refine Or.inr (Or.inr (Or.inr (Or.inr (Or.inl ⟨hk, ?_⟩))))
      by_cases hT : 2 ≤ m.ths.length
      · exact i5_move S.g hk S.t1 I v hT
      · exact ⟨by rw [hb.2.2.2]; exact S.t16, by rw [hb.1, hb.2.2.2]; exact I.2.1, fun h => by rw [hb.2.2.2] at h; omega⟩
    · exact Or.inr (Or.inr (Or.inr (Or.inr (Or.inr ⟨hk, (i6_move S.g hk S.t1 I v).1⟩))))
  · rw [hkd, hb.2.2.2]
    intro h5 hT s
    have hmk := move_kind m v
    generalize (m.move v).2 = m' at hmk ⊢
    cases hmk with
    | full h => exact S.one h5 hT s
    | tick => exact S.one h5 hT s
    | begun t h p w ht hh hn hm =>
      by_cases e : s = t
      · subst e
        rw [tt_begun_self hh]
        exact fun _ => rfl
      · rw [tt_begun_ne e]
        exact S.one h5 hT s
    | step t h p hh hp =>
      by_cases e : s = t
      · subst e
        rw [tt_step_self hh]
        dsimp only
        intro he
        exfalso
        have hop := s2_op m s h p
        cases hov : (m.s2 s h p).over with
        | true => rw [hov] at he; cases he
        | false =>
          rw [hov] at he
          injection he with he
          rw [he] at hop
          cases p with
          | acq =>
            have hr : h.ready = false := by
              have := S.one h5 hT s
              rw [tt_of hh] at this
              exact this hp
            obtain ⟨g1, g2, g3⟩ := S.g.kd s h hh
            have hov2 : (m.s2 s h .acq).over = true := by
              have hb : ∀ d, h.lk.beg d = (true, { h.lk with at_ := 0, x := 1 }, d.point) := fun d => by
                unfold Lk.beg
                rw [show (h.lk.kd == 5) = true by simp [g1, h5], show decide (1 < h.lk.all) = false by simp [g3]; omega]
                rfl
              unfold Mc.s2
              rw [hr]
              dsimp only [cond_false, Ts.ready]
              rw [hb]
              rfl
            rw [hov2] at hov
            cases hov
          | rel => exact absurd hop (by show ¬ (120 : Int) = 121; decide)
          | shr b w k =>
            have hop' : (120 : Int) = bif decide (b < 0) then 123 else 122 := hop
            cases hb : decide (b < 0) <;> rw [hb] at hop' <;> exact absurd hop' (by decide)
          | tch c k => exact absurd hop (by show ¬ (120 : Int) = 124; decide)
      · rw [tt_step_ne e]
        exact S.one h5 hT s
theorem st0 {k T : Int} (hk : 1 ≤ k ∧ k ≤ 7) (hT : 1 ≤ T ∧ T ≤ 16) : Sx (mc0 k T) := by
  have hl : (mc0 k T).ths.length = T.toNat := by show ((List.range T.toNat).map _).length = _; simp
  refine ⟨gd0 k T (by omega), by rw [hl]; omega, by rw [hl]; omega, ?_, fun _ _ s h => by rw [(tt0 k T s).2.2.1] at h; cases h⟩
  obtain rfl | rfl | rfl | rfl | rfl | rfl | rfl : k = 1 ∨ k = 2 ∨ k = 3 ∨ k = 4 ∨ k = 5 ∨ k = 6 ∨ k = 7 := by omega
  · exact Or.inl ⟨Or.inl rfl, i1_0 1 T (Or.inl rfl) hT⟩
  · exact Or.inr (Or.inl ⟨rfl, i2_0 T⟩)
  · exact Or.inr (Or.inr (Or.inl ⟨rfl, i3_0 T hT⟩))
  · exact Or.inr (Or.inr (Or.inr (Or.inl ⟨rfl, i4_0 T hT⟩)))
  · exact Or.inr (Or.inr (Or.inr (Or.inr (Or.inl ⟨rfl, i5_0 T hT⟩))))
  · exact Or.inr (Or.inr (Or.inr (Or.inr (Or.inr ⟨rfl, i6_0 T hT⟩))))
  · exact Or.inl ⟨Or.inr rfl, i1_0 7 T (Or.inr rfl) hT⟩
theorem st_moves (l : List Mo) {m : Mc} (S : Sx m) : Sx (m.moves_ l) := by
  induction l generalizing m with
  | nil => exact S
  | cons v l ih => exact ih (st_move S v)

/-- word 0 stays -/
abbrev Z0 (d : Dk) (r : Bool × Lk × Dk) : Prop := wd r.2.2.words 0 = wd d.words 0
theorem z_ld (d : Dk) (a : Int) : wd (d.load a).2.words 0 = wd d.words 0 := by rw [ld_w]
theorem z_st {d : Dk} {a w : Int} (h : a ≠ 0) : wd (d.store a w).words 0 = wd d.words 0 := by
  unfold Dk.store
  cases ho : d.opn a with
  | false => rfl
  | true =>
    unfold Dk.opn at ho
    simp only [Bool.and_eq_true, decide_eq_true_eq] at ho
    exact wd_ne (by omega)
theorem z_sw (d : Dk) (o w : Int) : wd (d.swap 1 o w).2.words 0 = wd d.words 0 := by
  unfold Dk.swap
  cases d.opn 1
  · rfl
  · cases d.word 1 == o
    · rfl
    · exact wd_ne (by decide)
theorem z_up {l : Lk} {d d' : Dk} (h : wd d'.words 0 = wd d.words 0) : Z0 d (l.up d') := q_if (P := Z0 d) h h
theorem z_acq {l : Lk} {d : Dk} (h3 : l.kd = 3 → 0 ≤ l.x ∧ l.x ≤ 100) (h4 : l.kd = 4 → 0 ≤ l.me ∧ l.me ≤ 100 ∧ (l.at_ = 4 → 1 ≤ l.y ∧ l.y ≤ 100)) (h5 : l.kd = 5 → 0 ≤ l.me ∧ l.me ≤ 100 ∧ 0 ≤ l.all ∧ l.all ≤ 100 ∧ 1 ≤ l.x ∧ l.x ≤ 100) (h6 : l.kd = 6 → 0 ≤ l.me ∧ l.me ≤ 100) : Z0 d (l.acq d) := by
  obtain ⟨kd, me, all, at_, x, y⟩ := l
  dsimp only at h3 h4 h5 h6
  unfold Lk.acq
  dsimp only
  cases k2 : kd == 2 with
  | true =>
    rw [cond_true]
    unfold Lk.tickA
    exact q_if (P := Z0 d) (z_ld _ _) (q_if (P := Z0 d) (q_if (P := Z0 d) (z_sw _ _ _) (z_sw _ _ _)) (z_ld _ _))
  | false =>
  cases k3 : kd == 3 with
  | true =>
    have h := h3 (by simpa using k3)
    rw [cond_false, cond_true]
    unfold Lk.queueA
    refine q_if (P := Z0 d) (z_st ?_) (q_if (P := Z0 d) (z_ld _ _) (q_if (P := Z0 d) (q_if (P := Z0 d) (z_sw _ _ _) (z_sw _ _ _)) (z_ld _ _)))
    dsimp only
    rw [iw_id (by omega)]
    omega
  | false =>
  cases k4 : kd == 4 with
  | true =>
    obtain ⟨g1, g2, g3⟩ := h4 (by simpa using k4)
    unfold Lk.nodeA
    dsimp only
    rw [nword_id (t := me) (by omega), cond_false, cond_false, cond_true]
    refine q_if (P := Z0 d) (z_st (by omega)) (q_if (P := Z0 d) (z_ld _ _) (q_if (P := Z0 d) (q_if (P := Z0 d) (q_if (P := Z0 d) (z_sw _ _ _) (z_sw _ _ _)) (z_sw _ _ _)) (q_if (P := Z0 d) (z_st ?_) ?_)))
    · rw [iw_id (by omega)]; omega
    · cases e4 : at_ == 4 with
      | true =>
        have h := g3 (by simpa using e4)
        rw [cond_true]
        refine z_st ?_
        rw [iw_id (x := y) (by omega), iw_id (x := y - 1) (by omega), nword_id (by omega)]
        omega
      | false =>
        rw [cond_false]
        exact q_if (P := Z0 d) (z_ld _ _) (z_ld _ _)
  | false =>
  cases k5 : kd == 5 with
  | true =>
    obtain ⟨g1, g2, g3, g4, g5, g6⟩ := h5 (by simpa using k5)
    unfold Lk.filtA
    dsimp only
    rw [cond_false, cond_false, cond_false, cond_true]
    refine q_if (P := Z0 d) (z_st ?_) (q_if (P := Z0 d) (z_st ?_) (q_if (P := Z0 d) (q_if (P := Z0 d) (z_ld _ _) (q_if (P := Z0 d) (z_up (z_ld _ _)) (z_ld _ _))) (q_if (P := Z0 d) (z_ld _ _) (z_up (z_ld _ _)))))
    · rw [iw_id (by omega)]; omega
    · rw [iw_id (by omega)]; omega
  | false =>
  cases k6 : kd == 6 with
  | true =>
    have h := h6 (by simpa using k6)
    unfold Lk.bakeA
    dsimp only
    rw [cond_false, cond_false, cond_false, cond_false, cond_true, iw_id (x := 2 * me) (by omega)]
    refine q_if (P := Z0 d) (z_st ?_) (q_if (P := Z0 d) (z_ld _ _) (q_if (P := Z0 d) (z_st ?_) (q_if (P := Z0 d) (z_st ?_) (q_if (P := Z0 d) (z_ld _ _) (q_if (P := Z0 d) (z_ld _ _) (z_ld _ _))))))
    · rw [iw_id (by omega)]; omega
    · rw [iw_id (by omega)]; omega
    · rw [iw_id (by omega)]; omega
  | false =>
    rw [cond_false, cond_false, cond_false, cond_false, cond_false]
    unfold Lk.flagA
    exact q_if (P := Z0 d) (z_sw _ _ _) (z_sw _ _ _)
theorem z_rel {l : Lk} {d : Dk} (h3 : l.kd = 3 → 0 ≤ l.x ∧ l.x ≤ 100) (h4 : l.kd = 4 → 0 ≤ l.me ∧ l.me ≤ 100 ∧ ((l.at_ = 0 ∨ l.at_ = 1 ∨ l.at_ = 2) ∨ (1 ≤ l.x ∧ l.x ≤ 100))) (h5 : l.kd = 5 ∨ l.kd = 6 → 0 ≤ l.me ∧ l.me ≤ 100) : Z0 d (l.rel d) := by
  obtain ⟨kd, me, all, at_, x, y⟩ := l
  dsimp only at h3 h4 h5
  unfold Lk.rel
  dsimp only
  cases k2 : kd == 2 with
  | true =>
    rw [cond_true]
    exact z_st (by decide)
  | false =>
  cases k3 : kd == 3 with
  | true =>
    have h := h3 (by simpa using k3)
    rw [cond_false, cond_true]
    refine z_st ?_
    rw [iw_id (by omega)]
    omega
  | false =>
  cases k4 : kd == 4 with
  | true =>
    obtain ⟨g1, g2, g3⟩ := h4 (by simpa using k4)
    unfold Lk.nodeR
    dsimp only
    rw [cond_false, cond_false, cond_true]
    cases e02 : (at_ == 0 || at_ == 2) with
    | true =>
      rw [cond_true]
      exact z_ld _ _
    | false =>
      rw [cond_false]
      cases e1 : at_ == 1 with
      | true =>
        rw [cond_true]
        exact q_if (P := Z0 d) (z_sw _ _ _) (z_sw _ _ _)
      | false =>
        rw [cond_false]
        have hx : 1 ≤ x ∧ x ≤ 100 := by
          rcases g3 with g3 | g3
          · simp at e02 e1
            omega
          · exact g3
        refine z_st ?_
        rw [iw_id (x := x) (by omega), iw_id (x := x - 1) (by omega), nword_id (by omega), iw_id (by omega)]
        omega
  | false =>
  cases k5 : kd == 5 with
  | true =>
    have h := h5 (Or.inl (by simpa using k5))
    rw [cond_false, cond_false, cond_false, cond_true]
    refine z_st ?_
    rw [iw_id (by omega)]
    omega
  | false =>
  cases k6 : kd == 6 with
  | true =>
    have h := h5 (Or.inr (by simpa using k6))
    rw [cond_false, cond_false, cond_false, cond_false, cond_true]
    refine z_st ?_
    rw [iw_id (x := 2 * me) (by omega), iw_id (by omega)]
    omega
  | false =>
    rw [cond_false, cond_false, cond_false, cond_false, cond_false]
    exact z_st (by decide)
theorem st_z_acq {m : Mc} (S : Sx m) {t : Nat} {h : Th} (hh : m.ths[t]? = some h) (hp : h.task = some .acq) : wd (m.step t h .acq).words 0 = wd m.words 0 := by
  obtain ⟨g1, g2, g3⟩ := S.g.kd t h hh
  have hlt := (List.getElem?_eq_some_iff.1 hh).1
  have T16 := S.t16
  have htt := tt_of hh
  rw [step_w]
  by_cases k5 : m.kd = 5
  · by_cases hT : 2 ≤ m.ths.length
    · rw [filt_step S.g k5 hh hp hT]
      have hI : I5 m := by
        rcases S.ik with ⟨h, _⟩ | ⟨h, _⟩ | ⟨h, _⟩ | ⟨h, _⟩ | ⟨_, I⟩ | ⟨h, _⟩
        · omega
        · omega
        · omega
        · omega
        · exact I
        · omega
      have hal := ((S.g.wf t).acq (by rw [htt]; exact hp)).1
      have hq : 0 ≤ (m.tt t).q ∧ (m.tt t).q ≤ m.ths.length - 2 := by
        have h9 : 0 ≤ (m.tt t).q ∧ 0 ≤ (m.tt t).ac ∧ (((m.tt t).alone = false ∧ (m.tt t).q ≤ m.ths.length - 2) ∨ ((m.tt t).alone = true ∧ (m.tt t).q = m.ths.length - 1 ∧ (m.tt t).ac = 0)) := (hI.2.2 hT).rq t hlt
        rw [hal] at h9
        simp at h9
        omega
      rw [htt] at hq
      have ha : Lk.acq { h.lk with at_ := h.pl, x := h.q + 1 } (m.dk t h) = Lk.filtA { h.lk with at_ := h.pl, x := h.q + 1 } (m.dk t h) := by
        unfold Lk.acq
        dsimp only
        rw [g1, k5]
        rfl
      have hz := z_acq (l := { h.lk with at_ := h.pl, x := h.q + 1 }) (d := m.dk t h) (fun e => by dsimp only at e; omega) (fun e => by dsimp only at e; omega) (fun _ => by dsimp only; omega) (fun e => by dsimp only at e; omega)
      rw [ha] at hz
      exact hz
    · have hr : h.ready = false := by
        have := S.one k5 (by have := S.t1; omega) t
        rw [htt] at this
        exact this hp
      have hb : ∀ d, h.lk.beg d = (true, { h.lk with at_ := 0, x := 1 }, d.point) := fun d => by
        unfold Lk.beg
        rw [show (h.lk.kd == 5) = true by simp [g1, k5], show decide (1 < h.lk.all) = false by simp [g3]; omega]
        rfl
      unfold Mc.s2
      rw [hr]
      dsimp only [cond_false, Ts.ready]
      rw [hb]
      rfl
  · rw [s2_acq5 m t h (by rw [g1]; exact k5), lk0_pl hp]
    refine z_acq (l := { h.lk with at_ := h.pl }) (d := m.dk t h) (fun e => ?_) (fun e => ?_) (fun e => by dsimp only at e; omega) (fun e => by dsimp only; omega)
    · dsimp only at e ⊢
      rcases S.ik with ⟨h9, _⟩ | ⟨h9, _⟩ | ⟨_, Q, f, q, c, j⟩ | ⟨h9, _⟩ | ⟨h9, _⟩ | ⟨h9, _⟩
      · omega
      · omega
      · have := j.rng t hlt
        rw [htt] at this
        omega
      · omega
      · omega
      · omega
    · dsimp only at e ⊢
      refine ⟨by omega, by omega, fun e4 => ?_⟩
      rcases S.ik with ⟨h9, _⟩ | ⟨h9, _⟩ | ⟨h9, _⟩ | ⟨_, Q, q, L, j⟩ | ⟨h9, _⟩ | ⟨h9, _⟩
      · omega
      · omega
      · omega
      · have hal := ((S.g.wf t).acq (by rw [htt]; exact hp)).1
        have hpl : (m.tt t).pl = 4 := by rw [htt]; exact e4
        have hwt : (m.tt t).wt = true := by
          unfold Th.wt
          rw [htt, e4]
          have key : ∀ l : Lk, l.kd = 4 → (aft { l with at_ := 4 }).isSome = true := fun l hl => by
            obtain ⟨kd, me, all, at_, x, y⟩ := l
            dsimp only at hl
            subst hl
            exact aft4 (by decide) (by decide) (by decide)
          exact key h.lk e
        have hm' := mem_wt q hwt
        cases Q with
        | nil => cases hm'
        | cons a R =>
          have htR : t ∈ R := by
            rcases List.mem_cons.1 hm' with e9 | h9
            · subst e9
              rcases L.1 with ⟨g4, _⟩ | ⟨g4, _⟩
              · have g4' : (m.tt t).alone = true := g4
                rw [hal] at g4'
                cases g4'
              · have g4' : (m.tt t).pl = 5 := g4
                omega
            · exact h9
          obtain ⟨b, b1, b2⟩ := L.2.pred htR (by show (m.tt t).pl ≠ 5; omega)
          have b2' : (m.tt t).lk.y = b + 1 := b2
          have := q.lt b1
          rw [htt] at b2'
          omega
      · omega
      · omega
theorem st_z_rel {m : Mc} (S : Sx m) {t : Nat} {h : Th} (hh : m.ths[t]? = some h) (hp : h.task = some .rel) : wd (m.step t h .rel).words 0 = wd m.words 0 := by
  obtain ⟨g1, g2, g3⟩ := S.g.kd t h hh
  have hlt := (List.getElem?_eq_some_iff.1 hh).1
  have T16 := S.t16
  have htt := tt_of hh
  rw [step_w, s2_rel]
  refine z_rel (l := h.lk) (d := m.dk t h) (fun e => ?_) (fun e => ?_) (fun e => by omega)
  · rcases S.ik with ⟨h9, _⟩ | ⟨h9, _⟩ | ⟨_, Q, f, q, c, j⟩ | ⟨h9, _⟩ | ⟨h9, _⟩ | ⟨h9, _⟩
    · omega
    · omega
    · have := j.rng t hlt
      rw [htt] at this
      omega
    · omega
    · omega
    · omega
  · refine ⟨by omega, by omega, ?_⟩
    rcases S.ik with ⟨h9, _⟩ | ⟨h9, _⟩ | ⟨h9, _⟩ | ⟨_, Q, q, L, j⟩ | ⟨h9, _⟩ | ⟨h9, _⟩
    · omega
    · omega
    · omega
    · have hal := (S.g.wf t).rel (by rw [htt]; exact hp)
      obtain ⟨R, rfl⟩ := hd_cons q hal
      rcases L.1 with ⟨_, g4⟩ | ⟨g4, _⟩
      · rcases g4 with g4 | ⟨b, R', rfl, g5, _⟩
        · have g4' : (m.tt t).lk.at_ = 0 ∨ (m.tt t).lk.at_ = 1 ∨ (m.tt t).lk.at_ = 2 := g4
          rw [htt] at g4'
          exact Or.inl g4'
        · have g5' : (m.tt t).lk.x = b + 1 := g5
          have := q.lt (s := b) (by simp)
          rw [htt] at g5'
          exact Or.inr (by omega)
      · have g4' : (m.tt t).pl = 5 := g4
        rw [htt, pl_ne hp (by simp)] at g4'
        omega
    · omega
    · omega
/-- the touches: word 0 counts them, and who touches knows it -/
structure Tc (m : Mc) : Prop where
  w0 : 0 ≤ wd m.words 0 ∧ wd m.words 0 ≤ m.moves
  wl : 1 ≤ m.words.length
  kn : ∀ t c, (m.tt t).task = some (.tch c true) → c = wd m.words 0
theorem tc0 {k T : Int} (hk : 1 ≤ k ∧ k ≤ 7) (hT : 1 ≤ T ∧ T ≤ 16) : Tc (mc0 k T) := by
  have hw : wd (mc0 k T).words 0 = 0 ∧ 1 ≤ (mc0 k T).words.length := by
    show wd (lkWords k T) 0 = 0 ∧ 1 ≤ (lkWords k T).length
    obtain rfl | rfl | rfl | rfl | rfl | rfl | rfl : k = 1 ∨ k = 2 ∨ k = 3 ∨ k = 4 ∨ k = 5 ∨ k = 6 ∨ k = 7 := by omega
    · exact ⟨wd_rep _ _, by show 1 ≤ (List.replicate _ _).length; simp⟩
    · exact ⟨wd_rep _ _, by show 1 ≤ (List.replicate _ _).length; simp⟩
    · refine ⟨?_, by show 1 ≤ ((List.replicate _ _).set 1 T).length; simp <;> omega⟩
      show wd ((List.replicate (3 + T.toNat) (0 : Int)).set 1 T) 0 = 0
      rw [wd_ne (by decide), wd_rep]
    · exact ⟨wd_rep _ _, by show 1 ≤ (List.replicate _ _).length; simp <;> omega⟩
    · exact ⟨wd_rep _ _, by show 1 ≤ (List.replicate _ _).length; simp <;> omega⟩
    · exact ⟨wd_rep _ _, by show 1 ≤ (List.replicate _ _).length; simp <;> omega⟩
    · exact ⟨wd_rep _ _, by show 1 ≤ (List.replicate _ _).length; simp⟩
  exact ⟨by rw [hw.1]; exact ⟨Int.le_refl _, Int.le_refl _⟩, hw.2, fun t c h => by rw [(tt0 k T t).2.2.1] at h; cases h⟩
/-- a touch that ends -/
theorem tch_end {m : Mc} (C : Tc m) (hm : m.moves < 65536) {t : Nat} {h : Th} {c : Int} (hh : m.ths[t]? = some h) (hp : h.task = some (.tch c true)) :
    wd (m.step t h (.tch c true)).words 0 = wd m.words 0 + 1 ∧ (m.s2 t h (.tch c true)).d.av = wd m.words 0 := by
  have hc := C.kn t c (by rw [tt_of hh]; exact hp)
  have h0 := C.w0
  have hl := C.wl
  rw [step_w, s2_tch]
  refine ⟨?_, ?_⟩
  · show wd ((m.dk t h).store 0 (uw (c + 1))).words 0 = _
    rw [sto_w rfl (Int.le_refl 0)]
    show wd (m.words.set 0 _) 0 = _
    rw [wd_self (by omega), uw_id (by omega)]
    omega
  · show iw c = _
    rw [iw_id (by omega)]
    exact hc
theorem w0_step {m : Mc} (S : Sx m) {t : Nat} {h : Th} {p : Tp} (hh : m.ths[t]? = some h) (hp : h.task = some p) (hn : ∀ c, p ≠ .tch c true) : wd (m.step t h p).words 0 = wd m.words 0 := by
  cases p with
  | acq => exact st_z_acq S hh hp
  | rel => exact st_z_rel S hh hp
  | shr b w k =>
    rw [step_w, s2_shr]
    cases k
    · show wd ((m.dk t h).load 1).2.words 0 = _
      rw [ld_w]
      rfl
    · have hz := z_sw (m.dk t h) (uw w) (uw (iw (w + b)))
      show wd (cond _ _ _ : Ts).d.words 0 = wd (m.dk t h).words 0
      cases ((m.dk t h).swap 1 (uw w) (uw (iw (w + b)))).1
      · exact hz
      · show wd (cond (decide (0 < b)) _ _ : Dk).words 0 = _
        cases decide (0 < b)
        · exact hz
        · exact hz
  | tch c k =>
    cases k with
    | true => exact absurd rfl (hn c)
    | false =>
      rw [step_w, s2_tch]
      show wd ((m.dk t h).load 0).2.words 0 = _
      rw [ld_w]
      rfl
theorem tc_move {m : Mc} (S : Sx m) (C : Tc m) (v : Mo) : Tc (m.move v).2 := by
  by_cases hm : m.moves < 65536
  · have hb := (move_bnd m v).1
    have hmk := move_kind m v
    generalize (m.move v).2 = m' at hmk hb ⊢
    have hw0 := C.w0
    cases hmk with
    | full h => exact C
    | tick => exact ⟨⟨hw0.1, by show wd m.words 0 ≤ m.moves + 1; omega⟩, C.wl, C.kn⟩
    | begun t h p w ht hh hn hmm =>
      refine ⟨⟨hw0.1, by show wd m.words 0 ≤ m.moves + 1; omega⟩, C.wl, fun s c e => ?_⟩
      by_cases es : s = t
      · subst es
        rw [tt_begun_self hh] at e
        have e' : p = .tch c true := by
          have e0 : some p = some (Tp.tch c true) := e
          injection e0
        subst e'
        unfold Mc.make at hmm
        exfalso
        revert hmm
        cases w.op == 120 <;> cases w.op == 121 <;> cases w.op == 122 <;> cases w.op == 123 <;> cases w.op == 124 <;> cases (h.alone) <;> cases h.shares <;> cases m.kd != 7 <;> simp
      · rw [tt_begun_ne es] at e
        exact C.kn s c e
    | step t h p hh hp =>
      by_cases ht : ∃ c, p = .tch c true
      · obtain ⟨c, rfl⟩ := ht
        obtain ⟨h1, _⟩ := tch_end C hm hh hp
        refine ⟨by rw [h1, step_mv]; omega, by rw [hb]; exact C.wl, fun s c' e => ?_⟩
        exfalso
        by_cases es : s = t
        · subst es
          rw [tt_step_self hh, s2_tch] at e
          cases e
        · rw [tt_step_ne es] at e
          have a1 := (S.g.wf s).tch c' true e
          have a2 := (S.g.wf t).tch c true (by rw [tt_of hh]; exact hp)
          exact es (S.exc s t a1 (Or.inl a2))
      · have h1 := w0_step S hh hp (fun c e => ht ⟨c, e⟩)
        refine ⟨by rw [h1, step_mv]; omega, by rw [hb]; exact C.wl, fun s c' e => ?_⟩
        rw [h1]
        by_cases es : s = t
        · subst es
          rw [tt_step_self hh] at e
          have e' : (bif (m.s2 s h p).over then none else some (m.s2 s h p).task) = some (Tp.tch c' true) := e
          obtain ⟨e1, e2⟩ := bif_some e'
          injection e2 with e2
          have hop := s2_op m s h p
          rw [e2] at hop
          cases p with
          | acq => exact absurd hop (by show ¬ (124 : Int) = 120; decide)
          | rel => exact absurd hop (by show ¬ (124 : Int) = 121; decide)
          | shr b w k =>
            have hop' : (124 : Int) = bif decide (b < 0) then 123 else 122 := hop
            cases hb : decide (b < 0) <;> rw [hb] at hop' <;> exact absurd hop' (by decide)
          | tch c k =>
            cases k with
            | true => exact absurd ⟨c, rfl⟩ ht
            | false =>
              rw [s2_tch] at e2
              have e3 : Tp.tch ((m.dk s h).load 0).1 true = Tp.tch c' true := e2
              injection e3 with e3
              rw [← e3, ld_v rfl (Int.le_refl 0)]
              rfl
        · rw [tt_step_ne es] at e
          exact C.kn s c' e
  · rw [mv_full (by omega)]
    exact C
end Go.Proofs.Ytjnmlgfkiebkgaa
namespace Go.Proofs.Ytjnmlgfkiebkgaa
open Go.RowKit
set_option linter.unusedVariables false
set_option linter.unusedSimpArgs false

def isRel : Option Tp → Bool
  | some .rel => true
  | _ => false
def isShr : Option Tp → Bool
  | some (.shr _ _ _) => true
  | _ => false
/-- how a thread is inside: 1 alone, 2 it shares -/
def Th.ins (h : Th) : Int := bif h.alone && !isRel h.task then 1 else bif h.shares && !isShr h.task then 2 else 0
def insOf (m : Mc) : List Int := (List.range m.ths.length).map fun t => (m.tt t).ins
theorem insOf_len (m : Mc) : (insOf m).length = m.ths.length := by simp [insOf]
theorem insOf_get {m : Mc} {t : Nat} (h : t < m.ths.length) : (insOf m)[t]? = some (m.tt t).ins := by simp [insOf, h]
theorem insOf_set {m m' : Mc} {t : Nat} (hl : m'.ths.length = m.ths.length) (ht : t < m.ths.length) (h : ∀ s, s ≠ t → m'.tt s = m.tt s) : insOf m' = (insOf m).set t (m'.tt t).ins := by
  refine List.ext_getElem? fun i => ?_
  by_cases hi : i < m.ths.length
  · rw [insOf_get (by rw [hl]; exact hi)]
    by_cases e : t = i
    · subst e
      rw [List.getElem?_set_self (by rw [insOf_len]; exact hi)]
    · rw [List.getElem?_set_ne e, insOf_get hi, h i (fun e' => e e'.symm)]
  · rw [List.getElem?_eq_none (by rw [insOf_len, hl]; omega), List.getElem?_eq_none (by rw [List.length_set, insOf_len]; omega)]
theorem insOf_same {m m' : Mc} {t : Nat} (hl : m'.ths.length = m.ths.length) (ht : t < m.ths.length) (h : ∀ s, s ≠ t → m'.tt s = m.tt s) (he : (m'.tt t).ins = (m.tt t).ins) : insOf m' = insOf m := by
  rw [insOf_set hl ht h, he]
  refine List.ext_getElem? fun i => ?_
  by_cases e : t = i
  · subst e
    rw [List.getElem?_set_self (by rw [insOf_len]; exact ht), insOf_get ht]
  · rw [List.getElem?_set_ne e]
/-- one call, looked at in one move -/
def Ex1 (T mv : Int) (x : Cal) (i : List Int) (u : Int) (i' : List Int) (u' : Int) : Prop :=
  (0 ≤ x.th ∧ x.th < T) ∧
  ((x.beg = mv ∧ x.fin ≠ mv ∧ u' = u ∧ (((x.op = 121 ∨ x.op = 123) ∧ i' = i.set x.th.toNat 0) ∨ ((x.op ≠ 121 ∧ x.op ≠ 123) ∧ i' = i))) ∨
   (x.beg ≠ mv ∧ x.fin ≠ mv ∧ u' = u ∧ i' = i) ∨
   (x.beg ≠ mv ∧ x.fin = mv ∧ ((x.op = 120 ∧ u' = u ∧ i' = i.set x.th.toNat 1) ∨ (x.op = 122 ∧ u' = u ∧ i' = i.set x.th.toNat 2) ∨ (x.op = 124 ∧ i[x.th.toNat]? = some 1 ∧ x.av = u ∧ u' = u + 1 ∧ i' = i) ∨
      (x.op ≠ 120 ∧ x.op ≠ 122 ∧ x.op ≠ 124 ∧ u' = u ∧ i' = i))))
inductive ExL (T mv : Int) : List Cal → List Int → Int → List Int → Int → Prop
  | nil (i : List Int) (u : Int) : ExL T mv [] i u i u
  | cons {x : Cal} {l : List Cal} {i i1 i' : List Int} {u u1 u' : Int} : Ex1 T mv x i u i1 u1 → ExL T mv l i1 u1 i' u' → ExL T mv (x :: l) i u i' u'
def Qt (T mv : Int) (x : Cal) : Prop := (0 ≤ x.th ∧ x.th < T) ∧ x.beg ≠ mv ∧ x.fin ≠ mv
theorem exl_none {T mv : Int} {l : List Cal} {i : List Int} {u : Int} (h : ∀ x ∈ l, Qt T mv x) : ExL T mv l i u i u := by
  induction l with
  | nil => exact .nil _ _
  | cons x l ih =>
    obtain ⟨h1, h2, h3⟩ := h x (List.mem_cons_self ..)
    exact .cons ⟨h1, Or.inr (Or.inl ⟨h2, h3, rfl, rfl⟩)⟩ (ih fun y hy => h y (List.mem_cons_of_mem _ hy))
theorem exl_one {T mv : Int} {l : List Cal} {k : Nat} {x : Cal} {i i' : List Int} {u u' : Int} (hx : l[k]? = some x) (h : ∀ j y, j ≠ k → l[j]? = some y → Qt T mv y) (h1 : Ex1 T mv x i u i' u') : ExL T mv l i u i' u' := by
  induction l generalizing k with
  | nil => cases hx
  | cons y l ih =>
    cases k with
    | zero =>
      injection hx with hx
      subst hx
      refine .cons h1 (exl_none fun z hz => ?_)
      obtain ⟨j, hj⟩ := List.mem_iff_getElem?.1 hz
      exact h (j + 1) z (by omega) hj
    | succ k =>
      obtain ⟨g1, g2, g3⟩ := h 0 y (by omega) rfl
      exact .cons ⟨g1, Or.inr (Or.inl ⟨g2, g3, rfl, rfl⟩)⟩ (ih hx fun j z hj hz => h (j + 1) z (by omega) hz)

/-- what becomes of calls -/
structure CExt (m M : Mc) : Prop where
  len : m.calls.length ≤ M.calls.length
  mv : m.moves ≤ M.moves
  cal : ∀ (i : Nat) (c : Cal), M.calls[i]? = some c →
    (∃ c0, m.calls[i]? = some c0 ∧ c0.th = c.th ∧ c0.op = c.op ∧ c0.beg = c.beg ∧ (c0.fin ≠ -1 → c = c0) ∧ (c0.fin = -1 → c.fin = -1 ∨ m.moves ≤ c.fin)) ∨
    (m.calls.length ≤ i ∧ m.moves ≤ c.beg ∧ (c.fin = -1 ∨ m.moves ≤ c.fin))
theorem CExt.refl (m : Mc) : CExt m m := ⟨Nat.le_refl _, Int.le_refl _, fun _ c h => Or.inl ⟨c, h, rfl, rfl, rfl, fun _ => rfl, fun e => Or.inl e⟩⟩
theorem CExt.trans {m m1 M : Mc} (h0 : 0 ≤ m.moves) (a : CExt m m1) (b : CExt m1 M) : CExt m M := by
  refine ⟨Nat.le_trans a.len b.len, Int.le_trans a.mv b.mv, fun i c h => ?_⟩
  have hmv := a.mv
  have hln := a.len
  rcases b.cal i c h with ⟨c1, g1, g2, g3, g4, g5, g6⟩ | ⟨g1, g2, g3⟩
  · rcases a.cal i c1 g1 with ⟨c0, k1, k2, k3, k4, k5, k6⟩ | ⟨k1, k2, k3⟩
    · refine Or.inl ⟨c0, k1, k2.trans g2, k3.trans g3, k4.trans g4, fun e => ?_, fun e => ?_⟩
      · have e1 := k5 e
        subst e1
        exact g5 e
      · by_cases e1 : c1.fin = -1
        · rcases g6 e1 with h9 | h9
          · exact Or.inl h9
          · exact Or.inr (by omega)
        · have e2 := g5 e1
          subst e2
          exact k6 e
    · refine Or.inr ⟨k1, by omega, ?_⟩
      by_cases e1 : c1.fin = -1
      · rcases g6 e1 with h9 | h9
        · exact Or.inl h9
        · exact Or.inr (by omega)
      · have e2 := g5 e1
        subst e2
        exact k3
  · exact Or.inr ⟨by omega, by omega, by omega⟩
theorem cext_move {m : Mc} (H : Hist m) (v : Mo) : CExt m (m.move v).2 := by
  have hmk := move_kind m v
  generalize (m.move v).2 = m' at hmk ⊢
  have hnn := H.nn
  cases hmk with
  | full h => exact CExt.refl m
  | tick => exact ⟨Nat.le_refl _, by show m.moves ≤ m.moves + 1; omega, (CExt.refl m).cal⟩
  | begun t h p w ht hh hn hm =>
    refine ⟨by show m.calls.length ≤ (m.calls ++ [_]).length; simp, by show m.moves ≤ m.moves + 1; omega, fun i c hc => ?_⟩
    have hc' : (m.calls ++ [⟨w.th, w.op, w.arg, w.dat, m.moves, -1, -1, 0, 0⟩])[i]? = some c := hc
    by_cases hi : i < m.calls.length
    · rw [List.getElem?_append_left hi] at hc'
      exact (CExt.refl m).cal i c hc'
    · rw [List.getElem?_append_right (by omega)] at hc'
      have hi0 : i - m.calls.length = 0 := by
        have := (List.getElem?_eq_some_iff.1 hc').1
        simp at this
        omega
      rw [hi0] at hc'
      injection hc' with hc'
      subst hc'
      exact Or.inr ⟨by omega, Int.le_refl _, Or.inl rfl⟩
  | step t h p hh hp =>
    obtain ⟨i0, c0, e1, e2, e3, e4, e5⟩ := H.thr t h p hh hp
    have hln : h.last.toNat = i0 := by omega
    have hi0 : i0 < m.calls.length := (List.getElem?_eq_some_iff.1 e2).1
    have hg : m.calls[h.last.toNat]?.getD cal0 = c0 := by rw [hln, e2]; rfl
    refine ⟨?_, by rw [step_mv]; omega, fun i c hc => ?_⟩
    · rw [step_eq]
      show m.calls.length ≤ (m.calls.set _ _).length
      rw [List.length_set]
      exact Nat.le_refl _
    · rw [step_eq, hg, hln] at hc
      have hc' : (m.calls.set i0 (bif (m.s2 t h p).over then { c0 with pt := (m.s2 t h p).d.pt, fin := m.moves, ak := (m.s2 t h p).d.ak, av := (m.s2 t h p).d.av } else { c0 with pt := (m.s2 t h p).d.pt }))[i]? = some c := hc
      by_cases hi : i0 = i
      · subst hi
        rw [List.getElem?_set_self hi0] at hc'
        injection hc' with hc'
        subst hc'
        refine Or.inl ⟨c0, e2, ?_, ?_, ?_, fun e => absurd e4 e, fun _ => ?_⟩ <;> cases (m.s2 t h p).over
        · rfl
        · rfl
        · rfl
        · rfl
        · rfl
        · rfl
        · exact Or.inl e4
        · exact Or.inr (Int.le_refl _)
      · rw [List.getElem?_set_ne hi] at hc'
        exact (CExt.refl m).cal i c hc'
theorem cext_moves (l : List Mo) {m : Mc} (H : Hist m) : CExt m (m.moves_ l) := by
  induction l generalizing m with
  | nil => exact CExt.refl m
  | cons v l ih => exact (cext_move H v).trans H.nn (ih (hist_move H v))
theorem bif_same {α : Type} (b : Bool) (x y : α) : (bif b then x else y) = x ∨ (bif b then x else y) = y := by cases b <;> simp
/-- a move, seen from the end -/
theorem ex_move {m M : Mc} (S : Sx m) (C : Tc m) (hm : m.moves < 65536) (v : Mo) (X : CExt (m.move v).2 M) (HM : Hist M) (hT : M.ths.length = m.ths.length) :
    ExL m.ths.length m.moves M.calls (insOf m) (wd m.words 0) (insOf (m.move v).2) (wd (m.move v).2.words 0) := by
  have H := S.g.hist
  have hmk := move_kind m v
  generalize (m.move v).2 = m' at hmk X ⊢
  have hnn := H.nn
  have hth : ∀ (i : Nat) (c : Cal), M.calls[i]? = some c → 0 ≤ c.th ∧ c.th < m.ths.length := fun i c hc => by
    have := (HM.cal i c hc).th
    rw [hT] at this
    exact this
  -- a call that the move left alone
  have old : ∀ (i : Nat) (c c0 : Cal), M.calls[i]? = some c → m.calls[i]? = some c0 → m'.calls[i]? = some c0 → m'.moves = m.moves + 1 → Qt m.ths.length m.moves c := fun i c c0 h1 h2 h3 h4 => by
    have k := H.cal i c0 h2
    have k1 := k.beg
    have k2 := k.fin
    rcases X.cal i c h1 with ⟨c1, g1, g2, g3, g4, g5, g6⟩ | ⟨g1, _⟩
    · rw [h3] at g1
      injection g1 with g1
      subst g1
      refine ⟨hth i c h1, by omega, ?_⟩
      by_cases e : c0.fin = -1
      · have := g6 e; omega
      · have e9 := g5 e
        subst e9
        omega
    · have := (List.getElem?_eq_some_iff.1 h3).1
      omega
  have new : ∀ (i : Nat) (c : Cal), M.calls[i]? = some c → m'.calls.length ≤ i → m'.moves = m.moves + 1 → Qt m.ths.length m.moves c := fun i c h1 h2 h3 => by
    rcases X.cal i c h1 with ⟨c1, g1, _⟩ | ⟨_, g2, g3⟩
    · have := (List.getElem?_eq_some_iff.1 g1).1
      omega
    · exact ⟨hth i c h1, by omega, by omega⟩
  cases hmk with
  | full h => omega
  | tick =>
    refine exl_none fun x hx => ?_
    obtain ⟨i, hi⟩ := List.mem_iff_getElem?.1 hx
    by_cases e : i < m.calls.length
    · obtain ⟨c0, hc0⟩ := at_lt e
      exact old i x c0 hi hc0 hc0 rfl
    · exact new i x hi (by show m.calls.length ≤ i; omega) rfl
  | begun t h p w ht hh hn hmm =>
    have hlt := (List.getElem?_eq_some_iff.1 hh).1
    have hop := make_op hmm
    have hcl : (m.begun t h p w).calls = m.calls ++ [⟨w.th, w.op, w.arg, w.dat, m.moves, -1, -1, 0, 0⟩] := rfl
    have hmv : (m.begun t h p w).moves = m.moves + 1 := rfl
    have hlen : (m.begun t h p w).calls.length = m.calls.length + 1 := by rw [hcl]; simp
    obtain ⟨c, hc⟩ := at_lt (l := M.calls) (j := m.calls.length) (by have := X.len; omega)
    have hc1 : (m.begun t h p w).calls[m.calls.length]? = some ⟨w.th, w.op, w.arg, w.dat, m.moves, -1, -1, 0, 0⟩ := by
      rw [hcl, List.getElem?_append_right (Nat.le_refl _)]
      simp
    obtain ⟨g2, g3, g4, g6⟩ : w.th = c.th ∧ w.op = c.op ∧ m.moves = c.beg ∧ (c.fin = -1 ∨ m.moves + 1 ≤ c.fin) := by
      rcases X.cal _ c hc with ⟨c1, g1, g2, g3, g4, g5, g6⟩ | ⟨g1, _⟩
      · rw [hc1] at g1
        injection g1 with g1
        subst g1
        exact ⟨g2, g3, g4, g6 rfl⟩
      · omega
    refine exl_one hc (fun j y hj hy => ?_) ⟨hth _ c hc, Or.inl ⟨g4.symm, by omega, rfl, ?_⟩⟩
    · by_cases e : j < m.calls.length
      · obtain ⟨c0, hc0⟩ := at_lt e
        exact old j y c0 hy hc0 (by rw [hcl, List.getElem?_append_left e]; exact hc0) hmv
      · exact new j y hy (by omega) hmv
    · have hnew := tt_begun_self (p := p) (v := w) hh
      have hct : c.th.toNat = t := by omega
      have gw := S.g.wf t
      rw [tt_of hh] at gw
      have gw' := wf_begun (l := m.calls.length) (a := 1) (v := 0) hmm gw
      have hset := insOf_set (m := m) (m' := m.begun t h p w) (t := t) (by show (m.ths.set t _).length = _; rw [List.length_set]) hlt (fun s hs => tt_begun_ne hs)
      have hsame : ((m.begun t h p w).tt t).ins = (m.tt t).ins → insOf (m.begun t h p w) = insOf m := insOf_same (by show (m.ths.set t _).length = _; rw [List.length_set]) hlt (fun s hs => tt_begun_ne hs)
      cases p with
      | acq =>
        have hop' : (120 : Int) = w.op := hop
        refine Or.inr ⟨⟨by omega, by omega⟩, hsame ?_⟩
        rw [hnew, tt_of hh]
        obtain ⟨a1, a2⟩ := gw'.acq rfl
        have a1' : h.alone = false := a1
        have a2' : h.shares = false := a2
        unfold Th.ins
        dsimp only
        rw [a1', a2']
        rfl
      | rel =>
        have hop' : (121 : Int) = w.op := hop
        refine Or.inl ⟨Or.inl (by omega), ?_⟩
        rw [hset, hct]
        congr 1
        rw [hnew]
        have a2 := gw'.ex (gw'.rel rfl)
        have a2' : h.shares = false := a2
        unfold Th.ins
        dsimp only
        rw [a2']
        simp [isRel]
      | tch cc k =>
        have hop' : (124 : Int) = w.op := hop
        refine Or.inr ⟨⟨by omega, by omega⟩, hsame ?_⟩
        rw [hnew, tt_of hh]
        have a1 : h.alone = true := gw'.tch cc k rfl
        unfold Th.ins
        dsimp only
        rw [a1, hn]
        rfl
      | shr b ww k =>
        have hop' : (bif decide (b < 0) then (123 : Int) else 122) = w.op := hop
        obtain ⟨a1, _, a3⟩ := gw'.shr b ww k rfl
        have a1' : h.alone = false := a1
        have hins0 : ((m.begun t h (.shr b ww k) w).tt t).ins = 0 := by
          rw [hnew]
          unfold Th.ins
          dsimp only
          rw [a1']
          simp [isShr]
        rcases a3 with ⟨rfl, _, a4, _⟩ | ⟨rfl, _⟩
        · rw [show decide ((1 : Int) < 0) = false by decide] at hop'
          have hop2 : (122 : Int) = w.op := hop'
          refine Or.inr ⟨⟨by omega, by omega⟩, hsame ?_⟩
          rw [hins0, tt_of hh]
          have a4' : h.shares = false := a4
          unfold Th.ins
          rw [a1', a4']
          rfl
        · rw [show decide ((-1 : Int) < 0) = true by decide] at hop'
          have hop2 : (123 : Int) = w.op := hop'
          refine Or.inl ⟨Or.inr (by omega), ?_⟩
          rw [hset, hct, hins0]
  | step t h p hh hp =>
    have hlt := (List.getElem?_eq_some_iff.1 hh).1
    obtain ⟨i0, c0, e1, e2, e3, e4, e5⟩ := H.thr t h p hh hp
    have hln : h.last.toNat = i0 := by omega
    have hi0 : i0 < m.calls.length := (List.getElem?_eq_some_iff.1 e2).1
    have hg : m.calls[h.last.toNat]?.getD cal0 = c0 := by rw [hln, e2]; rfl
    have hmv := step_mv m t h p
    have hcl : (m.step t h p).calls = m.calls.set i0 (bif (m.s2 t h p).over then { c0 with pt := (m.s2 t h p).d.pt, fin := m.moves, ak := (m.s2 t h p).d.ak, av := (m.s2 t h p).d.av } else { c0 with pt := (m.s2 t h p).d.pt }) := by rw [step_eq, hg, hln]
    have hlen : (m.step t h p).calls.length = m.calls.length := by rw [hcl, List.length_set]
    have hbeg := (H.cal i0 c0 e2).beg
    obtain ⟨c, hc⟩ := at_lt (l := M.calls) (j := i0) (by have := X.len; omega)
    have hoth : ∀ (j : Nat) (y : Cal), j ≠ i0 → M.calls[j]? = some y → Qt m.ths.length m.moves y := fun j y hj hy => by
      by_cases e : j < m.calls.length
      · obtain ⟨c9, hc9⟩ := at_lt e
        exact old j y c9 hy hc9 (by rw [hcl, List.getElem?_set_ne (fun e => hj e.symm)]; exact hc9) hmv
      · exact new j y hy (by omega) hmv
    have hnew := tt_step_self (p := p) hh
    have gw := S.g.wf t
    rw [tt_of hh] at gw
    have htl : (m.step t h p).ths.length = m.ths.length := (len_step m t h p).1
    have hset := insOf_set (m := m) (m' := m.step t h p) (t := t) htl hlt (fun s hs => tt_step_ne hs)
    have hsame : ((m.step t h p).tt t).ins = (m.tt t).ins → insOf (m.step t h p) = insOf m := insOf_same htl hlt (fun s hs => tt_step_ne hs)
    have hc1 : (m.step t h p).calls[i0]? = some (bif (m.s2 t h p).over then { c0 with pt := (m.s2 t h p).d.pt, fin := m.moves, ak := (m.s2 t h p).d.ak, av := (m.s2 t h p).d.av } else { c0 with pt := (m.s2 t h p).d.pt }) := by rw [hcl, List.getElem?_set_self hi0]
    -- it goes on
    have going : (m.s2 t h p).over = false → Qt m.ths.length m.moves c := fun ho => by
      rcases X.cal _ c hc with ⟨c1, g1, g2, g3, g4, g5, g6⟩ | ⟨g1, _⟩
      · rw [hc1, ho] at g1
        injection g1 with g1
        have k1 : c0.fin = c1.fin := by have h9 := congrArg Cal.fin g1; exact h9
        have k2 : c0.beg = c1.beg := by have h9 := congrArg Cal.beg g1; exact h9
        have := g6 (by omega)
        exact ⟨hth _ c hc, by omega, by omega⟩
      · omega
    -- it ends
    have ending : (m.s2 t h p).over = true → c.th = t ∧ c.beg ≠ m.moves ∧ c.fin = m.moves ∧ c.op = p.op ∧ c.av = (m.s2 t h p).d.av := fun ho => by
      rcases X.cal _ c hc with ⟨c1, g1, g2, g3, g4, g5, g6⟩ | ⟨g1, _⟩
      · rw [hc1, ho] at g1
        injection g1 with g1
        have k1 : m.moves = c1.fin := by have h9 := congrArg Cal.fin g1; exact h9
        have k2 : c0.beg = c1.beg := by have h9 := congrArg Cal.beg g1; exact h9
        have k3 : c0.th = c1.th := by have h9 := congrArg Cal.th g1; exact h9
        have k4 : c0.op = c1.op := by have h9 := congrArg Cal.op g1; exact h9
        have k5 : (m.s2 t h p).d.av = c1.av := by have h9 := congrArg Cal.av g1; exact h9
        have e9 := g5 (by omega)
        subst e9
        exact ⟨by omega, by omega, by omega, by omega, k5.symm⟩
      · omega
    have hall : (m.s2 t h p).over = false → ∀ x ∈ M.calls, Qt m.ths.length m.moves x := fun ho x hx => by
      obtain ⟨j, hj⟩ := List.mem_iff_getElem?.1 hx
      by_cases e : j = i0
      · subst e
        rw [hc] at hj
        injection hj with hj
        subst hj
        exact going ho
      · exact hoth j x e hj
    have quiet : (m.s2 t h p).over = false → (∀ c, p ≠ .tch c true) → ((m.step t h p).tt t).ins = (m.tt t).ins → ExL m.ths.length m.moves M.calls (insOf m) (wd m.words 0) (insOf (m.step t h p)) (wd (m.step t h p).words 0) := fun h1 h2 h3 => by
      rw [hsame h3, w0_step S hh hp h2]
      exact exl_none (hall h1)
    cases p with
    | acq =>
      obtain ⟨q1, q2, q3⟩ := s2_acqa m t h
      obtain ⟨a1, a2⟩ := gw.acq hp
      cases ho : (m.s2 t h .acq).over with
      | false =>
        refine quiet ho (fun c => by simp) ?_
        rw [hnew, q1, q2, q3, ho, a2, tt_of hh]
        unfold Th.ins
        rw [a1, a2]
        rfl
      | true =>
        obtain ⟨k1, k2, k3, k4, k5⟩ := ending ho
        refine exl_one hc hoth ⟨hth _ c hc, Or.inr (Or.inr ⟨k2, k3, Or.inl ⟨k4, w0_step S hh hp (fun c => by simp), ?_⟩⟩)⟩
        rw [hset, show c.th.toNat = t by omega]
        congr 1
        rw [hnew, q1, q2, ho]
        rfl
    | rel =>
      have q := s2_rel m t h
      have a1 := gw.rel hp
      have a2 := gw.ex a1
      have hi0 : (m.tt t).ins = 0 := by
        rw [tt_of hh]
        unfold Th.ins
        rw [hp, a2]
        simp [isRel]
      have hi1 : ((m.step t h .rel).tt t).ins = 0 := by
        rw [hnew, q]
        unfold Th.ins
        dsimp only
        rw [a2]
        cases (h.lk.rel (m.dk t h)).1 <;> rfl
      cases ho : (m.s2 t h .rel).over with
      | false => exact quiet ho (fun c => by simp) (hi1.trans hi0.symm)
      | true =>
        obtain ⟨k1, k2, k3, k4, k5⟩ := ending ho
        have k4' : c.op = 121 := k4
        exact exl_one hc hoth ⟨hth _ c hc, Or.inr (Or.inr ⟨k2, k3, Or.inr (Or.inr (Or.inr ⟨by omega, by omega, by omega, w0_step S hh hp (fun c => by simp), hsame (hi1.trans hi0.symm)⟩))⟩)⟩
    | tch cc k =>
      have q := s2_tch m t h cc k
      have a1 := gw.tch cc k hp
      have hi0 : (m.tt t).ins = 1 := by
        rw [tt_of hh]
        unfold Th.ins
        rw [hp, a1]
        rfl
      have hi1 : ((m.step t h (.tch cc k)).tt t).ins = 1 := by
        rw [hnew, q]
        unfold Th.ins
        dsimp only
        cases k
        · show (bif h.alone && _ then (1 : Int) else _) = 1
          rw [a1]
          rfl
        · show (bif h.alone && _ then (1 : Int) else _) = 1
          rw [a1]
          rfl
      cases k with
      | false => exact quiet (by rw [q]; rfl) (fun c => by simp) (hi1.trans hi0.symm)
      | true =>
        obtain ⟨k1, k2, k3, k4, k5⟩ := ending (by rw [q]; rfl)
        obtain ⟨b1, b2⟩ := tch_end C hm hh hp
        have hct : c.th.toNat = t := by omega
        refine exl_one hc hoth ⟨hth _ c hc, Or.inr (Or.inr ⟨k2, k3, Or.inr (Or.inr (Or.inl ⟨k4, ?_, k5.trans b2, b1, hsame (hi1.trans hi0.symm)⟩))⟩)⟩
        rw [hct, insOf_get hlt, hi0]
    | shr b w k =>
      have q := s2_shr m t h b w k
      obtain ⟨a1, _, a3⟩ := gw.shr b w k hp
      have hi0 : (m.tt t).ins = 0 := by
        rw [tt_of hh]
        unfold Th.ins
        rw [hp, a1]
        simp [isShr]
      have hal : ((m.step t h (.shr b w k)).tt t).alone = false := by
        rw [hnew, q]
        cases k
        · exact a1
        · show (cond _ _ _ : Ts).alone = false
          cases ((m.dk t h).swap 1 (uw w) (uw (iw (w + b)))).1 <;> exact a1
      cases ho : (m.s2 t h (.shr b w k)).over with
      | false =>
        refine quiet ho (fun c => by simp) ?_
        rw [hi0]
        unfold Th.ins
        rw [hal]
        have hts : isShr ((m.step t h (.shr b w k)).tt t).task = true := by
          rw [hnew, ho]
          show isShr (some (m.s2 t h (.shr b w k)).task) = true
          rw [q]
          cases k
          · rfl
          · show isShr (some (cond _ _ _ : Ts).task) = true
            cases ((m.dk t h).swap 1 (uw w) (uw (iw (w + b)))).1 <;> rfl
        rw [hts]
        simp
      | true =>
        obtain ⟨k1, k2, k3, k4, k5⟩ := ending ho
        have k4' : c.op = bif decide (b < 0) then 123 else 122 := k4
        have hct : c.th.toNat = t := by omega
        have hsh : ((m.step t h (.shr b w k)).tt t).shares = decide (0 < b) ∧ ((m.step t h (.shr b w k)).tt t).task = none := by
          rw [hnew, ho]
          refine ⟨?_, rfl⟩
          rw [q] at ho ⊢
          cases k
          · cases ho
          · show (cond _ _ _ : Ts).shares = _
            have ho' : (cond ((m.dk t h).swap 1 (uw w) (uw (iw (w + b)))).1 _ _ : Ts).over = true := ho
            cases hb : ((m.dk t h).swap 1 (uw w) (uw (iw (w + b)))).1 with
            | false => rw [hb] at ho'; cases ho'
            | true => rfl
        have hw := w0_step S hh hp (fun c => by simp)
        rcases a3 with ⟨rfl, _⟩ | ⟨rfl, _⟩
        · have hi1 : ((m.step t h (.shr 1 w k)).tt t).ins = 2 := by
            unfold Th.ins
            rw [hal, hsh.1, hsh.2]
            rfl
          refine exl_one hc hoth ⟨hth _ c hc, Or.inr (Or.inr ⟨k2, k3, Or.inr (Or.inl ⟨k4', hw, ?_⟩)⟩)⟩
          rw [hset, hct, hi1]
        · have hi1 : ((m.step t h (.shr (-1) w k)).tt t).ins = 0 := by
            unfold Th.ins
            rw [hal, hsh.1, hsh.2]
            rfl
          have k4'' : c.op = 123 := k4'
          exact exl_one hc hoth ⟨hth _ c hc, Or.inr (Or.inr ⟨k2, k3, Or.inr (Or.inr (Or.inr ⟨by omega, by omega, by omega, hw, hsame (hi1.trans hi0.symm)⟩))⟩)⟩
/-- who is inside alone is so by himself -/
theorem ins_one {m : Mc} (S : Sx m) : (insOf m).countP (fun i => i == 1) = 0 ∨ (insOf m).countP (fun i => decide (0 < i)) ≤ 1 := by
  have key : ∀ f : Int → Bool, (insOf m).countP f = ct m.ths.length (fun t => f (m.tt t).ins) := fun f => by
    unfold insOf ct
    rw [List.countP_map]
    rfl
  rw [key, key]
  by_cases h : ct m.ths.length (fun t => (m.tt t).ins == 1) = 0
  · exact Or.inl h
  · refine Or.inr ?_
    obtain ⟨s, hs, h1⟩ : ∃ s, s < m.ths.length ∧ (m.tt s).ins = 1 := by
      by_cases e : ∃ s, s < m.ths.length ∧ (m.tt s).ins = 1
      · exact e
      · exact absurd (ct_none fun s hs => by
          rw [beq_eq_false_iff_ne]
          exact fun e9 => e ⟨s, hs, e9⟩) h
    have ha : (m.tt s).alone = true := by
      unfold Th.ins at h1
      cases ha : (m.tt s).alone with
      | true => rfl
      | false =>
        rw [ha] at h1
        have h1' : (bif (m.tt s).shares && !isShr (m.tt s).task then (2 : Int) else 0) = 1 := h1
        cases hb : ((m.tt s).shares && !isShr (m.tt s).task) <;> rw [hb] at h1' <;> exact absurd h1' (by decide)
    have h2 : ct m.ths.length (fun t => decide (0 < (m.tt t).ins)) ≤ ct m.ths.length (fun t => t == s) := ct_mono fun t ht e => by
      rw [beq_iff_eq]
      rw [decide_eq_true_eq] at e
      have hts : (m.tt t).alone = true ∨ (m.tt t).shares = true := by
        unfold Th.ins at e
        cases ha : (m.tt t).alone with
        | true => exact Or.inl rfl
        | false =>
          cases hsh : (m.tt t).shares with
          | true => exact Or.inr rfl
          | false =>
            rw [ha, hsh] at e
            exact absurd e (by show ¬ ((0 : Int) < 0); decide)
      exact (S.exc s t ha hts).symm
    have h3 := ct_inc (n := m.ths.length) (t := s) (f := fun _ => false) (g := fun t => t == s) (fun t ht => by simp [ht]) hs rfl (by simp)
    rw [ct_none (f := fun _ => false) fun _ _ => rfl] at h3
    omega
theorem tc_moves (l : List Mo) {m : Mc} (S : Sx m) (C : Tc m) : Tc (m.moves_ l) := by
  induction l generalizing m with
  | nil => exact C
  | cons v l ih => exact ih (st_move S v) (tc_move S C v)
theorem moves_cat (l l' : List Mo) (m : Mc) : m.moves_ (l ++ l') = (m.moves_ l).moves_ l' := by
  induction l generalizing m with
  | nil => rfl
  | cons v l ih => exact ih _
theorem mv_next {m : Mc} (h : m.moves < 65536) (v : Mo) : (m.move v).2.moves = m.moves + 1 := by
  have hk := move_kind m v
  generalize (m.move v).2 = m' at hk ⊢
  cases hk with
  | full h' => omega
  | tick => rfl
  | begun => rfl
  | step t h p hh hp => exact step_mv m t h p
theorem mv_count (l : List Mo) (m : Mc) (h : m.moves + l.length ≤ 65536) : (m.moves_ l).moves = m.moves + l.length := by
  induction l generalizing m with
  | nil => simp [Mc.moves_]
  | cons v l ih =>
    simp only [List.length_cons] at h
    have h1 := mv_next (m := m) (by omega) v
    show ((m.move v).2.moves_ l).moves = _
    rw [ih _ (by rw [h1]; omega), h1]
    simp only [List.length_cons]
    omega
/-- all that LocksExclude looks at -/
theorem excl_all {k T : Int} (hk : 1 ≤ k ∧ k ≤ 7) (hT : 1 ≤ T ∧ T ≤ 16) (ms : List Mo) (hN : ms.length ≤ 65536) {j : Nat} (hj : j < ms.length) :
    ExL T j ((mc0 k T).moves_ ms).calls (insOf ((mc0 k T).moves_ (ms.take j))) (wd ((mc0 k T).moves_ (ms.take j)).words 0) (insOf ((mc0 k T).moves_ (ms.take (j + 1)))) (wd ((mc0 k T).moves_ (ms.take (j + 1))).words 0) ∧
    ((insOf ((mc0 k T).moves_ (ms.take (j + 1)))).countP (fun i => i == 1) = 0 ∨ (insOf ((mc0 k T).moves_ (ms.take (j + 1)))).countP (fun i => decide (0 < i)) ≤ 1) := by
  have hl : (mc0 k T).ths.length = T.toNat := by show ((List.range T.toNat).map _).length = _; simp
  have S0 := st0 hk hT
  have S := st_moves (ms.take j) S0
  have C := tc_moves (ms.take j) S0 (tc0 hk hT)
  obtain ⟨v, hv⟩ := at_lt hj
  have e1 : ms.take (j + 1) = ms.take j ++ [v] := by
    rw [List.take_add_one, hv]
    rfl
  have e2 : (mc0 k T).moves_ (ms.take (j + 1)) = (((mc0 k T).moves_ (ms.take j)).move v).2 := by rw [e1, moves_cat]; rfl
  have e3 : (mc0 k T).moves_ ms = ((mc0 k T).moves_ (ms.take (j + 1))).moves_ (ms.drop (j + 1)) := by rw [← moves_cat, List.take_append_drop]
  have hmv : ((mc0 k T).moves_ (ms.take j)).moves = j := by
    rw [mv_count _ _ (by show 0 + _ ≤ _; rw [List.length_take]; omega)]
    show (0 : Int) + _ = _
    rw [List.length_take]
    omega
  have hth : ((mc0 k T).moves_ (ms.take j)).ths.length = T.toNat := (moves_bnd _ _).2.2.2.trans hl
  have hthM : ((mc0 k T).moves_ ms).ths.length = T.toNat := (moves_bnd _ _).2.2.2.trans hl
  have hHM : Hist ((mc0 k T).moves_ ms) := hist_moves ms (hist0 k T)
  have hX : CExt ((mc0 k T).moves_ (ms.take (j + 1))) ((mc0 k T).moves_ ms) := by
    rw [e3]
    exact cext_moves _ (hist_moves _ (hist0 k T))
  have S1 : Sx ((mc0 k T).moves_ (ms.take (j + 1))) := st_moves _ S0
  rw [e2] at hX S1 ⊢
  refine ⟨?_, ins_one S1⟩
  have h9 := ex_move S C (by rw [hmv]; omega) v hX hHM (by rw [hthM, hth])
  rw [hmv, hth] at h9
  rw [show ((T.toNat : Nat) : Int) = T by omega] at h9
  exact h9
theorem excl_zero {k T : Int} (hk : 1 ≤ k ∧ k ≤ 7) (hT : 1 ≤ T ∧ T ≤ 16) : insOf (mc0 k T) = List.replicate T.toNat 0 ∧ wd (mc0 k T).words 0 = 0 := by
  have hl : (mc0 k T).ths.length = T.toNat := by show ((List.range T.toNat).map _).length = _; simp
  refine ⟨?_, ?_⟩
  · unfold insOf
    rw [hl]
    refine List.ext_getElem? fun i => ?_
    by_cases hi : i < T.toNat
    · rw [List.getElem?_map, List.getElem?_range hi, List.getElem?_replicate, if_pos hi]
      show some ((mc0 k T).tt i).ins = some 0
      unfold Th.ins
      rw [(tt0 k T i).1, (tt0 k T i).2.1]
      rfl
    · rw [List.getElem?_eq_none (by simp; omega), List.getElem?_eq_none (by simp; omega)]
  · have h1 := (tc0 hk hT).w0
    have h2 : (mc0 k T).moves = 0 := rfl
    omega
end Go.Proofs.Ytjnmlgfkiebkgaa
