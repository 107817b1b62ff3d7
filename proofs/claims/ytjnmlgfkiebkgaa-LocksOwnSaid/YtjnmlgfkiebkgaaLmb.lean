/-
  Back from the desk to the whole machine.
-/
import Derived.Test.YtjnmlgfkiebkgaaLmk
namespace Go.Proofs.Ytjnmlgfkiebkgaa
open Go.RowKit
set_option linter.unusedVariables false
set_option linter.unusedSimpArgs false

/-- all but the blocks x and y stays -/
def Oth (x y : Nat) (w w' : World) : Prop := w.heap.size ≤ w'.heap.size ∧ ∀ b, b < w.heap.size → b ≠ x → b ≠ y → w'.heap[b]? = w.heap[b]?
section
variable {x y : Nat} {w w' : World} {B : Nat}
theorem Oth.refl (x y : Nat) (w : World) : Oth x y w w := ⟨Nat.le_refl _, fun _ _ _ _ => rfl⟩
theorem Oth.setx (h : Oth x y w w') (i : Nat) (u : Value) : Oth x y w (w'.setCell ⟨x, i, none⟩ u) := ⟨by simpa using h.1, fun b h1 h2 h3 => (Below.heap_setCell w' _ u b h2).trans (h.2 b h1 h2 h3)⟩
theorem Oth.sety (h : Oth x y w w') (i : Nat) (u : Value) : Oth x y w (w'.setCell ⟨y, i, none⟩ u) := ⟨by simpa using h.1, fun b h1 h2 h3 => (Below.heap_setCell w' _ u b h3).trans (h.2 b h1 h2 h3)⟩
theorem Oth.drew (h : Oth x y w w') : Oth x y w w'.drew := h
theorem Oth.alloc (h : Oth x y w w') (o : Obj) : Oth x y w (w'.alloc o) := ⟨by rw [World.size_alloc]; exact Nat.le_trans h.1 (Nat.le_succ _), fun b h1 h2 h3 => (Below.heap_alloc w' o b (Nat.lt_of_lt_of_le h1 h.1)).trans (h.2 b h1 h2 h3)⟩
theorem Oth.blk {tx ty : TypeId} {cx cy : List Value} {g : Nat} {t : TypeId} {cs : List Value} (h : Oth x y w w') (hx : Blk w x tx cx) (hy : Blk w y ty cy) (hb : Blk w g t cs) (h1 : t ≠ tx) (h2 : t ≠ ty) : Blk w' g t cs :=
  hb.kept (h.2 g hb.lt (hb.blk_ne hx h1) (hb.blk_ne hy h2))
theorem Oth.rw {tx ty : TypeId} {cx cy : List Value} {g sz n k : Nat} {t : TypeId} {cs : List Value} (h : Oth x y w w') (hx : Blk w x tx cx) (hy : Blk w y ty cy) (hb : Rw w g t sz n k cs) (h1 : t ≠ tx) (h2 : t ≠ ty) : Rw w' g t sz n k cs :=
  hb.kept (h.2 g hb.lt (hb.blk_ne hx h1) (hb.blk_ne hy h2))
theorem Oth.own {tx ty : TypeId} {cx cy : List Value} {B' e s n : Nat} {v : Value} {cs : List Value} (h : Oth x y w w') (hx : Blk w x tx cx) (hy : Blk w y ty cy) (hb : w.ownsRow B' e s v n cs) (h1 : e ≠ tx) (h2 : e ≠ ty) : w'.ownsRow B' e s v n cs :=
  ⟨hb.1, hb.2.imp id fun ⟨g, cap, cur, e1, h3, h4, h5⟩ => ⟨g, cap, cur, e1, h3, (h.2 g (Array.getElem?_eq_some_iff.1 h4).1 (fun e9 => own_blk_ne hb hx h1 (by rw [e1, ← e9]; rfl)) (fun e9 => own_blk_ne hb hy h2 (by rw [e1, ← e9]; rfl))).trans h4, h5⟩⟩
end
/-- the desk of a step of thread t -/
abbrev deskL (M : ML) (m : Mc) (t ln cg kc : Nat) : DL := ⟨M.x, M.y, M.wb, M.wk, cg, m.calls.length, kc, ln * 9, calVals m.calls, M.sg, m.ths.length, M.sk, t * 5 + 3, thVals M 0 m.ths, [.map (some M.kb), .slice (some ⟨M.sg, 0, none⟩) m.ths.length M.sk, .int .i64 (m.moves + 1), M.vc]⟩
abbrev desk0 (m : Mc) (t : Nat) (c : Cal) (h : Th) : Dk := ⟨m.words, m.log, t, m.moves, false, c.pt, h.ak, h.av⟩
section
variable {W W' : World} {B : Nat} {M : ML} {m : Mc} {t ln cg kc : Nat} {h : Th} {p : Tp} {c : Cal}
theorem MM.desk (H : MM W B M { m with moves := m.moves + 1 }) (hh : m.ths[t]? = some h) (hc : m.calls[ln]? = some c) (hcB : B ≤ cg) (hr : Rw W cg 62 9 m.calls.length kc (calVals m.calls)) (ho : Oth M.x M.y W W')
    (hx : Blk W' M.x 126 ((deskL M m t ln cg kc).xs (desk0 m t c h))) (hy : Blk W' M.y 170 [.slice (some ⟨M.wb, 0, none⟩) m.words.length M.wk, M.vl, M.va, .int .i64 m.moves]) :
    DM W' B (deskL M m t ln cg kc) M.vl M.va (desk0 m t c h) := by
  obtain ⟨_, _, _, kx⟩ := H.xb
  obtain ⟨_, ky⟩ := H.yb
  obtain ⟨n, xs, hn, ha⟩ := H.ah
  have hlc : ln < m.calls.length := (List.getElem?_eq_some_iff.1 hc).1
  have htn : t < m.ths.length := (List.getElem?_eq_some_iff.1 hh).1
  refine ⟨hx, hy, ho.rw kx ky H.wr (by decide) (by decide), ho.own kx ky H.lo (by decide) (by decide), ⟨n, xs, hn, ho.own kx ky ha (by decide) (by decide)⟩, ?_, ?_, ?_, ?_, H.bx, H.by_, H.bw, hcB, H.bs⟩
  · have := ho.rw kx ky hr (by decide) (by decide)
    dsimp only
    rw [set_same (calVals_get hc 6 (by omega))]
    exact this
  · have := ho.rw kx ky H.se (by decide) (by decide)
    dsimp only
    have e3 := thVals_get (M := M) 0 hh 3 (by omega)
    have e4 := thVals_get (M := M) 0 hh 4 (by omega)
    rw [set_same e3, set_same (show (thVals M 0 m.ths)[t * 5 + 3 + 1]? = some (.int .i64 h.av) from e4)]
    exact this
  · dsimp only; rw [calVals_len]; omega
  · dsimp only; rw [thVals_len]; omega
end
section
variable {W : World} {B : Nat} {L : DL} {vl va : Value} {d : Dk}
/-- another cell of the seats -/
theorem DM.seat (h : DM W B L vl va d) (i : Nat) (hi : i ≠ L.so ∧ i ≠ L.so + 1) (u : Value) : DM (W.setCell ⟨L.sg, i, none⟩ u) B { L with sc := L.sc.set i u } vl va d := by
  obtain ⟨n, xs, hn, ha⟩ := h.ah
  refine ⟨h.xb.far (h.se.blk_ne h.xb (by decide)).symm _, h.yb.far (h.se.blk_ne h.yb (by decide)).symm _, h.wr.far (h.wr.rw_ne h.se (by decide)) _, own_setf h.lo (own_rw_ne h.lo h.se (by decide)) _, ⟨n, xs, hn, own_setf ha (own_rw_ne ha h.se (by decide)) _⟩,
    h.cl.far (h.cl.rw_ne h.se (by decide)) _, ?_, h.co, by simpa using h.so, h.bx, h.by_, h.bw, h.bc, h.bs⟩
  have := h.se.set_ i u
  rw [List.set_comm _ _ (fun e => hi.2 e.symm), List.set_comm _ _ (fun e => hi.1 e.symm)] at this
  exact this
/-- another cell of the calls -/
theorem DM.call (h : DM W B L vl va d) (i : Nat) (hi : i ≠ L.co + 6) (u : Value) : DM (W.setCell ⟨L.cg, i, none⟩ u) B { L with cc := L.cc.set i u } vl va d := by
  obtain ⟨n, xs, hn, ha⟩ := h.ah
  refine ⟨h.xb.far (h.cl.blk_ne h.xb (by decide)).symm _, h.yb.far (h.cl.blk_ne h.yb (by decide)).symm _, h.wr.far (h.wr.rw_ne h.cl (by decide)) _, own_setf h.lo (own_rw_ne h.lo h.cl (by decide)) _, ⟨n, xs, hn, own_setf ha (own_rw_ne ha h.cl (by decide)) _⟩,
    ?_, h.se.far (h.se.rw_ne h.cl (by decide)) _, by simpa using h.co, h.so, h.bx, h.by_, h.bw, h.bc, h.bs⟩
  have := h.cl.set_ i u
  rw [List.set_comm _ _ (fun e => hi e.symm)] at this
  exact this
end
theorem tkP_ready (s : Ts) : tkP s.ready.task = tkP s.task := by
  obtain ⟨o, p, l, a, b, d⟩ := s
  cases p <;> rfl
theorem tkP_step (s : Ts) : tkP s.step.task = tkP s.task := by
  obtain ⟨o, p, l, a, b, d⟩ := s
  cases p with
  | acq => rfl
  | rel => rfl
  | shr x y k =>
    unfold Ts.step
    dsimp only
    cases k
    · rfl
    · cases (d.swap 1 (uw y) (uw (iw (y + x)))).1 <;> rfl
  | tch c k =>
    unfold Ts.step
    dsimp only
    cases k <;> rfl
theorem kd_ready (s : Ts) : s.ready.lk.kd = s.lk.kd := by
  obtain ⟨o, p, l, a, b, d⟩ := s
  cases p with
  | acq => exact lk_kd_beg l d
  | _ => rfl
theorem kd_step (s : Ts) : s.step.lk.kd = s.lk.kd := by
  obtain ⟨o, p, l, a, b, d⟩ := s
  cases p with
  | acq => exact lk_kd_acq l d
  | rel => exact lk_kd_rel l d
  | shr x y k =>
    unfold Ts.step
    dsimp only
    cases k
    · rfl
    · cases (d.swap 1 (uw y) (uw (iw (y + x)))).1 <;> rfl
  | tch c k =>
    unfold Ts.step
    dsimp only
    cases k <;> rfl
end Go.Proofs.Ytjnmlgfkiebkgaa
namespace Go.Proofs.Ytjnmlgfkiebkgaa
open Go.RowKit
set_option linter.unusedVariables false
set_option linter.unusedSimpArgs false

/-- the log grows by one access at most -/
theorem lg_load (d : Dk) (a : Int) : (d.load a).2.log.length ≤ d.log.length + 1 := by unfold Dk.load; cases d.opn a <;> simp
theorem lg_store (d : Dk) (a w : Int) : (d.store a w).log.length ≤ d.log.length + 1 := by unfold Dk.store; cases d.opn a <;> simp
theorem lg_swap (d : Dk) (a o w : Int) : (d.swap a o w).2.log.length ≤ d.log.length + 1 := by unfold Dk.swap; cases d.opn a <;> cases d.word a == o <;> simp
def LgOk (n : Nat) (r : Bool × Lk × Dk) : Prop := r.2.2.log.length ≤ n + 1
theorem lg_if {b : Bool} {x y : Bool × Lk × Dk} {n : Nat} (hx : LgOk n x) (hy : LgOk n y) : LgOk n (cond b x y) := by cases b <;> assumption
theorem lg_beg (l : Lk) (d : Dk) : (l.beg d).2.2.log = d.log := by
  unfold Lk.beg
  cases l.kd == 5
  · rfl
  · cases decide (1 < l.all) <;> rfl
theorem lg_up (l : Lk) (d : Dk) (n : Nat) (h : d.log.length ≤ n + 1) : LgOk n (l.up d) := lg_if h h
theorem lg_acq (l : Lk) (d : Dk) : LgOk d.log.length (l.acq d) :=
  lg_if (lg_if (lg_load d _) (lg_if (lg_if (lg_swap d _ _ _) (lg_swap d _ _ _)) (lg_load d _)))
    (lg_if (lg_if (lg_store d _ _) (lg_if (lg_load d _) (lg_if (lg_if (lg_swap d _ _ _) (lg_swap d _ _ _)) (lg_load d _))))
      (lg_if (lg_if (lg_store d _ _) (lg_if (lg_load d _) (lg_if (lg_if (lg_if (lg_swap d _ _ _) (lg_swap d _ _ _)) (lg_swap d _ _ _)) (lg_if (lg_store d _ _) (lg_if (lg_store d _ _) (lg_if (lg_load d _) (lg_load d _)))))))
        (lg_if (lg_if (lg_store d _ _) (lg_if (lg_store d _ _) (lg_if (lg_if (lg_load d _) (lg_if (lg_up _ _ _ (lg_load d _)) (lg_load d _))) (lg_if (lg_load d _) (lg_up _ _ _ (lg_load d _))))))
          (lg_if (lg_if (lg_store d _ _) (lg_if (lg_load d _) (lg_if (lg_store d _ _) (lg_if (lg_store d _ _) (lg_if (lg_load d _) (lg_if (lg_load d _) (lg_load d _))))))) (lg_if (lg_swap d _ _ _) (lg_swap d _ _ _))))))
theorem lg_rel (l : Lk) (d : Dk) : LgOk d.log.length (l.rel d) :=
  lg_if (lg_store d _ _) (lg_if (lg_store d _ _) (lg_if (lg_if (lg_load d _) (lg_if (lg_if (lg_swap d _ _ _) (lg_swap d _ _ _)) (lg_store d _ _))) (lg_if (lg_store d _ _) (lg_if (lg_store d _ _) (lg_store d _ _)))))
theorem lg_ready (s : Ts) : s.ready.d.log = s.d.log := by
  obtain ⟨o, p, l, a, b, d⟩ := s
  cases p with
  | acq => exact lg_beg l d
  | _ => rfl
theorem lg_step (s : Ts) : s.step.d.log.length ≤ s.d.log.length + 1 := by
  obtain ⟨o, p, l, a, b, d⟩ := s
  cases p with
  | acq => exact lg_acq l d
  | rel => exact lg_rel l d
  | shr x y k =>
    unfold Ts.step
    dsimp only
    cases k
    · exact lg_load d 1
    · cases (d.swap 1 (uw y) (uw (iw (y + x)))).1
      · exact lg_swap d _ _ _
      · cases decide (0 < x)
        · exact lg_swap d _ _ _
        · exact lg_swap d _ _ _
  | tch c k =>
    unfold Ts.step
    dsimp only
    cases k
    · exact lg_load d 0
    · exact lg_store d _ _

/-- the machine behind a step, by what the task has left -/
def Mc.after (m : Mc) (t ln : Nat) (h : Th) (c : Cal) (s : Ts) : Mc :=
  { m with
    words := s.d.words, log := s.d.log, moves := m.moves + 1,
    calls := m.calls.set ln (bif s.over then { c with pt := s.d.pt, fin := m.moves, ak := s.d.ak, av := s.d.av } else { c with pt := s.d.pt }),
    ths := m.ths.set t ⟨bif s.over then none else some s.task, true, h.last, s.d.ak, s.d.av, s.lk, s.alone, s.shares⟩ }
theorem Oth.fr {x y : Nat} {X : Nat → Prop} {B : Nat} {w w' : World} (h : Oth x y w w') (hb : Below B w w') (hx : ∀ o, w.heap[x]? = some o → mine o = true) (hy : ∀ o, w.heap[y]? = some o → mine o = true) : Fr X B w w' :=
  ⟨hb, fun b o _ h1 h2 => (h.2 b (Array.getElem?_eq_some_iff.1 h1).1 (fun e => by subst e; rw [hx o h1] at h2; cases h2) (fun e => by subst e; rw [hy o h1] at h2; cases h2)).trans h1⟩
section
variable {W W1 : World} {B : Nat} {M : ML} {m : Mc} {t ln cg kc : Nat} {h : Th} {p : Tp} {c : Cal} {vl va : Value} {s : Ts}
theorem MM.back (H : MM W B M { m with moves := m.moves + 1 }) (hh : m.ths[t]? = some h) (hp : h.task = some p) (hln : h.last = ln) (hc : m.calls[ln]? = some c) (hvc : M.vc = .slice (some ⟨cg, 0, none⟩) m.calls.length kc) (hcB : B ≤ cg)
    (hlog : m.log.length ≤ m.moves) (hs1 : s.d.log.length ≤ m.log.length + 1) (hs2 : tkP s.task = tkP p) (hs3 : s.lk.kd = h.lk.kd)
    (sc1 cc1 : List Value) (hsc : sc1 = bif s.over then ((thVals M 0 m.ths).set (t * 5 + 1) (.bool true)).set (t * 5) .nilIface else (thVals M 0 m.ths).set (t * 5 + 1) (.bool true))
    (hcc : cc1 = bif s.over then (((calVals m.calls).set (ln * 9 + 5) (.int .i64 m.moves)).set (ln * 9 + 7) (.int .i64 s.d.ak)).set (ln * 9 + 8) (.int .i64 s.d.av) else calVals m.calls)
    (T : TsM W1 B { deskL M m t ln cg kc with sc := sc1, cc := cc1 } (M.ls t) (M.lb t) (M.tb t) vl va s) (F : Fr (TsX (M.ls t) (M.lb t) (M.tb t)) B W W1) :
    MM ((W1.setCell ⟨M.x, 3, none⟩ (.pointer none)).setCell ⟨M.x, 4, none⟩ (.pointer none)) B { M with vl := vl, va := va } (m.after t ln h c s) := by
  have D := T.dm
  have hlc : ln < m.calls.length := (List.getElem?_eq_some_iff.1 hc).1
  have htn : t < m.ths.length := (List.getElem?_eq_some_iff.1 hh).1
  obtain ⟨k1, k2, k3, k4, k5⟩ := H.ts t h hh
  obtain ⟨k6, k7, k8, k9⟩ := H.tk t h p hh hp
  have hml : m.calls.length ≤ m.moves + 1 := H.nm.2.2
  have hmv : m.moves + 1 ≤ 65536 := H.nm.2.1
  obtain ⟨n, xs, hn, ha⟩ := D.ah
  have far : ∀ {g : Nat} {ty : TypeId} {cs : List Value}, Blk W1 g ty cs → ty ≠ 126 → Blk ((W1.setCell ⟨M.x, 3, none⟩ (.pointer none)).setCell ⟨M.x, 4, none⟩ (.pointer none)) g ty cs := fun hb hne => (hb.far (hb.blk_ne D.xb hne) _).far (hb.blk_ne D.xb hne) _
  have farR : ∀ {g sz n k : Nat} {ty : TypeId} {cs : List Value}, Rw W1 g ty sz n k cs → ty ≠ 126 → Rw ((W1.setCell ⟨M.x, 3, none⟩ (.pointer none)).setCell ⟨M.x, 4, none⟩ (.pointer none)) g ty sz n k cs := fun hb hne => (hb.far (hb.blk_ne D.xb hne) _).far (hb.blk_ne D.xb hne) _
  have farO : ∀ {B' e z n : Nat} {v : Value} {cs : List Value}, W1.ownsRow B' e z v n cs → e ≠ 126 → ((W1.setCell ⟨M.x, 3, none⟩ (.pointer none)).setCell ⟨M.x, 4, none⟩ (.pointer none)).ownsRow B' e z v n cs := fun hb hne => own_setf (own_setf hb (own_blk_ne hb D.xb hne) _) (own_blk_ne hb D.xb hne) _
  have other : ∀ {g : Nat} {ty : TypeId} {cs : List Value}, Blk W g ty cs → mineT ty = false → ty ≠ 101 → ty ≠ lkT h.lk.kd → ty ≠ tkT p → Blk W1 g ty cs := fun hb h1 h2 h3 h4 => F.blk hb h1 (fun e => by
    rcases e with e | e | e
    · exact hb.blk_ne k1 h2 e
    · exact hb.blk_ne k2 h3 e
    · exact hb.blk_ne k6 h4 e)
  have nolk : ∀ {ty : TypeId}, ty ∉ [147, 150, 153, 156, 159, 144] → ty ≠ lkT h.lk.kd := fun hn e => hn (e ▸ lkT_in _)
  have notk : ∀ {ty : TypeId}, ty ∉ [107, 110, 113, 116] → ty ≠ tkT p := fun hn e => hn (e ▸ tkT_in _)
  have cvals : calVals (m.calls.set ln (bif s.over then { c with pt := s.d.pt, fin := m.moves, ak := s.d.ak, av := s.d.av } else { c with pt := s.d.pt })) = cc1.set (ln * 9 + 6) (.int .i64 s.d.pt) := by
    rw [hcc]
    cases s.over with
    | true =>
      have := calVals_set hc m.moves s.d.pt s.d.ak s.d.av
      refine this.trans ?_
      show _ = ((((calVals m.calls).set (ln * 9 + 5) _).set (ln * 9 + 7) _).set (ln * 9 + 8) _).set (ln * 9 + 6) _
      rw [List.set_comm _ _ (show ln * 9 + 8 ≠ ln * 9 + 6 by omega), List.set_comm _ _ (show ln * 9 + 7 ≠ ln * 9 + 6 by omega)]
    | false =>
      have := calVals_set hc c.fin s.d.pt c.ak c.av
      refine this.trans ?_
      show _ = (calVals m.calls).set (ln * 9 + 6) _
      rw [set_same (calVals_get hc 5 (by omega)), set_same (l := (calVals m.calls).set (ln * 9 + 6) _) (i := ln * 9 + 7) (by rw [List.getElem?_set_ne (by omega)]; exact calVals_get hc 7 (by omega)), set_same (l := (calVals m.calls).set (ln * 9 + 6) _) (i := ln * 9 + 8) (by rw [List.getElem?_set_ne (by omega)]; exact calVals_get hc 8 (by omega))]
  have svals : thVals { M with vl := vl, va := va } 0 (m.ths.set t ⟨bif s.over then none else some s.task, true, h.last, s.d.ak, s.d.av, s.lk, s.alone, s.shares⟩) = (sc1.set (t * 5 + 3) (.int .i64 s.d.ak)).set (t * 5 + 4) (.int .i64 s.d.av) := by
    have := thVals_set (M := M) (M' := { M with vl := vl, va := va }) (h' := ⟨bif s.over then none else some s.task, true, h.last, s.d.ak, s.d.av, s.lk, s.alone, s.shares⟩) 0 hh (fun _ _ => rfl)
    refine this.trans ?_
    congr 2
    rw [hsc]
    have e2 : (thVals M 0 m.ths)[t * 5 + 2]? = some (.int .i64 h.last) := thVals_get 0 hh 2 (by omega)
    have e0 : (thVals M 0 m.ths)[t * 5]? = some (.iface (tkP p) (.pointer (some ⟨M.tb (0 + t), 0, none⟩))) := by
      have := thVals_get (M := M) 0 hh 0 (by omega)
      rw [show t * 5 + 0 = t * 5 from rfl] at this
      rw [this]
      show some (tkV M (0 + t) h.task) = _
      rw [hp]
      rfl
    cases s.over with
    | true =>
      show (((thVals M 0 m.ths).set (t * 5) .nilIface).set (t * 5 + 1) _).set (t * 5 + 2) _ = ((thVals M 0 m.ths).set (t * 5 + 1) _).set (t * 5) _
      rw [List.set_comm _ _ (show t * 5 ≠ t * 5 + 1 by omega), set_same (l := (((thVals M 0 m.ths).set (t * 5 + 1) _).set (t * 5) _)) (i := t * 5 + 2) (by rw [List.getElem?_set_ne (by omega), List.getElem?_set_ne (by omega)]; exact e2)]
    | false =>
      show (((thVals M 0 m.ths).set (t * 5) (.iface (tkP s.task) (.pointer (some ⟨M.tb (0 + t), 0, none⟩)))).set (t * 5 + 1) _).set (t * 5 + 2) _ = (thVals M 0 m.ths).set (t * 5 + 1) _
      rw [hs2, set_same e0, set_same (l := ((thVals M 0 m.ths).set (t * 5 + 1) _)) (i := t * 5 + 2) (by rw [List.getElem?_set_ne (by omega)]; exact e2)]
  have get : ∀ (i : Nat) (g : Th), (m.after t ln h c s).ths[i]? = some g → (i = t ∧ g = ⟨bif s.over then none else some s.task, true, h.last, s.d.ak, s.d.av, s.lk, s.alone, s.shares⟩) ∨ (i ≠ t ∧ m.ths[i]? = some g) := by
    intro i g hg
    by_cases hi : i = t
    · subst hi
      unfold Mc.after at hg
      dsimp only at hg
      rw [List.getElem?_set_self htn] at hg
      injection hg with hg
      exact Or.inl ⟨rfl, hg.symm⟩
    · unfold Mc.after at hg
      dsimp only at hg
      rw [List.getElem?_set_ne (fun e => hi e.symm)] at hg
      exact Or.inr ⟨hi, hg⟩
  have lt_of : ∀ {i : Nat} {g : Th}, m.ths[i]? = some g → i < m.ths.length := fun hg => (List.getElem?_eq_some_iff.1 hg).1
  have len : (m.after t ln h c s).ths.length = m.ths.length := by unfold Mc.after; dsimp only; rw [List.length_set]
  have lenc : (m.after t ln h c s).calls.length = m.calls.length := by unfold Mc.after; dsimp only; rw [List.length_set]
  refine ⟨⟨s.d.th, s.d.now, s.d.used, ?_⟩, ⟨s.d.now, ?_⟩, ?_, ?_, ⟨n, xs, hn, ?_⟩, ?_, ?_, ?_, ?_, ?_, ?_, ?_, ?_, ?_, ?_, H.bx, H.by_, H.bw, H.bs, ?_, ?_, ?_⟩
  · rw [len]
    exact (D.xb.set_ 3 (.pointer none)).set_ 4 (.pointer none)
  · exact far D.yb (by decide)
  · exact farR D.wr (by decide)
  · exact farO D.lo (by decide)
  · exact farO ha (by decide)
  · rw [lenc]
    have := (farR D.cl (by decide)).own hcB
    dsimp only at this ⊢
    rw [hvc]
    unfold Mc.after
    dsimp only
    rw [cvals]
    exact this
  · rw [len]
    unfold Mc.after
    dsimp only
    rw [svals]
    exact farR D.se (by decide)
  · rw [len]
    exact far (other H.sv rfl (by decide) (nolk (by decide)) (notk (by decide))) (by decide)
  · obtain ⟨a, hv⟩ := H.cv
    exact ⟨a, far (other hv rfl (by decide) (nolk (by decide)) (notk (by decide))) (by decide)⟩
  · rw [len]
    exact far (other H.lr rfl (by decide) (nolk (by decide)) (notk (by decide))) (by decide)
  · intro i g hg
    rcases get i g hg with ⟨rfl, rfl⟩ | ⟨hi, hg⟩
    · exact ⟨far T.se (by decide), far T.lk (fun e => by have := lkT_mine s.lk.kd; rw [e] at this; exact absurd this (by decide)), hs3.trans k3, k4, k5⟩
    · obtain ⟨q1, q2, q3, q4, q5⟩ := H.ts i g hg
      refine ⟨far (F.blk q1 rfl ?_) (by decide), far (F.blk q2 (lkT_mine _) ?_) (fun e => by have := lkT_mine g.lk.kd; rw [e] at this; exact absurd this (by decide)), q3, q4, q5⟩
      · rintro (e | e | e)
        · exact hi (H.i1 i t (lt_of hg) htn e)
        · exact (k2.blk_ne q1 (lkT_seat _)) e.symm
        · exact (k6.blk_ne q1 (tkT_seat _)) e.symm
      · rintro (e | e | e)
        · exact (q2.blk_ne k1 (lkT_seat _)) e
        · exact hi (H.i2 i t (lt_of hg) htn e)
        · exact (q2.blk_ne k6 (lkT_tk _ _)) e
  · intro i g p' hg hp'
    rw [lenc]
    rcases get i g hg with ⟨rfl, rfl⟩ | ⟨hi, hg⟩
    · cases ho : s.over with
      | true => rw [ho] at hp'; cases hp'
      | false =>
        rw [ho] at hp'
        injection hp' with hp'
        subst hp'
        exact ⟨far T.tk (fun e => by have := tkT_mine s.task; rw [e] at this; exact absurd this (by decide)), k7, k8, k9⟩
    · obtain ⟨q1, q2, q3, q4⟩ := H.tk i g p' hg hp'
      refine ⟨far (F.blk q1 (tkT_mine _) ?_) (fun e => by have := tkT_mine p'; rw [e] at this; exact absurd this (by decide)), q2, q3, q4⟩
      rintro (e | e | e)
      · exact (q1.blk_ne k1 (tkT_seat _)) e
      · exact (k2.blk_ne q1 (lkT_tk _ _)) e.symm
      · exact hi (H.i3 i t g h p' p hg hh hp' hp e)
  · rw [len]; exact H.i1
  · rw [len]; exact H.i2
  · intro i j g g' p1 p2 h1 h2 h3 h4 h5
    have back : ∀ (i : Nat) (g : Th) (p1 : Tp), (m.after t ln h c s).ths[i]? = some g → g.task = some p1 → ∃ g0 p0, m.ths[i]? = some g0 ∧ g0.task = some p0 := by
      intro i g p1 h1 h3
      rcases get i g h1 with ⟨rfl, rfl⟩ | ⟨hi, hg⟩
      · exact ⟨h, p, hh, hp⟩
      · exact ⟨g, p1, hg, h3⟩
    obtain ⟨a1, a2, a3, a4⟩ := back i g p1 h1 h3
    obtain ⟨b1, b2, b3, b4⟩ := back j g' p2 h2 h4
    exact H.i3 i j a1 b1 a2 b2 a3 b3 a4 b4 h5
  · rw [lenc]
    unfold Mc.after
    dsimp only
    refine ⟨by omega, hmv, hml⟩
  · rw [len]; exact H.nt
  · obtain ⟨o, ho, hk⟩ := H.kit
    have h1 := F.keep _ o (fun e => by
      rcases e with e | e | e
      · exact hk.ne ho k1 e
      · exact hk.ne ho k2 e
      · exact hk.ne ho k6 e) ho hk.mine
    have hx := hk.ne h1 D.xb
    exact ⟨o, (Below.heap_setCell _ _ _ _ hx).trans ((Below.heap_setCell _ _ _ _ hx).trans h1), hk⟩
end
theorem lkT_ne {x : TypeId} (k : Int) (h : x ∉ [147, 150, 153, 156, 159, 144]) : lkT k ≠ x := fun e => h (e ▸ lkT_in k)
theorem tkT_ne {x : TypeId} (p : Tp) (h : x ∉ [107, 110, 113, 116]) : tkT p ≠ x := fun e => h (e ▸ tkT_in p)
theorem Blk.drew {w : World} {g : Nat} {t : TypeId} {cs : List Value} (h : Blk w g t cs) : Blk w.drew g t cs := h
section
variable {W : World} {B s lb tb : Nat} {L : DL} {vl va : Value} {t : Ts}
theorem TsM.call (h : TsM W B L s lb tb vl va t) (i : Nat) (hi : i ≠ L.co + 6) (u : Value) : TsM (W.setCell ⟨L.cg, i, none⟩ u) B { L with cc := L.cc.set i u } s lb tb vl va t :=
  ⟨h.dm.call i hi u, h.se.far (h.dm.cl.blk_ne h.se (by decide)).symm _, Blk.far h.lk (h.dm.cl.blk_ne h.lk (lkT_ne _ (by decide)).symm).symm _, h.tk.far (h.dm.cl.blk_ne h.tk (tkT_ne _ (by decide)).symm).symm _⟩
theorem TsM.seat (h : TsM W B L s lb tb vl va t) (i : Nat) (hi : i ≠ L.so ∧ i ≠ L.so + 1) (u : Value) : TsM (W.setCell ⟨L.sg, i, none⟩ u) B { L with sc := L.sc.set i u } s lb tb vl va t :=
  ⟨h.dm.seat i hi u, h.se.far (h.dm.se.blk_ne h.se (by decide)).symm _, Blk.far h.lk (h.dm.se.blk_ne h.lk (lkT_ne _ (by decide)).symm).symm _, h.tk.far (h.dm.se.blk_ne h.tk (tkT_ne _ (by decide)).symm).symm _⟩
theorem TsM.frC {X : Nat → Prop} {W0 : World} (h : TsM W B L s lb tb vl va t) (f : Fr X B W0 W) (i : Nat) (u : Value) : Fr X B W0 (W.setCell ⟨L.cg, i, none⟩ u) := f.setCell h.dm.bc (Or.inr (Rw.mine h.dm.cl rfl)) u
theorem TsM.frS {X : Nat → Prop} {W0 : World} (h : TsM W B L s lb tb vl va t) (f : Fr X B W0 W) (i : Nat) (u : Value) : Fr X B W0 (W.setCell ⟨L.sg, i, none⟩ u) := f.setCell h.dm.bs (Or.inr (Rw.mine h.dm.se rfl)) u
theorem TsM.drew (h : TsM W B L s lb tb vl va t) : TsM W.drew B L s lb tb vl va t := ⟨h.dm.on (Below.refl _ W).drew, h.se, h.lk, h.tk⟩
end
theorem MM.drew {W : World} {B : Nat} {M : ML} {m : Mc} (h : MM W B M m) : MM W.drew B M m :=
  ⟨h.xb, h.yb, h.wr, h.lo, h.ah, h.ca, h.se, h.sv, h.cv, h.lr, h.ts, h.tk, h.i1, h.i2, h.i3, h.bx, h.by_, h.bw, h.bs, h.nm, h.nt, h.kit⟩
end Go.Proofs.Ytjnmlgfkiebkgaa
