/-
  From the whole machine to the desk of a step, and back.
-/
import Derived.Test.YtjnmlgfkiebkgaaLmk
namespace Go.Proofs.Ytjnmlgfkiebkgaa
open Go.RowKit
set_option linter.unusedVariables false
set_option linter.unusedSimpArgs false

/-- all but the blocks x and y stays -/
def Oth (x y : Nat) (w w' : World) : Prop := w.heap.size ≤ w'.heap.size ∧ ∀ b, b < w.heap.size → b ≠ x → b ≠ y → w'.heap[b]? = w.heap[b]?
section
variable {x y : Nat} {w w' : World} {B : Nat}
theorem Oth.refl (x y : Nat) (w : World) : Oth x y w w := ⟨Nat.le_refl _, fun _ _ _ _ => rfl⟩
theorem Oth.setx (h : Oth x y w w') (i : Nat) (u : Value) : Oth x y w (w'.setCell ⟨x, i, none⟩ u) := ⟨by simpa using h.1, fun b h1 h2 h3 => (Below.heap_setCell w' _ u b h2).trans (h.2 b h1 h2 h3)⟩
theorem Oth.sety (h : Oth x y w w') (i : Nat) (u : Value) : Oth x y w (w'.setCell ⟨y, i, none⟩ u) := ⟨by simpa using h.1, fun b h1 h2 h3 => (Below.heap_setCell w' _ u b h3).trans (h.2 b h1 h2 h3)⟩
theorem Oth.drew (h : Oth x y w w') : Oth x y w w'.drew := h
theorem Oth.alloc (h : Oth x y w w') (o : Obj) : Oth x y w (w'.alloc o) := ⟨by rw [World.size_alloc]; exact Nat.le_trans h.1 (Nat.le_succ _), fun b h1 h2 h3 => (Below.heap_alloc w' o b (Nat.lt_of_lt_of_le h1 h.1)).trans (h.2 b h1 h2 h3)⟩
theorem Oth.blk {tx ty : TypeId} {cx cy : List Value} {g : Nat} {t : TypeId} {cs : List Value} (h : Oth x y w w') (hx : Blk w x tx cx) (hy : Blk w y ty cy) (hb : Blk w g t cs) (h1 : t ≠ tx) (h2 : t ≠ ty) : Blk w' g t cs :=
  hb.kept (h.2 g hb.lt (hb.blk_ne hx h1) (hb.blk_ne hy h2))
theorem Oth.rw {tx ty : TypeId} {cx cy : List Value} {g sz n k : Nat} {t : TypeId} {cs : List Value} (h : Oth x y w w') (hx : Blk w x tx cx) (hy : Blk w y ty cy) (hb : Rw w g t sz n k cs) (h1 : t ≠ tx) (h2 : t ≠ ty) : Rw w' g t sz n k cs :=
  hb.kept (h.2 g hb.lt (hb.blk_ne hx h1) (hb.blk_ne hy h2))
theorem Oth.own {tx ty : TypeId} {cx cy : List Value} {B' e s n : Nat} {v : Value} {cs : List Value} (h : Oth x y w w') (hx : Blk w x tx cx) (hy : Blk w y ty cy) (hb : w.ownsRow B' e s v n cs) (h1 : e ≠ tx) (h2 : e ≠ ty) : w'.ownsRow B' e s v n cs :=
  ⟨hb.1, hb.2.imp id fun ⟨g, cap, cur, e1, h3, h4, h5⟩ => ⟨g, cap, cur, e1, h3, (h.2 g (Array.getElem?_eq_some_iff.1 h4).1 (fun e9 => own_blk_ne hb hx h1 (by rw [e1, ← e9]; rfl)) (fun e9 => own_blk_ne hb hy h2 (by rw [e1, ← e9]; rfl))).trans h4, h5⟩⟩
end
/-- the desk of a step of thread t -/
abbrev deskL (M : ML) (m : Mc) (t ln cg kc : Nat) : DL := ⟨M.x, M.y, M.wb, M.wk, cg, m.calls.length, kc, ln * 9, calVals m.calls, M.sg, m.ths.length, M.sk, t * 5 + 3, thVals M 0 m.ths, [.map (some M.kb), .slice (some ⟨M.sg, 0, none⟩) m.ths.length M.sk, .int .i64 (m.moves + 1), M.vc]⟩
abbrev desk0 (m : Mc) (t : Nat) (c : Cal) (h : Th) : Dk := ⟨m.words, m.log, t, m.moves, false, c.pt, h.ak, h.av⟩
section
variable {W W' : World} {B : Nat} {M : ML} {m : Mc} {t ln cg kc : Nat} {h : Th} {p : Tp} {c : Cal}
theorem MM.desk (H : MM W B M { m with moves := m.moves + 1 }) (hh : m.ths[t]? = some h) (hc : m.calls[ln]? = some c) (hcB : B ≤ cg) (hr : Rw W cg 62 9 m.calls.length kc (calVals m.calls)) (ho : Oth M.x M.y W W')
    (hx : Blk W' M.x 126 ((deskL M m t ln cg kc).xs (desk0 m t c h))) (hy : Blk W' M.y 170 [.slice (some ⟨M.wb, 0, none⟩) m.words.length M.wk, M.vl, M.va, .int .i64 m.moves]) :
    DM W' B (deskL M m t ln cg kc) M.vl M.va (desk0 m t c h) := by
  obtain ⟨_, _, _, kx⟩ := H.xb
  obtain ⟨_, ky⟩ := H.yb
  obtain ⟨n, xs, hn, ha⟩ := H.ah
  have hlc : ln < m.calls.length := (List.getElem?_eq_some_iff.1 hc).1
  have htn : t < m.ths.length := (List.getElem?_eq_some_iff.1 hh).1
  refine ⟨hx, hy, ho.rw kx ky H.wr (by decide) (by decide), ho.own kx ky H.lo (by decide) (by decide), ⟨n, xs, hn, ho.own kx ky ha (by decide) (by decide)⟩, ?_, ?_, ?_, ?_, H.bx, H.by_, H.bw, hcB, H.bs⟩
  · have := ho.rw kx ky hr (by decide) (by decide)
    dsimp only
    rw [set_same (calVals_get hc 6 (by omega))]
    exact this
  · have := ho.rw kx ky H.se (by decide) (by decide)
    dsimp only
    have e3 := thVals_get (M := M) 0 hh 3 (by omega)
    have e4 := thVals_get (M := M) 0 hh 4 (by omega)
    rw [set_same e3, set_same (show (thVals M 0 m.ths)[t * 5 + 3 + 1]? = some (.int .i64 h.av) from e4)]
    exact this
  · dsimp only; rw [calVals_len]; omega
  · dsimp only; rw [thVals_len]; omega
end
section
variable {W : World} {B : Nat} {L : DL} {vl va : Value} {d : Dk}
/-- another cell of the seats -/
theorem DM.seat (h : DM W B L vl va d) (i : Nat) (hi : i ≠ L.so ∧ i ≠ L.so + 1) (u : Value) : DM (W.setCell ⟨L.sg, i, none⟩ u) B { L with sc := L.sc.set i u } vl va d := by
  obtain ⟨n, xs, hn, ha⟩ := h.ah
  refine ⟨h.xb.far (h.se.blk_ne h.xb (by decide)).symm _, h.yb.far (h.se.blk_ne h.yb (by decide)).symm _, h.wr.far (h.wr.rw_ne h.se (by decide)) _, own_setf h.lo (own_rw_ne h.lo h.se (by decide)) _, ⟨n, xs, hn, own_setf ha (own_rw_ne ha h.se (by decide)) _⟩,
    h.cl.far (h.cl.rw_ne h.se (by decide)) _, ?_, h.co, by simpa using h.so, h.bx, h.by_, h.bw, h.bc, h.bs⟩
  have := h.se.set_ i u
  rw [List.set_comm _ _ (fun e => hi.2 e.symm), List.set_comm _ _ (fun e => hi.1 e.symm)] at this
  exact this
/-- another cell of the calls -/
theorem DM.call (h : DM W B L vl va d) (i : Nat) (hi : i ≠ L.co + 6) (u : Value) : DM (W.setCell ⟨L.cg, i, none⟩ u) B { L with cc := L.cc.set i u } vl va d := by
  obtain ⟨n, xs, hn, ha⟩ := h.ah
  refine ⟨h.xb.far (h.cl.blk_ne h.xb (by decide)).symm _, h.yb.far (h.cl.blk_ne h.yb (by decide)).symm _, h.wr.far (h.wr.rw_ne h.cl (by decide)) _, own_setf h.lo (own_rw_ne h.lo h.cl (by decide)) _, ⟨n, xs, hn, own_setf ha (own_rw_ne ha h.cl (by decide)) _⟩,
    ?_, h.se.far (h.se.rw_ne h.cl (by decide)) _, by simpa using h.co, h.so, h.bx, h.by_, h.bw, h.bc, h.bs⟩
  have := h.cl.set_ i u
  rw [List.set_comm _ _ (fun e => hi e.symm)] at this
  exact this
end
theorem tkP_ready (s : Ts) : tkP s.ready.task = tkP s.task := by
  obtain ⟨o, p, l, a, b, d⟩ := s
  cases p <;> rfl
theorem tkP_step (s : Ts) : tkP s.step.task = tkP s.task := by
  obtain ⟨o, p, l, a, b, d⟩ := s
  cases p with
  | acq => rfl
  | rel => rfl
  | shr x y k =>
    unfold Ts.step
    dsimp only
    cases k
    · rfl
    · cases (d.swap 1 (uw y) (uw (iw (y + x)))).1 <;> rfl
  | tch c k =>
    unfold Ts.step
    dsimp only
    cases k <;> rfl
theorem kd_ready (s : Ts) : s.ready.lk.kd = s.lk.kd := by
  obtain ⟨o, p, l, a, b, d⟩ := s
  cases p with
  | acq => exact lk_kd_beg l d
  | _ => rfl
theorem kd_step (s : Ts) : s.step.lk.kd = s.lk.kd := by
  obtain ⟨o, p, l, a, b, d⟩ := s
  cases p with
  | acq => exact lk_kd_acq l d
  | rel => exact lk_kd_rel l d
  | shr x y k =>
    unfold Ts.step
    dsimp only
    cases k
    · rfl
    · cases (d.swap 1 (uw y) (uw (iw (y + x)))).1 <;> rfl
  | tch c k =>
    unfold Ts.step
    dsimp only
    cases k <;> rfl
end Go.Proofs.Ytjnmlgfkiebkgaa
