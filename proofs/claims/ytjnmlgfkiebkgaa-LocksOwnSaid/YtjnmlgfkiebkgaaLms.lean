/-
  machine.step: a step of a busy thread.
-/
import Derived.Test.YtjnmlgfkiebkgaaLbk
import Derived.Test.YtjnmlgfkiebkgaaLsu
import Derived.Test.YtjnmlgfkiebkgaaLsh
namespace Go.Proofs.Ytjnmlgfkiebkgaa
open Go.RowKit
set_option linter.unusedVariables false
set_option linter.unusedSimpArgs false

/-- what a kind's lock does when it is acquired and released -/
structure KOk (kd : Int) : Prop where
  acqS : ∀ {W : World} {B db lb s tb : Nat} {L : DL} {vl va : Value} {t : Ts}, t.lk.kd = kd → t.task = .acq → TsM W B L s lb tb vl va t → Dsk W db L → B ≤ s → B ≤ lb → t.d.log.length ≤ 100000 →
    Calls Try.prog 87 #[.pointer (some ⟨tb, 0, none⟩), .pointer (some ⟨db, 0, none⟩)] W (TsR B L s lb tb W t.step)
  acqR : ∀ {W : World} {B db lb s tb : Nat} {L : DL} {vl va : Value} {t : Ts}, t.lk.kd = kd → t.task = .acq → TsM W B L s lb tb vl va t → Dsk W db L → B ≤ s → B ≤ lb → t.d.log.length ≤ 100000 →
    Calls Try.prog 86 #[.pointer (some ⟨tb, 0, none⟩), .pointer (some ⟨db, 0, none⟩)] W (TsR B L s lb tb W t.ready)
  relS : ∀ {W : World} {B db lb s tb : Nat} {L : DL} {vl va : Value} {t : Ts}, t.lk.kd = kd → t.task = .rel → TsM W B L s lb tb vl va t → Dsk W db L → B ≤ s → B ≤ lb → t.d.log.length ≤ 100000 →
    Calls Try.prog 90 #[.pointer (some ⟨tb, 0, none⟩), .pointer (some ⟨db, 0, none⟩)] W (TsR B L s lb tb W t.step)
theorem kok2 : KOk 2 := ⟨acqStep_2, acqReady_2, relStep_2⟩
def stepF : Tp → Nat
  | .acq => 87
  | .rel => 90
  | .shr _ _ _ => 92
  | .tch _ _ => 104
def readyF : Tp → Nat
  | .acq => 86
  | .rel => 89
  | .shr _ _ _ => 91
  | .tch _ _ => 103
section
variable {W : World} {B db lb s tb : Nat} {L : DL} {vl va : Value} {t : Ts}
theorem task_step (K : KOk t.lk.kd) (h : TsM W B L s lb tb vl va t) (hd : Dsk W db L) (hB1 : B ≤ s) (hB2 : B ≤ lb) (hB3 : B ≤ tb) (hn : t.d.log.length ≤ 100000) :
    Calls Try.prog (stepF t.task) #[.pointer (some ⟨tb, 0, none⟩), .pointer (some ⟨db, 0, none⟩)] W (TsR B L s lb tb W t.step) := by
  cases ha : t.task with
  | acq => exact K.acqS rfl ha h hd hB1 hB2 hn
  | rel => exact K.relS rfl ha h hd hB1 hB2 hn
  | shr b w k =>
    cases k with
    | false =>
      cases hb : decide (b < 0) with
      | true => exact shrA hb ha h hd hB3 hn
      | false => exact shrB hb ha h hd hB3 hn
    | true =>
      cases hs : (t.d.swap 1 (uw w) (uw (iw (w + b)))).1 with
      | false => exact shrC hs ha h hd hB1 hB3 hn
      | true =>
        cases hp : decide (0 < b) with
        | false => exact shrD hp hs ha h hd hB1 hB3 hn
        | true => exact shrE hp hs ha h hd hB1 hB3 hn
  | tch c k => exact tchStep ha h hd hB3 hn
theorem task_ready (K : KOk t.lk.kd) (h : TsM W B L s lb tb vl va t) (hd : Dsk W db L) (hB1 : B ≤ s) (hB2 : B ≤ lb) (hn : t.d.log.length ≤ 100000) :
    Calls Try.prog (readyF t.task) #[.pointer (some ⟨tb, 0, none⟩), .pointer (some ⟨db, 0, none⟩)] W (TsR B L s lb tb W t.ready) := by
  cases ha : t.task with
  | acq => exact K.acqR rfl ha h hd hB1 hB2 hn
  | rel => exact releasingReady ha h
  | shr b w k => exact sharingReady ⟨b, w, k, ha⟩ h
  | tch c k => exact touchingReady ⟨c, k, ha⟩ h
end
theorem meth_step (p : Tp) (a : Addr) (w : World) : (method 309 (tkP p) (.pointer (some a)) "Step").run Try.prog w = .ok (stepF p, .pointer (some a)) w := by cases p <;> kernel_rfl
theorem meth_ready (p : Tp) (a : Addr) (w : World) : (method 309 (tkP p) (.pointer (some a)) "Ready").run Try.prog w = .ok (readyF p, .pointer (some a)) w := by cases p <;> kernel_rfl
theorem call_step (p : Tp) (a b : Value) (w : World) : (callFunc (stepF p) #[a, b]).run Try.prog w = .ok (.enter (stepF p) #[a, b]) w := by cases p <;> kernel_rfl
theorem call_ready (p : Tp) (a b : Value) (w : World) : (callFunc (readyF p) #[a, b]).run Try.prog w = .ok (.enter (readyF p) #[a, b]) w := by cases p <;> kernel_rfl
set_option maxRecDepth 100000 in
theorem mnow_any {y : Nat} (z : Int) (w : World) (v : Value) (h0 : w.cell? ⟨y, 3, none⟩ = some v) (hf : w.frozen? ⟨y, 3, none⟩ = false) :
    Calls Try.prog 58 #[.pointer (some ⟨y, 0, none⟩), .int .i64 z] w fun e w' => e = .returned (.tuple #[]) ∧ w' = w.setCell ⟨y, 3, none⟩ (.int .i64 z) := by
  go_enter Try.func58, Try.ntmps58
  go_wp2_with fail
  go_end0
  exact ⟨rfl, rfl⟩

theorem stepF_ready (s : Ts) : stepF s.ready.task = stepF s.task := by
  obtain ⟨o, p, l, a, b, d⟩ := s
  cases p <;> rfl
theorem step_after {m : Mc} {t ln : Nat} {h : Th} {p : Tp} {c : Cal} (hln : h.last = ln) (hc : m.calls[ln]? = some c) (hp : h.task = some p) (hr : h.ready = true) : m.step t h p = m.after t ln h c (Ts.step ⟨false, p, h.lk, h.alone, h.shares, desk0 m t c h⟩) := by
  unfold Mc.step Mc.after
  rw [hln, Int.toNat_natCast, hc, hr]
  rfl
theorem step_after2 {m : Mc} {t ln : Nat} {h : Th} {p : Tp} {c : Cal} (hln : h.last = ln) (hc : m.calls[ln]? = some c) (hp : h.task = some p) (hr : h.ready = false) (ho : (Ts.ready ⟨false, p, h.lk, h.alone, h.shares, desk0 m t c h⟩).over = true) : m.step t h p = m.after t ln h c (Ts.ready ⟨false, p, h.lk, h.alone, h.shares, desk0 m t c h⟩) := by
  unfold Mc.step Mc.after
  rw [hln, Int.toNat_natCast, hc, hr]
  dsimp only [Option.getD_some, cond_false]
  rw [ho]
  dsimp only [cond_true]
  rw [ho]
  rfl
theorem step_after3 {m : Mc} {t ln : Nat} {h : Th} {p : Tp} {c : Cal} (hln : h.last = ln) (hc : m.calls[ln]? = some c) (hp : h.task = some p) (hr : h.ready = false) (ho : (Ts.ready ⟨false, p, h.lk, h.alone, h.shares, desk0 m t c h⟩).over = false) : m.step t h p = m.after t ln h c (Ts.ready ⟨false, p, h.lk, h.alone, h.shares, desk0 m t c h⟩).step := by
  unfold Mc.step Mc.after
  rw [hln, Int.toNat_natCast, hc, hr]
  dsimp only [Option.getD_some, cond_false]
  rw [ho]
  rfl

section
variable {W : World} {B : Nat} {M : ML} {m : Mc} {t : Nat} {h : Th} {p : Tp}
set_option maxRecDepth 100000 in
set_option maxHeartbeats 4000000 in
theorem step_any (K : KOk m.kd) (H : MM W B M { m with moves := m.moves + 1 }) (hlog : m.log.length ≤ m.moves) (hh : m.ths[t]? = some h) (hp : h.task = some p) :
    Calls Try.prog 49 #[.pointer (some ⟨M.x, 0, none⟩), .int .i64 t, .int .i64 m.moves] W (fun e w' => e = .returned (.tuple #[]) ∧ (∃ M', M'.x = M.x ∧ MM w' B M' (m.step t h p)) ∧ Bk B W w') := by
  obtain ⟨th0, now0, us0, hx⟩ := H.xb
  obtain ⟨nw0, hy⟩ := H.yb
  have htn : t < m.ths.length := (List.getElem?_eq_some_iff.1 hh).1
  obtain ⟨htk, htB, hla0, hla1⟩ := H.tk t h p hh hp
  obtain ⟨hse, hlk, hkd, hsB, hlB⟩ := H.ts t h hh
  have HTo : Hid (∀ W', Fr (TsX (M.ls t) (M.lb t) (M.tb t)) B W W' → Bk B W W') := fun W' F => Bk.of_fr F hse rfl hlk (forT_lk _) htk (forT_tk _)
  obtain ⟨ln, hln⟩ : ∃ ln : Nat, h.last = ln := ⟨h.last.toNat, by omega⟩
  have hlc : ln < m.calls.length := by dsimp only at hla1; omega
  obtain ⟨c, hc⟩ := at_lt hlc
  obtain ⟨Ac, kc, hvc, hk1, hk2⟩ := own_form H.ca
  have hca := H.ca
  rw [hvc] at hca
  obtain ⟨cg, rfl, hcB, hcr⟩ := Rw.of_own hca (by dsimp only; omega)
  have hmv : m.moves + 1 ≤ 65536 := H.nm.2.1
  have x0 : W.cell? ⟨M.x, 0, none⟩ = some (.pointer (some ⟨M.y, 0, none⟩)) := hx.cell rfl
  have x1 : W.cell? ⟨M.x, 1, none⟩ = some (.int .i64 th0) := hx.cell rfl
  have x2 : W.cell? ⟨M.x, 2, none⟩ = some (.int .i64 now0) := hx.cell rfl
  have x3 : W.cell? ⟨M.x, 3, none⟩ = some (.pointer none) := hx.cell rfl
  have x4 : W.cell? ⟨M.x, 4, none⟩ = some (.pointer none) := hx.cell rfl
  have x5 : W.cell? ⟨M.x, 5, none⟩ = some (.bool us0) := hx.cell rfl
  have x8 : W.cell? ⟨M.x, 8, none⟩ = some (.slice (some ⟨M.sg, 0, none⟩) m.ths.length M.sk) := hx.cell rfl
  have x10 : W.cell? ⟨M.x, 10, none⟩ = some (.slice (some ⟨cg, 0, none⟩) m.calls.length kc) := by rw [hvc] at hx; exact hx.cell rfl
  have y3 : W.cell? ⟨M.y, 3, none⟩ = some (.int .i64 nw0) := hy.cell rfl
  have s2 : W.cell? ⟨M.sg, t * 5 + 2, none⟩ = some (.int .i64 ln) := H.se.cell (by rw [thVals_get 0 hh 2 (by omega), ← hln]; rfl)
  have f1 := hx.frozen 1
  have f2 := hx.frozen 2
  have f3 := hx.frozen 3
  have f4 := hx.frozen 4
  have f5 := hx.frozen 5
  have g3 := hy.frozen 3
  have lx := hx.lt
  have ly := hy.lt
  have nxy := hy.blk_ne hx (by decide)
  have nsx := H.se.blk_ne hx (by decide)
  have nyx := nxy.symm
  have nxs := nsx.symm
  have ntn : (t : Int) < m.ths.length := by omega
  have nlc : (ln : Int) < m.calls.length := by omega
  have hsW : B ≤ W.heap.size := Nat.le_trans H.bx (Nat.le_of_lt hx.lt)
  have HM := Lib.hid H
  have HX := Lib.hid hx
  have HY := Lib.hid hy
  have HC := Lib.hid hcr
  clear H hx hy hcr hca
  go_enter Try.func49, Try.ntmps49
  go_upto_region 3 with fail
  go_region
  have hO3 : Oth M.x M.y W (((((W.setCell ⟨M.x, 1, none⟩ (.int .i64 t)).setCell ⟨M.x, 2, none⟩ (.int .i64 m.moves)).setCell ⟨M.x, 5, none⟩ (.bool false)).setCell ⟨M.x, 3, none⟩ (.pointer (some ⟨cg, ln * 9, none⟩))).setCell ⟨M.x, 4, none⟩ (.pointer (some ⟨M.sg, t * 5 + 3, none⟩))).drew := ((((((Oth.refl _ _ _).setx 1 _).setx 2 _).setx 5 _).setx 3 _).setx 4 _).drew
  have hBx := HM.out.bx
  have hB3 : Below B W (((((W.setCell ⟨M.x, 1, none⟩ (.int .i64 t)).setCell ⟨M.x, 2, none⟩ (.int .i64 m.moves)).setCell ⟨M.x, 5, none⟩ (.bool false)).setCell ⟨M.x, 3, none⟩ (.pointer (some ⟨cg, ln * 9, none⟩))).setCell ⟨M.x, 4, none⟩ (.pointer (some ⟨M.sg, t * 5 + 3, none⟩))).drew := ((((((Below.refl _ _).setCell hBx _).setCell hBx _).setCell hBx _).setCell hBx _).setCell hBx _).drew
  have hX3 : Blk (((((W.setCell ⟨M.x, 1, none⟩ (.int .i64 t)).setCell ⟨M.x, 2, none⟩ (.int .i64 m.moves)).setCell ⟨M.x, 5, none⟩ (.bool false)).setCell ⟨M.x, 3, none⟩ (.pointer (some ⟨cg, ln * 9, none⟩))).setCell ⟨M.x, 4, none⟩ (.pointer (some ⟨M.sg, t * 5 + 3, none⟩))).drew M.x 126 [.pointer (some ⟨M.y, 0, none⟩), .int .i64 t, .int .i64 m.moves, .pointer (some ⟨cg, ln * 9, none⟩), .pointer (some ⟨M.sg, t * 5 + 3, none⟩), .bool false, .slice none 0 0, .map (some M.kb), .slice (some ⟨M.sg, 0, none⟩) m.ths.length M.sk, .int .i64 (m.moves + 1), M.vc] := (((((HX.out.set_ 1 (.int .i64 t)).set_ 2 (.int .i64 m.moves)).set_ 5 (.bool false)).set_ 3 (.pointer (some ⟨cg, ln * 9, none⟩))).set_ 4 (.pointer (some ⟨M.sg, t * 5 + 3, none⟩))).drew
  have hY3 : Blk (((((W.setCell ⟨M.x, 1, none⟩ (.int .i64 t)).setCell ⟨M.x, 2, none⟩ (.int .i64 m.moves)).setCell ⟨M.x, 5, none⟩ (.bool false)).setCell ⟨M.x, 3, none⟩ (.pointer (some ⟨cg, ln * 9, none⟩))).setCell ⟨M.x, 4, none⟩ (.pointer (some ⟨M.sg, t * 5 + 3, none⟩))).drew M.y 170 [.slice (some ⟨M.wb, 0, none⟩) m.words.length M.wk, M.vl, M.va, .int .i64 nw0] := (((((HY.out.far nxy _).far nxy _).far nxy _).far nxy _).far nxy _).drew
  go_upto_region 4 with fail
  generalize (((((W.setCell ⟨M.x, 1, none⟩ (.int .i64 t)).setCell ⟨M.x, 2, none⟩ (.int .i64 m.moves)).setCell ⟨M.x, 5, none⟩ (.bool false)).setCell ⟨M.x, 3, none⟩ (.pointer (some ⟨cg, ln * 9, none⟩))).setCell ⟨M.x, 4, none⟩ (.pointer (some ⟨M.sg, t * 5 + 3, none⟩))).drew = W3 at hO3 hB3 hX3 hY3 ⊢
  have z0 : W3.cell? ⟨M.x, 0, none⟩ = some (.pointer (some ⟨M.y, 0, none⟩)) := hX3.cell rfl
  have HO3 := Lib.hid hO3
  have HB3 := Lib.hid hB3
  have HX3 := Lib.hid hX3
  have HY3 := Lib.hid hY3
  clear hO3 hB3 hX3 hY3 x0 x1 x2 x3 x4 x5 x8 x10 y3 s2 f1 f2 f3 f4 f5 g3
  go_wp2_with fail
  refine (mnow_any m.moves W3 (.int .i64 nw0) (HY3.out.cell rfl) (HY3.out.frozen 3)).mono ?_
  rintro e w1 ⟨rfl, rfl⟩
  have hO5 : Oth M.x M.y W ((W3.setCell ⟨M.y, 3, none⟩ (.int .i64 m.moves)).alloc (.cells #[.pointer (some ⟨M.x, 0, none⟩)] 166)) := (HO3.out.sety 3 _).alloc _
  have hX5 : Blk ((W3.setCell ⟨M.y, 3, none⟩ (.int .i64 m.moves)).alloc (.cells #[.pointer (some ⟨M.x, 0, none⟩)] 166)) M.x 126 ((deskL M m t ln cg kc).xs (desk0 m t c h)) := (HX3.out.far nyx _).alloc _
  have hY5 : Blk ((W3.setCell ⟨M.y, 3, none⟩ (.int .i64 m.moves)).alloc (.cells #[.pointer (some ⟨M.x, 0, none⟩)] 166)) M.y 170 [.slice (some ⟨M.wb, 0, none⟩) m.words.length M.wk, M.vl, M.va, .int .i64 m.moves] := (HY3.out.set_ 3 (.int .i64 m.moves)).alloc _
  have hZ : (W3.setCell ⟨M.y, 3, none⟩ (.int .i64 m.moves)).heap.size = W3.heap.size := by simp
  have hK5 : Dsk ((W3.setCell ⟨M.y, 3, none⟩ (.int .i64 m.moves)).alloc (.cells #[.pointer (some ⟨M.x, 0, none⟩)] 166)) W3.heap.size (deskL M m t ln cg kc) := by
    have := Blk.new (W3.setCell ⟨M.y, 3, none⟩ (.int .i64 m.moves)) 166 [.pointer (some ⟨M.x, 0, none⟩)]
    rw [hZ] at this
    exact this
  have hB5 : Below B W ((W3.setCell ⟨M.y, 3, none⟩ (.int .i64 m.moves)).alloc (.cells #[.pointer (some ⟨M.x, 0, none⟩)] 166)) := (HB3.out.setCell HM.out.by_ _).alloc (by rw [hZ]; exact Nat.le_trans hsW HO3.out.1) _
  go_upto_region 7 with fail
  generalize (W3.setCell ⟨M.y, 3, none⟩ (.int .i64 m.moves)).alloc (.cells #[.pointer (some ⟨M.x, 0, none⟩)] 166) = W5 at hO5 hX5 hY5 hK5 hB5 ⊢
  have hD5 := HM.out.desk hh hc hcB HC.out hO5 hX5 hY5
  have hF5 : Fr (TsX (M.ls t) (M.lb t) (M.tb t)) B W W5 := hO5.fr hB5 (HX.out.mine rfl) (HY.out.mine rfl)
  have hT5 : TsM W5 B (deskL M m t ln cg kc) (M.ls t) (M.lb t) (M.tb t) M.vl M.va ⟨false, p, h.lk, h.alone, h.shares, desk0 m t c h⟩ :=
    ⟨hD5, hO5.blk HX.out HY.out hse (by decide) (by decide), hO5.blk HX.out HY.out hlk (lkT_ne _ (by decide)) (lkT_ne _ (by decide)), hO5.blk HX.out HY.out htk (tkT_ne _ (by decide)) (tkT_ne _ (by decide))⟩
  have s1 : W5.cell? ⟨M.sg, t * 5 + 1, none⟩ = some (.bool h.ready) := hD5.se.cell (by
    dsimp only
    rw [List.getElem?_set_ne (by omega), List.getElem?_set_ne (by omega)]
    exact thVals_get 0 hh 1 (by omega))
  have g1 := hD5.se.frozen (t * 5 + 1)
  have s0 : W5.cell? ⟨M.sg, t * 5, none⟩ = some (.iface (tkP p) (.pointer (some ⟨M.tb t, 0, none⟩))) := hD5.se.cell (by
    dsimp only
    rw [List.getElem?_set_ne (by omega), List.getElem?_set_ne (by omega)]
    have := thVals_get (M := M) 0 hh 0 (by omega)
    rw [show t * 5 + 0 = t * 5 from rfl] at this
    rw [this]
    show some (tkV M (0 + t) h.task) = _
    rw [hp, Nat.zero_add]
    rfl)
  have HO5 := Lib.hid hO5
  have HT5 := Lib.hid hT5
  have HK5 := Lib.hid hK5
  have HF5 := Lib.hid hF5
  clear hO5 hX5 hY5 hK5 hB5 hD5 hF5 hT5 HO3 HB3 HX3 HY3 hZ
  have ms := meth_step p ⟨M.tb t, 0, none⟩
  have mr := meth_ready p ⟨M.tb t, 0, none⟩
  have cs := call_step p (.pointer (some ⟨M.tb t, 0, none⟩)) (.pointer (some ⟨W3.heap.size, 0, none⟩))
  have cr := call_ready p (.pointer (some ⟨M.tb t, 0, none⟩)) (.pointer (some ⟨W3.heap.size, 0, none⟩))
  have K' : KOk h.lk.kd := by rw [hkd]; exact K
  have e0 : (thVals M 0 m.ths)[t * 5]? = some (.iface (tkP p) (.pointer (some ⟨M.tb t, 0, none⟩))) := by
    have := thVals_get (M := M) 0 hh 0 (by omega)
    rw [show t * 5 + 0 = t * 5 from rfl] at this
    rw [this]
    show some (tkV M (0 + t) h.task) = _
    rw [hp, Nat.zero_add]
    rfl
  have e1 : (thVals M 0 m.ths)[t * 5 + 1]? = some (.bool h.ready) := thVals_get 0 hh 1 (by omega)
  have hlg5 : (Ts.mk false p h.lk h.alone h.shares (desk0 m t c h)).d.log.length ≤ 100000 := by dsimp only; omega
  cases hrd : h.ready with
  | true =>
    rw [hrd] at s1 e1
    have T5 : TsM W5 B { deskL M m t ln cg kc with sc := (thVals M 0 m.ths).set (t * 5 + 1) (.bool true) } (M.ls t) (M.lb t) (M.tb t) M.vl M.va ⟨false, p, h.lk, h.alone, h.shares, desk0 m t c h⟩ := by
      rw [set_same e1]
      exact HT5.out
    have hst9 : m.step t h p = m.after t ln h c (Ts.step ⟨false, p, h.lk, h.alone, h.shares, desk0 m t c h⟩) := step_after hln hc hp hrd
    have hsl := lg_step ⟨false, p, h.lk, h.alone, h.shares, desk0 m t c h⟩
    have hsp := tkP_step ⟨false, p, h.lk, h.alone, h.shares, desk0 m t c h⟩
    have hsk := kd_step ⟨false, p, h.lk, h.alone, h.shares, desk0 m t c h⟩
    have HT := Lib.hid T5
    have HRD := Lib.hid hrd
    clear hrd T5
    go_wp2_with fail
    refine (task_step K' HT.out HK5.out hsB hlB htB hlg5).mono ?_
    rintro e w6 ⟨rfl, ⟨vl6, va6, hT6⟩, hF6⟩
    have HF6 := Lib.hid (HF5.out.trans hF6)
    generalize hs6 : Ts.step ⟨false, p, h.lk, h.alone, h.shares, desk0 m t c h⟩ = s6 at hst9 hsl hsp hsk hT6 ⊢
    have hst := hst9
    have HT6 := Lib.hid hT6
    clear hT6 hF6 hs6 hst9
    cases hov : s6.over with
    | true =>
      have hov2 := Lib.hid hov
      have a10 : w6.cell? ⟨M.x, 10, none⟩ = some (.slice (some ⟨cg, 0, none⟩) m.calls.length kc) := by have := HT6.out.dm.xb.cell (i := 10) rfl; rw [hvc] at this; exact this
      have a2 : w6.cell? ⟨M.sg, t * 5 + 2, none⟩ = some (.int .i64 ln) := HT6.out.dm.se.cell (by
        dsimp only
        rw [List.getElem?_set_ne (by omega), List.getElem?_set_ne (by omega), List.getElem?_set_ne (by omega), thVals_get 0 hh 2 (by omega), ← hln]
        rfl)
      have a3 : w6.cell? ⟨M.sg, t * 5 + 3, none⟩ = some (.int .i64 s6.d.ak) := HT6.out.dm.se.cell (by
        dsimp only
        rw [List.getElem?_set_ne (by omega), List.getElem?_set_self (by rw [List.length_set, thVals_len]; omega)])
      have a4 : w6.cell? ⟨M.sg, t * 5 + 3 + 1, none⟩ = some (.int .i64 s6.d.av) := HT6.out.dm.se.cell (by
        dsimp only
        rw [List.getElem?_set_self (by rw [List.length_set, List.length_set, thVals_len]; omega)])
      have a0 : w6.cell? ⟨M.sg, t * 5, none⟩ = some (.iface (tkP p) (.pointer (some ⟨M.tb t, 0, none⟩))) := HT6.out.dm.se.cell (by
        dsimp only
        rw [List.getElem?_set_ne (by omega), List.getElem?_set_ne (by omega), List.getElem?_set_ne (by omega)]
        exact e0)
      have b5 : w6.cell? ⟨cg, ln * 9 + 5, none⟩ = some (.int .i64 c.fin) := HT6.out.dm.cl.cell (by
        dsimp only
        rw [List.getElem?_set_ne (by omega)]
        exact calVals_get hc 5 (by omega))
      have b7 : w6.cell? ⟨cg, ln * 9 + 7, none⟩ = some (.int .i64 c.ak) := HT6.out.dm.cl.cell (by
        dsimp only
        rw [List.getElem?_set_ne (by omega)]
        exact calVals_get hc 7 (by omega))
      have b8 : w6.cell? ⟨cg, ln * 9 + 7 + 1, none⟩ = some (.int .i64 c.av) := HT6.out.dm.cl.cell (by
        dsimp only
        rw [List.getElem?_set_ne (by omega)]
        exact calVals_get hc 8 (by omega))
      have p3 : w6.cell? ⟨M.x, 3, none⟩ = some (.pointer (some ⟨cg, ln * 9, none⟩)) := HT6.out.dm.xb.cell rfl
      have p4 : w6.cell? ⟨M.x, 4, none⟩ = some (.pointer (some ⟨M.sg, t * 5 + 3, none⟩)) := HT6.out.dm.xb.cell rfl
      have z3 := HT6.out.dm.xb.frozen 3
      have z4 := HT6.out.dm.xb.frozen 4
      have z0 := HT6.out.dm.se.frozen (t * 5)
      have z5 := HT6.out.dm.cl.frozen (ln * 9 + 5)
      have z7 := HT6.out.dm.cl.frozen (ln * 9 + 7)
      have z8 := HT6.out.dm.cl.frozen (ln * 9 + 7 + 1)
      have ncx := HT6.out.dm.cl.blk_ne HT6.out.dm.xb (by decide)
      have nsc := HT6.out.dm.se.rw_ne HT6.out.dm.cl (by decide)
      have nxc := ncx.symm
      have ncs := nsc.symm
      clear hov
      dsimp only at nsc ncx nxc ncs z3 z4 z0 z5 z7 z8
      go_upto_region 13 with fail
      go_region
      all_goals (
        go_upto_region 14 with fail
        go_region
        all_goals (
          go_wp2_with fail
          go_end0
          have T1 := (HT6.out.call (ln * 9 + 5) (by dsimp only; omega) (.int .i64 m.moves))
          have T2 := (T1.call (ln * 9 + 7) (by dsimp only; omega) (.int .i64 s6.d.ak)).call (ln * 9 + 7 + 1) (by dsimp only; omega) (.int .i64 s6.d.av)
          have T3 := T2.seat (t * 5) (by dsimp only; omega) .nilIface
          have F1 := HT6.out.frC HF6.out (ln * 9 + 5) (.int .i64 m.moves)
          have F2 := (T1.call (ln * 9 + 7) (by dsimp only; omega) (.int .i64 s6.d.ak)).frC (T1.frC F1 (ln * 9 + 7) (.int .i64 s6.d.ak)) (ln * 9 + 7 + 1) (.int .i64 s6.d.av)
          have F3 := T2.frS F2 (t * 5) .nilIface
          have R := HM.out.back hh hp hln hc hvc hcB hlog hsl hsp hsk _ _ (by rw [hov2.out]; rfl) (by rw [hov2.out]; rfl) T3 F3
          refine ⟨rfl, ⟨{ M with vl := vl6, va := va6 }, rfl, ?_⟩, (((HTo.out _ F3).setCell (p := ⟨M.x, 3, none⟩) hBx T3.dm.xb rfl _).setCell (p := ⟨M.x, 4, none⟩) hBx (T3.dm.xb.set_ 3 _) rfl _).drew.drew⟩
          rw [hst]
          dsimp only at R
          exact R.drew.drew))
    | false =>
      have hov2 := Lib.hid hov
      have p3 : w6.cell? ⟨M.x, 3, none⟩ = some (.pointer (some ⟨cg, ln * 9, none⟩)) := HT6.out.dm.xb.cell rfl
      have p4 : w6.cell? ⟨M.x, 4, none⟩ = some (.pointer (some ⟨M.sg, t * 5 + 3, none⟩)) := HT6.out.dm.xb.cell rfl
      have z3 := HT6.out.dm.xb.frozen 3
      have z4 := HT6.out.dm.xb.frozen 4
      clear hov
      dsimp only at z3 z4
      go_wp2_with fail
      go_end0
      have R := HM.out.back hh hp hln hc hvc hcB hlog hsl hsp hsk _ _ (by rw [hov2.out]; rfl) (by rw [hov2.out]; rfl) HT6.out HF6.out
      refine ⟨rfl, ⟨{ M with vl := vl6, va := va6 }, rfl, ?_⟩, ((HTo.out _ HF6.out).setCell (p := ⟨M.x, 3, none⟩) hBx HT6.out.dm.xb rfl _).setCell (p := ⟨M.x, 4, none⟩) hBx (HT6.out.dm.xb.set_ 3 _) rfl _⟩
      rw [hst]
      exact R
  | false =>
    rw [hrd] at s1 e1
    have T7 := HT5.out.seat (t * 5 + 1) (by dsimp only; omega) (.bool true)
    have F7 := HT5.out.frS HF5.out (t * 5 + 1) (.bool true)
    have K7 : Dsk (W5.setCell ⟨M.sg, t * 5 + 1, none⟩ (.bool true)) W3.heap.size (deskL M m t ln cg kc) := Blk.far HK5.out (HT5.out.dm.se.blk_ne HK5.out (by decide)).symm _
    have hs7 : (Ts.ready ⟨false, p, h.lk, h.alone, h.shares, desk0 m t c h⟩).d.log.length ≤ m.log.length := by rw [lg_ready]; exact Nat.le_refl _
    have hsp := tkP_ready ⟨false, p, h.lk, h.alone, h.shares, desk0 m t c h⟩
    have hsk := kd_ready ⟨false, p, h.lk, h.alone, h.shares, desk0 m t c h⟩
    have hsf := stepF_ready ⟨false, p, h.lk, h.alone, h.shares, desk0 m t c h⟩
    have hstA := step_after2 (t := t) hln hc hp hrd
    have hstB := step_after3 (t := t) hln hc hp hrd
    have HT := Lib.hid T7
    have HF := Lib.hid F7
    have HK7 := Lib.hid K7
    have HRD := Lib.hid hrd
    clear hrd T7 F7 K7
    go_wp2_with fail
    refine (task_ready K' HT.out HK7.out hsB hlB hlg5).mono ?_
    rintro e w6 ⟨rfl, ⟨vl6, va6, hT6⟩, hF6⟩
    have hK6 : Dsk w6 W3.heap.size (deskL M m t ln cg kc) := hF6.blk HK7.out rfl (fun e => by
      rcases e with e | e | e
      · exact HK7.out.blk_ne HT.out.se (by decide) e
      · exact HK7.out.blk_ne HT.out.lk (lkT_ne _ (by decide)).symm e
      · exact HK7.out.blk_ne HT.out.tk (tkT_ne _ (by decide)).symm e)
    have HF6 := Lib.hid (HF.out.trans hF6)
    generalize hs6 : Ts.ready ⟨false, p, h.lk, h.alone, h.shares, desk0 m t c h⟩ = s6 at hstA hstB hs7 hsp hsk hsf hT6 ⊢
    have HT6 := Lib.hid hT6
    have HK6 := Lib.hid hK6
    clear hT6 hF6 hs6 hK6
    cases hov : s6.over with
    | true =>
      have hst := hstA hov
      have hsl : s6.d.log.length ≤ m.log.length + 1 := by omega
      clear hstA hstB hsf
      have hov2 := Lib.hid hov
      have a10 : w6.cell? ⟨M.x, 10, none⟩ = some (.slice (some ⟨cg, 0, none⟩) m.calls.length kc) := by have := HT6.out.dm.xb.cell (i := 10) rfl; rw [hvc] at this; exact this
      have a2 : w6.cell? ⟨M.sg, t * 5 + 2, none⟩ = some (.int .i64 ln) := HT6.out.dm.se.cell (by
        dsimp only
        rw [List.getElem?_set_ne (by omega), List.getElem?_set_ne (by omega), List.getElem?_set_ne (by omega), thVals_get 0 hh 2 (by omega), ← hln]
        rfl)
      have a3 : w6.cell? ⟨M.sg, t * 5 + 3, none⟩ = some (.int .i64 s6.d.ak) := HT6.out.dm.se.cell (by
        dsimp only
        rw [List.getElem?_set_ne (by omega), List.getElem?_set_self (by rw [List.length_set, thVals_len]; omega)])
      have a4 : w6.cell? ⟨M.sg, t * 5 + 3 + 1, none⟩ = some (.int .i64 s6.d.av) := HT6.out.dm.se.cell (by
        dsimp only
        rw [List.getElem?_set_self (by rw [List.length_set, List.length_set, thVals_len]; omega)])
      have a0 : w6.cell? ⟨M.sg, t * 5, none⟩ = some (.iface (tkP p) (.pointer (some ⟨M.tb t, 0, none⟩))) := HT6.out.dm.se.cell (by
        dsimp only
        rw [List.getElem?_set_ne (by omega), List.getElem?_set_ne (by omega), List.getElem?_set_ne (by omega)]
        exact e0)
      have b5 : w6.cell? ⟨cg, ln * 9 + 5, none⟩ = some (.int .i64 c.fin) := HT6.out.dm.cl.cell (by
        dsimp only
        rw [List.getElem?_set_ne (by omega)]
        exact calVals_get hc 5 (by omega))
      have b7 : w6.cell? ⟨cg, ln * 9 + 7, none⟩ = some (.int .i64 c.ak) := HT6.out.dm.cl.cell (by
        dsimp only
        rw [List.getElem?_set_ne (by omega)]
        exact calVals_get hc 7 (by omega))
      have b8 : w6.cell? ⟨cg, ln * 9 + 7 + 1, none⟩ = some (.int .i64 c.av) := HT6.out.dm.cl.cell (by
        dsimp only
        rw [List.getElem?_set_ne (by omega)]
        exact calVals_get hc 8 (by omega))
      have p3 : w6.cell? ⟨M.x, 3, none⟩ = some (.pointer (some ⟨cg, ln * 9, none⟩)) := HT6.out.dm.xb.cell rfl
      have p4 : w6.cell? ⟨M.x, 4, none⟩ = some (.pointer (some ⟨M.sg, t * 5 + 3, none⟩)) := HT6.out.dm.xb.cell rfl
      have z3 := HT6.out.dm.xb.frozen 3
      have z4 := HT6.out.dm.xb.frozen 4
      have z0 := HT6.out.dm.se.frozen (t * 5)
      have z5 := HT6.out.dm.cl.frozen (ln * 9 + 5)
      have z7 := HT6.out.dm.cl.frozen (ln * 9 + 7)
      have z8 := HT6.out.dm.cl.frozen (ln * 9 + 7 + 1)
      have ncx := HT6.out.dm.cl.blk_ne HT6.out.dm.xb (by decide)
      have nsc := HT6.out.dm.se.rw_ne HT6.out.dm.cl (by decide)
      have nxc := ncx.symm
      have ncs := nsc.symm
      clear hov
      dsimp only at nsc ncx nxc ncs z3 z4 z0 z5 z7 z8
      go_upto_region 13 with fail
      go_region
      all_goals (
        go_upto_region 14 with fail
        go_region
        all_goals (
          go_wp2_with fail
          go_end0
          have T1 := (HT6.out.call (ln * 9 + 5) (by dsimp only; omega) (.int .i64 m.moves))
          have T2 := (T1.call (ln * 9 + 7) (by dsimp only; omega) (.int .i64 s6.d.ak)).call (ln * 9 + 7 + 1) (by dsimp only; omega) (.int .i64 s6.d.av)
          have T3 := T2.seat (t * 5) (by dsimp only; omega) .nilIface
          have F1 := HT6.out.frC HF6.out (ln * 9 + 5) (.int .i64 m.moves)
          have F2 := (T1.call (ln * 9 + 7) (by dsimp only; omega) (.int .i64 s6.d.ak)).frC (T1.frC F1 (ln * 9 + 7) (.int .i64 s6.d.ak)) (ln * 9 + 7 + 1) (.int .i64 s6.d.av)
          have F3 := T2.frS F2 (t * 5) .nilIface
          have R := HM.out.back hh hp hln hc hvc hcB hlog hsl hsp hsk _ _ (by rw [hov2.out]; rfl) (by rw [hov2.out]; rfl) T3 F3
          refine ⟨rfl, ⟨{ M with vl := vl6, va := va6 }, rfl, ?_⟩, (((HTo.out _ F3).setCell (p := ⟨M.x, 3, none⟩) hBx T3.dm.xb rfl _).setCell (p := ⟨M.x, 4, none⟩) hBx (T3.dm.xb.set_ 3 _) rfl _).drew.drew⟩
          rw [hst]
          dsimp only at R
          exact R.drew.drew))
    | false =>
      have hst9 := hstB hov
      have hsl9 := lg_step s6
      have hsp9 := (tkP_step s6).trans hsp
      have hsk9 := (kd_step s6).trans hsk
      have a0 : w6.cell? ⟨M.sg, t * 5, none⟩ = some (.iface (tkP p) (.pointer (some ⟨M.tb t, 0, none⟩))) := HT6.out.dm.se.cell (by
        dsimp only
        rw [List.getElem?_set_ne (by omega), List.getElem?_set_ne (by omega), List.getElem?_set_ne (by omega)]
        exact e0)
      have K6 : KOk s6.lk.kd := by rw [hsk]; exact K'
      have hl6 : s6.d.log.length ≤ 100000 := by omega
      have HOV := Lib.hid hov
      clear hstA hstB hsp hsk hov
      go_wp2_with fail
      have hcall := task_step K6 HT6.out HK6.out hsB hlB htB hl6
      rw [hsf] at hcall
      refine hcall.mono ?_
      rintro e w7 ⟨rfl, ⟨vl7, va7, hT7⟩, hF7⟩
      have HF7 := Lib.hid (HF6.out.trans hF7)
      have hsl : s6.step.d.log.length ≤ m.log.length + 1 := by omega
      generalize hs8 : s6.step = s7 at hst9 hsl hsp9 hsk9 hT7 ⊢
      have hst := hst9
      have hsp := hsp9
      have hsk := hsk9
      have HT7 := Lib.hid hT7
      clear hT7 hF7 hs8 hst9 hsl9 hsp9 hsk9 hcall
      cases hov : s7.over with
      | true =>
        have hov2 := Lib.hid hov
        have a10 : w7.cell? ⟨M.x, 10, none⟩ = some (.slice (some ⟨cg, 0, none⟩) m.calls.length kc) := by have := HT7.out.dm.xb.cell (i := 10) rfl; rw [hvc] at this; exact this
        have a2 : w7.cell? ⟨M.sg, t * 5 + 2, none⟩ = some (.int .i64 ln) := HT7.out.dm.se.cell (by
          dsimp only
          rw [List.getElem?_set_ne (by omega), List.getElem?_set_ne (by omega), List.getElem?_set_ne (by omega), thVals_get 0 hh 2 (by omega), ← hln]
          rfl)
        have a3 : w7.cell? ⟨M.sg, t * 5 + 3, none⟩ = some (.int .i64 s7.d.ak) := HT7.out.dm.se.cell (by
          dsimp only
          rw [List.getElem?_set_ne (by omega), List.getElem?_set_self (by rw [List.length_set, thVals_len]; omega)])
        have a4 : w7.cell? ⟨M.sg, t * 5 + 3 + 1, none⟩ = some (.int .i64 s7.d.av) := HT7.out.dm.se.cell (by
          dsimp only
          rw [List.getElem?_set_self (by rw [List.length_set, List.length_set, thVals_len]; omega)])
        have a0 : w7.cell? ⟨M.sg, t * 5, none⟩ = some (.iface (tkP p) (.pointer (some ⟨M.tb t, 0, none⟩))) := HT7.out.dm.se.cell (by
          dsimp only
          rw [List.getElem?_set_ne (by omega), List.getElem?_set_ne (by omega), List.getElem?_set_ne (by omega)]
          exact e0)
        have b5 : w7.cell? ⟨cg, ln * 9 + 5, none⟩ = some (.int .i64 c.fin) := HT7.out.dm.cl.cell (by
          dsimp only
          rw [List.getElem?_set_ne (by omega)]
          exact calVals_get hc 5 (by omega))
        have b7 : w7.cell? ⟨cg, ln * 9 + 7, none⟩ = some (.int .i64 c.ak) := HT7.out.dm.cl.cell (by
          dsimp only
          rw [List.getElem?_set_ne (by omega)]
          exact calVals_get hc 7 (by omega))
        have b8 : w7.cell? ⟨cg, ln * 9 + 7 + 1, none⟩ = some (.int .i64 c.av) := HT7.out.dm.cl.cell (by
          dsimp only
          rw [List.getElem?_set_ne (by omega)]
          exact calVals_get hc 8 (by omega))
        have p3 : w7.cell? ⟨M.x, 3, none⟩ = some (.pointer (some ⟨cg, ln * 9, none⟩)) := HT7.out.dm.xb.cell rfl
        have p4 : w7.cell? ⟨M.x, 4, none⟩ = some (.pointer (some ⟨M.sg, t * 5 + 3, none⟩)) := HT7.out.dm.xb.cell rfl
        have z3 := HT7.out.dm.xb.frozen 3
        have z4 := HT7.out.dm.xb.frozen 4
        have z0 := HT7.out.dm.se.frozen (t * 5)
        have z5 := HT7.out.dm.cl.frozen (ln * 9 + 5)
        have z7 := HT7.out.dm.cl.frozen (ln * 9 + 7)
        have z8 := HT7.out.dm.cl.frozen (ln * 9 + 7 + 1)
        have ncx := HT7.out.dm.cl.blk_ne HT7.out.dm.xb (by decide)
        have nsc := HT7.out.dm.se.rw_ne HT7.out.dm.cl (by decide)
        have nxc := ncx.symm
        have ncs := nsc.symm
        clear hov
        dsimp only at nsc ncx nxc ncs z3 z4 z0 z5 z7 z8
        go_upto_region 13 with fail
        go_region
        all_goals (
          go_upto_region 14 with fail
          go_region
          all_goals (
            go_wp2_with fail
            go_end0
            have T1 := (HT7.out.call (ln * 9 + 5) (by dsimp only; omega) (.int .i64 m.moves))
            have T2 := (T1.call (ln * 9 + 7) (by dsimp only; omega) (.int .i64 s7.d.ak)).call (ln * 9 + 7 + 1) (by dsimp only; omega) (.int .i64 s7.d.av)
            have T3 := T2.seat (t * 5) (by dsimp only; omega) .nilIface
            have F1 := HT7.out.frC HF7.out (ln * 9 + 5) (.int .i64 m.moves)
            have F2 := (T1.call (ln * 9 + 7) (by dsimp only; omega) (.int .i64 s7.d.ak)).frC (T1.frC F1 (ln * 9 + 7) (.int .i64 s7.d.ak)) (ln * 9 + 7 + 1) (.int .i64 s7.d.av)
            have F3 := T2.frS F2 (t * 5) .nilIface
            have R := HM.out.back hh hp hln hc hvc hcB hlog hsl hsp hsk _ _ (by rw [hov2.out]; rfl) (by rw [hov2.out]; rfl) T3 F3
            refine ⟨rfl, ⟨{ M with vl := vl7, va := va7 }, rfl, ?_⟩, (((HTo.out _ F3).setCell (p := ⟨M.x, 3, none⟩) hBx T3.dm.xb rfl _).setCell (p := ⟨M.x, 4, none⟩) hBx (T3.dm.xb.set_ 3 _) rfl _).drew.drew⟩
            rw [hst]
            dsimp only at R
            exact R.drew.drew))
      | false =>
        have hov2 := Lib.hid hov
        have p3 : w7.cell? ⟨M.x, 3, none⟩ = some (.pointer (some ⟨cg, ln * 9, none⟩)) := HT7.out.dm.xb.cell rfl
        have p4 : w7.cell? ⟨M.x, 4, none⟩ = some (.pointer (some ⟨M.sg, t * 5 + 3, none⟩)) := HT7.out.dm.xb.cell rfl
        have z3 := HT7.out.dm.xb.frozen 3
        have z4 := HT7.out.dm.xb.frozen 4
        clear hov
        dsimp only at z3 z4
        go_wp2_with fail
        go_end0
        have R := HM.out.back hh hp hln hc hvc hcB hlog hsl hsp hsk _ _ (by rw [hov2.out]; rfl) (by rw [hov2.out]; rfl) HT7.out HF7.out
        refine ⟨rfl, ⟨{ M with vl := vl7, va := va7 }, rfl, ?_⟩, ((HTo.out _ HF7.out).setCell (p := ⟨M.x, 3, none⟩) hBx HT7.out.dm.xb rfl _).setCell (p := ⟨M.x, 4, none⟩) hBx (HT7.out.dm.xb.set_ 3 _) rfl _⟩
        rw [hst]
        exact R
end
end Go.Proofs.Ytjnmlgfkiebkgaa
