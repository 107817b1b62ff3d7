/-
  tso.worker: its register, and the rules of the seven kinds, under sequential consistency.
-/
import Derived.Test.YtgbopmgeicokoaaEvt0
import Derived.BigQuiet
import Derived.StillTailTactics
import Derived.Deep.RegionHeld3
namespace Go.Proofs.Ytgbopmgeicokoaa
open Go.RowKit

abbrev wkL (gs t : Nat) (x : Ins) : List Value := [.pointer (some ⟨gs, 0, none⟩), .int .i64 x.kind, .int .i64 x.reg, .int .i64 x.addr, .int .i64 x.value, .int .i64 x.src, .int .i64 x.old, .int .i64 x.count, .int .i64 t, .bool false]
structure WkAt (W : World) (gk gs : Nat) (h : SH) (n nw : Nat) (S : LS) (t : Nat) (x : Ins) : Prop where
  k : Blk W gk 310 (wkL gs t x)
  s : Blk W gs 113 (stL h n nw)
  st : StAt W h n nw S
  t : t < n
  n4 : n ≤ 4
  w6 : nw ≤ 6
section
variable {W W' : World} {gk gs : Nat} {h : SH} {n nw : Nat} {S : LS} {t : Nat} {x : Ins}
theorem WkAt.on (H : WkAt W gk gs h n nw S t x) (hb : Below W.heap.size W W') : WkAt W' gk gs h n nw S t x := ⟨H.k.below hb H.k.lt, H.s.below hb H.s.lt, H.st.on hb, H.t, H.n4, H.w6⟩
theorem Blk.ne {t t' : TypeId} {cs cs' : List Value} {g g' : Nat} (h : Blk W g t cs) (h' : Blk W g' t' cs') (hne : t ≠ t') : g ≠ g' := by
  rintro rfl
  unfold Blk at h h'
  rw [h] at h'
  simp at h'
  exact hne h'.2
theorem Rw.ne {t t' : TypeId} {sz k : Nat} {xs cs' : List Value} {g g' : Nat} (h : Rw W g t sz n k xs) (h' : Blk W g' t' cs') (hne : t' ≠ t) : g' ≠ g := by
  obtain ⟨_, cs, h1, _⟩ := h
  exact h'.ne h1 hne
theorem WkAt.no (H : WkAt W gk gs h n nw S t x) : (gk ≠ h.gw ∧ gk ≠ h.gr ∧ gk ≠ h.gp) ∧ (gs ≠ h.gw ∧ gs ≠ h.gr ∧ gs ≠ h.gp) :=
  ⟨⟨H.st.w.ne H.k (by decide), H.st.r.ne H.k (by decide), H.st.p.ne H.k (by decide)⟩, ⟨H.st.w.ne H.s (by decide), H.st.r.ne H.s (by decide), H.st.p.ne H.s (by decide)⟩⟩
theorem WkAt.setR (H : WkAt W gk gs h n nw S t x) (j : Nat) (z : Int) : WkAt (W.setCell ⟨h.gr, j, none⟩ (.int .i64 z)) gk gs h n nw ⟨S.ws, S.rs.set j z, S.ps⟩ t x :=
  ⟨H.k.far H.no.1.2.1 _, H.s.far H.no.2.2.1 _, H.st.setR j z, H.t, H.n4, H.w6⟩
theorem WkAt.setW (H : WkAt W gk gs h n nw S t x) (j : Nat) (z : Int) : WkAt (W.setCell ⟨h.gw, j, none⟩ (.int .i64 z)) gk gs h n nw ⟨S.ws.set j z, S.rs, S.ps⟩ t x :=
  ⟨H.k.far H.no.1.1 _, H.s.far H.no.2.1 _, H.st.setW j z, H.t, H.n4, H.w6⟩
theorem WkAt.regc (H : WkAt W gk gs h n nw S t x) {rg : Nat} (hr : rg < 4) : W.cell? ⟨h.gr, t * 4 + rg, none⟩ = some (.int .i64 (S.r t rg)) := H.st.reg (LS.r_at (by have := H.st.rlen; have := H.t; omega))
theorem WkAt.wordc (H : WkAt W gk gs h n nw S t x) {a : Nat} (ha : a < nw) : W.cell? ⟨h.gw, a, none⟩ = some (.int .i64 (S.w a)) := H.st.word (LS.w_at (by rw [H.st.wlen]; exact ha))
theorem WkAt.plc (H : WkAt W gk gs h n nw S t x) : W.cell? ⟨h.gp, t, none⟩ = some (.int .i64 (S.p t)) := H.st.place (LS.p_at (by rw [H.st.plen]; exact H.t))
def Mid (W : World) (gk gs : Nat) (h : SH) (n nw : Nat) (S : LS) (t : Nat) (x : Ins) (V : World) : Prop := WkAt V gk gs h n nw S t x ∧ Fr (SF h) W V
end
/-- a rule's end: what it says, and the state behind it -/
def WkR (h : SH) (n nw : Nat) (S' : LS) (b : Bool) (W : World) (e : Ending) (W' : World) : Prop := e = .returned (.bool b) ∧ StAt W' h n nw S' ∧ Fr (SF h) W W'

set_option maxRecDepth 100000 in
set_option maxHeartbeats 4000000 in
theorem reg_any (W : World) (gk gs : Nat) (h : SH) (n nw : Nat) (S : LS) (t : Nat) (kind reg addr value src old count : Int) (H : WkAt W gk gs h n nw S t ⟨kind, reg, addr, value, src, old, count⟩) (rg : Nat) (hr : reg = (rg : Int)) (hr4 : rg < 4) :
    Calls Try.prog 163 #[.pointer (some ⟨gk, 0, none⟩)] W (fun e w' => e = .returned (.pointer (some ⟨h.gr, t * 4 + rg, none⟩)) ∧ ∃ m, w' = W.drewN m) := by
  subst hr
  have k0 : W.cell? ⟨gk, 0, none⟩ = some (.pointer (some ⟨gs, 0, none⟩)) := H.k.cell rfl
  have k1 : W.cell? ⟨gk, 1, none⟩ = some (.int .i64 kind) := H.k.cell rfl
  have k2 : W.cell? ⟨gk, 2, none⟩ = some (.int .i64 rg) := H.k.cell rfl
  have k3 : W.cell? ⟨gk, 3, none⟩ = some (.int .i64 addr) := H.k.cell rfl
  have k4 : W.cell? ⟨gk, 4, none⟩ = some (.int .i64 value) := H.k.cell rfl
  have k5 : W.cell? ⟨gk, 5, none⟩ = some (.int .i64 src) := H.k.cell rfl
  have k6 : W.cell? ⟨gk, 6, none⟩ = some (.int .i64 old) := H.k.cell rfl
  have k7 : W.cell? ⟨gk, 7, none⟩ = some (.int .i64 count) := H.k.cell rfl
  have k8 : W.cell? ⟨gk, 8, none⟩ = some (.int .i64 t) := H.k.cell rfl
  have k9 : W.cell? ⟨gk, 9, none⟩ = some (.bool false) := H.k.cell rfl
  have s0 : W.cell? ⟨gs, 0, none⟩ = some (.slice (some ⟨h.gw, 0, none⟩) nw h.kw) := H.s.cell rfl
  have s1 : W.cell? ⟨gs, 1, none⟩ = some (.slice (some ⟨h.gr, 0, none⟩) n h.kr) := H.s.cell rfl
  have s2 : W.cell? ⟨gs, 2, none⟩ = some (.slice (some ⟨h.gp, 0, none⟩) n h.kp) := H.s.cell rfl
  have s3 : W.cell? ⟨gs, 3, none⟩ = some (.slice (some ⟨h.gb, 0, none⟩) n h.kb) := H.s.cell rfl
  have e0 : (0 : Int) ≤ t := by omega
  have e1 : (t : Int) < n := by have := H.t; omega
  have e2 : (0 : Int) ≤ rg := by omega
  have e3 : (rg : Int) < 4 := by omega
  clear H
  go_enter Try.func163, Try.ntmps163
  go_upto_region 1 with fail
  go_quiet (fail)
  go_wp2_with fail

  go_ret
  exact ⟨rfl, _, rfl⟩

set_option maxRecDepth 100000 in
set_option maxHeartbeats 4000000 in
theorem drained_any (W : World) (gk gs : Nat) (h : SH) (n nw : Nat) (S : LS) (t : Nat) (kind reg addr value src old count : Int) (H : WkAt W gk gs h n nw S t ⟨kind, reg, addr, value, src, old, count⟩)  :
    Calls Try.prog 157 #[.pointer (some ⟨gk, 0, none⟩)] W (fun e w' => e = .returned (.bool true) ∧ ∃ m, w' = W.drewN m) := by
  have HG := Lib.hid H
  have k0 : W.cell? ⟨gk, 0, none⟩ = some (.pointer (some ⟨gs, 0, none⟩)) := H.k.cell rfl
  have k1 : W.cell? ⟨gk, 1, none⟩ = some (.int .i64 kind) := H.k.cell rfl
  have k2 : W.cell? ⟨gk, 2, none⟩ = some (.int .i64 reg) := H.k.cell rfl
  have k3 : W.cell? ⟨gk, 3, none⟩ = some (.int .i64 addr) := H.k.cell rfl
  have k4 : W.cell? ⟨gk, 4, none⟩ = some (.int .i64 value) := H.k.cell rfl
  have k5 : W.cell? ⟨gk, 5, none⟩ = some (.int .i64 src) := H.k.cell rfl
  have k6 : W.cell? ⟨gk, 6, none⟩ = some (.int .i64 old) := H.k.cell rfl
  have k7 : W.cell? ⟨gk, 7, none⟩ = some (.int .i64 count) := H.k.cell rfl
  have k8 : W.cell? ⟨gk, 8, none⟩ = some (.int .i64 t) := H.k.cell rfl
  have k9 : W.cell? ⟨gk, 9, none⟩ = some (.bool false) := H.k.cell rfl
  have s0 : W.cell? ⟨gs, 0, none⟩ = some (.slice (some ⟨h.gw, 0, none⟩) nw h.kw) := H.s.cell rfl
  have s1 : W.cell? ⟨gs, 1, none⟩ = some (.slice (some ⟨h.gr, 0, none⟩) n h.kr) := H.s.cell rfl
  have s2 : W.cell? ⟨gs, 2, none⟩ = some (.slice (some ⟨h.gp, 0, none⟩) n h.kp) := H.s.cell rfl
  have s3 : W.cell? ⟨gs, 3, none⟩ = some (.slice (some ⟨h.gb, 0, none⟩) n h.kb) := H.s.cell rfl
  have e0 : (0 : Int) ≤ t := by omega
  have e1 : (t : Int) < n := by have := H.t; omega
  have g5 : W.cell? ⟨h.gb, t, none⟩ = some (.slice none 0 0) := H.st.buf H.t
  have g6 : W.cell? ⟨h.gp, t, none⟩ = some (.int .i64 (S.p t)) := H.plc
  have g7 : W.frozen? ⟨h.gp, t, none⟩ = false := H.st.p.frozen _
  have HS : Hid (∀ V, Below W.heap.size W V → WkAt V gk gs h n nw S t ⟨kind, reg, addr, value, src, old, count⟩) := fun V hV => HG.out.on hV
  clear H
  go_enter Try.func157, Try.ntmps157
  go_upto_region 1 with fail
  go_quiet (fail)
  go_wp2_with fail
  go_ret
  exact ⟨rfl, _, rfl⟩

set_option maxRecDepth 100000 in
set_option maxHeartbeats 4000000 in
theorem wset_any (W : World) (gk gs : Nat) (h : SH) (n nw : Nat) (S : LS) (t : Nat) (kind reg addr value src old count : Int) (H : WkAt W gk gs h n nw S t ⟨kind, reg, addr, value, src, old, count⟩) (rg : Nat) (hr : reg = (rg : Int)) (hr4 : rg < 4) :
    Calls Try.prog 158 #[.pointer (some ⟨gk, 0, none⟩)] W (WkR h n nw ⟨S.ws, S.rs.set (t * 4 + rg) value, S.ps⟩ true W) := by
  subst hr
  have HG := Lib.hid H
  have k0 : W.cell? ⟨gk, 0, none⟩ = some (.pointer (some ⟨gs, 0, none⟩)) := H.k.cell rfl
  have k1 : W.cell? ⟨gk, 1, none⟩ = some (.int .i64 kind) := H.k.cell rfl
  have k2 : W.cell? ⟨gk, 2, none⟩ = some (.int .i64 rg) := H.k.cell rfl
  have k3 : W.cell? ⟨gk, 3, none⟩ = some (.int .i64 addr) := H.k.cell rfl
  have k4 : W.cell? ⟨gk, 4, none⟩ = some (.int .i64 value) := H.k.cell rfl
  have k5 : W.cell? ⟨gk, 5, none⟩ = some (.int .i64 src) := H.k.cell rfl
  have k6 : W.cell? ⟨gk, 6, none⟩ = some (.int .i64 old) := H.k.cell rfl
  have k7 : W.cell? ⟨gk, 7, none⟩ = some (.int .i64 count) := H.k.cell rfl
  have k8 : W.cell? ⟨gk, 8, none⟩ = some (.int .i64 t) := H.k.cell rfl
  have k9 : W.cell? ⟨gk, 9, none⟩ = some (.bool false) := H.k.cell rfl
  have s0 : W.cell? ⟨gs, 0, none⟩ = some (.slice (some ⟨h.gw, 0, none⟩) nw h.kw) := H.s.cell rfl
  have s1 : W.cell? ⟨gs, 1, none⟩ = some (.slice (some ⟨h.gr, 0, none⟩) n h.kr) := H.s.cell rfl
  have s2 : W.cell? ⟨gs, 2, none⟩ = some (.slice (some ⟨h.gp, 0, none⟩) n h.kp) := H.s.cell rfl
  have s3 : W.cell? ⟨gs, 3, none⟩ = some (.slice (some ⟨h.gb, 0, none⟩) n h.kb) := H.s.cell rfl
  have e0 : (0 : Int) ≤ t := by omega
  have e1 : (t : Int) < n := by have := H.t; omega
  have e2 : (0 : Int) ≤ rg := by omega
  have e3 : (rg : Int) < 4 := by omega
  have g0 : W.frozen? ⟨h.gr, t * 4 + rg, none⟩ = false := H.st.r.frozen _
  have g1 : W.cell? ⟨h.gr, t * 4 + rg, none⟩ = some (.int .i64 (S.r t rg)) := H.regc hr4
  have g5 : W.cell? ⟨h.gb, t, none⟩ = some (.slice none 0 0) := H.st.buf H.t
  have g6 : W.cell? ⟨h.gp, t, none⟩ = some (.int .i64 (S.p t)) := H.plc
  have g7 : W.frozen? ⟨h.gp, t, none⟩ = false := H.st.p.frozen _
  have HS : Hid (∀ V, Below W.heap.size W V → WkAt V gk gs h n nw S t ⟨kind, rg, addr, value, src, old, count⟩) := fun V hV => HG.out.on hV
  clear H
  go_enter Try.func158, Try.ntmps158
  go_upto_region 1 with fail
  go_region_with ((go_at_call 163; go_must (refine (reg_any _ gk gs h n nw S t kind rg addr value src old count (HS.out _ (Below.refl _ _).drew) rg rfl hr4).mono ?_; rintro e w3 ⟨rfl, m, rfl⟩)))
  all_goals (go_wp2_with fail; go_ret; exact ⟨rfl, (HS.out _ ((Below.refl _ _).drewN _)).st.setR _ _, (Fr.of ((Below.refl _ _).drewN _)).setCell (Or.inr (Or.inl rfl)) _⟩)

set_option maxRecDepth 100000 in
set_option maxHeartbeats 4000000 in
theorem wadd_any (W : World) (gk gs : Nat) (h : SH) (n nw : Nat) (S : LS) (t : Nat) (kind reg addr value src old count : Int) (H : WkAt W gk gs h n nw S t ⟨kind, reg, addr, value, src, old, count⟩) (rg : Nat) (hr : reg = (rg : Int)) (hr4 : rg < 4) :
    Calls Try.prog 159 #[.pointer (some ⟨gk, 0, none⟩)] W (WkR h n nw ⟨S.ws, S.rs.set (t * 4 + rg) (IntKind.i64.wrap (S.r t rg + value)), S.ps⟩ true W) := by
  subst hr
  have HG := Lib.hid H
  have k0 : W.cell? ⟨gk, 0, none⟩ = some (.pointer (some ⟨gs, 0, none⟩)) := H.k.cell rfl
  have k1 : W.cell? ⟨gk, 1, none⟩ = some (.int .i64 kind) := H.k.cell rfl
  have k2 : W.cell? ⟨gk, 2, none⟩ = some (.int .i64 rg) := H.k.cell rfl
  have k3 : W.cell? ⟨gk, 3, none⟩ = some (.int .i64 addr) := H.k.cell rfl
  have k4 : W.cell? ⟨gk, 4, none⟩ = some (.int .i64 value) := H.k.cell rfl
  have k5 : W.cell? ⟨gk, 5, none⟩ = some (.int .i64 src) := H.k.cell rfl
  have k6 : W.cell? ⟨gk, 6, none⟩ = some (.int .i64 old) := H.k.cell rfl
  have k7 : W.cell? ⟨gk, 7, none⟩ = some (.int .i64 count) := H.k.cell rfl
  have k8 : W.cell? ⟨gk, 8, none⟩ = some (.int .i64 t) := H.k.cell rfl
  have k9 : W.cell? ⟨gk, 9, none⟩ = some (.bool false) := H.k.cell rfl
  have s0 : W.cell? ⟨gs, 0, none⟩ = some (.slice (some ⟨h.gw, 0, none⟩) nw h.kw) := H.s.cell rfl
  have s1 : W.cell? ⟨gs, 1, none⟩ = some (.slice (some ⟨h.gr, 0, none⟩) n h.kr) := H.s.cell rfl
  have s2 : W.cell? ⟨gs, 2, none⟩ = some (.slice (some ⟨h.gp, 0, none⟩) n h.kp) := H.s.cell rfl
  have s3 : W.cell? ⟨gs, 3, none⟩ = some (.slice (some ⟨h.gb, 0, none⟩) n h.kb) := H.s.cell rfl
  have e0 : (0 : Int) ≤ t := by omega
  have e1 : (t : Int) < n := by have := H.t; omega
  have e2 : (0 : Int) ≤ rg := by omega
  have e3 : (rg : Int) < 4 := by omega
  have g0 : W.frozen? ⟨h.gr, t * 4 + rg, none⟩ = false := H.st.r.frozen _
  have g1 : W.cell? ⟨h.gr, t * 4 + rg, none⟩ = some (.int .i64 (S.r t rg)) := H.regc hr4
  have g5 : W.cell? ⟨h.gb, t, none⟩ = some (.slice none 0 0) := H.st.buf H.t
  have g6 : W.cell? ⟨h.gp, t, none⟩ = some (.int .i64 (S.p t)) := H.plc
  have g7 : W.frozen? ⟨h.gp, t, none⟩ = false := H.st.p.frozen _
  have HS : Hid (∀ V, Below W.heap.size W V → WkAt V gk gs h n nw S t ⟨kind, rg, addr, value, src, old, count⟩) := fun V hV => HG.out.on hV
  clear H
  go_enter Try.func159, Try.ntmps159
  go_upto_region 1 with fail
  go_region_with ((go_at_call 163; go_must (refine (reg_any _ gk gs h n nw S t kind rg addr value src old count (HS.out _ (Below.refl _ _).drew) rg rfl hr4).mono ?_; rintro e w3 ⟨rfl, m, rfl⟩)))
  all_goals (go_wp2_with fail; go_ret; exact ⟨rfl, (HS.out _ ((Below.refl _ _).drewN _)).st.setR _ _, (Fr.of ((Below.refl _ _).drewN _)).setCell (Or.inr (Or.inl rfl)) _⟩)

set_option maxRecDepth 100000 in
set_option maxHeartbeats 4000000 in
theorem wstore_any (W : World) (gk gs : Nat) (h : SH) (n nw : Nat) (S : LS) (t : Nat) (kind reg addr value src old count : Int) (H : WkAt W gk gs h n nw S t ⟨kind, reg, addr, value, src, old, count⟩) (ad : Nat) (ha : addr = (ad : Int)) (ha4 : ad < nw) (sr : Nat) (hs : src = (sr : Int)) (hs4 : sr < 4) :
    Calls Try.prog 155 #[.pointer (some ⟨gk, 0, none⟩)] W (WkR h n nw ⟨S.ws.set ad (S.r t sr), S.rs, S.ps⟩ true W) := by
  subst ha
  subst hs
  have HG := Lib.hid H
  have k0 : W.cell? ⟨gk, 0, none⟩ = some (.pointer (some ⟨gs, 0, none⟩)) := H.k.cell rfl
  have k1 : W.cell? ⟨gk, 1, none⟩ = some (.int .i64 kind) := H.k.cell rfl
  have k2 : W.cell? ⟨gk, 2, none⟩ = some (.int .i64 reg) := H.k.cell rfl
  have k3 : W.cell? ⟨gk, 3, none⟩ = some (.int .i64 ad) := H.k.cell rfl
  have k4 : W.cell? ⟨gk, 4, none⟩ = some (.int .i64 value) := H.k.cell rfl
  have k5 : W.cell? ⟨gk, 5, none⟩ = some (.int .i64 sr) := H.k.cell rfl
  have k6 : W.cell? ⟨gk, 6, none⟩ = some (.int .i64 old) := H.k.cell rfl
  have k7 : W.cell? ⟨gk, 7, none⟩ = some (.int .i64 count) := H.k.cell rfl
  have k8 : W.cell? ⟨gk, 8, none⟩ = some (.int .i64 t) := H.k.cell rfl
  have k9 : W.cell? ⟨gk, 9, none⟩ = some (.bool false) := H.k.cell rfl
  have s0 : W.cell? ⟨gs, 0, none⟩ = some (.slice (some ⟨h.gw, 0, none⟩) nw h.kw) := H.s.cell rfl
  have s1 : W.cell? ⟨gs, 1, none⟩ = some (.slice (some ⟨h.gr, 0, none⟩) n h.kr) := H.s.cell rfl
  have s2 : W.cell? ⟨gs, 2, none⟩ = some (.slice (some ⟨h.gp, 0, none⟩) n h.kp) := H.s.cell rfl
  have s3 : W.cell? ⟨gs, 3, none⟩ = some (.slice (some ⟨h.gb, 0, none⟩) n h.kb) := H.s.cell rfl
  have e0 : (0 : Int) ≤ t := by omega
  have e1 : (t : Int) < n := by have := H.t; omega
  have e4 : (0 : Int) ≤ ad := by omega
  have e5 : (ad : Int) < nw := by omega
  have g2 : W.frozen? ⟨h.gw, ad, none⟩ = false := H.st.w.frozen _
  have g3 : W.cell? ⟨h.gw, ad, none⟩ = some (.int .i64 (S.w ad)) := H.wordc ha4
  have e6 : (0 : Int) ≤ sr := by omega
  have e7 : (sr : Int) < 4 := by omega
  have g4 : W.cell? ⟨h.gr, t * 4 + sr, none⟩ = some (.int .i64 (S.r t sr)) := H.regc hs4
  have g5 : W.cell? ⟨h.gb, t, none⟩ = some (.slice none 0 0) := H.st.buf H.t
  have g6 : W.cell? ⟨h.gp, t, none⟩ = some (.int .i64 (S.p t)) := H.plc
  have g7 : W.frozen? ⟨h.gp, t, none⟩ = false := H.st.p.frozen _
  have HS : Hid (∀ V, Below W.heap.size W V → WkAt V gk gs h n nw S t ⟨kind, reg, ad, value, sr, old, count⟩) := fun V hV => HG.out.on hV
  clear H
  go_enter Try.func155, Try.ntmps155
  have d1 : decide ((0 : Int) ≤ sr) = true := by simp
  go_upto_region 3 with fail
  go_quiet (fail)
  go_upto_region 6 with fail
  obtain ⟨V, hV, HV, hBV⟩ : ∃ V, V = W.drewN nq ∧ WkAt V gk gs h n nw S t ⟨kind, reg, ad, value, sr, old, count⟩ ∧ Below W.heap.size W V := ⟨_, rfl, HS.out _ ((Below.refl _ _).drewN _), (Below.refl _ _).drewN _⟩
  rw [← hV]
  clear hV
  have l0 : V.cell? ⟨gk, 0, none⟩ = some (.pointer (some ⟨gs, 0, none⟩)) := HV.k.cell rfl
  have l1 : V.cell? ⟨gk, 1, none⟩ = some (.int .i64 kind) := HV.k.cell rfl
  have l2 : V.cell? ⟨gk, 2, none⟩ = some (.int .i64 reg) := HV.k.cell rfl
  have l3 : V.cell? ⟨gk, 3, none⟩ = some (.int .i64 ad) := HV.k.cell rfl
  have l4 : V.cell? ⟨gk, 4, none⟩ = some (.int .i64 value) := HV.k.cell rfl
  have l5 : V.cell? ⟨gk, 5, none⟩ = some (.int .i64 sr) := HV.k.cell rfl
  have l6 : V.cell? ⟨gk, 6, none⟩ = some (.int .i64 old) := HV.k.cell rfl
  have l7 : V.cell? ⟨gk, 7, none⟩ = some (.int .i64 count) := HV.k.cell rfl
  have l8 : V.cell? ⟨gk, 8, none⟩ = some (.int .i64 t) := HV.k.cell rfl
  have l9 : V.cell? ⟨gk, 9, none⟩ = some (.bool false) := HV.k.cell rfl
  have q0 : V.cell? ⟨gs, 0, none⟩ = some (.slice (some ⟨h.gw, 0, none⟩) nw h.kw) := HV.s.cell rfl
  have q1 : V.cell? ⟨gs, 1, none⟩ = some (.slice (some ⟨h.gr, 0, none⟩) n h.kr) := HV.s.cell rfl
  have q2 : V.cell? ⟨gs, 2, none⟩ = some (.slice (some ⟨h.gp, 0, none⟩) n h.kp) := HV.s.cell rfl
  have q3 : V.cell? ⟨gs, 3, none⟩ = some (.slice (some ⟨h.gb, 0, none⟩) n h.kb) := HV.s.cell rfl
  have v2 : V.frozen? ⟨h.gw, ad, none⟩ = false := HV.st.w.frozen _
  have v3 : V.cell? ⟨h.gw, ad, none⟩ = some (.int .i64 (S.w ad)) := HV.wordc ha4
  have v5 : V.cell? ⟨h.gb, t, none⟩ = some (.slice none 0 0) := HV.st.buf HV.t
  have v6 : V.cell? ⟨h.gp, t, none⟩ = some (.int .i64 (S.p t)) := HV.plc
  have v7 : V.frozen? ⟨h.gp, t, none⟩ = false := HV.st.p.frozen _
  go_still_tail 14, (by kernel_rfl)
  go_wp2_with fail
  go_ret
  exact ⟨rfl, (HS.out _ (hBV.drew)).st.setW _ _, (Fr.of (hBV.drew)).setCell (Or.inl rfl) _⟩

set_option maxRecDepth 100000 in
set_option maxHeartbeats 4000000 in
theorem wstorev_any (W : World) (gk gs : Nat) (h : SH) (n nw : Nat) (S : LS) (t : Nat) (kind reg addr value src old count : Int) (H : WkAt W gk gs h n nw S t ⟨kind, reg, addr, value, src, old, count⟩) (hsn : src < 0) (ad : Nat) (ha : addr = (ad : Int)) (ha4 : ad < nw) :
    Calls Try.prog 155 #[.pointer (some ⟨gk, 0, none⟩)] W (WkR h n nw ⟨S.ws.set ad value, S.rs, S.ps⟩ true W) := by
  subst ha
  have HG := Lib.hid H
  have k0 : W.cell? ⟨gk, 0, none⟩ = some (.pointer (some ⟨gs, 0, none⟩)) := H.k.cell rfl
  have k1 : W.cell? ⟨gk, 1, none⟩ = some (.int .i64 kind) := H.k.cell rfl
  have k2 : W.cell? ⟨gk, 2, none⟩ = some (.int .i64 reg) := H.k.cell rfl
  have k3 : W.cell? ⟨gk, 3, none⟩ = some (.int .i64 ad) := H.k.cell rfl
  have k4 : W.cell? ⟨gk, 4, none⟩ = some (.int .i64 value) := H.k.cell rfl
  have k5 : W.cell? ⟨gk, 5, none⟩ = some (.int .i64 src) := H.k.cell rfl
  have k6 : W.cell? ⟨gk, 6, none⟩ = some (.int .i64 old) := H.k.cell rfl
  have k7 : W.cell? ⟨gk, 7, none⟩ = some (.int .i64 count) := H.k.cell rfl
  have k8 : W.cell? ⟨gk, 8, none⟩ = some (.int .i64 t) := H.k.cell rfl
  have k9 : W.cell? ⟨gk, 9, none⟩ = some (.bool false) := H.k.cell rfl
  have s0 : W.cell? ⟨gs, 0, none⟩ = some (.slice (some ⟨h.gw, 0, none⟩) nw h.kw) := H.s.cell rfl
  have s1 : W.cell? ⟨gs, 1, none⟩ = some (.slice (some ⟨h.gr, 0, none⟩) n h.kr) := H.s.cell rfl
  have s2 : W.cell? ⟨gs, 2, none⟩ = some (.slice (some ⟨h.gp, 0, none⟩) n h.kp) := H.s.cell rfl
  have s3 : W.cell? ⟨gs, 3, none⟩ = some (.slice (some ⟨h.gb, 0, none⟩) n h.kb) := H.s.cell rfl
  have e0 : (0 : Int) ≤ t := by omega
  have e1 : (t : Int) < n := by have := H.t; omega
  have e4 : (0 : Int) ≤ ad := by omega
  have e5 : (ad : Int) < nw := by omega
  have g2 : W.frozen? ⟨h.gw, ad, none⟩ = false := H.st.w.frozen _
  have g3 : W.cell? ⟨h.gw, ad, none⟩ = some (.int .i64 (S.w ad)) := H.wordc ha4
  have g5 : W.cell? ⟨h.gb, t, none⟩ = some (.slice none 0 0) := H.st.buf H.t
  have g6 : W.cell? ⟨h.gp, t, none⟩ = some (.int .i64 (S.p t)) := H.plc
  have g7 : W.frozen? ⟨h.gp, t, none⟩ = false := H.st.p.frozen _
  have HS : Hid (∀ V, Below W.heap.size W V → WkAt V gk gs h n nw S t ⟨kind, reg, ad, value, src, old, count⟩) := fun V hV => HG.out.on hV
  clear H
  go_enter Try.func155, Try.ntmps155
  have d1 : decide ((0 : Int) ≤ src) = false := by simp; omega
  have d2 : ¬ (0 : Int) ≤ src := by omega
  go_upto_region 6 with fail
  go_still_tail 14, (by kernel_rfl)
  go_wp2_with fail
  go_ret
  exact ⟨rfl, (HS.out _ (Below.refl _ _).drew).st.setW _ _, (Fr.of (Below.refl _ _).drew).setCell (Or.inl rfl) _⟩

set_option maxRecDepth 100000 in
set_option maxHeartbeats 4000000 in
theorem wskip_no (W : World) (gk gs : Nat) (h : SH) (n nw : Nat) (S : LS) (t : Nat) (kind reg addr value src old count : Int) (H : WkAt W gk gs h n nw S t ⟨kind, reg, addr, value, src, old, count⟩) (hne : ¬ S.r t reg.toNat = value) (rg : Nat) (hr : reg = (rg : Int)) (hr4 : rg < 4) :
    Calls Try.prog 160 #[.pointer (some ⟨gk, 0, none⟩)] W (WkR h n nw S true W) := by
  subst hr
  have HG := Lib.hid H
  have k0 : W.cell? ⟨gk, 0, none⟩ = some (.pointer (some ⟨gs, 0, none⟩)) := H.k.cell rfl
  have k1 : W.cell? ⟨gk, 1, none⟩ = some (.int .i64 kind) := H.k.cell rfl
  have k2 : W.cell? ⟨gk, 2, none⟩ = some (.int .i64 rg) := H.k.cell rfl
  have k3 : W.cell? ⟨gk, 3, none⟩ = some (.int .i64 addr) := H.k.cell rfl
  have k4 : W.cell? ⟨gk, 4, none⟩ = some (.int .i64 value) := H.k.cell rfl
  have k5 : W.cell? ⟨gk, 5, none⟩ = some (.int .i64 src) := H.k.cell rfl
  have k6 : W.cell? ⟨gk, 6, none⟩ = some (.int .i64 old) := H.k.cell rfl
  have k7 : W.cell? ⟨gk, 7, none⟩ = some (.int .i64 count) := H.k.cell rfl
  have k8 : W.cell? ⟨gk, 8, none⟩ = some (.int .i64 t) := H.k.cell rfl
  have k9 : W.cell? ⟨gk, 9, none⟩ = some (.bool false) := H.k.cell rfl
  have s0 : W.cell? ⟨gs, 0, none⟩ = some (.slice (some ⟨h.gw, 0, none⟩) nw h.kw) := H.s.cell rfl
  have s1 : W.cell? ⟨gs, 1, none⟩ = some (.slice (some ⟨h.gr, 0, none⟩) n h.kr) := H.s.cell rfl
  have s2 : W.cell? ⟨gs, 2, none⟩ = some (.slice (some ⟨h.gp, 0, none⟩) n h.kp) := H.s.cell rfl
  have s3 : W.cell? ⟨gs, 3, none⟩ = some (.slice (some ⟨h.gb, 0, none⟩) n h.kb) := H.s.cell rfl
  have e0 : (0 : Int) ≤ t := by omega
  have e1 : (t : Int) < n := by have := H.t; omega
  have e2 : (0 : Int) ≤ rg := by omega
  have e3 : (rg : Int) < 4 := by omega
  have g0 : W.frozen? ⟨h.gr, t * 4 + rg, none⟩ = false := H.st.r.frozen _
  have g1 : W.cell? ⟨h.gr, t * 4 + rg, none⟩ = some (.int .i64 (S.r t rg)) := H.regc hr4
  have g5 : W.cell? ⟨h.gb, t, none⟩ = some (.slice none 0 0) := H.st.buf H.t
  have g6 : W.cell? ⟨h.gp, t, none⟩ = some (.int .i64 (S.p t)) := H.plc
  have g7 : W.frozen? ⟨h.gp, t, none⟩ = false := H.st.p.frozen _
  have HS : Hid (∀ V, Below W.heap.size W V → WkAt V gk gs h n nw S t ⟨kind, rg, addr, value, src, old, count⟩) := fun V hV => HG.out.on hV
  clear H
  go_enter Try.func160, Try.ntmps160
  have d1 : (S.r t rg == value) = false := by simpa using hne
  have d2 : decide (S.r t rg = value) = false := by simpa using hne
  go_upto_region 1 with fail
  go_quiet ((go_at_call 163; exact Calls.quiet_of (reg_any _ gk gs h n nw S t kind rg addr value src old count (HS.out _ ((Below.refl _ _).drewN _)) rg rfl hr4)))
  go_wp2_with fail
  go_ret
  exact ⟨rfl, (HS.out _ ((Below.refl _ _).drewN _)).st, Fr.of ((Below.refl _ _).drewN _)⟩

set_option maxRecDepth 100000 in
set_option maxHeartbeats 4000000 in
theorem wskip_yes (W : World) (gk gs : Nat) (h : SH) (n nw : Nat) (S : LS) (t : Nat) (kind reg addr value src old count : Int) (H : WkAt W gk gs h n nw S t ⟨kind, reg, addr, value, src, old, count⟩) (heq : S.r t reg.toNat = value) (rg : Nat) (hr : reg = (rg : Int)) (hr4 : rg < 4) (cn : Nat) (hc : count = (cn : Int)) (hc4 : cn ≤ 10) (hp : S.p t ≤ 10) :
    Calls Try.prog 160 #[.pointer (some ⟨gk, 0, none⟩)] W (WkR h n nw ⟨S.ws, S.rs, S.ps.set t (S.p t + cn)⟩ true W) := by
  subst hr
  subst hc
  have HG := Lib.hid H
  have k0 : W.cell? ⟨gk, 0, none⟩ = some (.pointer (some ⟨gs, 0, none⟩)) := H.k.cell rfl
  have k1 : W.cell? ⟨gk, 1, none⟩ = some (.int .i64 kind) := H.k.cell rfl
  have k2 : W.cell? ⟨gk, 2, none⟩ = some (.int .i64 rg) := H.k.cell rfl
  have k3 : W.cell? ⟨gk, 3, none⟩ = some (.int .i64 addr) := H.k.cell rfl
  have k4 : W.cell? ⟨gk, 4, none⟩ = some (.int .i64 value) := H.k.cell rfl
  have k5 : W.cell? ⟨gk, 5, none⟩ = some (.int .i64 src) := H.k.cell rfl
  have k6 : W.cell? ⟨gk, 6, none⟩ = some (.int .i64 old) := H.k.cell rfl
  have k7 : W.cell? ⟨gk, 7, none⟩ = some (.int .i64 cn) := H.k.cell rfl
  have k8 : W.cell? ⟨gk, 8, none⟩ = some (.int .i64 t) := H.k.cell rfl
  have k9 : W.cell? ⟨gk, 9, none⟩ = some (.bool false) := H.k.cell rfl
  have s0 : W.cell? ⟨gs, 0, none⟩ = some (.slice (some ⟨h.gw, 0, none⟩) nw h.kw) := H.s.cell rfl
  have s1 : W.cell? ⟨gs, 1, none⟩ = some (.slice (some ⟨h.gr, 0, none⟩) n h.kr) := H.s.cell rfl
  have s2 : W.cell? ⟨gs, 2, none⟩ = some (.slice (some ⟨h.gp, 0, none⟩) n h.kp) := H.s.cell rfl
  have s3 : W.cell? ⟨gs, 3, none⟩ = some (.slice (some ⟨h.gb, 0, none⟩) n h.kb) := H.s.cell rfl
  have e0 : (0 : Int) ≤ t := by omega
  have e1 : (t : Int) < n := by have := H.t; omega
  have e2 : (0 : Int) ≤ rg := by omega
  have e3 : (rg : Int) < 4 := by omega
  have g0 : W.frozen? ⟨h.gr, t * 4 + rg, none⟩ = false := H.st.r.frozen _
  have g1 : W.cell? ⟨h.gr, t * 4 + rg, none⟩ = some (.int .i64 (S.r t rg)) := H.regc hr4
  have g5 : W.cell? ⟨h.gb, t, none⟩ = some (.slice none 0 0) := H.st.buf H.t
  have g6 : W.cell? ⟨h.gp, t, none⟩ = some (.int .i64 (S.p t)) := H.plc
  have g7 : W.frozen? ⟨h.gp, t, none⟩ = false := H.st.p.frozen _
  have HS : Hid (∀ V, Below W.heap.size W V → WkAt V gk gs h n nw S t ⟨kind, rg, addr, value, src, old, cn⟩) := fun V hV => HG.out.on hV
  clear H
  go_enter Try.func160, Try.ntmps160
  have d1 : (S.r t rg == value) = true := by simpa using heq
  have d2 : decide (S.r t rg = value) = true := by simpa using heq
  go_upto_region 1 with fail
  go_quiet ((go_at_call 163; exact Calls.quiet_of (reg_any _ gk gs h n nw S t kind rg addr value src old cn (HS.out _ ((Below.refl _ _).drewN _)) rg rfl hr4)))
  go_upto_region 2 with fail
  obtain ⟨V, hV, HV, hBV⟩ : ∃ V, V = W.drewN nq ∧ WkAt V gk gs h n nw S t ⟨kind, rg, addr, value, src, old, cn⟩ ∧ Below W.heap.size W V := ⟨_, rfl, HS.out _ ((Below.refl _ _).drewN _), (Below.refl _ _).drewN _⟩
  rw [← hV]
  clear hV
  have l0 : V.cell? ⟨gk, 0, none⟩ = some (.pointer (some ⟨gs, 0, none⟩)) := HV.k.cell rfl
  have l1 : V.cell? ⟨gk, 1, none⟩ = some (.int .i64 kind) := HV.k.cell rfl
  have l2 : V.cell? ⟨gk, 2, none⟩ = some (.int .i64 rg) := HV.k.cell rfl
  have l3 : V.cell? ⟨gk, 3, none⟩ = some (.int .i64 addr) := HV.k.cell rfl
  have l4 : V.cell? ⟨gk, 4, none⟩ = some (.int .i64 value) := HV.k.cell rfl
  have l5 : V.cell? ⟨gk, 5, none⟩ = some (.int .i64 src) := HV.k.cell rfl
  have l6 : V.cell? ⟨gk, 6, none⟩ = some (.int .i64 old) := HV.k.cell rfl
  have l7 : V.cell? ⟨gk, 7, none⟩ = some (.int .i64 cn) := HV.k.cell rfl
  have l8 : V.cell? ⟨gk, 8, none⟩ = some (.int .i64 t) := HV.k.cell rfl
  have l9 : V.cell? ⟨gk, 9, none⟩ = some (.bool false) := HV.k.cell rfl
  have q0 : V.cell? ⟨gs, 0, none⟩ = some (.slice (some ⟨h.gw, 0, none⟩) nw h.kw) := HV.s.cell rfl
  have q1 : V.cell? ⟨gs, 1, none⟩ = some (.slice (some ⟨h.gr, 0, none⟩) n h.kr) := HV.s.cell rfl
  have q2 : V.cell? ⟨gs, 2, none⟩ = some (.slice (some ⟨h.gp, 0, none⟩) n h.kp) := HV.s.cell rfl
  have q3 : V.cell? ⟨gs, 3, none⟩ = some (.slice (some ⟨h.gb, 0, none⟩) n h.kb) := HV.s.cell rfl
  have v0 : V.frozen? ⟨h.gr, t * 4 + rg, none⟩ = false := HV.st.r.frozen _
  have v1 : V.cell? ⟨h.gr, t * 4 + rg, none⟩ = some (.int .i64 (S.r t rg)) := HV.regc hr4
  have v5 : V.cell? ⟨h.gb, t, none⟩ = some (.slice none 0 0) := HV.st.buf HV.t
  have v6 : V.cell? ⟨h.gp, t, none⟩ = some (.int .i64 (S.p t)) := HV.plc
  have v7 : V.frozen? ⟨h.gp, t, none⟩ = false := HV.st.p.frozen _
  have x1 : IntKind.i64.wrap ((S.p t : Int) + (cn : Int)) = ((S.p t + cn : Nat) : Int) := (IntWalk.i64_in _ (by omega)).trans (by simp)
  go_still_tail 20, (by kernel_rfl)
  go_wp2_with fail
  go_ret
  exact ⟨rfl, (HS.out _ (hBV.drew)).st.setP _ _, (Fr.of (hBV.drew)).setCell (Or.inr (Or.inr rfl)) _⟩

set_option maxRecDepth 100000 in
set_option maxHeartbeats 4000000 in
theorem wswap_no (W : World) (gk gs : Nat) (h : SH) (n nw : Nat) (S : LS) (t : Nat) (kind reg addr value src old count : Int) (H : WkAt W gk gs h n nw S t ⟨kind, reg, addr, value, src, old, count⟩) (hne : ¬ S.w addr.toNat = old) (rg : Nat) (hr : reg = (rg : Int)) (hr4 : rg < 4) (ad : Nat) (ha : addr = (ad : Int)) (ha4 : ad < nw) :
    Calls Try.prog 156 #[.pointer (some ⟨gk, 0, none⟩)] W (WkR h n nw (LS.mk S.ws (S.rs.set (t * 4 + rg) 0) S.ps) true W) := by
  subst hr
  subst ha
  have HG := Lib.hid H
  have k0 : W.cell? ⟨gk, 0, none⟩ = some (.pointer (some ⟨gs, 0, none⟩)) := H.k.cell rfl
  have k1 : W.cell? ⟨gk, 1, none⟩ = some (.int .i64 kind) := H.k.cell rfl
  have k2 : W.cell? ⟨gk, 2, none⟩ = some (.int .i64 rg) := H.k.cell rfl
  have k3 : W.cell? ⟨gk, 3, none⟩ = some (.int .i64 ad) := H.k.cell rfl
  have k4 : W.cell? ⟨gk, 4, none⟩ = some (.int .i64 value) := H.k.cell rfl
  have k5 : W.cell? ⟨gk, 5, none⟩ = some (.int .i64 src) := H.k.cell rfl
  have k6 : W.cell? ⟨gk, 6, none⟩ = some (.int .i64 old) := H.k.cell rfl
  have k7 : W.cell? ⟨gk, 7, none⟩ = some (.int .i64 count) := H.k.cell rfl
  have k8 : W.cell? ⟨gk, 8, none⟩ = some (.int .i64 t) := H.k.cell rfl
  have k9 : W.cell? ⟨gk, 9, none⟩ = some (.bool false) := H.k.cell rfl
  have s0 : W.cell? ⟨gs, 0, none⟩ = some (.slice (some ⟨h.gw, 0, none⟩) nw h.kw) := H.s.cell rfl
  have s1 : W.cell? ⟨gs, 1, none⟩ = some (.slice (some ⟨h.gr, 0, none⟩) n h.kr) := H.s.cell rfl
  have s2 : W.cell? ⟨gs, 2, none⟩ = some (.slice (some ⟨h.gp, 0, none⟩) n h.kp) := H.s.cell rfl
  have s3 : W.cell? ⟨gs, 3, none⟩ = some (.slice (some ⟨h.gb, 0, none⟩) n h.kb) := H.s.cell rfl
  have e0 : (0 : Int) ≤ t := by omega
  have e1 : (t : Int) < n := by have := H.t; omega
  have e2 : (0 : Int) ≤ rg := by omega
  have e3 : (rg : Int) < 4 := by omega
  have g0 : W.frozen? ⟨h.gr, t * 4 + rg, none⟩ = false := H.st.r.frozen _
  have g1 : W.cell? ⟨h.gr, t * 4 + rg, none⟩ = some (.int .i64 (S.r t rg)) := H.regc hr4
  have e4 : (0 : Int) ≤ ad := by omega
  have e5 : (ad : Int) < nw := by omega
  have g2 : W.frozen? ⟨h.gw, ad, none⟩ = false := H.st.w.frozen _
  have g3 : W.cell? ⟨h.gw, ad, none⟩ = some (.int .i64 (S.w ad)) := H.wordc ha4
  have g5 : W.cell? ⟨h.gb, t, none⟩ = some (.slice none 0 0) := H.st.buf H.t
  have g6 : W.cell? ⟨h.gp, t, none⟩ = some (.int .i64 (S.p t)) := H.plc
  have g7 : W.frozen? ⟨h.gp, t, none⟩ = false := H.st.p.frozen _
  have HS : Hid (∀ V, Below W.heap.size W V → WkAt V gk gs h n nw S t ⟨kind, rg, ad, value, src, old, count⟩) := fun V hV => HG.out.on hV
  clear H
  go_enter Try.func156, Try.ntmps156
  go_upto_region 3 with (go_at_call 157; go_must (refine (drained_any _ gk gs h n nw S t kind rg ad value src old count HG.out).mono ?_; rintro e w3 ⟨rfl, m0, rfl⟩))
  go_upto_region 4 with (go_at_call 163; go_must (refine (reg_any _ gk gs h n nw _ t kind rg ad value src old count (HS.out _ ((Below.refl _ _).drewN _)) rg rfl hr4).mono ?_; rintro e w3 ⟨rfl, m, rfl⟩))
  obtain ⟨V, hV, HV, FV⟩ : ∃ Z9, Z9 = (W.drewN (m0 + m)).setCell ⟨h.gr, t * 4 + rg, none⟩ (.int .i64 0) ∧ WkAt Z9 gk gs h n nw (LS.mk S.ws (S.rs.set (t * 4 + rg) 0) S.ps) t ⟨kind, rg, ad, value, src, old, count⟩ ∧ Fr (SF h) W Z9 := ⟨_, rfl, (HS.out _ ((Below.refl _ _).drewN _)).setR _ _, (Fr.of ((Below.refl _ _).drewN _)).setCell (Or.inr (Or.inl rfl)) _⟩
  rw [← hV]
  clear hV
  have l0 : V.cell? ⟨gk, 0, none⟩ = some (.pointer (some ⟨gs, 0, none⟩)) := HV.k.cell rfl
  have l1 : V.cell? ⟨gk, 1, none⟩ = some (.int .i64 kind) := HV.k.cell rfl
  have l2 : V.cell? ⟨gk, 2, none⟩ = some (.int .i64 rg) := HV.k.cell rfl
  have l3 : V.cell? ⟨gk, 3, none⟩ = some (.int .i64 ad) := HV.k.cell rfl
  have l4 : V.cell? ⟨gk, 4, none⟩ = some (.int .i64 value) := HV.k.cell rfl
  have l5 : V.cell? ⟨gk, 5, none⟩ = some (.int .i64 src) := HV.k.cell rfl
  have l6 : V.cell? ⟨gk, 6, none⟩ = some (.int .i64 old) := HV.k.cell rfl
  have l7 : V.cell? ⟨gk, 7, none⟩ = some (.int .i64 count) := HV.k.cell rfl
  have l8 : V.cell? ⟨gk, 8, none⟩ = some (.int .i64 t) := HV.k.cell rfl
  have l9 : V.cell? ⟨gk, 9, none⟩ = some (.bool false) := HV.k.cell rfl
  have q0 : V.cell? ⟨gs, 0, none⟩ = some (.slice (some ⟨h.gw, 0, none⟩) nw h.kw) := HV.s.cell rfl
  have q1 : V.cell? ⟨gs, 1, none⟩ = some (.slice (some ⟨h.gr, 0, none⟩) n h.kr) := HV.s.cell rfl
  have q2 : V.cell? ⟨gs, 2, none⟩ = some (.slice (some ⟨h.gp, 0, none⟩) n h.kp) := HV.s.cell rfl
  have q3 : V.cell? ⟨gs, 3, none⟩ = some (.slice (some ⟨h.gb, 0, none⟩) n h.kb) := HV.s.cell rfl
  have v0 : V.frozen? ⟨h.gr, t * 4 + rg, none⟩ = false := HV.st.r.frozen _
  have v1 : V.cell? ⟨h.gr, t * 4 + rg, none⟩ = some (.int .i64 ((LS.mk S.ws (S.rs.set (t * 4 + rg) 0) S.ps).r t rg)) := HV.regc hr4
  have v2 : V.frozen? ⟨h.gw, ad, none⟩ = false := HV.st.w.frozen _
  have v3 : V.cell? ⟨h.gw, ad, none⟩ = some (.int .i64 (S.w ad)) := HV.wordc ha4
  have v5 : V.cell? ⟨h.gb, t, none⟩ = some (.slice none 0 0) := HV.st.buf HV.t
  have v6 : V.cell? ⟨h.gp, t, none⟩ = some (.int .i64 (S.p t)) := HV.plc
  have v7 : V.frozen? ⟨h.gp, t, none⟩ = false := HV.st.p.frozen _
  clear k0 k1 k2 k3 k4 k5 k6 k7 k8 k9 s0 s1 s2 s3 g0 g1 g2 g3 g5 g6 g7
  have d1 : (S.w ad == old) = false := by simpa using hne
  have d2 : decide (S.w ad = old) = false := by simpa using hne
  go_quiet (fail)
  go_wp2_with fail
  go_ret
  exact ⟨rfl, (HV.on ((Below.refl _ _).drewN _)).st, FV.trans (Fr.of ((Below.refl _ _).drewN _))⟩

set_option maxRecDepth 100000 in
set_option maxHeartbeats 4000000 in
theorem wswap_yes (W : World) (gk gs : Nat) (h : SH) (n nw : Nat) (S : LS) (t : Nat) (kind reg addr value src old count : Int) (H : WkAt W gk gs h n nw S t ⟨kind, reg, addr, value, src, old, count⟩) (heq : S.w addr.toNat = old) (rg : Nat) (hr : reg = (rg : Int)) (hr4 : rg < 4) (ad : Nat) (ha : addr = (ad : Int)) (ha4 : ad < nw) :
    Calls Try.prog 156 #[.pointer (some ⟨gk, 0, none⟩)] W (WkR h n nw (LS.mk (S.ws.set ad value) (S.rs.set (t * 4 + rg) 1) S.ps) true W) := by
  subst hr
  subst ha
  have HG := Lib.hid H
  have k0 : W.cell? ⟨gk, 0, none⟩ = some (.pointer (some ⟨gs, 0, none⟩)) := H.k.cell rfl
  have k1 : W.cell? ⟨gk, 1, none⟩ = some (.int .i64 kind) := H.k.cell rfl
  have k2 : W.cell? ⟨gk, 2, none⟩ = some (.int .i64 rg) := H.k.cell rfl
  have k3 : W.cell? ⟨gk, 3, none⟩ = some (.int .i64 ad) := H.k.cell rfl
  have k4 : W.cell? ⟨gk, 4, none⟩ = some (.int .i64 value) := H.k.cell rfl
  have k5 : W.cell? ⟨gk, 5, none⟩ = some (.int .i64 src) := H.k.cell rfl
  have k6 : W.cell? ⟨gk, 6, none⟩ = some (.int .i64 old) := H.k.cell rfl
  have k7 : W.cell? ⟨gk, 7, none⟩ = some (.int .i64 count) := H.k.cell rfl
  have k8 : W.cell? ⟨gk, 8, none⟩ = some (.int .i64 t) := H.k.cell rfl
  have k9 : W.cell? ⟨gk, 9, none⟩ = some (.bool false) := H.k.cell rfl
  have s0 : W.cell? ⟨gs, 0, none⟩ = some (.slice (some ⟨h.gw, 0, none⟩) nw h.kw) := H.s.cell rfl
  have s1 : W.cell? ⟨gs, 1, none⟩ = some (.slice (some ⟨h.gr, 0, none⟩) n h.kr) := H.s.cell rfl
  have s2 : W.cell? ⟨gs, 2, none⟩ = some (.slice (some ⟨h.gp, 0, none⟩) n h.kp) := H.s.cell rfl
  have s3 : W.cell? ⟨gs, 3, none⟩ = some (.slice (some ⟨h.gb, 0, none⟩) n h.kb) := H.s.cell rfl
  have e0 : (0 : Int) ≤ t := by omega
  have e1 : (t : Int) < n := by have := H.t; omega
  have e2 : (0 : Int) ≤ rg := by omega
  have e3 : (rg : Int) < 4 := by omega
  have g0 : W.frozen? ⟨h.gr, t * 4 + rg, none⟩ = false := H.st.r.frozen _
  have g1 : W.cell? ⟨h.gr, t * 4 + rg, none⟩ = some (.int .i64 (S.r t rg)) := H.regc hr4
  have e4 : (0 : Int) ≤ ad := by omega
  have e5 : (ad : Int) < nw := by omega
  have g2 : W.frozen? ⟨h.gw, ad, none⟩ = false := H.st.w.frozen _
  have g3 : W.cell? ⟨h.gw, ad, none⟩ = some (.int .i64 (S.w ad)) := H.wordc ha4
  have g5 : W.cell? ⟨h.gb, t, none⟩ = some (.slice none 0 0) := H.st.buf H.t
  have g6 : W.cell? ⟨h.gp, t, none⟩ = some (.int .i64 (S.p t)) := H.plc
  have g7 : W.frozen? ⟨h.gp, t, none⟩ = false := H.st.p.frozen _
  have HS : Hid (∀ V, Below W.heap.size W V → WkAt V gk gs h n nw S t ⟨kind, rg, ad, value, src, old, count⟩) := fun V hV => HG.out.on hV
  clear H
  go_enter Try.func156, Try.ntmps156
  go_upto_region 3 with (go_at_call 157; go_must (refine (drained_any _ gk gs h n nw S t kind rg ad value src old count HG.out).mono ?_; rintro e w3 ⟨rfl, m0, rfl⟩))
  go_upto_region 4 with (go_at_call 163; go_must (refine (reg_any _ gk gs h n nw _ t kind rg ad value src old count (HS.out _ ((Below.refl _ _).drewN _)) rg rfl hr4).mono ?_; rintro e w3 ⟨rfl, m, rfl⟩))
  obtain ⟨V, hV, HV, FV⟩ : ∃ Z9, Z9 = (W.drewN (m0 + m)).setCell ⟨h.gr, t * 4 + rg, none⟩ (.int .i64 0) ∧ WkAt Z9 gk gs h n nw (LS.mk S.ws (S.rs.set (t * 4 + rg) 0) S.ps) t ⟨kind, rg, ad, value, src, old, count⟩ ∧ Fr (SF h) W Z9 := ⟨_, rfl, (HS.out _ ((Below.refl _ _).drewN _)).setR _ _, (Fr.of ((Below.refl _ _).drewN _)).setCell (Or.inr (Or.inl rfl)) _⟩
  rw [← hV]
  clear hV
  have l0 : V.cell? ⟨gk, 0, none⟩ = some (.pointer (some ⟨gs, 0, none⟩)) := HV.k.cell rfl
  have l1 : V.cell? ⟨gk, 1, none⟩ = some (.int .i64 kind) := HV.k.cell rfl
  have l2 : V.cell? ⟨gk, 2, none⟩ = some (.int .i64 rg) := HV.k.cell rfl
  have l3 : V.cell? ⟨gk, 3, none⟩ = some (.int .i64 ad) := HV.k.cell rfl
  have l4 : V.cell? ⟨gk, 4, none⟩ = some (.int .i64 value) := HV.k.cell rfl
  have l5 : V.cell? ⟨gk, 5, none⟩ = some (.int .i64 src) := HV.k.cell rfl
  have l6 : V.cell? ⟨gk, 6, none⟩ = some (.int .i64 old) := HV.k.cell rfl
  have l7 : V.cell? ⟨gk, 7, none⟩ = some (.int .i64 count) := HV.k.cell rfl
  have l8 : V.cell? ⟨gk, 8, none⟩ = some (.int .i64 t) := HV.k.cell rfl
  have l9 : V.cell? ⟨gk, 9, none⟩ = some (.bool false) := HV.k.cell rfl
  have q0 : V.cell? ⟨gs, 0, none⟩ = some (.slice (some ⟨h.gw, 0, none⟩) nw h.kw) := HV.s.cell rfl
  have q1 : V.cell? ⟨gs, 1, none⟩ = some (.slice (some ⟨h.gr, 0, none⟩) n h.kr) := HV.s.cell rfl
  have q2 : V.cell? ⟨gs, 2, none⟩ = some (.slice (some ⟨h.gp, 0, none⟩) n h.kp) := HV.s.cell rfl
  have q3 : V.cell? ⟨gs, 3, none⟩ = some (.slice (some ⟨h.gb, 0, none⟩) n h.kb) := HV.s.cell rfl
  have v0 : V.frozen? ⟨h.gr, t * 4 + rg, none⟩ = false := HV.st.r.frozen _
  have v1 : V.cell? ⟨h.gr, t * 4 + rg, none⟩ = some (.int .i64 ((LS.mk S.ws (S.rs.set (t * 4 + rg) 0) S.ps).r t rg)) := HV.regc hr4
  have v2 : V.frozen? ⟨h.gw, ad, none⟩ = false := HV.st.w.frozen _
  have v3 : V.cell? ⟨h.gw, ad, none⟩ = some (.int .i64 (S.w ad)) := HV.wordc ha4
  have v5 : V.cell? ⟨h.gb, t, none⟩ = some (.slice none 0 0) := HV.st.buf HV.t
  have v6 : V.cell? ⟨h.gp, t, none⟩ = some (.int .i64 (S.p t)) := HV.plc
  have v7 : V.frozen? ⟨h.gp, t, none⟩ = false := HV.st.p.frozen _
  clear k0 k1 k2 k3 k4 k5 k6 k7 k8 k9 s0 s1 s2 s3 g0 g1 g2 g3 g5 g6 g7
  have d1 : (S.w ad == old) = true := by simpa using heq
  have d2 : decide (S.w ad = old) = true := by simpa using heq
  go_quiet (fail)
  go_upto_region 5 with fail
  obtain ⟨X, hX, HX, FX⟩ : ∃ Z9, Z9 = V.drewN nq ∧ WkAt Z9 gk gs h n nw (LS.mk S.ws (S.rs.set (t * 4 + rg) 0) S.ps) t ⟨kind, rg, ad, value, src, old, count⟩ ∧ Fr (SF h) W Z9 := ⟨_, rfl, HV.on ((Below.refl _ _).drewN _), FV.trans (Fr.of ((Below.refl _ _).drewN _))⟩
  rw [← hX]
  clear hX
  have kx0 : X.cell? ⟨gk, 0, none⟩ = some (.pointer (some ⟨gs, 0, none⟩)) := HX.k.cell rfl
  have kx1 : X.cell? ⟨gk, 1, none⟩ = some (.int .i64 kind) := HX.k.cell rfl
  have kx2 : X.cell? ⟨gk, 2, none⟩ = some (.int .i64 rg) := HX.k.cell rfl
  have kx3 : X.cell? ⟨gk, 3, none⟩ = some (.int .i64 ad) := HX.k.cell rfl
  have kx4 : X.cell? ⟨gk, 4, none⟩ = some (.int .i64 value) := HX.k.cell rfl
  have kx5 : X.cell? ⟨gk, 5, none⟩ = some (.int .i64 src) := HX.k.cell rfl
  have kx6 : X.cell? ⟨gk, 6, none⟩ = some (.int .i64 old) := HX.k.cell rfl
  have kx7 : X.cell? ⟨gk, 7, none⟩ = some (.int .i64 count) := HX.k.cell rfl
  have kx8 : X.cell? ⟨gk, 8, none⟩ = some (.int .i64 t) := HX.k.cell rfl
  have kx9 : X.cell? ⟨gk, 9, none⟩ = some (.bool false) := HX.k.cell rfl
  have qx0 : X.cell? ⟨gs, 0, none⟩ = some (.slice (some ⟨h.gw, 0, none⟩) nw h.kw) := HX.s.cell rfl
  have qx1 : X.cell? ⟨gs, 1, none⟩ = some (.slice (some ⟨h.gr, 0, none⟩) n h.kr) := HX.s.cell rfl
  have qx2 : X.cell? ⟨gs, 2, none⟩ = some (.slice (some ⟨h.gp, 0, none⟩) n h.kp) := HX.s.cell rfl
  have qx3 : X.cell? ⟨gs, 3, none⟩ = some (.slice (some ⟨h.gb, 0, none⟩) n h.kb) := HX.s.cell rfl
  have vx0 : X.frozen? ⟨h.gr, t * 4 + rg, none⟩ = false := HX.st.r.frozen _
  have vx1 : X.cell? ⟨h.gr, t * 4 + rg, none⟩ = some (.int .i64 ((LS.mk S.ws (S.rs.set (t * 4 + rg) 0) S.ps).r t rg)) := HX.regc hr4
  have vx2 : X.frozen? ⟨h.gw, ad, none⟩ = false := HX.st.w.frozen _
  have vx3 : X.cell? ⟨h.gw, ad, none⟩ = some (.int .i64 (S.w ad)) := HX.wordc ha4
  have vx5 : X.cell? ⟨h.gb, t, none⟩ = some (.slice none 0 0) := HX.st.buf HX.t
  have vx6 : X.cell? ⟨h.gp, t, none⟩ = some (.int .i64 (S.p t)) := HX.plc
  have vx7 : X.frozen? ⟨h.gp, t, none⟩ = false := HX.st.p.frozen _
  clear l0 l1 l2 l3 l4 l5 l6 l7 l8 l9 q0 q1 q2 q3 v0 v1 v2 v3 v5 v6 v7
  go_still_tail 18, (by kernel_rfl)
  go_upto_region 6 with fail
  obtain ⟨Y, hY, HY, FY⟩ : ∃ Z9, Z9 = (X.setCell ⟨h.gw, ad, none⟩ (.int .i64 value)).drew ∧ WkAt Z9 gk gs h n nw (LS.mk (S.ws.set ad value) (S.rs.set (t * 4 + rg) 0) S.ps) t ⟨kind, rg, ad, value, src, old, count⟩ ∧ Fr (SF h) W Z9 := ⟨_, rfl, (HX.setW _ _).on (Below.refl _ _).drew, (FX.setCell (Or.inl rfl) _).drew⟩
  rw [← hY]
  clear hY
  have ky0 : Y.cell? ⟨gk, 0, none⟩ = some (.pointer (some ⟨gs, 0, none⟩)) := HY.k.cell rfl
  have ky1 : Y.cell? ⟨gk, 1, none⟩ = some (.int .i64 kind) := HY.k.cell rfl
  have ky2 : Y.cell? ⟨gk, 2, none⟩ = some (.int .i64 rg) := HY.k.cell rfl
  have ky3 : Y.cell? ⟨gk, 3, none⟩ = some (.int .i64 ad) := HY.k.cell rfl
  have ky4 : Y.cell? ⟨gk, 4, none⟩ = some (.int .i64 value) := HY.k.cell rfl
  have ky5 : Y.cell? ⟨gk, 5, none⟩ = some (.int .i64 src) := HY.k.cell rfl
  have ky6 : Y.cell? ⟨gk, 6, none⟩ = some (.int .i64 old) := HY.k.cell rfl
  have ky7 : Y.cell? ⟨gk, 7, none⟩ = some (.int .i64 count) := HY.k.cell rfl
  have ky8 : Y.cell? ⟨gk, 8, none⟩ = some (.int .i64 t) := HY.k.cell rfl
  have ky9 : Y.cell? ⟨gk, 9, none⟩ = some (.bool false) := HY.k.cell rfl
  have qy0 : Y.cell? ⟨gs, 0, none⟩ = some (.slice (some ⟨h.gw, 0, none⟩) nw h.kw) := HY.s.cell rfl
  have qy1 : Y.cell? ⟨gs, 1, none⟩ = some (.slice (some ⟨h.gr, 0, none⟩) n h.kr) := HY.s.cell rfl
  have qy2 : Y.cell? ⟨gs, 2, none⟩ = some (.slice (some ⟨h.gp, 0, none⟩) n h.kp) := HY.s.cell rfl
  have qy3 : Y.cell? ⟨gs, 3, none⟩ = some (.slice (some ⟨h.gb, 0, none⟩) n h.kb) := HY.s.cell rfl
  have vy0 : Y.frozen? ⟨h.gr, t * 4 + rg, none⟩ = false := HY.st.r.frozen _
  have vy1 : Y.cell? ⟨h.gr, t * 4 + rg, none⟩ = some (.int .i64 ((LS.mk (S.ws.set ad value) (S.rs.set (t * 4 + rg) 0) S.ps).r t rg)) := HY.regc hr4
  have vy2 : Y.frozen? ⟨h.gw, ad, none⟩ = false := HY.st.w.frozen _
  have vy3 : Y.cell? ⟨h.gw, ad, none⟩ = some (.int .i64 ((LS.mk (S.ws.set ad value) (S.rs.set (t * 4 + rg) 0) S.ps).w ad)) := HY.wordc ha4
  have vy5 : Y.cell? ⟨h.gb, t, none⟩ = some (.slice none 0 0) := HY.st.buf HY.t
  have vy6 : Y.cell? ⟨h.gp, t, none⟩ = some (.int .i64 (S.p t)) := HY.plc
  have vy7 : Y.frozen? ⟨h.gp, t, none⟩ = false := HY.st.p.frozen _
  clear kx0 kx1 kx2 kx3 kx4 kx5 kx6 kx7 kx8 kx9 qx0 qx1 qx2 qx3 vx0 vx1 vx2 vx3 vx5 vx6 vx7
  go_wp2_with ((go_at_call 163; go_must (refine (reg_any _ gk gs h n nw _ t kind rg ad value src old count (HY) rg rfl hr4).mono ?_; rintro e w3 ⟨rfl, m, rfl⟩)))
  go_ret
  have hE := ((HY.on ((Below.refl _ _).drewN m)).setR (t * 4 + rg) 1).st
  dsimp only at hE
  rw [List.set_set] at hE
  exact ⟨rfl, hE, (FY.trans (Fr.of ((Below.refl _ _).drewN m))).setCell (Or.inr (Or.inl rfl)) _⟩

set_option maxRecDepth 100000 in
set_option maxHeartbeats 4000000 in
theorem wload_any (W : World) (gk gs : Nat) (h : SH) (n nw : Nat) (S : LS) (t : Nat) (kind reg addr value src old count : Int) (H : WkAt W gk gs h n nw S t ⟨kind, reg, addr, value, src, old, count⟩) (rg : Nat) (hr : reg = (rg : Int)) (hr4 : rg < 4) (ad : Nat) (ha : addr = (ad : Int)) (ha4 : ad < nw) :
    Calls Try.prog 154 #[.pointer (some ⟨gk, 0, none⟩)] W (WkR h n nw ⟨S.ws, S.rs.set (t * 4 + rg) (S.w ad), S.ps⟩ true W) := by
  subst hr
  subst ha
  have HG := Lib.hid H
  have k0 : W.cell? ⟨gk, 0, none⟩ = some (.pointer (some ⟨gs, 0, none⟩)) := H.k.cell rfl
  have k1 : W.cell? ⟨gk, 1, none⟩ = some (.int .i64 kind) := H.k.cell rfl
  have k2 : W.cell? ⟨gk, 2, none⟩ = some (.int .i64 rg) := H.k.cell rfl
  have k3 : W.cell? ⟨gk, 3, none⟩ = some (.int .i64 ad) := H.k.cell rfl
  have k4 : W.cell? ⟨gk, 4, none⟩ = some (.int .i64 value) := H.k.cell rfl
  have k5 : W.cell? ⟨gk, 5, none⟩ = some (.int .i64 src) := H.k.cell rfl
  have k6 : W.cell? ⟨gk, 6, none⟩ = some (.int .i64 old) := H.k.cell rfl
  have k7 : W.cell? ⟨gk, 7, none⟩ = some (.int .i64 count) := H.k.cell rfl
  have k8 : W.cell? ⟨gk, 8, none⟩ = some (.int .i64 t) := H.k.cell rfl
  have k9 : W.cell? ⟨gk, 9, none⟩ = some (.bool false) := H.k.cell rfl
  have s0 : W.cell? ⟨gs, 0, none⟩ = some (.slice (some ⟨h.gw, 0, none⟩) nw h.kw) := H.s.cell rfl
  have s1 : W.cell? ⟨gs, 1, none⟩ = some (.slice (some ⟨h.gr, 0, none⟩) n h.kr) := H.s.cell rfl
  have s2 : W.cell? ⟨gs, 2, none⟩ = some (.slice (some ⟨h.gp, 0, none⟩) n h.kp) := H.s.cell rfl
  have s3 : W.cell? ⟨gs, 3, none⟩ = some (.slice (some ⟨h.gb, 0, none⟩) n h.kb) := H.s.cell rfl
  have e0 : (0 : Int) ≤ t := by omega
  have e1 : (t : Int) < n := by have := H.t; omega
  have e2 : (0 : Int) ≤ rg := by omega
  have e3 : (rg : Int) < 4 := by omega
  have g0 : W.frozen? ⟨h.gr, t * 4 + rg, none⟩ = false := H.st.r.frozen _
  have g1 : W.cell? ⟨h.gr, t * 4 + rg, none⟩ = some (.int .i64 (S.r t rg)) := H.regc hr4
  have e4 : (0 : Int) ≤ ad := by omega
  have e5 : (ad : Int) < nw := by omega
  have g2 : W.frozen? ⟨h.gw, ad, none⟩ = false := H.st.w.frozen _
  have g3 : W.cell? ⟨h.gw, ad, none⟩ = some (.int .i64 (S.w ad)) := H.wordc ha4
  have g5 : W.cell? ⟨h.gb, t, none⟩ = some (.slice none 0 0) := H.st.buf H.t
  have g6 : W.cell? ⟨h.gp, t, none⟩ = some (.int .i64 (S.p t)) := H.plc
  have g7 : W.frozen? ⟨h.gp, t, none⟩ = false := H.st.p.frozen _
  have HS : Hid (∀ V, Below W.heap.size W V → WkAt V gk gs h n nw S t ⟨kind, rg, ad, value, src, old, count⟩) := fun V hV => HG.out.on hV
  clear H
  go_enter Try.func154, Try.ntmps154
  go_upto_region 1 with fail
  go_cut [] (fun wc => Hid (Mid W gk gs h n nw ⟨S.ws, S.rs.set (t * 4 + rg) (S.w ad), S.ps⟩ t ⟨kind, rg, ad, value, src, old, count⟩ wc))
  case first =>
    go_region_with ((go_at_call 163; go_must (refine (reg_any _ gk gs h n nw S t kind rg ad value src old count (HS.out _ (Below.refl _ _).drew) rg rfl hr4).mono ?_; rintro e w3 ⟨rfl, m, rfl⟩)))
    all_goals (go_wp2_with fail; go_meet; exact ⟨(HS.out _ ((Below.refl _ _).drewN _)).setR _ _, (Fr.of ((Below.refl _ _).drewN _)).setCell (Or.inr (Or.inl rfl)) _⟩)
  case rest =>
  have HV := hcut.out.1
  have FV := hcut.out.2
  clear hcut
  obtain ⟨V, rfl⟩ : ∃ V : World, V = wc := ⟨_, rfl⟩
  have l0 : V.cell? ⟨gk, 0, none⟩ = some (.pointer (some ⟨gs, 0, none⟩)) := HV.k.cell rfl
  have l1 : V.cell? ⟨gk, 1, none⟩ = some (.int .i64 kind) := HV.k.cell rfl
  have l2 : V.cell? ⟨gk, 2, none⟩ = some (.int .i64 rg) := HV.k.cell rfl
  have l3 : V.cell? ⟨gk, 3, none⟩ = some (.int .i64 ad) := HV.k.cell rfl
  have l4 : V.cell? ⟨gk, 4, none⟩ = some (.int .i64 value) := HV.k.cell rfl
  have l5 : V.cell? ⟨gk, 5, none⟩ = some (.int .i64 src) := HV.k.cell rfl
  have l6 : V.cell? ⟨gk, 6, none⟩ = some (.int .i64 old) := HV.k.cell rfl
  have l7 : V.cell? ⟨gk, 7, none⟩ = some (.int .i64 count) := HV.k.cell rfl
  have l8 : V.cell? ⟨gk, 8, none⟩ = some (.int .i64 t) := HV.k.cell rfl
  have l9 : V.cell? ⟨gk, 9, none⟩ = some (.bool false) := HV.k.cell rfl
  have q0 : V.cell? ⟨gs, 0, none⟩ = some (.slice (some ⟨h.gw, 0, none⟩) nw h.kw) := HV.s.cell rfl
  have q1 : V.cell? ⟨gs, 1, none⟩ = some (.slice (some ⟨h.gr, 0, none⟩) n h.kr) := HV.s.cell rfl
  have q2 : V.cell? ⟨gs, 2, none⟩ = some (.slice (some ⟨h.gp, 0, none⟩) n h.kp) := HV.s.cell rfl
  have q3 : V.cell? ⟨gs, 3, none⟩ = some (.slice (some ⟨h.gb, 0, none⟩) n h.kb) := HV.s.cell rfl
  have v0 : V.frozen? ⟨h.gr, t * 4 + rg, none⟩ = false := HV.st.r.frozen _
  have v1 : V.cell? ⟨h.gr, t * 4 + rg, none⟩ = some (.int .i64 ((LS.mk S.ws (S.rs.set (t * 4 + rg) (S.w ad)) S.ps).r t rg)) := HV.regc hr4
  have v2 : V.frozen? ⟨h.gw, ad, none⟩ = false := HV.st.w.frozen _
  have v3 : V.cell? ⟨h.gw, ad, none⟩ = some (.int .i64 (S.w ad)) := HV.wordc ha4
  have v5 : V.cell? ⟨h.gb, t, none⟩ = some (.slice none 0 0) := HV.st.buf HV.t
  have v6 : V.cell? ⟨h.gp, t, none⟩ = some (.int .i64 (S.p t)) := HV.plc
  have v7 : V.frozen? ⟨h.gp, t, none⟩ = false := HV.st.p.frozen _
  clear k0 k1 k2 k3 k4 k5 k6 k7 k8 k9 s0 s1 s2 s3 g0 g1 g2 g3 g5 g6 g7
  go_upto_region 2 with fail
  go_quiet (fail)
  obtain ⟨X, hX, HX, FX⟩ : ∃ Z9, Z9 = V.drewN nq ∧ WkAt Z9 gk gs h n nw (LS.mk S.ws (S.rs.set (t * 4 + rg) (S.w ad)) S.ps) t ⟨kind, rg, ad, value, src, old, count⟩ ∧ Fr (SF h) W Z9 := ⟨_, rfl, HV.on ((Below.refl _ _).drewN _), FV.trans (Fr.of ((Below.refl _ _).drewN _))⟩
  rw [← hX]
  clear hX
  have kx0 : X.cell? ⟨gk, 0, none⟩ = some (.pointer (some ⟨gs, 0, none⟩)) := HX.k.cell rfl
  have kx1 : X.cell? ⟨gk, 1, none⟩ = some (.int .i64 kind) := HX.k.cell rfl
  have kx2 : X.cell? ⟨gk, 2, none⟩ = some (.int .i64 rg) := HX.k.cell rfl
  have kx3 : X.cell? ⟨gk, 3, none⟩ = some (.int .i64 ad) := HX.k.cell rfl
  have kx4 : X.cell? ⟨gk, 4, none⟩ = some (.int .i64 value) := HX.k.cell rfl
  have kx5 : X.cell? ⟨gk, 5, none⟩ = some (.int .i64 src) := HX.k.cell rfl
  have kx6 : X.cell? ⟨gk, 6, none⟩ = some (.int .i64 old) := HX.k.cell rfl
  have kx7 : X.cell? ⟨gk, 7, none⟩ = some (.int .i64 count) := HX.k.cell rfl
  have kx8 : X.cell? ⟨gk, 8, none⟩ = some (.int .i64 t) := HX.k.cell rfl
  have kx9 : X.cell? ⟨gk, 9, none⟩ = some (.bool false) := HX.k.cell rfl
  have qx0 : X.cell? ⟨gs, 0, none⟩ = some (.slice (some ⟨h.gw, 0, none⟩) nw h.kw) := HX.s.cell rfl
  have qx1 : X.cell? ⟨gs, 1, none⟩ = some (.slice (some ⟨h.gr, 0, none⟩) n h.kr) := HX.s.cell rfl
  have qx2 : X.cell? ⟨gs, 2, none⟩ = some (.slice (some ⟨h.gp, 0, none⟩) n h.kp) := HX.s.cell rfl
  have qx3 : X.cell? ⟨gs, 3, none⟩ = some (.slice (some ⟨h.gb, 0, none⟩) n h.kb) := HX.s.cell rfl
  have vx0 : X.frozen? ⟨h.gr, t * 4 + rg, none⟩ = false := HX.st.r.frozen _
  have vx1 : X.cell? ⟨h.gr, t * 4 + rg, none⟩ = some (.int .i64 ((LS.mk S.ws (S.rs.set (t * 4 + rg) (S.w ad)) S.ps).r t rg)) := HX.regc hr4
  have vx2 : X.frozen? ⟨h.gw, ad, none⟩ = false := HX.st.w.frozen _
  have vx3 : X.cell? ⟨h.gw, ad, none⟩ = some (.int .i64 (S.w ad)) := HX.wordc ha4
  have vx5 : X.cell? ⟨h.gb, t, none⟩ = some (.slice none 0 0) := HX.st.buf HX.t
  have vx6 : X.cell? ⟨h.gp, t, none⟩ = some (.int .i64 (S.p t)) := HX.plc
  have vx7 : X.frozen? ⟨h.gp, t, none⟩ = false := HX.st.p.frozen _
  clear l0 l1 l2 l3 l4 l5 l6 l7 l8 l9 q0 q1 q2 q3 v0 v1 v2 v3 v5 v6 v7
  go_wp2_with fail
  go_loopg [36] 0 (fun g9 i wr => i = .int .i64 0 ∧ wr = X)
  case atStart => exact ⟨rfl, rfl⟩
  case round =>
    obtain ⟨rfl, rfl⟩ := hrel
    have d1 : decide ((0 : Int) < 0) = false := rfl
    go_wp2_with fail
    go_ret
    exact ⟨rfl, HX.st, FX⟩
end Go.Proofs.Ytgbopmgeicokoaa
