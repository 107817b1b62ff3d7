/-
  reclaimref27.Turn: a turn of a state with its clocks and events.
-/
import Derived.Test.YtgbopmgeicokoaaRst0
import Derived.Test.YtgbopmgeicokoaaRt
namespace Go.Proofs.Ytgbopmgeicokoaa
open Go.RowKit
set_option linter.unusedSimpArgs false
set_option linter.unusedVariables false

def esN (l : Lit) (S : LS) (u : Tn) (es : List Ev) : List Ev := es ++ (evOf l S u).toList
def Rt27R (l : Lit) (B gs : Nat) (S : LS) (es : List Ev) (u : Tn) (Z : Nat → Prop) (w : World) (e : Ending) (w' : World) : Prop :=
  e = .returned (.bool (pickS l S u).isSome) ∧ Below B w w' ∧ ∃ M', Blk w' gs 116 (rsL M' l.tn l.wn) ∧ RSB w' B l.tn l.wn (turnS l S u) (xAt (esN l S u es)) (esN l S u es) M' ∧ M'.Z = Z
theorem info_ev27 : (Try.prog.info? 122).map (fun i => (i.zero, i.size, i.bytes)) = some (some (.agg #[.int .i64 0, .int .i64 0, .int .i64 0, .bool false, .slice none 0 0]), 5, 56) := by kernel_rfl
theorem SF_ge {h : SH} {B : Nat} (hn : NewS B h) : ∀ q, SF h q → B ≤ q := by
  rintro q (e | e | e)
  · rw [e]; exact hn.1
  · rw [e]; exact hn.2.1
  · rw [e]; exact hn.2.2.1
theorem RSB.hd {W : World} {B n nw gs : Nat} {S : LS} {x : TS} {es : List Ev} {M : RM} (h : RSB W B n nw S x es M) (hb : Blk W gs 116 (rsL M n nw)) : HdAt W gs M.h n nw S 116 [.slice (some ⟨M.gm, 0, none⟩) n M.km, .slice (some ⟨M.gd, 0, none⟩) nw M.kd, M.vE] :=
  ⟨hb, h.st, (h.st.w.nb hb (by decide)).symm, (h.st.r.nb hb (by decide)).symm, (h.st.p.nb hb (by decide)).symm⟩
theorem pick_ev_none {l : Lit} {S : LS} {u : Tn} (h : pickS l S u = none) : turnS l S u = S ∧ evOf l S u = none := by
  unfold turnS evOf
  rw [h]
  exact ⟨rfl, rfl⟩

theorem pick_parts {l : Lit} {S : LS} {u : Tn} {x : Ins} (hp : pickS l S u = some x) : 0 ≤ u.t ∧ u.t < l.tn ∧ u.out = false ∧ turnS l S u = nextS S u.t.toNat (codeOf l u.t.toNat).length x ∧ evOf l S u = eventS (turnS l S u) u.t.toNat x := by
  refine ⟨?_, ?_, ?_, by unfold turnS; rw [hp], by unfold evOf; rw [hp]⟩
  all_goals (
    unfold pickS at hp
    by_cases hc : 0 ≤ u.t ∧ u.t < (l.tn : Int) ∧ u.out = false
    · first | exact hc.1 | exact hc.2.1 | exact hc.2.2
    · rw [if_neg hc] at hp
      cases hp)
theorem Rt27R.quiet {l : Lit} {B gs : Nat} {S : LS} {es : List Ev} {u : Tn} {w C : World} {M : RM} (hp : (pickS l S u).isSome = true) (he : evOf l S u = none) (hw : Below B w C) (hg : Blk C gs 116 (rsL M l.tn l.wn)) (hr : RSB C B l.tn l.wn (turnS l S u) (xAt es) es M) {Z : Nat → Prop} (hZ : M.Z = Z) : Rt27R l B gs S es u Z w (.returned (.bool true)) C := by
  refine ⟨by rw [hp], hw, M, hg, ?_⟩
  have : esN l S u es = es := by unfold esN; rw [he]; simp
  rw [this]
  exact ⟨hr, hZ⟩
theorem Rt27R.loud {l : Lit} {B gs : Nat} {S : LS} {es : List Ev} {u : Tn} {w C : World} {M : RM} {e9 : Ev} (hp : (pickS l S u).isSome = true) (he : evOf l S u = some e9) (hw : Below B w C) (hg : Blk C gs 116 (rsL M l.tn l.wn)) (hr : RSB C B l.tn l.wn (turnS l S u) (tickS (xAt es) e9) (es ++ [e9]) M) {Z : Nat → Prop} (hZ : M.Z = Z) : Rt27R l B gs S es u Z w (.returned (.bool true)) C := by
  refine ⟨by rw [hp], hw, M, hg, ?_⟩
  have : esN l S u es = es ++ [e9] := by unfold esN; rw [he]; simp
  rw [this, xAt_snoc]
  exact ⟨hr, hZ⟩

set_option maxRecDepth 100000 in
set_option maxHeartbeats 4000000 in
theorem rt27_no (l : Lit) (w : World) (B gs : Nat) (S : LS) (es : List Ev) (M : RM) (u : Tn) (hl : LitAt w B l) (hBw : B ≤ w.heap.size) (hb : Blk w gs 116 (rsL M l.tn l.wn)) (hr : RSB w B l.tn l.wn S (xAt es) es M) (hg : GoodS l S) (hok : okLit l = true) (hp : pickS l S u = none) :
    Calls Try.prog 94 #[litV l, .pointer (some ⟨gs, 0, none⟩), tnV u] w (BoolR false w) := by
  obtain ⟨n1, n2, n3, n4⟩ := okLit_num hok
  have HL := Lib.hid hl
  have HG := Lib.hid hb
  have HR := Lib.hid hr
  have HGd := Lib.hid hg
  have HOk := Lib.hid hok
  have HP := Lib.hid hp
  obtain ⟨tb, to', hta, htb, _⟩ := hl.heads n1
  clear hl hb hr hg hok hp
  obtain ⟨wA, wn, wk, ws, tA, tn, tk, th⟩ := l
  have hta' : tA = some ⟨tb, to', none⟩ := hta
  subst hta'
  clear hta
  dsimp only at n1 n2 n3 n4
  replace HG : Hid (Blk w gs 116 (rsL M tn wn)) := HG
  replace HR : Hid (RSB w B tn wn S (xAt es) es M) := HR
  obtain ⟨ut, uo, ua⟩ := u
  by_cases h0 : ut < 0
  case pos =>
    have d1 : decide (ut < 0) = true := by simpa using h0
    obtain ⟨w0, hw0⟩ : ∃ w0 : World, w0 = (w.alloc (.cells #[.slice wA wn wk, .slice (some ⟨tb, to', none⟩) tn tk] 101)).alloc (.cells #[.int .i64 ut, .bool uo, .int .i64 ua] 131) := ⟨_, rfl⟩
    have HLb0 : Hid (Blk w0 w.heap.size 101 [.slice wA wn wk, .slice (some ⟨tb, to', none⟩) tn tk]) := by rw [hw0]; exact (Blk.new w 101 [.slice wA wn wk, .slice (some ⟨tb, to', none⟩) tn tk]).alloc _
    have HU0 : Hid (Blk w0 (w.heap.size + 1) 131 [.int .i64 ut, .bool uo, .int .i64 ua]) := by
      rw [hw0]
      have h9 := Blk.new (w.alloc (.cells #[.slice wA wn wk, .slice (some ⟨tb, to', none⟩) tn tk] 101)) 131 [.int .i64 ut, .bool uo, .int .i64 ua]
      rw [World.size_alloc] at h9
      exact h9
    have HW0 : Hid (Below w.heap.size w w0) := by rw [hw0]; exact ((Below.refl _ _).alloc (Nat.le_refl _) _).alloc (by simp) _
    have hz0 : w.heap.size + 1 < w0.heap.size := HU0.out.lt
    have HWe := Lib.hid hw0
    clear hw0
    go_enter Try.func94, Try.ntmps94
    go_upto_region 1 with fail
    rw [← HWe.out]
    clear HWe
    have HG0 := Lib.hid (HG.out.below HW0.out HG.out.lt)
    have HR0 := Lib.hid (HR.out.on HW0.out)
    have q1 : w0.cell? ⟨w.heap.size, 1, none⟩ = some (.slice (some ⟨tb, to', none⟩) tn tk) := HLb0.out.cell rfl
    have u0 : w0.cell? ⟨w.heap.size + 1, 0, none⟩ = some (.int .i64 ut) := HU0.out.cell rfl
    have u1 : w0.cell? ⟨w.heap.size + 1, 1, none⟩ = some (.bool uo) := HU0.out.cell rfl
    go_upto_region 2 with fail
    go_quiet (fail)
    go_wp2_with fail
    go_ret
    exact ⟨rfl, HW0.out.trans ((Below.refl _ _).drewN _)⟩
  have d1 : decide (ut < 0) = false := by simpa using h0
  obtain ⟨t, rfl⟩ : ∃ t : Nat, ut = t := ⟨ut.toNat, by omega⟩
  by_cases h1 : tn ≤ t
  case pos =>
    have d2 : decide ((tn : Int) ≤ t) = true := by simp; omega
    have d3 : (tn : Int) ≤ t := by omega
    obtain ⟨w0, hw0⟩ : ∃ w0 : World, w0 = (w.alloc (.cells #[.slice wA wn wk, .slice (some ⟨tb, to', none⟩) tn tk] 101)).alloc (.cells #[.int .i64 t, .bool uo, .int .i64 ua] 131) := ⟨_, rfl⟩
    have HLb0 : Hid (Blk w0 w.heap.size 101 [.slice wA wn wk, .slice (some ⟨tb, to', none⟩) tn tk]) := by rw [hw0]; exact (Blk.new w 101 [.slice wA wn wk, .slice (some ⟨tb, to', none⟩) tn tk]).alloc _
    have HU0 : Hid (Blk w0 (w.heap.size + 1) 131 [.int .i64 t, .bool uo, .int .i64 ua]) := by
      rw [hw0]
      have h9 := Blk.new (w.alloc (.cells #[.slice wA wn wk, .slice (some ⟨tb, to', none⟩) tn tk] 101)) 131 [.int .i64 t, .bool uo, .int .i64 ua]
      rw [World.size_alloc] at h9
      exact h9
    have HW0 : Hid (Below w.heap.size w w0) := by rw [hw0]; exact ((Below.refl _ _).alloc (Nat.le_refl _) _).alloc (by simp) _
    have hz0 : w.heap.size + 1 < w0.heap.size := HU0.out.lt
    have HWe := Lib.hid hw0
    clear hw0
    go_enter Try.func94, Try.ntmps94
    go_upto_region 1 with fail
    rw [← HWe.out]
    clear HWe
    have HG0 := Lib.hid (HG.out.below HW0.out HG.out.lt)
    have HR0 := Lib.hid (HR.out.on HW0.out)
    have q1 : w0.cell? ⟨w.heap.size, 1, none⟩ = some (.slice (some ⟨tb, to', none⟩) tn tk) := HLb0.out.cell rfl
    have u0 : w0.cell? ⟨w.heap.size + 1, 0, none⟩ = some (.int .i64 t) := HU0.out.cell rfl
    have u1 : w0.cell? ⟨w.heap.size + 1, 1, none⟩ = some (.bool uo) := HU0.out.cell rfl
    go_upto_region 2 with fail
    go_quiet (fail)
    go_wp2_with fail
    go_ret
    exact ⟨rfl, HW0.out.trans ((Below.refl _ _).drewN _)⟩
  have d2 : decide ((tn : Int) ≤ t) = false := by simp; omega
  have d3 : ¬ (tn : Int) ≤ t := by omega
  have hlt : t < tn := by omega
  have e0 : (0 : Int) ≤ t := by omega
  have e1 : (t : Int) < tn := by omega
  cases uo
  case true =>
    obtain ⟨w0, hw0⟩ : ∃ w0 : World, w0 = (w.alloc (.cells #[.slice wA wn wk, .slice (some ⟨tb, to', none⟩) tn tk] 101)).alloc (.cells #[.int .i64 t, .bool true, .int .i64 ua] 131) := ⟨_, rfl⟩
    have HLb0 : Hid (Blk w0 w.heap.size 101 [.slice wA wn wk, .slice (some ⟨tb, to', none⟩) tn tk]) := by rw [hw0]; exact (Blk.new w 101 [.slice wA wn wk, .slice (some ⟨tb, to', none⟩) tn tk]).alloc _
    have HU0 : Hid (Blk w0 (w.heap.size + 1) 131 [.int .i64 t, .bool true, .int .i64 ua]) := by
      rw [hw0]
      have h9 := Blk.new (w.alloc (.cells #[.slice wA wn wk, .slice (some ⟨tb, to', none⟩) tn tk] 101)) 131 [.int .i64 t, .bool true, .int .i64 ua]
      rw [World.size_alloc] at h9
      exact h9
    have HW0 : Hid (Below w.heap.size w w0) := by rw [hw0]; exact ((Below.refl _ _).alloc (Nat.le_refl _) _).alloc (by simp) _
    have hz0 : w.heap.size + 1 < w0.heap.size := HU0.out.lt
    have HWe := Lib.hid hw0
    clear hw0
    go_enter Try.func94, Try.ntmps94
    go_upto_region 1 with fail
    rw [← HWe.out]
    clear HWe
    have HG0 := Lib.hid (HG.out.below HW0.out HG.out.lt)
    have HR0 := Lib.hid (HR.out.on HW0.out)
    have q1 : w0.cell? ⟨w.heap.size, 1, none⟩ = some (.slice (some ⟨tb, to', none⟩) tn tk) := HLb0.out.cell rfl
    have u0 : w0.cell? ⟨w.heap.size + 1, 0, none⟩ = some (.int .i64 t) := HU0.out.cell rfl
    have u1 : w0.cell? ⟨w.heap.size + 1, 1, none⟩ = some (.bool true) := HU0.out.cell rfl
    go_upto_region 2 with fail
    go_quiet (fail)
    go_wp2_with fail
    go_ret
    exact ⟨rfl, HW0.out.trans ((Below.refl _ _).drewN _)⟩
  obtain ⟨w0, hw0⟩ : ∃ w0 : World, w0 = (w.alloc (.cells #[.slice wA wn wk, .slice (some ⟨tb, to', none⟩) tn tk] 101)).alloc (.cells #[.int .i64 t, .bool false, .int .i64 ua] 131) := ⟨_, rfl⟩
  have HLb0 : Hid (Blk w0 w.heap.size 101 [.slice wA wn wk, .slice (some ⟨tb, to', none⟩) tn tk]) := by rw [hw0]; exact (Blk.new w 101 [.slice wA wn wk, .slice (some ⟨tb, to', none⟩) tn tk]).alloc _
  have HU0 : Hid (Blk w0 (w.heap.size + 1) 131 [.int .i64 t, .bool false, .int .i64 ua]) := by
    rw [hw0]
    have h9 := Blk.new (w.alloc (.cells #[.slice wA wn wk, .slice (some ⟨tb, to', none⟩) tn tk] 101)) 131 [.int .i64 t, .bool false, .int .i64 ua]
    rw [World.size_alloc] at h9
    exact h9
  have HW0 : Hid (Below w.heap.size w w0) := by rw [hw0]; exact ((Below.refl _ _).alloc (Nat.le_refl _) _).alloc (by simp) _
  have hz0 : w.heap.size + 1 < w0.heap.size := HU0.out.lt
  have HWe := Lib.hid hw0
  clear hw0
  go_enter Try.func94, Try.ntmps94
  go_upto_region 1 with fail
  rw [← HWe.out]
  clear HWe
  have HG0 := Lib.hid (HG.out.below HW0.out HG.out.lt)
  have HR0 := Lib.hid (HR.out.on HW0.out)
  have q1 : w0.cell? ⟨w.heap.size, 1, none⟩ = some (.slice (some ⟨tb, to', none⟩) tn tk) := HLb0.out.cell rfl
  have u0 : w0.cell? ⟨w.heap.size + 1, 0, none⟩ = some (.int .i64 t) := HU0.out.cell rfl
  have u1 : w0.cell? ⟨w.heap.size + 1, 1, none⟩ = some (.bool false) := HU0.out.cell rfl
  obtain ⟨x, hx⟩ := at_lt (show t < th.length by have := HL.out.tlen; dsimp only at this; omega)
  have hL := HL.out.keep (HW0.out.mono hBw)
  obtain ⟨tb2, to2, hta2, htb2, htc⟩ := hL.head hx
  injection hta2 with hta2
  injection hta2 with e1' e2'
  subst e1' e2'
  have hcl := hL.clen (List.mem_of_getElem? hx)
  have hco := (hL.code x (List.mem_of_getElem? hx)).2.1
  have hn1 := hco.1
  have hn2 := hco.2
  unfold maxLen at hn2
  have h10 := (okLit_code HOk.out hx).1
  have HX := Lib.hid hx
  have HCl := Lib.hid hcl
  have hle := HGd.out.le t hlt
  rw [codeOf_at hx, hcl] at hle
  clear hx hco hcl
  obtain ⟨⟨xA, xn, xk⟩, code⟩ := x
  dsimp only at hn1 hn2 htc h10 hle
  have hpt := HR0.out.st.place (LS.p_at (S := S) (t := t) (by rw [HR.out.st.plen]; exact hlt))
  have s2 : w0.cell? ⟨gs, 2, none⟩ = some (.slice (some ⟨M.h.gp, 0, none⟩) tn M.h.kp) := HG0.out.cell rfl
  have hge : xn ≤ S.p t := by
    have h9 := HP.out
    unfold pickS at h9
    dsimp only at h9
    rw [if_pos ⟨e0, e1, rfl⟩, Int.toNat_natCast, codeOf_at HX.out, List.getElem?_eq_none_iff] at h9
    have := HCl.out
    dsimp only at h9 this
    omega
  have d4 : ((S.p t : Int) == (xn : Int)) = true := by simp; omega
  have d5 : (S.p t : Int) = (xn : Int) := by omega
  have d6 : S.p t = xn := by omega
  go_upto_region 2 with fail
  go_quiet (fail)
  go_wp2_with fail
  go_ret
  exact ⟨rfl, HW0.out.trans ((Below.refl _ _).drewN _)⟩

set_option maxRecDepth 100000 in
set_option maxHeartbeats 16000000 in
theorem rt27_yes (l : Lit) (w : World) (B gs : Nat) (S : LS) (es : List Ev) (M : RM) (u : Tn) (x9 : Ins) (hl : LitAt w B l) (hBw : B ≤ w.heap.size) (hgs : B ≤ gs) (hb : Blk w gs 116 (rsL M l.tn l.wn)) (hr : RSB w B l.tn l.wn S (xAt es) es M) (hg : GoodS l S) (hok : okLit l = true) (hen : es.length ≤ 100000) (hp : pickS l S u = some x9) :
    Calls Try.prog 94 #[litV l, .pointer (some ⟨gs, 0, none⟩), tnV u] w (Rt27R l B gs S es u M.Z w) := by
  obtain ⟨n1, n2, n3, n4⟩ := okLit_num hok
  obtain ⟨hr1, hr2, hr3, hTS, hEv⟩ := pick_parts hp
  have hpe : (pickS l S u).isSome = true := by rw [hp]; rfl
  have HPe := Lib.hid hpe
  have HL := Lib.hid hl
  have HG := Lib.hid hb
  have HR := Lib.hid hr
  have HGd := Lib.hid hg
  have HOk := Lib.hid hok
  have HP := Lib.hid hp
  have HTS := Lib.hid hTS
  have HEv := Lib.hid hEv
  obtain ⟨ie, hie, hiez, hies, hieb⟩ := info_parts info_ev27
  obtain ⟨tb, to', hta, htb, _⟩ := hl.heads n1
  clear hl hb hr hg hok hp hpe hTS hEv
  obtain ⟨wA, wn, wk, ws, tA, tn, tk, th⟩ := l
  have hta' : tA = some ⟨tb, to', none⟩ := hta
  subst hta'
  clear hta
  dsimp only at n1 n2 n3 n4 hr2
  replace HG : Hid (Blk w gs 116 (rsL M tn wn)) := HG
  replace HR : Hid (RSB w B tn wn S (xAt es) es M) := HR
  obtain ⟨ut, uo, ua⟩ := u
  dsimp only at hr1 hr2 hr3
  subst hr3
  obtain ⟨t, rfl⟩ : ∃ t : Nat, ut = t := ⟨ut.toNat, by omega⟩
  have d1 : decide ((t : Int) < 0) = false := by simp
  have d2 : decide ((tn : Int) ≤ t) = false := by simp; omega
  have d3 : ¬ (tn : Int) ≤ t := by omega
  have hlt : t < tn := by omega
  have e0 : (0 : Int) ≤ t := by omega
  have e1 : (t : Int) < tn := by omega
  obtain ⟨w0, hw0⟩ : ∃ w0 : World, w0 = (w.alloc (.cells #[.slice wA wn wk, .slice (some ⟨tb, to', none⟩) tn tk] 101)).alloc (.cells #[.int .i64 t, .bool false, .int .i64 ua] 131) := ⟨_, rfl⟩
  have HLb0 : Hid (Blk w0 w.heap.size 101 [.slice wA wn wk, .slice (some ⟨tb, to', none⟩) tn tk]) := by rw [hw0]; exact (Blk.new w 101 [.slice wA wn wk, .slice (some ⟨tb, to', none⟩) tn tk]).alloc _
  have HU0 : Hid (Blk w0 (w.heap.size + 1) 131 [.int .i64 t, .bool false, .int .i64 ua]) := by
    rw [hw0]
    have h9 := Blk.new (w.alloc (.cells #[.slice wA wn wk, .slice (some ⟨tb, to', none⟩) tn tk] 101)) 131 [.int .i64 t, .bool false, .int .i64 ua]
    rw [World.size_alloc] at h9
    exact h9
  have HW0 : Hid (Below w.heap.size w w0) := by rw [hw0]; exact ((Below.refl _ _).alloc (Nat.le_refl _) _).alloc (by simp) _
  have hz0 : w.heap.size + 1 < w0.heap.size := HU0.out.lt
  have HWe := Lib.hid hw0
  clear hw0
  go_enter Try.func94, Try.ntmps94
  go_upto_region 1 with fail
  rw [← HWe.out]
  clear HWe
  have HG0 := Lib.hid (HG.out.below HW0.out HG.out.lt)
  have HR0 := Lib.hid (HR.out.on HW0.out)
  have q1 : w0.cell? ⟨w.heap.size, 1, none⟩ = some (.slice (some ⟨tb, to', none⟩) tn tk) := HLb0.out.cell rfl
  have u0 : w0.cell? ⟨w.heap.size + 1, 0, none⟩ = some (.int .i64 t) := HU0.out.cell rfl
  have u1 : w0.cell? ⟨w.heap.size + 1, 1, none⟩ = some (.bool false) := HU0.out.cell rfl
  obtain ⟨x, hx⟩ := at_lt (show t < th.length by have := HL.out.tlen; dsimp only at this; omega)
  have hL := HL.out.keep (HW0.out.mono hBw)
  obtain ⟨tb2, to2, hta2, htb2, htc⟩ := hL.head hx
  injection hta2 with hta2
  injection hta2 with e1' e2'
  subst e1' e2'
  have hcl := hL.clen (List.mem_of_getElem? hx)
  have hco := (hL.code x (List.mem_of_getElem? hx)).2.1
  have hn1 := hco.1
  have hn2 := hco.2
  unfold maxLen at hn2
  have h10 := (okLit_code HOk.out hx).1
  have HX := Lib.hid hx
  have HCl := Lib.hid hcl
  have hle := HGd.out.le t hlt
  rw [codeOf_at hx, hcl] at hle
  clear hx hco hcl
  obtain ⟨⟨xA, xn, xk⟩, code⟩ := x
  dsimp only at hn1 hn2 htc h10 hle
  have hpt := HR0.out.st.place (LS.p_at (S := S) (t := t) (by rw [HR.out.st.plen]; exact hlt))
  have s2 : w0.cell? ⟨gs, 2, none⟩ = some (.slice (some ⟨M.h.gp, 0, none⟩) tn M.h.kp) := HG0.out.cell rfl
  have hp9 : code[S.p t]? = some x9 := by
    have h9 := HP.out
    unfold pickS at h9
    dsimp only at h9
    rwa [if_pos ⟨hr1, hr2, rfl⟩, Int.toNat_natCast, codeOf_at HX.out] at h9
  have hlt2 : S.p t < xn := by
    have := HCl.out
    have := (List.getElem?_eq_some_iff.1 hp9).1
    dsimp only at *
    omega
  have hok9 := (okLit_code HOk.out HX.out).2 x9 (List.mem_of_getElem? hp9)
  obtain ⟨cb, co, hca, hcb, hc⟩ := ins_cell (hL.code _ (List.mem_of_getElem? HX.out)).1 hp9
  have hca' : xA = some ⟨cb, co, none⟩ := hca
  subst hca'
  have HOk9 : Hid (okIns wn x9 = true) := hok9
  clear hca hp9 hok9
  obtain ⟨kd, rg, ad, vl, sr, od, ct⟩ := x9
  have c0 := hc.c0
  have c1 := hc.c1
  have c2 := hc.c2
  have c3 := hc.c3
  have c4 := hc.c4
  have c5 := hc.c5
  have c6 := hc.c6
  dsimp only at c0 c1 c2 c3 c4 c5 c6
  clear hc
  have d4 : ((S.p t : Int) == (xn : Int)) = false := by simp; omega
  have d5 : ¬ (S.p t : Int) = (xn : Int) := by omega
  have d6 : ¬ S.p t = xn := by omega
  have f0 : (0 : Int) ≤ S.p t := by omega
  have f1 : (S.p t : Int) < xn := by omega
  have hSc : w0.cell? ⟨w.heap.size, 1, none⟩ = some (.slice (some ⟨tb, to', none⟩) tn tk) ∧ w0.cell? ⟨tb, to' + t, none⟩ = some (.slice (some ⟨cb, co, none⟩) xn xk) ∧ w0.cell? ⟨gs, 2, none⟩ = some (.slice (some ⟨M.h.gp, 0, none⟩) tn M.h.kp) ∧ w0.cell? ⟨M.h.gp, t, none⟩ = some (.int .i64 (S.p t)) ∧ w0.cell? ⟨cb, co + S.p t * 7, none⟩ = some (.int .i64 kd) ∧ w0.cell? ⟨cb, co + S.p t * 7 + 1, none⟩ = some (.int .i64 rg) ∧ w0.cell? ⟨cb, co + S.p t * 7 + 2, none⟩ = some (.int .i64 ad) ∧ w0.cell? ⟨cb, co + S.p t * 7 + 3, none⟩ = some (.int .i64 vl) ∧ w0.cell? ⟨cb, co + S.p t * 7 + 4, none⟩ = some (.int .i64 sr) ∧ w0.cell? ⟨cb, co + S.p t * 7 + 5, none⟩ = some (.int .i64 od) ∧ w0.cell? ⟨cb, co + S.p t * 7 + 6, none⟩ = some (.int .i64 ct) := ⟨q1, htc, s2, hpt, c0, c1, c2, c3, c4, c5, c6⟩
  have HSo : Hid (∀ W, Below w0.heap.size w0 W → W.cell? ⟨w.heap.size, 1, none⟩ = some (.slice (some ⟨tb, to', none⟩) tn tk) ∧ W.cell? ⟨tb, to' + t, none⟩ = some (.slice (some ⟨cb, co, none⟩) xn xk) ∧ W.cell? ⟨gs, 2, none⟩ = some (.slice (some ⟨M.h.gp, 0, none⟩) tn M.h.kp) ∧ W.cell? ⟨M.h.gp, t, none⟩ = some (.int .i64 (S.p t)) ∧ W.cell? ⟨cb, co + S.p t * 7, none⟩ = some (.int .i64 kd) ∧ W.cell? ⟨cb, co + S.p t * 7 + 1, none⟩ = some (.int .i64 rg) ∧ W.cell? ⟨cb, co + S.p t * 7 + 2, none⟩ = some (.int .i64 ad) ∧ W.cell? ⟨cb, co + S.p t * 7 + 3, none⟩ = some (.int .i64 vl) ∧ W.cell? ⟨cb, co + S.p t * 7 + 4, none⟩ = some (.int .i64 sr) ∧ W.cell? ⟨cb, co + S.p t * 7 + 5, none⟩ = some (.int .i64 od) ∧ W.cell? ⟨cb, co + S.p t * 7 + 6, none⟩ = some (.int .i64 ct)) := fun W hW => by
    obtain ⟨a0, a1, a2, a3, a4, a5, a6, a7, a8, a9, a10⟩ := hSc
    have k : ∀ (a : Addr) (v : Value), w0.cell? a = some v → W.cell? a = some v := fun a v hv => (hW.cell (World.block_lt_of_cell? w0 a hv)).trans hv
    exact ⟨k _ _ a0, k _ _ a1, k _ _ a2, k _ _ a3, k _ _ a4, k _ _ a5, k _ _ a6, k _ _ a7, k _ _ a8, k _ _ a9, k _ _ a10⟩
  clear hSc c0 c1 c2 c3 c4 c5 c6
  go_upto_region 2 with fail
  go_quiet (fail)
  obtain ⟨w1, hw1, hb1⟩ : ∃ Z9, Z9 = w0.drewN nq ∧ Below w0.heap.size w0 Z9 := ⟨_, rfl, (Below.refl _ _).drewN _⟩
  rw [← hw1]
  have HB1 := Lib.hid hb1
  clear hw1 hb1 q1 u0 u1 htc hpt s2
  go_upto_region 4 with fail
  refine wp_region_held_drew (S := fun W => W.cell? ⟨w.heap.size, 1, none⟩ = some (.slice (some ⟨tb, to', none⟩) tn tk) ∧ W.cell? ⟨tb, to' + t, none⟩ = some (.slice (some ⟨cb, co, none⟩) xn xk) ∧ W.cell? ⟨gs, 2, none⟩ = some (.slice (some ⟨M.h.gp, 0, none⟩) tn M.h.kp) ∧ W.cell? ⟨M.h.gp, t, none⟩ = some (.int .i64 (S.p t)) ∧ W.cell? ⟨cb, co + S.p t * 7, none⟩ = some (.int .i64 kd) ∧ W.cell? ⟨cb, co + S.p t * 7 + 1, none⟩ = some (.int .i64 rg) ∧ W.cell? ⟨cb, co + S.p t * 7 + 2, none⟩ = some (.int .i64 ad) ∧ W.cell? ⟨cb, co + S.p t * 7 + 3, none⟩ = some (.int .i64 vl) ∧ W.cell? ⟨cb, co + S.p t * 7 + 4, none⟩ = some (.int .i64 sr) ∧ W.cell? ⟨cb, co + S.p t * 7 + 5, none⟩ = some (.int .i64 od) ∧ W.cell? ⟨cb, co + S.p t * 7 + 6, none⟩ = some (.int .i64 ct)) (by kernel_rfl) (HSo.out _ HB1.out.drew) (fun hS => ?_)
  refine wpAnyH_take (i := 0) (v := .pointer (some ⟨w.heap.size, 1, none⟩)) rfl (by kernel_rfl) (by kernel_rfl) (by kernel_rfl) (fun _ _ _ h => h) (Or.inl ⟨by rfl, ?_⟩) (by assumption) ?_
  · (intro W hSw; (try dsimp only at hSw); go_simp)
  show wpAnyH _ _ _ _ _ _ _ (Act.put _ (some 43) _) _
  simp only [Act.put, List.setIfInBounds_toArray, List.set_cons_zero, List.set_cons_succ]
  refine wpAnyH_take (i := 1) (v := .slice (some ⟨tb, to', none⟩) tn tk) rfl (by kernel_rfl) (by kernel_rfl) (by kernel_rfl) (fun _ _ _ h => h) (Or.inl ⟨by rfl, ?_⟩) (by assumption) ?_
  · (intro W hSw; (try dsimp only at hSw); go_simp)
  show wpAnyH _ _ _ _ _ _ _ (Act.put _ (some 44) _) _
  simp only [Act.put, List.setIfInBounds_toArray, List.set_cons_zero, List.set_cons_succ]
  refine wpAnyH_take (i := 2) (v := .int .i64 t) rfl (by kernel_rfl) (by kernel_rfl) (by kernel_rfl) (fun _ _ _ h => h) (Or.inl ⟨by rfl, ?_⟩) (by assumption) ?_
  · (intro W hSw; (try dsimp only at hSw); go_simp)
  show wpAnyH _ _ _ _ _ _ _ (Act.put _ (some 45) _) _
  simp only [Act.put, List.setIfInBounds_toArray, List.set_cons_zero, List.set_cons_succ]
  refine wpAnyH_take (i := 3) (v := .pointer (some ⟨tb, to' + t, none⟩)) rfl (by kernel_rfl) (by kernel_rfl) (by kernel_rfl) (fun _ _ _ h => h) (Or.inl ⟨by rfl, ?_⟩) (by assumption) ?_
  · (intro W hSw; (try dsimp only at hSw); go_simp)
  show wpAnyH _ _ _ _ _ _ _ (Act.put _ (some 46) _) _
  simp only [Act.put, List.setIfInBounds_toArray, List.set_cons_zero, List.set_cons_succ]
  refine wpAnyH_take (i := 4) (v := .slice (some ⟨cb, co, none⟩) xn xk) rfl (by kernel_rfl) (by kernel_rfl) (by kernel_rfl) (fun _ _ _ h => h) (Or.inl ⟨by rfl, ?_⟩) (by assumption) ?_
  · (intro W hSw; (try dsimp only at hSw); go_simp)
  show wpAnyH _ _ _ _ _ _ _ (Act.put _ (some 47) _) _
  simp only [Act.put, List.setIfInBounds_toArray, List.set_cons_zero, List.set_cons_succ]
  refine wpAnyH_take (i := 5) (v := .pointer (some ⟨gs, 0, none⟩)) rfl (by kernel_rfl) (by kernel_rfl) (by kernel_rfl) (fun _ _ _ h => h) (Or.inl ⟨by rfl, ?_⟩) (by assumption) ?_
  · (intro W hSw; (try dsimp only at hSw); go_simp)
  show wpAnyH _ _ _ _ _ _ _ (Act.put _ (some 48) _) _
  simp only [Act.put, List.setIfInBounds_toArray, List.set_cons_zero, List.set_cons_succ]
  refine wpAnyH_take (i := 6) (v := .pointer (some ⟨gs, 0, none⟩)) rfl (by kernel_rfl) (by kernel_rfl) (by kernel_rfl) (fun _ _ _ h => h) (Or.inl ⟨by rfl, ?_⟩) (by assumption) ?_
  · (intro W hSw; (try dsimp only at hSw); go_simp)
  show wpAnyH _ _ _ _ _ _ _ (Act.put _ (some 49) _) _
  simp only [Act.put, List.setIfInBounds_toArray, List.set_cons_zero, List.set_cons_succ]
  refine wpAnyH_take (i := 7) (v := .pointer (some ⟨gs, 0, none⟩)) rfl (by kernel_rfl) (by kernel_rfl) (by kernel_rfl) (fun _ _ _ h => h) (Or.inl ⟨by rfl, ?_⟩) (by assumption) ?_
  · (intro W hSw; (try dsimp only at hSw); go_simp)
  show wpAnyH _ _ _ _ _ _ _ (Act.put _ (some 50) _) _
  simp only [Act.put, List.setIfInBounds_toArray, List.set_cons_zero, List.set_cons_succ]
  refine wpAnyH_take (i := 8) (v := .pointer (some ⟨gs, 2, none⟩)) rfl (by kernel_rfl) (by kernel_rfl) (by kernel_rfl) (fun _ _ _ h => h) (Or.inl ⟨by rfl, ?_⟩) (by assumption) ?_
  · (intro W hSw; (try dsimp only at hSw); go_simp)
  show wpAnyH _ _ _ _ _ _ _ (Act.put _ (some 51) _) _
  simp only [Act.put, List.setIfInBounds_toArray, List.set_cons_zero, List.set_cons_succ]
  refine wpAnyH_take (i := 9) (v := .slice (some ⟨M.h.gp, 0, none⟩) tn M.h.kp) rfl (by kernel_rfl) (by kernel_rfl) (by kernel_rfl) (fun _ _ _ h => h) (Or.inl ⟨by rfl, ?_⟩) (by assumption) ?_
  · (intro W hSw; (try dsimp only at hSw); go_simp)
  show wpAnyH _ _ _ _ _ _ _ (Act.put _ (some 52) _) _
  simp only [Act.put, List.setIfInBounds_toArray, List.set_cons_zero, List.set_cons_succ]
  refine wpAnyH_take (i := 10) (v := .int .i64 t) rfl (by kernel_rfl) (by kernel_rfl) (by kernel_rfl) (fun _ _ _ h => h) (Or.inl ⟨by rfl, ?_⟩) (by assumption) ?_
  · (intro W hSw; (try dsimp only at hSw); go_simp)
  show wpAnyH _ _ _ _ _ _ _ (Act.put _ (some 53) _) _
  simp only [Act.put, List.setIfInBounds_toArray, List.set_cons_zero, List.set_cons_succ]
  refine wpAnyH_take (i := 11) (v := .pointer (some ⟨M.h.gp, t, none⟩)) rfl (by kernel_rfl) (by kernel_rfl) (by kernel_rfl) (fun _ _ _ h => h) (Or.inl ⟨by rfl, ?_⟩) (by assumption) ?_
  · (intro W hSw; (try dsimp only at hSw); go_simp)
  show wpAnyH _ _ _ _ _ _ _ (Act.put _ (some 54) _) _
  simp only [Act.put, List.setIfInBounds_toArray, List.set_cons_zero, List.set_cons_succ]
  refine wpAnyH_take (i := 12) (v := .int .i64 (S.p t)) rfl (by kernel_rfl) (by kernel_rfl) (by kernel_rfl) (fun _ _ _ h => h) (Or.inl ⟨by rfl, ?_⟩) (by assumption) ?_
  · (intro W hSw; (try dsimp only at hSw); go_simp)
  show wpAnyH _ _ _ _ _ _ _ (Act.put _ (some 55) _) _
  simp only [Act.put, List.setIfInBounds_toArray, List.set_cons_zero, List.set_cons_succ]
  refine wpAnyH_take (i := 13) (v := .pointer (some ⟨cb, co + S.p t * 7, none⟩)) rfl (by kernel_rfl) (by kernel_rfl) (by kernel_rfl) (fun _ _ _ h => h) (Or.inl ⟨by rfl, ?_⟩) (by assumption) ?_
  · (intro W hSw; (try dsimp only at hSw); go_simp)
  show wpAnyH _ _ _ _ _ _ _ (Act.put _ (some 56) _) _
  simp only [Act.put, List.setIfInBounds_toArray, List.set_cons_zero, List.set_cons_succ]
  refine wpAnyH_take (i := 14) (v := .agg #[.int .i64 kd, .int .i64 rg, .int .i64 ad, .int .i64 vl, .int .i64 sr, .int .i64 od, .int .i64 ct]) rfl (by kernel_rfl) (by kernel_rfl) (by kernel_rfl) (fun _ _ _ h => h) (Or.inl ⟨by rfl, ?_⟩) (by assumption) ?_
  · (intro W hSw; (try dsimp only at hSw); go_simp)
  show wpAnyH _ _ _ _ _ _ _ (Act.put _ (some 57) _) _
  simp only [Act.put, List.setIfInBounds_toArray, List.set_cons_zero, List.set_cons_succ]
  obtain ⟨V, hV9, HVb⟩ : ∃ Z9, Z9 = w1.drew ∧ Hid (Below w0.heap.size w0 Z9) := ⟨_, rfl, HB1.out.drew⟩
  rw [← hV9]
  clear hV9
  refine wpAnyH_ready (rs := [15]) (by kernel_rfl) (by simp) (AllReadyH.cons rfl (fun K1 hK1 => ?_) (AllReadyH.nil))
  rw [if_pos (by rfl)]
  go_simp
  refine hK1.out _ _ (HSo.out _ (HVb.out.alloc HVb.out.size _)) (fun _ => ?_)
  refine wpAnyH_ready (rs := [16]) (by kernel_rfl) (by simp) (AllReadyH.cons rfl (fun K2 hK2 => ?_) (AllReadyH.nil))
  rw [if_pos (by rfl)]
  have hx4 : Blk (V.alloc (.cells #[.int .i64 0, .int .i64 0, .int .i64 0, .int .i64 0, .int .i64 0, .int .i64 0, .int .i64 0] 204)) V.heap.size 204 [.int .i64 0, .int .i64 0, .int .i64 0, .int .i64 0, .int .i64 0, .int .i64 0, .int .i64 0] := Blk.new V 204 [.int .i64 0, .int .i64 0, .int .i64 0, .int .i64 0, .int .i64 0, .int .i64 0, .int .i64 0]
  refine wp_store_row _ _ _ rfl V.heap.size #[.int .i64 kd, .int .i64 rg, .int .i64 ad, .int .i64 vl, .int .i64 sr, .int .i64 od, .int .i64 ct] rfl rfl 204 _ hx4 size_lin rfl (lin_one _ _ _ _ _ _ _) ?_
  have hb4 : Below w0.heap.size w0 ((V.alloc (.cells #[.int .i64 0, .int .i64 0, .int .i64 0, .int .i64 0, .int .i64 0, .int .i64 0, .int .i64 0] 204)).setRow V.heap.size #[.int .i64 kd, .int .i64 rg, .int .i64 ad, .int .i64 vl, .int .i64 sr, .int .i64 od, .int .i64 ct]) := rowB (HVb.out.alloc HVb.out.size _) HVb.out.size
  refine hK2.out _ _ (HSo.out _ hb4) (fun _ => ?_)
  refine wpAnyH_done (by kernel_rfl) ?_ _
  obtain ⟨gi, hgi⟩ : ∃ gi, gi = V.heap.size := ⟨_, rfl⟩
  obtain ⟨A, hA, HIA, hbA⟩ : ∃ Z9, Z9 = (V.alloc (.cells #[.int .i64 0, .int .i64 0, .int .i64 0, .int .i64 0, .int .i64 0, .int .i64 0, .int .i64 0] 204)).setRow V.heap.size #[.int .i64 kd, .int .i64 rg, .int .i64 ad, .int .i64 vl, .int .i64 sr, .int .i64 od, .int .i64 ct] ∧ Hid (Blk Z9 gi 204 [.int .i64 kd, .int .i64 rg, .int .i64 ad, .int .i64 vl, .int .i64 sr, .int .i64 od, .int .i64 ct]) ∧ Below w0.heap.size w0 Z9 := ⟨_, rfl, by rw [hgi]; exact setRow_heap _ _ _ #[.int .i64 kd, .int .i64 rg, .int .i64 ad, .int .i64 vl, .int .i64 sr, .int .i64 od, .int .i64 ct] _ _ hx4, hb4⟩
  rw [← hA, ← hgi]
  have hgil : w.heap.size < gi := by have := HVb.out.size; omega
  have HRA := Lib.hid (HR0.out.on hbA)
  have HGA := Lib.hid (HG0.out.below hbA HG0.out.lt)
  have HLA := Lib.hid (HLb0.out.below hbA HLb0.out.lt)
  have HUA := Lib.hid (HU0.out.below hbA HU0.out.lt)
  have HWA := Lib.hid ((HW0.out.mono hBw).trans (hbA.mono (Nat.le_trans hBw HW0.out.size)))
  have HgsA : gs < w.heap.size := HG.out.lt
  have HWs : w.heap.size + 1 < A.heap.size := by have := hbA.size; omega
  have HLitA := Lib.hid (HL.out.keep HWA.out)
  clear hA hx4 hb4 hS HSo hgi HVb HB1 hbA HR0 HG0 HLb0 HU0 HW0 hL
  go_upto_region 5 with fail
  refine wp_region_held_drew (S := fun W => Blk W w.heap.size 101 [.slice wA wn wk, .slice (some ⟨tb, to', none⟩) tn tk] ∧ Blk W (w.heap.size + 1) 131 [.int .i64 t, .bool false, .int .i64 ua]) (by kernel_rfl) ⟨HLA.out, HUA.out⟩ (fun hS => ?_)
  refine wpAnyH_take (i := 0) (v := .agg #[.slice wA wn wk, .slice (some ⟨tb, to', none⟩) tn tk]) rfl (by kernel_rfl) (by kernel_rfl) (by kernel_rfl) (fun _ _ _ h => h) (Or.inl ⟨by rfl, ?_⟩) (by assumption) ?_
  · (intro W hSw; (try dsimp only at hSw); have a0 := hSw.1.cell (i := 0) rfl; have a1 := hSw.1.cell (i := 1) rfl; have b0 := hSw.2.cell (i := 0) rfl; have b1 := hSw.2.cell (i := 1) rfl; have b2 := hSw.2.cell (i := 2) rfl; go_simp)
  show wpAnyH _ _ _ _ _ _ _ (Act.put _ (some 58) _) _
  simp only [Act.put, List.setIfInBounds_toArray, List.set_cons_zero, List.set_cons_succ]
  refine wpAnyH_take (i := 1) (v := .pointer (some ⟨gs, 0, none⟩)) rfl (by kernel_rfl) (by kernel_rfl) (by kernel_rfl) (fun _ _ _ h => h) (Or.inl ⟨by rfl, ?_⟩) (by assumption) ?_
  · (intro W hSw; (try dsimp only at hSw); have a0 := hSw.1.cell (i := 0) rfl; have a1 := hSw.1.cell (i := 1) rfl; have b0 := hSw.2.cell (i := 0) rfl; have b1 := hSw.2.cell (i := 1) rfl; have b2 := hSw.2.cell (i := 2) rfl; go_simp)
  show wpAnyH _ _ _ _ _ _ _ (Act.put _ (some 59) _) _
  simp only [Act.put, List.setIfInBounds_toArray, List.set_cons_zero, List.set_cons_succ]
  refine wpAnyH_take (i := 2) (v := .pointer (some ⟨gs, 0, none⟩)) rfl (by kernel_rfl) (by kernel_rfl) (by kernel_rfl) (fun _ _ _ h => h) (Or.inl ⟨by rfl, ?_⟩) (by assumption) ?_
  · (intro W hSw; (try dsimp only at hSw); have a0 := hSw.1.cell (i := 0) rfl; have a1 := hSw.1.cell (i := 1) rfl; have b0 := hSw.2.cell (i := 0) rfl; have b1 := hSw.2.cell (i := 1) rfl; have b2 := hSw.2.cell (i := 2) rfl; go_simp)
  show wpAnyH _ _ _ _ _ _ _ (Act.put _ (some 60) _) _
  simp only [Act.put, List.setIfInBounds_toArray, List.set_cons_zero, List.set_cons_succ]
  refine wpAnyH_take (i := 3) (v := .pointer (some ⟨gs, 0, none⟩)) rfl (by kernel_rfl) (by kernel_rfl) (by kernel_rfl) (fun _ _ _ h => h) (Or.inl ⟨by rfl, ?_⟩) (by assumption) ?_
  · (intro W hSw; (try dsimp only at hSw); have a0 := hSw.1.cell (i := 0) rfl; have a1 := hSw.1.cell (i := 1) rfl; have b0 := hSw.2.cell (i := 0) rfl; have b1 := hSw.2.cell (i := 1) rfl; have b2 := hSw.2.cell (i := 2) rfl; go_simp)
  show wpAnyH _ _ _ _ _ _ _ (Act.put _ (some 61) _) _
  simp only [Act.put, List.setIfInBounds_toArray, List.set_cons_zero, List.set_cons_succ]
  refine wpAnyH_take (i := 4) (v := .agg #[.int .i64 t, .bool false, .int .i64 ua]) rfl (by kernel_rfl) (by kernel_rfl) (by kernel_rfl) (fun _ _ _ h => h) (Or.inl ⟨by rfl, ?_⟩) (by assumption) ?_
  · (intro W hSw; (try dsimp only at hSw); have a0 := hSw.1.cell (i := 0) rfl; have a1 := hSw.1.cell (i := 1) rfl; have b0 := hSw.2.cell (i := 0) rfl; have b1 := hSw.2.cell (i := 1) rfl; have b2 := hSw.2.cell (i := 2) rfl; go_simp)
  show wpAnyH _ _ _ _ _ _ _ (Act.put _ (some 62) _) _
  simp only [Act.put, List.setIfInBounds_toArray, List.set_cons_zero, List.set_cons_succ]
  refine wpAnyH_ready (rs := [5]) (by kernel_rfl) (by simp) (AllReadyH.cons rfl (fun K1 hK1 => ?_) (AllReadyH.nil))
  rw [if_pos (by rfl)]
  go_simp
  go_at_call 124
  refine (rturn_any ⟨wA, wn, wk, ws, some ⟨tb, to', none⟩, tn, tk, th⟩ A.drew B gs M.h S ⟨t, false, ua⟩ 116 _ (HLitA.out.keep (Below.refl _ _).drew) (by have := HWs; show B ≤ A.heap.size; omega) HRA.out.nu ((HRA.out.hd HGA.out).on (Below.refl _ _).drew) HGd.out HOk.out).mono ?_
  rintro e C ⟨rfl, hst5, hfr5⟩
  obtain ⟨S5, hS5⟩ : ∃ S5, S5 = turnS ⟨wA, wn, wk, ws, some ⟨tb, to', none⟩, tn, tk, th⟩ S ⟨t, false, ua⟩ := ⟨_, rfl⟩
  rw [← hS5] at hst5 HEv
  have HS5 := Lib.hid hS5
  clear hS5
  obtain ⟨g, hMg⟩ := at_lt (show t < M.ms.length by rw [HR.out.ml]; exact hlt)
  have HMg := Lib.hid hMg
  clear hMg
  rw [HPe.out]
  have hfr6 : Fr (SF M.h) A C := (Fr.of (Below.refl _ _).drew).trans hfr5
  have hSf : ∀ q, SF M.h q → q < w.heap.size := by
    rintro q (e | e | e)
    · rw [e]; exact HR.out.st.w.lt
    · rw [e]; exact HR.out.st.r.lt
    · rw [e]; exact HR.out.st.p.lt
  have hSg : ∀ q, SF M.h q → q ≠ gs := by
    have := (HR.out.hd HG.out).ne
    rintro q (e | e | e) e2
    · exact this.1 (e2.symm.trans e)
    · exact this.2.1 (e2.symm.trans e)
    · exact this.2.2 (e2.symm.trans e)
  have hSC : Blk C w.heap.size 101 [.slice wA wn wk, .slice (some ⟨tb, to', none⟩) tn tk] ∧ Blk C (w.heap.size + 1) 131 [.int .i64 t, .bool false, .int .i64 ua] := ⟨HLA.out.kept (hfr6.block _ HLA.out.lt (fun h9 => by have := hSf _ h9; omega)), HUA.out.kept (hfr6.block _ HUA.out.lt (fun h9 => by have := hSf _ h9; omega))⟩
  refine hK1.out _ _ hSC (fun _ => ?_)
  refine wpAnyH_take (i := 6) (v := .bool false) rfl (by kernel_rfl) (by kernel_rfl) (by kernel_rfl) (fun _ _ _ h => h) (Or.inl ⟨by rfl, ?_⟩) (hSC) ?_
  · (intro W hSw; (try dsimp only at hSw); go_simp)
  show wpAnyH _ _ _ _ _ _ _ (Act.put _ (some 64) _) _
  simp only [Act.put, List.setIfInBounds_toArray, List.set_cons_zero, List.set_cons_succ]
  refine wpAnyH_done (by kernel_rfl) ?_ _
  have HRC := Lib.hid (HRA.out.st_ hfr6 hst5)
  have HGC := Lib.hid (HGA.out.kept (hfr6.block _ HGA.out.lt (fun h9 => hSg _ h9 rfl)))
  have HIC := Lib.hid (HIA.out.kept (hfr6.block _ HIA.out.lt (fun h9 => by have := hSf _ h9; omega)))
  have HWC := Lib.hid (HWA.out.trans (hfr6.to_below (by have := HWs; omega) (SF_ge HRA.out.nu)))
  clear hS hSC hSf hSg hst5 hfr5 hfr6 HRA HGA HIA HWA HLA HUA
  have i0 : C.cell? ⟨gi, 0, none⟩ = some (.int .i64 kd) := HIC.out.cell rfl
  go_upto_region 8 with fail
  clear i0
  have hkk : kd = 1 ∨ kd = 2 ∨ kd = 3 ∨ kd = 4 ∨ kd = 5 ∨ kd = 6 ∨ kd = 7 := okIns_kind HOk9.out
  rcases hkk with rfl | rfl | rfl | rfl | rfl | rfl | rfl
  · obtain ⟨adn, ha, had⟩ : ∃ adn : Nat, ad = adn ∧ adn < wn := by
      have h9 := HOk9.out
      unfold okIns at h9
      rw [if_pos (Or.inl rfl), Bool.and_eq_true] at h9
      exact adr_of h9.2
    subst ha
    have e2 : (0 : Int) ≤ adn := by omega
    have e3 : (adn : Int) < wn := by omega
    have HE : Hid (evOf ⟨wA, wn, wk, ws, some ⟨tb, to', none⟩, tn, tk, th⟩ S ⟨t, false, ua⟩ = some ⟨t, 1, adn, false⟩) := by rw [HEv.out]; rfl
    go_upto_region 10 with fail
    go_quiet (fail)
    obtain ⟨D, hZ, hbZ⟩ : ∃ Z9, Z9 = C.drewN nq ∧ Below C.heap.size C Z9 := ⟨_, rfl, (Below.refl _ _).drewN _⟩
    rw [← hZ]
    have HRD := Lib.hid (HRC.out.on hbZ)
    have HGD := Lib.hid (HGC.out.below hbZ HGC.out.lt)
    have HID := Lib.hid (HIC.out.below hbZ HIC.out.lt)
    have HWD := Lib.hid (HWC.out.trans (hbZ.mono HRC.out.bs))
    clear hZ hbZ HRC HGC HIC HWC
    have s4 : D.cell? ⟨gs, 4, none⟩ = some (.slice (some ⟨M.gm, 0, none⟩) tn M.km) := HGD.out.cell rfl
    have m1 : D.cell? ⟨M.gm, t, none⟩ = some (.slice (some ⟨g, 0, none⟩) tn (M.kc t)) := HRD.out.mi.cell (mhV_get HMg.out)
    have cg : D.cell? ⟨g, t, none⟩ = some (.int .i64 ((xAt es).m t t)) := (HRD.out.mr t g HMg.out).2.cell (clkV_get hlt)
    have cf := (HRD.out.mr t g HMg.out).2.frozen t
    go_upto_region 12 with fail
    have hgW : D.grownBy (D.setCell ⟨g, t, none⟩ (.int .i64 (wrap64 ((xAt es).m t t + 1)))) (some g) := gb_setCell (World.grownBy.refl _ _) _ _
    have hBl := (HRD.out.mr t g HMg.out).2.set_ t (.int .i64 (wrap64 ((xAt es).m t t + 1)))
    rw [bumpW_set2] at hBl
    obtain ⟨E, hZ, HRE, HGE, HIE, HWE⟩ : ∃ Z9, Z9 = D.setCell ⟨g, t, none⟩ (.int .i64 (wrap64 ((xAt es).m t t + 1))) ∧ Hid (RSB Z9 B tn wn S5 ((xAt es).own t (bumpW ((xAt es).m t) t)) es M) ∧ Hid (Blk Z9 gs 116 (rsL M tn wn)) ∧ Hid (Blk Z9 gi 204 [.int .i64 1, .int .i64 rg, .int .i64 adn, .int .i64 vl, .int .i64 sr, .int .i64 od, .int .i64 ct]) ∧ Hid (Below B w Z9) :=
      ⟨_, rfl, HRD.out.mine HMg.out hgW hBl, HGD.out.far (((HRD.out.mr t g HMg.out).2.nb HGD.out (by decide)).symm) _, HID.out.far (((HRD.out.mr t g HMg.out).2.nb HID.out (by decide)).symm) _, HWD.out.setCell (HRD.out.mr t g HMg.out).1 _⟩
    rw [← hZ]
    clear hZ hgW hBl s4 m1 cg cf HRD HGD HID HWD
    replace HRE : Hid (RSB E B tn wn S5 (tickS (xAt es) ⟨t, 1, adn, false⟩) es M) := by rw [← tick_pl (x := xAt es) (e := ⟨t, 1, adn, false⟩) (show (1 : Int) ≠ 3 by decide)]; exact HRE
    have s4 : E.cell? ⟨gs, 4, none⟩ = some (.slice (some ⟨M.gm, 0, none⟩) tn M.km) := HGE.out.cell rfl
    have m1 : E.cell? ⟨M.gm, t, none⟩ = some (.slice (some ⟨g, 0, none⟩) tn (M.kc t)) := HRE.out.mi.cell (mhV_get HMg.out)
    have i0 : E.cell? ⟨gi, 0, none⟩ = some (.int .i64 1) := HIE.out.cell rfl
    have i2 : E.cell? ⟨gi, 2, none⟩ = some (.int .i64 adn) := HIE.out.cell rfl
    obtain ⟨vA, vk, hvE, hvk1, hvk2⟩ := own_form HRE.out.ev
    have HvE : Hid (M.vE = .slice vA es.length vk) := Lib.hid hvE
    clear hvE
    have HE6 : Hid (E.cell? ⟨gs, 6, none⟩ = some (.slice vA es.length vk)) := by rw [← HvE.out]; exact HGE.out.cell rfl
    have HEv6 : Hid (E.ownsRow B 122 5 (.slice vA es.length vk) es.length (evcV tn es M.cs)) := by rw [← HvE.out]; exact HRE.out.ev
    have HEb : Hid (some gs ≠ (Value.slice vA es.length vk).ownBlock) := own_nb HEv6.out HGE.out (by decide)
    have hiD := HIE.out.lt
    have hgD := HGE.out.lt
    have HSo : Hid (∀ W, E.grownBy W (Value.slice vA es.length vk).ownBlock → W.cell? ⟨gs, 4, none⟩ = some (.slice (some ⟨M.gm, 0, none⟩) tn M.km) ∧ W.cell? ⟨M.gm, t, none⟩ = some (.slice (some ⟨g, 0, none⟩) tn (M.kc t)) ∧ W.cell? ⟨gi, 0, none⟩ = some (.int .i64 1) ∧ W.cell? ⟨gi, 2, none⟩ = some (.int .i64 adn)) := fun W hW => by
      have e1 := own_nr HEv6.out HRE.out.mi (by decide)
      have e2 := own_nb HEv6.out HIE.out (by decide)
      have k : ∀ (b o : Nat) (v : Value), E.cell? ⟨b, o, none⟩ = some v → some b ≠ (Value.slice vA es.length vk).ownBlock → W.cell? ⟨b, o, none⟩ = some v := fun b o v hv hne => by
        have hlt9 := World.block_lt_of_cell? E _ hv
        have hkk9 := hW.block b hlt9 hne
        unfold World.cell? at hv ⊢
        dsimp only at hv ⊢
        rw [hkk9]
        exact hv
      exact ⟨k _ _ _ s4 HEb.out, k _ _ _ m1 e1, k _ _ _ i0 e2, k _ _ _ i2 e2⟩
    have HTw : Hid (∀ V : World, Below E.heap.size E V → Calls Try.prog 65 #[.slice (some ⟨g, 0, none⟩) tn (M.kc t)] V (CopyR (clkL tn (tickM (xAt es) ⟨t, 1, adn, false⟩)) tn V)) := fun V hV => by
      refine twin27_any _ _ tn _ V ?_ (by omega)
      have h9 := ((HRE.out.mr t g HMg.out).2.on hV).sl
      rwa [show (tickS (xAt es) ⟨t, 1, adn, false⟩).m t = tickM (xAt es) ⟨t, 1, adn, false⟩ from tickS_m _ _] at h9
    go_upto_region 16 with fail
    refine wp_region_held_drew (S := fun W => W.cell? ⟨gs, 4, none⟩ = some (.slice (some ⟨M.gm, 0, none⟩) tn M.km) ∧ W.cell? ⟨M.gm, t, none⟩ = some (.slice (some ⟨g, 0, none⟩) tn (M.kc t)) ∧ W.cell? ⟨gi, 0, none⟩ = some (.int .i64 1) ∧ W.cell? ⟨gi, 2, none⟩ = some (.int .i64 adn)) (by kernel_rfl) (HSo.out _ (gb_below (Below.refl _ _).drew _)) (fun hS => ?_)
    refine wpAnyH_take (i := 0) (v := .pointer (some ⟨gs, 0, none⟩)) rfl (by kernel_rfl) (by kernel_rfl) (by kernel_rfl) (fun _ _ _ h => h) (Or.inl ⟨by rfl, ?_⟩) (by assumption) ?_
    · (intro W hSw; (try dsimp only at hSw); go_simp)
    show wpAnyH _ _ _ _ _ _ _ (Act.put _ (some 135) _) _
    simp only [Act.put, List.setIfInBounds_toArray, List.set_cons_zero, List.set_cons_succ]
    refine wpAnyH_take (i := 1) (v := .pointer (some ⟨gs, 0, none⟩)) rfl (by kernel_rfl) (by kernel_rfl) (by kernel_rfl) (fun _ _ _ h => h) (Or.inl ⟨by rfl, ?_⟩) (by assumption) ?_
    · (intro W hSw; (try dsimp only at hSw); go_simp)
    show wpAnyH _ _ _ _ _ _ _ (Act.put _ (some 136) _) _
    simp only [Act.put, List.setIfInBounds_toArray, List.set_cons_zero, List.set_cons_succ]
    refine wpAnyH_take (i := 2) (v := .pointer (some ⟨gs, 0, none⟩)) rfl (by kernel_rfl) (by kernel_rfl) (by kernel_rfl) (fun _ _ _ h => h) (Or.inl ⟨by rfl, ?_⟩) (by assumption) ?_
    · (intro W hSw; (try dsimp only at hSw); go_simp)
    show wpAnyH _ _ _ _ _ _ _ (Act.put _ (some 137) _) _
    simp only [Act.put, List.setIfInBounds_toArray, List.set_cons_zero, List.set_cons_succ]
    refine wpAnyH_take (i := 3) (v := .pointer (some ⟨gs, 6, none⟩)) rfl (by kernel_rfl) (by kernel_rfl) (by kernel_rfl) (fun _ _ _ h => h) (Or.inl ⟨by rfl, ?_⟩) (by assumption) ?_
    · (intro W hSw; (try dsimp only at hSw); go_simp)
    show wpAnyH _ _ _ _ _ _ _ (Act.put _ (some 138) _) _
    simp only [Act.put, List.setIfInBounds_toArray, List.set_cons_zero, List.set_cons_succ]
    refine wpAnyH_take (i := 5) (v := .int .i64 t) rfl (by kernel_rfl) (by kernel_rfl) (by kernel_rfl) (fun _ _ _ h => h) (Or.inl ⟨by rfl, ?_⟩) (by assumption) ?_
    · (intro W hSw; (try dsimp only at hSw); go_simp)
    show wpAnyH _ _ _ _ _ _ _ (Act.put _ (some 140) _) _
    simp only [Act.put, List.setIfInBounds_toArray, List.set_cons_zero, List.set_cons_succ]
    refine wpAnyH_take (i := 6) (v := .pointer (some ⟨gi, 0, none⟩)) rfl (by kernel_rfl) (by kernel_rfl) (by kernel_rfl) (fun _ _ _ h => h) (Or.inl ⟨by rfl, ?_⟩) (by assumption) ?_
    · (intro W hSw; (try dsimp only at hSw); go_simp)
    show wpAnyH _ _ _ _ _ _ _ (Act.put _ (some 141) _) _
    simp only [Act.put, List.setIfInBounds_toArray, List.set_cons_zero, List.set_cons_succ]
    refine wpAnyH_take (i := 7) (v := .int .i64 1) rfl (by kernel_rfl) (by kernel_rfl) (by kernel_rfl) (fun _ _ _ h => h) (Or.inl ⟨by rfl, ?_⟩) (by assumption) ?_
    · (intro W hSw; (try dsimp only at hSw); go_simp)
    show wpAnyH _ _ _ _ _ _ _ (Act.put _ (some 142) _) _
    simp only [Act.put, List.setIfInBounds_toArray, List.set_cons_zero, List.set_cons_succ]
    refine wpAnyH_take (i := 8) (v := .pointer (some ⟨gi, 2, none⟩)) rfl (by kernel_rfl) (by kernel_rfl) (by kernel_rfl) (fun _ _ _ h => h) (Or.inl ⟨by rfl, ?_⟩) (by assumption) ?_
    · (intro W hSw; (try dsimp only at hSw); go_simp)
    show wpAnyH _ _ _ _ _ _ _ (Act.put _ (some 143) _) _
    simp only [Act.put, List.setIfInBounds_toArray, List.set_cons_zero, List.set_cons_succ]
    refine wpAnyH_take (i := 9) (v := .int .i64 adn) rfl (by kernel_rfl) (by kernel_rfl) (by kernel_rfl) (fun _ _ _ h => h) (Or.inl ⟨by rfl, ?_⟩) (by assumption) ?_
    · (intro W hSw; (try dsimp only at hSw); go_simp)
    show wpAnyH _ _ _ _ _ _ _ (Act.put _ (some 144) _) _
    simp only [Act.put, List.setIfInBounds_toArray, List.set_cons_zero, List.set_cons_succ]
    refine wpAnyH_take (i := 10) (v := .bool false) rfl (by kernel_rfl) (by kernel_rfl) (by kernel_rfl) (fun _ _ _ h => h) (Or.inl ⟨by rfl, ?_⟩) (by assumption) ?_
    · (intro W hSw; (try dsimp only at hSw); go_simp)
    show wpAnyH _ _ _ _ _ _ _ (Act.put _ (some 145) _) _
    simp only [Act.put, List.setIfInBounds_toArray, List.set_cons_zero, List.set_cons_succ]
    refine wpAnyH_take (i := 11) (v := .agg #[.int .i64 t, .int .i64 1, .int .i64 adn, .bool false]) rfl (by kernel_rfl) (by kernel_rfl) (by kernel_rfl) (fun _ _ _ h => h) (Or.inl ⟨by rfl, ?_⟩) (by assumption) ?_
    · (intro W hSw; (try dsimp only at hSw); go_simp)
    show wpAnyH _ _ _ _ _ _ _ (Act.put _ (some 146) _) _
    simp only [Act.put, List.setIfInBounds_toArray, List.set_cons_zero, List.set_cons_succ]
    refine wpAnyH_take (i := 12) (v := .pointer (some ⟨gs, 0, none⟩)) rfl (by kernel_rfl) (by kernel_rfl) (by kernel_rfl) (fun _ _ _ h => h) (Or.inl ⟨by rfl, ?_⟩) (by assumption) ?_
    · (intro W hSw; (try dsimp only at hSw); go_simp)
    show wpAnyH _ _ _ _ _ _ _ (Act.put _ (some 147) _) _
    simp only [Act.put, List.setIfInBounds_toArray, List.set_cons_zero, List.set_cons_succ]
    refine wpAnyH_take (i := 13) (v := .pointer (some ⟨gs, 0, none⟩)) rfl (by kernel_rfl) (by kernel_rfl) (by kernel_rfl) (fun _ _ _ h => h) (Or.inl ⟨by rfl, ?_⟩) (by assumption) ?_
    · (intro W hSw; (try dsimp only at hSw); go_simp)
    show wpAnyH _ _ _ _ _ _ _ (Act.put _ (some 148) _) _
    simp only [Act.put, List.setIfInBounds_toArray, List.set_cons_zero, List.set_cons_succ]
    refine wpAnyH_take (i := 14) (v := .pointer (some ⟨gs, 4, none⟩)) rfl (by kernel_rfl) (by kernel_rfl) (by kernel_rfl) (fun _ _ _ h => h) (Or.inl ⟨by rfl, ?_⟩) (by assumption) ?_
    · (intro W hSw; (try dsimp only at hSw); go_simp)
    show wpAnyH _ _ _ _ _ _ _ (Act.put _ (some 149) _) _
    simp only [Act.put, List.setIfInBounds_toArray, List.set_cons_zero, List.set_cons_succ]
    refine wpAnyH_take (i := 15) (v := .slice (some ⟨M.gm, 0, none⟩) tn M.km) rfl (by kernel_rfl) (by kernel_rfl) (by kernel_rfl) (fun _ _ _ h => h) (Or.inl ⟨by rfl, ?_⟩) (by assumption) ?_
    · (intro W hSw; (try dsimp only at hSw); go_simp)
    show wpAnyH _ _ _ _ _ _ _ (Act.put _ (some 150) _) _
    simp only [Act.put, List.setIfInBounds_toArray, List.set_cons_zero, List.set_cons_succ]
    refine wpAnyH_take (i := 16) (v := .int .i64 t) rfl (by kernel_rfl) (by kernel_rfl) (by kernel_rfl) (fun _ _ _ h => h) (Or.inl ⟨by rfl, ?_⟩) (by assumption) ?_
    · (intro W hSw; (try dsimp only at hSw); go_simp)
    show wpAnyH _ _ _ _ _ _ _ (Act.put _ (some 151) _) _
    simp only [Act.put, List.setIfInBounds_toArray, List.set_cons_zero, List.set_cons_succ]
    refine wpAnyH_take (i := 17) (v := .pointer (some ⟨M.gm, t, none⟩)) rfl (by kernel_rfl) (by kernel_rfl) (by kernel_rfl) (fun _ _ _ h => h) (Or.inl ⟨by rfl, ?_⟩) (by assumption) ?_
    · (intro W hSw; (try dsimp only at hSw); go_simp)
    show wpAnyH _ _ _ _ _ _ _ (Act.put _ (some 152) _) _
    simp only [Act.put, List.setIfInBounds_toArray, List.set_cons_zero, List.set_cons_succ]
    refine wpAnyH_take (i := 18) (v := .slice (some ⟨g, 0, none⟩) tn (M.kc t)) rfl (by kernel_rfl) (by kernel_rfl) (by kernel_rfl) (fun _ _ _ h => h) (Or.inl ⟨by rfl, ?_⟩) (by assumption) ?_
    · (intro W hSw; (try dsimp only at hSw); go_simp)
    show wpAnyH _ _ _ _ _ _ _ (Act.put _ (some 153) _) _
    simp only [Act.put, List.setIfInBounds_toArray, List.set_cons_zero, List.set_cons_succ]
    obtain ⟨V0, hV9, HV0b⟩ : ∃ Z9, Z9 = E.drew ∧ Hid (Below E.heap.size E Z9) := ⟨_, rfl, (Below.refl _ _).drew⟩
    rw [← hV9]
    clear hV9 s4 m1 i0 i2
    refine wpAnyH_ready (rs := [4, 19]) (by kernel_rfl) (by simp) (AllReadyH.cons rfl (fun K1 hK1 => ?_) (AllReadyH.cons rfl (fun K1 hK1 => ?_) AllReadyH.nil))
    · have s6 : V0.cell? ⟨gs, 6, none⟩ = some (.slice vA es.length vk) := (HV0b.out.cell (p := ⟨gs, 6, none⟩) HGE.out.lt).trans HE6.out
      rw [if_pos (by rfl)]
      go_simp
      clear s6
      refine hK1.out _ _ (HSo.out _ (gb_below HV0b.out _)) (fun hS1 => ?_)
      refine wpAnyH_ready (rs := [19]) (by kernel_rfl) (by simp) (AllReadyH.cons rfl (fun K2 hK2 => ?_) (AllReadyH.nil))
      rw [if_pos (by rfl)]
      go_simp
      go_at_call 65
      refine (HTw.out V0 HV0b.out).mono ?_
      rintro e V1 ⟨A2, k2, rfl, hown2, hb2, hk21, hk22⟩
      have HV1b := Lib.hid (HV0b.out.trans (hb2.mono HV0b.out.size))
      obtain ⟨g2, hg2, hg2B, hR2⟩ := Rw.of_own hown2 (by omega)
      subst hg2
      have hg2D : E.heap.size ≤ g2 := Nat.le_trans HV0b.out.size hg2B
      have HRw2 := Lib.hid hR2
      clear hown2 hb2 hR2
      refine hK2.out _ _ (HSo.out _ (gb_below HV1b.out _)) (fun hS2 => ?_)
      refine wpAnyH_take (i := 20) (v := .agg #[.int .i64 t, .int .i64 1, .int .i64 adn, .bool false, .slice (some ⟨g2, 0, none⟩) tn k2]) rfl (by kernel_rfl) (by kernel_rfl) (by kernel_rfl) (fun _ _ _ h => h) (Or.inl ⟨by rfl, ?_⟩) (hS2) ?_
      · (intro W hSw; (try dsimp only at hSw); go_simp)
      show wpAnyH _ _ _ _ _ _ _ (Act.put _ (some 155) _) _
      simp only [Act.put, List.setIfInBounds_toArray, List.set_cons_zero, List.set_cons_succ]
      refine wpAnyH_ready (rs := [21]) (by kernel_rfl) (by simp) (AllReadyH.cons rfl (fun K3 hK3 => ?_) (AllReadyH.nil))
      rw [if_pos (by rfl)]
      go_simp
      have hbA := HV1b.out.alloc HV1b.out.size (.cells #[.int .i64 t, .int .i64 1, .int .i64 adn, .bool false, .slice (some ⟨g2, 0, none⟩) tn k2] 122)
      refine hK3.out _ _ (HSo.out _ (gb_below hbA _)) (fun hS3 => ?_)
      refine wpAnyH_ready (rs := [22]) (by kernel_rfl) (by simp) (AllReadyH.cons rfl (fun K4 hK4 => ?_) (AllReadyH.nil))
      refine step_app _ (by rfl) _ _ 114 (by rfl) B 122 ie (.agg #[.int .i64 0, .int .i64 0, .int .i64 0, .bool false, .slice none 0 0]) 5 56 Try.underlying114 hie hiez hies hieb rfl (by decide) (.slice vA es.length vk) es.length (evcV tn es M.cs) (by rfl) (HEv6.out.below hbA) (V1.heap.size + 1) (some ⟨V1.heap.size, 0, none⟩) 1 1 [.int .i64 t, .int .i64 1, .int .i64 adn, .bool false, .slice (some ⟨g2, 0, none⟩) tn k2] (by rfl) (((Blk.new V1 122 _).sl rfl).up (by simp)) (evc_one _ _ _ _ _ _ _) (es.length + 1) rfl _ rfl _ rfl (by simp only [maxLen]; omega) (by omega) (by have := HV1b.out.size; have := HRE.out.bs; rw [World.size_alloc]; omega) ?_
      intro A9 k9 W9 hown9 hg9 hat9 hk91 hk92
      have hgg := (gb_below hbA (Value.slice vA es.length vk).ownBlock).trans hg9
      have hG9 := HGE.out.grown hgg HEb.out
      have d0 : W9.cell? ⟨gs, 6, none⟩ = some (.slice vA es.length vk) := by rw [← HvE.out]; exact hG9.cell rfl
      have df := hG9.frozen 6
      refine hK4.out _ _ (HSo.out _ hgg) (fun hS4 => ?_)
      refine wpAnyH_take (i := 23) (v := .pointer (some ⟨gs, 0, none⟩)) rfl (by kernel_rfl) (by kernel_rfl) (by kernel_rfl) (fun _ _ _ h => h) (Or.inl ⟨by rfl, ?_⟩) (hS4) ?_
      · (intro W hSw; (try dsimp only at hSw); go_simp)
      show wpAnyH _ _ _ _ _ _ _ (Act.put _ (some 158) _) _
      simp only [Act.put, List.setIfInBounds_toArray, List.set_cons_zero, List.set_cons_succ]
      refine wpAnyH_take (i := 24) (v := .pointer (some ⟨gs, 6, none⟩)) rfl (by kernel_rfl) (by kernel_rfl) (by kernel_rfl) (fun _ _ _ h => h) (Or.inl ⟨by rfl, ?_⟩) (hS4) ?_
      · (intro W hSw; (try dsimp only at hSw); go_simp)
      show wpAnyH _ _ _ _ _ _ _ (Act.put _ (some 159) _) _
      simp only [Act.put, List.setIfInBounds_toArray, List.set_cons_zero, List.set_cons_succ]
      refine wpAnyH_ready (rs := [25]) (by kernel_rfl) (by simp) (AllReadyH.cons rfl (fun K5 hK5 => ?_) (AllReadyH.nil))
      rw [if_pos (by rfl)]
      go_simp
      have hS5 : (W9.setCell ⟨gs, 6, none⟩ (.slice A9 (es.length + 1) k9)).cell? ⟨gs, 4, none⟩ = some (.slice (some ⟨M.gm, 0, none⟩) tn M.km) ∧ (W9.setCell ⟨gs, 6, none⟩ (.slice A9 (es.length + 1) k9)).cell? ⟨M.gm, t, none⟩ = some (.slice (some ⟨g, 0, none⟩) tn (M.kc t)) ∧ (W9.setCell ⟨gs, 6, none⟩ (.slice A9 (es.length + 1) k9)).cell? ⟨gi, 0, none⟩ = some (.int .i64 1) ∧ (W9.setCell ⟨gs, 6, none⟩ (.slice A9 (es.length + 1) k9)).cell? ⟨gi, 2, none⟩ = some (.int .i64 adn) := by
        obtain ⟨z0, z1, z2, z3⟩ := hS4
        have hne1 : M.gm ≠ gs := HRE.out.mi.nb HGE.out (by decide)
        refine ⟨(World.cell?_setCell_other _ _ _ _ (by simp)).trans z0, (World.cell?_setCell_other _ _ _ _ (by simp [hne1])).trans z1, (World.cell?_setCell_other _ _ _ _ (by simp)).trans z2, (World.cell?_setCell_other _ _ _ _ (by simp)).trans z3⟩
      refine hK5.out _ _ hS5 (fun _ => ?_)
      refine wpAnyH_done (by kernel_rfl) ?_ _
      have hRA := HRw2.out.on (W' := V1.alloc (.cells #[.int .i64 t, .int .i64 1, .int .i64 adn, .bool false, .slice (some ⟨g2, 0, none⟩) tn k2] 122)) ((Below.refl _ _).alloc (Nat.le_refl _) _)
      have hRw9 : Rw W9 g2 3 1 tn k2 (ints (clkL tn (ckAt (es ++ [⟨t, 1, adn, false⟩]) es.length))) := by
        rw [ckAt_snoc]
        exact hRA.gb hg9 (own_nr (HEv6.out.below hbA) hRA (by decide))
      have hEnd := ((HRE.out.event (e := ⟨t, 1, adn, false⟩) rfl hRw9 (HRE.out.fresh hg2D) (Nat.le_trans HRE.out.bs hg2D) (by rw [show RM.vE M = M.vE from rfl, HvE.out]; exact hgg) hown9).head hG9 6 (.slice A9 (es.length + 1) k9))
      have HEnd := Lib.hid hEnd
      have HGe : Hid (Blk (W9.setCell ⟨gs, 6, none⟩ (.slice A9 (es.length + 1) k9)) gs 116 (rsL { M with vE := .slice A9 (es.length + 1) k9, cs := RM.cs M ++ [(g2, k2)] } tn wn)) := hG9.set_ 6 _
      have HWe : Hid (Below B w (W9.setCell ⟨gs, 6, none⟩ (.slice A9 (es.length + 1) k9))) := (HWE.out.grown hgg HRE.out.bs (fun q hq => (HEv6.out.lt q hq).1)).setCell hgs _
      clear hEnd d0 df hS5 hS4 hRA hRw9 hown9 hg9 hgg hG9 hbA
      go_wp2_with fail
      go_ret
      exact Rt27R.loud HPe.out HE.out HWe.out HGe.out (by rw [← HS5.out]; exact HEnd.out) rfl
    · rw [if_pos (by rfl)]
      go_simp
      go_at_call 65
      refine (HTw.out V0 HV0b.out).mono ?_
      rintro e V1 ⟨A2, k2, rfl, hown2, hb2, hk21, hk22⟩
      have HV1b := Lib.hid (HV0b.out.trans (hb2.mono HV0b.out.size))
      obtain ⟨g2, hg2, hg2B, hR2⟩ := Rw.of_own hown2 (by omega)
      subst hg2
      have hg2D : E.heap.size ≤ g2 := Nat.le_trans HV0b.out.size hg2B
      have HRw2 := Lib.hid hR2
      clear hown2 hb2 hR2
      refine hK1.out _ _ (HSo.out _ (gb_below HV1b.out _)) (fun hS1 => ?_)
      refine wpAnyH_take (i := 20) (v := .agg #[.int .i64 t, .int .i64 1, .int .i64 adn, .bool false, .slice (some ⟨g2, 0, none⟩) tn k2]) rfl (by kernel_rfl) (by kernel_rfl) (by kernel_rfl) (fun _ _ _ h => h) (Or.inl ⟨by rfl, ?_⟩) (hS1) ?_
      · (intro W hSw; (try dsimp only at hSw); go_simp)
      show wpAnyH _ _ _ _ _ _ _ (Act.put _ (some 155) _) _
      simp only [Act.put, List.setIfInBounds_toArray, List.set_cons_zero, List.set_cons_succ]
      refine wpAnyH_ready (rs := [4, 21]) (by kernel_rfl) (by simp) (AllReadyH.cons rfl (fun K2 hK2 => ?_) (AllReadyH.cons rfl (fun K2 hK2 => ?_) AllReadyH.nil))
      · have s6 : V1.cell? ⟨gs, 6, none⟩ = some (.slice vA es.length vk) := (HV1b.out.cell (p := ⟨gs, 6, none⟩) HGE.out.lt).trans HE6.out
        rw [if_pos (by rfl)]
        go_simp
        clear s6
        refine hK2.out _ _ (HSo.out _ (gb_below HV1b.out _)) (fun hS2 => ?_)
        refine wpAnyH_ready (rs := [21]) (by kernel_rfl) (by simp) (AllReadyH.cons rfl (fun K3 hK3 => ?_) (AllReadyH.nil))
        rw [if_pos (by rfl)]
        go_simp
        have hbA := HV1b.out.alloc HV1b.out.size (.cells #[.int .i64 t, .int .i64 1, .int .i64 adn, .bool false, .slice (some ⟨g2, 0, none⟩) tn k2] 122)
        refine hK3.out _ _ (HSo.out _ (gb_below hbA _)) (fun hS3 => ?_)
        refine wpAnyH_ready (rs := [22]) (by kernel_rfl) (by simp) (AllReadyH.cons rfl (fun K4 hK4 => ?_) (AllReadyH.nil))
        refine step_app _ (by rfl) _ _ 114 (by rfl) B 122 ie (.agg #[.int .i64 0, .int .i64 0, .int .i64 0, .bool false, .slice none 0 0]) 5 56 Try.underlying114 hie hiez hies hieb rfl (by decide) (.slice vA es.length vk) es.length (evcV tn es M.cs) (by rfl) (HEv6.out.below hbA) (V1.heap.size + 1) (some ⟨V1.heap.size, 0, none⟩) 1 1 [.int .i64 t, .int .i64 1, .int .i64 adn, .bool false, .slice (some ⟨g2, 0, none⟩) tn k2] (by rfl) (((Blk.new V1 122 _).sl rfl).up (by simp)) (evc_one _ _ _ _ _ _ _) (es.length + 1) rfl _ rfl _ rfl (by simp only [maxLen]; omega) (by omega) (by have := HV1b.out.size; have := HRE.out.bs; rw [World.size_alloc]; omega) ?_
        intro A9 k9 W9 hown9 hg9 hat9 hk91 hk92
        have hgg := (gb_below hbA (Value.slice vA es.length vk).ownBlock).trans hg9
        have hG9 := HGE.out.grown hgg HEb.out
        have d0 : W9.cell? ⟨gs, 6, none⟩ = some (.slice vA es.length vk) := by rw [← HvE.out]; exact hG9.cell rfl
        have df := hG9.frozen 6
        refine hK4.out _ _ (HSo.out _ hgg) (fun hS4 => ?_)
        refine wpAnyH_take (i := 23) (v := .pointer (some ⟨gs, 0, none⟩)) rfl (by kernel_rfl) (by kernel_rfl) (by kernel_rfl) (fun _ _ _ h => h) (Or.inl ⟨by rfl, ?_⟩) (hS4) ?_
        · (intro W hSw; (try dsimp only at hSw); go_simp)
        show wpAnyH _ _ _ _ _ _ _ (Act.put _ (some 158) _) _
        simp only [Act.put, List.setIfInBounds_toArray, List.set_cons_zero, List.set_cons_succ]
        refine wpAnyH_take (i := 24) (v := .pointer (some ⟨gs, 6, none⟩)) rfl (by kernel_rfl) (by kernel_rfl) (by kernel_rfl) (fun _ _ _ h => h) (Or.inl ⟨by rfl, ?_⟩) (hS4) ?_
        · (intro W hSw; (try dsimp only at hSw); go_simp)
        show wpAnyH _ _ _ _ _ _ _ (Act.put _ (some 159) _) _
        simp only [Act.put, List.setIfInBounds_toArray, List.set_cons_zero, List.set_cons_succ]
        refine wpAnyH_ready (rs := [25]) (by kernel_rfl) (by simp) (AllReadyH.cons rfl (fun K5 hK5 => ?_) (AllReadyH.nil))
        rw [if_pos (by rfl)]
        go_simp
        have hS5 : (W9.setCell ⟨gs, 6, none⟩ (.slice A9 (es.length + 1) k9)).cell? ⟨gs, 4, none⟩ = some (.slice (some ⟨M.gm, 0, none⟩) tn M.km) ∧ (W9.setCell ⟨gs, 6, none⟩ (.slice A9 (es.length + 1) k9)).cell? ⟨M.gm, t, none⟩ = some (.slice (some ⟨g, 0, none⟩) tn (M.kc t)) ∧ (W9.setCell ⟨gs, 6, none⟩ (.slice A9 (es.length + 1) k9)).cell? ⟨gi, 0, none⟩ = some (.int .i64 1) ∧ (W9.setCell ⟨gs, 6, none⟩ (.slice A9 (es.length + 1) k9)).cell? ⟨gi, 2, none⟩ = some (.int .i64 adn) := by
          obtain ⟨z0, z1, z2, z3⟩ := hS4
          have hne1 : M.gm ≠ gs := HRE.out.mi.nb HGE.out (by decide)
          refine ⟨(World.cell?_setCell_other _ _ _ _ (by simp)).trans z0, (World.cell?_setCell_other _ _ _ _ (by simp [hne1])).trans z1, (World.cell?_setCell_other _ _ _ _ (by simp)).trans z2, (World.cell?_setCell_other _ _ _ _ (by simp)).trans z3⟩
        refine hK5.out _ _ hS5 (fun _ => ?_)
        refine wpAnyH_done (by kernel_rfl) ?_ _
        have hRA := HRw2.out.on (W' := V1.alloc (.cells #[.int .i64 t, .int .i64 1, .int .i64 adn, .bool false, .slice (some ⟨g2, 0, none⟩) tn k2] 122)) ((Below.refl _ _).alloc (Nat.le_refl _) _)
        have hRw9 : Rw W9 g2 3 1 tn k2 (ints (clkL tn (ckAt (es ++ [⟨t, 1, adn, false⟩]) es.length))) := by
          rw [ckAt_snoc]
          exact hRA.gb hg9 (own_nr (HEv6.out.below hbA) hRA (by decide))
        have hEnd := ((HRE.out.event (e := ⟨t, 1, adn, false⟩) rfl hRw9 (HRE.out.fresh hg2D) (Nat.le_trans HRE.out.bs hg2D) (by rw [show RM.vE M = M.vE from rfl, HvE.out]; exact hgg) hown9).head hG9 6 (.slice A9 (es.length + 1) k9))
        have HEnd := Lib.hid hEnd
        have HGe : Hid (Blk (W9.setCell ⟨gs, 6, none⟩ (.slice A9 (es.length + 1) k9)) gs 116 (rsL { M with vE := .slice A9 (es.length + 1) k9, cs := RM.cs M ++ [(g2, k2)] } tn wn)) := hG9.set_ 6 _
        have HWe : Hid (Below B w (W9.setCell ⟨gs, 6, none⟩ (.slice A9 (es.length + 1) k9))) := (HWE.out.grown hgg HRE.out.bs (fun q hq => (HEv6.out.lt q hq).1)).setCell hgs _
        clear hEnd d0 df hS5 hS4 hRA hRw9 hown9 hg9 hgg hG9 hbA
        go_wp2_with fail
        go_ret
        exact Rt27R.loud HPe.out HE.out HWe.out HGe.out (by rw [← HS5.out]; exact HEnd.out) rfl
      · rw [if_pos (by rfl)]
        go_simp
        have hbA := HV1b.out.alloc HV1b.out.size (.cells #[.int .i64 t, .int .i64 1, .int .i64 adn, .bool false, .slice (some ⟨g2, 0, none⟩) tn k2] 122)
        refine hK2.out _ _ (HSo.out _ (gb_below hbA _)) (fun hS2 => ?_)
        refine wpAnyH_ready (rs := [4]) (by kernel_rfl) (by simp) (AllReadyH.cons rfl (fun K3 hK3 => ?_) (AllReadyH.nil))
        have s6 : (V1.alloc (.cells #[.int .i64 t, .int .i64 1, .int .i64 adn, .bool false, .slice (some ⟨g2, 0, none⟩) tn k2] 122)).cell? ⟨gs, 6, none⟩ = some (.slice vA es.length vk) := (hbA.cell (p := ⟨gs, 6, none⟩) HGE.out.lt).trans HE6.out
        rw [if_pos (by rfl)]
        go_simp
        clear s6
        refine hK3.out _ _ (HSo.out _ (gb_below hbA _)) (fun hS3 => ?_)
        refine wpAnyH_ready (rs := [22]) (by kernel_rfl) (by simp) (AllReadyH.cons rfl (fun K4 hK4 => ?_) (AllReadyH.nil))
        refine step_app _ (by rfl) _ _ 114 (by rfl) B 122 ie (.agg #[.int .i64 0, .int .i64 0, .int .i64 0, .bool false, .slice none 0 0]) 5 56 Try.underlying114 hie hiez hies hieb rfl (by decide) (.slice vA es.length vk) es.length (evcV tn es M.cs) (by rfl) (HEv6.out.below hbA) (V1.heap.size + 1) (some ⟨V1.heap.size, 0, none⟩) 1 1 [.int .i64 t, .int .i64 1, .int .i64 adn, .bool false, .slice (some ⟨g2, 0, none⟩) tn k2] (by rfl) (((Blk.new V1 122 _).sl rfl).up (by simp)) (evc_one _ _ _ _ _ _ _) (es.length + 1) rfl _ rfl _ rfl (by simp only [maxLen]; omega) (by omega) (by have := HV1b.out.size; have := HRE.out.bs; rw [World.size_alloc]; omega) ?_
        intro A9 k9 W9 hown9 hg9 hat9 hk91 hk92
        have hgg := (gb_below hbA (Value.slice vA es.length vk).ownBlock).trans hg9
        have hG9 := HGE.out.grown hgg HEb.out
        have d0 : W9.cell? ⟨gs, 6, none⟩ = some (.slice vA es.length vk) := by rw [← HvE.out]; exact hG9.cell rfl
        have df := hG9.frozen 6
        refine hK4.out _ _ (HSo.out _ hgg) (fun hS4 => ?_)
        refine wpAnyH_take (i := 23) (v := .pointer (some ⟨gs, 0, none⟩)) rfl (by kernel_rfl) (by kernel_rfl) (by kernel_rfl) (fun _ _ _ h => h) (Or.inl ⟨by rfl, ?_⟩) (hS4) ?_
        · (intro W hSw; (try dsimp only at hSw); go_simp)
        show wpAnyH _ _ _ _ _ _ _ (Act.put _ (some 158) _) _
        simp only [Act.put, List.setIfInBounds_toArray, List.set_cons_zero, List.set_cons_succ]
        refine wpAnyH_take (i := 24) (v := .pointer (some ⟨gs, 6, none⟩)) rfl (by kernel_rfl) (by kernel_rfl) (by kernel_rfl) (fun _ _ _ h => h) (Or.inl ⟨by rfl, ?_⟩) (hS4) ?_
        · (intro W hSw; (try dsimp only at hSw); go_simp)
        show wpAnyH _ _ _ _ _ _ _ (Act.put _ (some 159) _) _
        simp only [Act.put, List.setIfInBounds_toArray, List.set_cons_zero, List.set_cons_succ]
        refine wpAnyH_ready (rs := [25]) (by kernel_rfl) (by simp) (AllReadyH.cons rfl (fun K5 hK5 => ?_) (AllReadyH.nil))
        rw [if_pos (by rfl)]
        go_simp
        have hS5 : (W9.setCell ⟨gs, 6, none⟩ (.slice A9 (es.length + 1) k9)).cell? ⟨gs, 4, none⟩ = some (.slice (some ⟨M.gm, 0, none⟩) tn M.km) ∧ (W9.setCell ⟨gs, 6, none⟩ (.slice A9 (es.length + 1) k9)).cell? ⟨M.gm, t, none⟩ = some (.slice (some ⟨g, 0, none⟩) tn (M.kc t)) ∧ (W9.setCell ⟨gs, 6, none⟩ (.slice A9 (es.length + 1) k9)).cell? ⟨gi, 0, none⟩ = some (.int .i64 1) ∧ (W9.setCell ⟨gs, 6, none⟩ (.slice A9 (es.length + 1) k9)).cell? ⟨gi, 2, none⟩ = some (.int .i64 adn) := by
          obtain ⟨z0, z1, z2, z3⟩ := hS4
          have hne1 : M.gm ≠ gs := HRE.out.mi.nb HGE.out (by decide)
          refine ⟨(World.cell?_setCell_other _ _ _ _ (by simp)).trans z0, (World.cell?_setCell_other _ _ _ _ (by simp [hne1])).trans z1, (World.cell?_setCell_other _ _ _ _ (by simp)).trans z2, (World.cell?_setCell_other _ _ _ _ (by simp)).trans z3⟩
        refine hK5.out _ _ hS5 (fun _ => ?_)
        refine wpAnyH_done (by kernel_rfl) ?_ _
        have hRA := HRw2.out.on (W' := V1.alloc (.cells #[.int .i64 t, .int .i64 1, .int .i64 adn, .bool false, .slice (some ⟨g2, 0, none⟩) tn k2] 122)) ((Below.refl _ _).alloc (Nat.le_refl _) _)
        have hRw9 : Rw W9 g2 3 1 tn k2 (ints (clkL tn (ckAt (es ++ [⟨t, 1, adn, false⟩]) es.length))) := by
          rw [ckAt_snoc]
          exact hRA.gb hg9 (own_nr (HEv6.out.below hbA) hRA (by decide))
        have hEnd := ((HRE.out.event (e := ⟨t, 1, adn, false⟩) rfl hRw9 (HRE.out.fresh hg2D) (Nat.le_trans HRE.out.bs hg2D) (by rw [show RM.vE M = M.vE from rfl, HvE.out]; exact hgg) hown9).head hG9 6 (.slice A9 (es.length + 1) k9))
        have HEnd := Lib.hid hEnd
        have HGe : Hid (Blk (W9.setCell ⟨gs, 6, none⟩ (.slice A9 (es.length + 1) k9)) gs 116 (rsL { M with vE := .slice A9 (es.length + 1) k9, cs := RM.cs M ++ [(g2, k2)] } tn wn)) := hG9.set_ 6 _
        have HWe : Hid (Below B w (W9.setCell ⟨gs, 6, none⟩ (.slice A9 (es.length + 1) k9))) := (HWE.out.grown hgg HRE.out.bs (fun q hq => (HEv6.out.lt q hq).1)).setCell hgs _
        clear hEnd d0 df hS5 hS4 hRA hRw9 hown9 hg9 hgg hG9 hbA
        go_wp2_with fail
        go_ret
        exact Rt27R.loud HPe.out HE.out HWe.out HGe.out (by rw [← HS5.out]; exact HEnd.out) rfl
  · obtain ⟨adn, ha, had⟩ : ∃ adn : Nat, ad = adn ∧ adn < wn := by
      have h9 := HOk9.out
      unfold okIns at h9
      rw [if_neg (by simp), if_pos rfl, Bool.and_eq_true] at h9
      exact adr_of h9.1
    subst ha
    have e2 : (0 : Int) ≤ adn := by omega
    have e3 : (adn : Int) < wn := by omega
    have HE : Hid (evOf ⟨wA, wn, wk, ws, some ⟨tb, to', none⟩, tn, tk, th⟩ S ⟨t, false, ua⟩ = some ⟨t, 2, adn, true⟩) := by rw [HEv.out]; rfl
    go_upto_region 10 with fail
    go_quiet (fail)
    obtain ⟨D, hZ, hbZ⟩ : ∃ Z9, Z9 = C.drewN nq ∧ Below C.heap.size C Z9 := ⟨_, rfl, (Below.refl _ _).drewN _⟩
    rw [← hZ]
    have HRD := Lib.hid (HRC.out.on hbZ)
    have HGD := Lib.hid (HGC.out.below hbZ HGC.out.lt)
    have HID := Lib.hid (HIC.out.below hbZ HIC.out.lt)
    have HWD := Lib.hid (HWC.out.trans (hbZ.mono HRC.out.bs))
    clear hZ hbZ HRC HGC HIC HWC
    have s4 : D.cell? ⟨gs, 4, none⟩ = some (.slice (some ⟨M.gm, 0, none⟩) tn M.km) := HGD.out.cell rfl
    have m1 : D.cell? ⟨M.gm, t, none⟩ = some (.slice (some ⟨g, 0, none⟩) tn (M.kc t)) := HRD.out.mi.cell (mhV_get HMg.out)
    have cg : D.cell? ⟨g, t, none⟩ = some (.int .i64 ((xAt es).m t t)) := (HRD.out.mr t g HMg.out).2.cell (clkV_get hlt)
    have cf := (HRD.out.mr t g HMg.out).2.frozen t
    go_upto_region 12 with fail
    have hgW : D.grownBy (D.setCell ⟨g, t, none⟩ (.int .i64 (wrap64 ((xAt es).m t t + 1)))) (some g) := gb_setCell (World.grownBy.refl _ _) _ _
    have hBl := (HRD.out.mr t g HMg.out).2.set_ t (.int .i64 (wrap64 ((xAt es).m t t + 1)))
    rw [bumpW_set2] at hBl
    obtain ⟨E, hZ, HRE, HGE, HIE, HWE⟩ : ∃ Z9, Z9 = D.setCell ⟨g, t, none⟩ (.int .i64 (wrap64 ((xAt es).m t t + 1))) ∧ Hid (RSB Z9 B tn wn S5 ((xAt es).own t (bumpW ((xAt es).m t) t)) es M) ∧ Hid (Blk Z9 gs 116 (rsL M tn wn)) ∧ Hid (Blk Z9 gi 204 [.int .i64 2, .int .i64 rg, .int .i64 adn, .int .i64 vl, .int .i64 sr, .int .i64 od, .int .i64 ct]) ∧ Hid (Below B w Z9) :=
      ⟨_, rfl, HRD.out.mine HMg.out hgW hBl, HGD.out.far (((HRD.out.mr t g HMg.out).2.nb HGD.out (by decide)).symm) _, HID.out.far (((HRD.out.mr t g HMg.out).2.nb HID.out (by decide)).symm) _, HWD.out.setCell (HRD.out.mr t g HMg.out).1 _⟩
    rw [← hZ]
    clear hZ hgW hBl s4 m1 cg cf HRD HGD HID HWD
    replace HRE : Hid (RSB E B tn wn S5 (tickS (xAt es) ⟨t, 2, adn, true⟩) es M) := by rw [← tick_pl (x := xAt es) (e := ⟨t, 2, adn, true⟩) (show (2 : Int) ≠ 3 by decide)]; exact HRE
    have s4 : E.cell? ⟨gs, 4, none⟩ = some (.slice (some ⟨M.gm, 0, none⟩) tn M.km) := HGE.out.cell rfl
    have m1 : E.cell? ⟨M.gm, t, none⟩ = some (.slice (some ⟨g, 0, none⟩) tn (M.kc t)) := HRE.out.mi.cell (mhV_get HMg.out)
    have i0 : E.cell? ⟨gi, 0, none⟩ = some (.int .i64 2) := HIE.out.cell rfl
    have i2 : E.cell? ⟨gi, 2, none⟩ = some (.int .i64 adn) := HIE.out.cell rfl
    obtain ⟨vA, vk, hvE, hvk1, hvk2⟩ := own_form HRE.out.ev
    have HvE : Hid (M.vE = .slice vA es.length vk) := Lib.hid hvE
    clear hvE
    have HE6 : Hid (E.cell? ⟨gs, 6, none⟩ = some (.slice vA es.length vk)) := by rw [← HvE.out]; exact HGE.out.cell rfl
    have HEv6 : Hid (E.ownsRow B 122 5 (.slice vA es.length vk) es.length (evcV tn es M.cs)) := by rw [← HvE.out]; exact HRE.out.ev
    have HEb : Hid (some gs ≠ (Value.slice vA es.length vk).ownBlock) := own_nb HEv6.out HGE.out (by decide)
    have hiD := HIE.out.lt
    have hgD := HGE.out.lt
    have HSo : Hid (∀ W, E.grownBy W (Value.slice vA es.length vk).ownBlock → W.cell? ⟨gs, 4, none⟩ = some (.slice (some ⟨M.gm, 0, none⟩) tn M.km) ∧ W.cell? ⟨M.gm, t, none⟩ = some (.slice (some ⟨g, 0, none⟩) tn (M.kc t)) ∧ W.cell? ⟨gi, 0, none⟩ = some (.int .i64 2) ∧ W.cell? ⟨gi, 2, none⟩ = some (.int .i64 adn)) := fun W hW => by
      have e1 := own_nr HEv6.out HRE.out.mi (by decide)
      have e2 := own_nb HEv6.out HIE.out (by decide)
      have k : ∀ (b o : Nat) (v : Value), E.cell? ⟨b, o, none⟩ = some v → some b ≠ (Value.slice vA es.length vk).ownBlock → W.cell? ⟨b, o, none⟩ = some v := fun b o v hv hne => by
        have hlt9 := World.block_lt_of_cell? E _ hv
        have hkk9 := hW.block b hlt9 hne
        unfold World.cell? at hv ⊢
        dsimp only at hv ⊢
        rw [hkk9]
        exact hv
      exact ⟨k _ _ _ s4 HEb.out, k _ _ _ m1 e1, k _ _ _ i0 e2, k _ _ _ i2 e2⟩
    have HTw : Hid (∀ V : World, Below E.heap.size E V → Calls Try.prog 65 #[.slice (some ⟨g, 0, none⟩) tn (M.kc t)] V (CopyR (clkL tn (tickM (xAt es) ⟨t, 2, adn, true⟩)) tn V)) := fun V hV => by
      refine twin27_any _ _ tn _ V ?_ (by omega)
      have h9 := ((HRE.out.mr t g HMg.out).2.on hV).sl
      rwa [show (tickS (xAt es) ⟨t, 2, adn, true⟩).m t = tickM (xAt es) ⟨t, 2, adn, true⟩ from tickS_m _ _] at h9
    go_upto_region 16 with fail
    refine wp_region_held_drew (S := fun W => W.cell? ⟨gs, 4, none⟩ = some (.slice (some ⟨M.gm, 0, none⟩) tn M.km) ∧ W.cell? ⟨M.gm, t, none⟩ = some (.slice (some ⟨g, 0, none⟩) tn (M.kc t)) ∧ W.cell? ⟨gi, 0, none⟩ = some (.int .i64 2) ∧ W.cell? ⟨gi, 2, none⟩ = some (.int .i64 adn)) (by kernel_rfl) (HSo.out _ (gb_below (Below.refl _ _).drew _)) (fun hS => ?_)
    refine wpAnyH_take (i := 0) (v := .pointer (some ⟨gs, 0, none⟩)) rfl (by kernel_rfl) (by kernel_rfl) (by kernel_rfl) (fun _ _ _ h => h) (Or.inl ⟨by rfl, ?_⟩) (by assumption) ?_
    · (intro W hSw; (try dsimp only at hSw); go_simp)
    show wpAnyH _ _ _ _ _ _ _ (Act.put _ (some 135) _) _
    simp only [Act.put, List.setIfInBounds_toArray, List.set_cons_zero, List.set_cons_succ]
    refine wpAnyH_take (i := 1) (v := .pointer (some ⟨gs, 0, none⟩)) rfl (by kernel_rfl) (by kernel_rfl) (by kernel_rfl) (fun _ _ _ h => h) (Or.inl ⟨by rfl, ?_⟩) (by assumption) ?_
    · (intro W hSw; (try dsimp only at hSw); go_simp)
    show wpAnyH _ _ _ _ _ _ _ (Act.put _ (some 136) _) _
    simp only [Act.put, List.setIfInBounds_toArray, List.set_cons_zero, List.set_cons_succ]
    refine wpAnyH_take (i := 2) (v := .pointer (some ⟨gs, 0, none⟩)) rfl (by kernel_rfl) (by kernel_rfl) (by kernel_rfl) (fun _ _ _ h => h) (Or.inl ⟨by rfl, ?_⟩) (by assumption) ?_
    · (intro W hSw; (try dsimp only at hSw); go_simp)
    show wpAnyH _ _ _ _ _ _ _ (Act.put _ (some 137) _) _
    simp only [Act.put, List.setIfInBounds_toArray, List.set_cons_zero, List.set_cons_succ]
    refine wpAnyH_take (i := 3) (v := .pointer (some ⟨gs, 6, none⟩)) rfl (by kernel_rfl) (by kernel_rfl) (by kernel_rfl) (fun _ _ _ h => h) (Or.inl ⟨by rfl, ?_⟩) (by assumption) ?_
    · (intro W hSw; (try dsimp only at hSw); go_simp)
    show wpAnyH _ _ _ _ _ _ _ (Act.put _ (some 138) _) _
    simp only [Act.put, List.setIfInBounds_toArray, List.set_cons_zero, List.set_cons_succ]
    refine wpAnyH_take (i := 5) (v := .int .i64 t) rfl (by kernel_rfl) (by kernel_rfl) (by kernel_rfl) (fun _ _ _ h => h) (Or.inl ⟨by rfl, ?_⟩) (by assumption) ?_
    · (intro W hSw; (try dsimp only at hSw); go_simp)
    show wpAnyH _ _ _ _ _ _ _ (Act.put _ (some 140) _) _
    simp only [Act.put, List.setIfInBounds_toArray, List.set_cons_zero, List.set_cons_succ]
    refine wpAnyH_take (i := 6) (v := .pointer (some ⟨gi, 0, none⟩)) rfl (by kernel_rfl) (by kernel_rfl) (by kernel_rfl) (fun _ _ _ h => h) (Or.inl ⟨by rfl, ?_⟩) (by assumption) ?_
    · (intro W hSw; (try dsimp only at hSw); go_simp)
    show wpAnyH _ _ _ _ _ _ _ (Act.put _ (some 141) _) _
    simp only [Act.put, List.setIfInBounds_toArray, List.set_cons_zero, List.set_cons_succ]
    refine wpAnyH_take (i := 7) (v := .int .i64 2) rfl (by kernel_rfl) (by kernel_rfl) (by kernel_rfl) (fun _ _ _ h => h) (Or.inl ⟨by rfl, ?_⟩) (by assumption) ?_
    · (intro W hSw; (try dsimp only at hSw); go_simp)
    show wpAnyH _ _ _ _ _ _ _ (Act.put _ (some 142) _) _
    simp only [Act.put, List.setIfInBounds_toArray, List.set_cons_zero, List.set_cons_succ]
    refine wpAnyH_take (i := 8) (v := .pointer (some ⟨gi, 2, none⟩)) rfl (by kernel_rfl) (by kernel_rfl) (by kernel_rfl) (fun _ _ _ h => h) (Or.inl ⟨by rfl, ?_⟩) (by assumption) ?_
    · (intro W hSw; (try dsimp only at hSw); go_simp)
    show wpAnyH _ _ _ _ _ _ _ (Act.put _ (some 143) _) _
    simp only [Act.put, List.setIfInBounds_toArray, List.set_cons_zero, List.set_cons_succ]
    refine wpAnyH_take (i := 9) (v := .int .i64 adn) rfl (by kernel_rfl) (by kernel_rfl) (by kernel_rfl) (fun _ _ _ h => h) (Or.inl ⟨by rfl, ?_⟩) (by assumption) ?_
    · (intro W hSw; (try dsimp only at hSw); go_simp)
    show wpAnyH _ _ _ _ _ _ _ (Act.put _ (some 144) _) _
    simp only [Act.put, List.setIfInBounds_toArray, List.set_cons_zero, List.set_cons_succ]
    refine wpAnyH_take (i := 10) (v := .bool true) rfl (by kernel_rfl) (by kernel_rfl) (by kernel_rfl) (fun _ _ _ h => h) (Or.inl ⟨by rfl, ?_⟩) (by assumption) ?_
    · (intro W hSw; (try dsimp only at hSw); go_simp)
    show wpAnyH _ _ _ _ _ _ _ (Act.put _ (some 145) _) _
    simp only [Act.put, List.setIfInBounds_toArray, List.set_cons_zero, List.set_cons_succ]
    refine wpAnyH_take (i := 11) (v := .agg #[.int .i64 t, .int .i64 2, .int .i64 adn, .bool true]) rfl (by kernel_rfl) (by kernel_rfl) (by kernel_rfl) (fun _ _ _ h => h) (Or.inl ⟨by rfl, ?_⟩) (by assumption) ?_
    · (intro W hSw; (try dsimp only at hSw); go_simp)
    show wpAnyH _ _ _ _ _ _ _ (Act.put _ (some 146) _) _
    simp only [Act.put, List.setIfInBounds_toArray, List.set_cons_zero, List.set_cons_succ]
    refine wpAnyH_take (i := 12) (v := .pointer (some ⟨gs, 0, none⟩)) rfl (by kernel_rfl) (by kernel_rfl) (by kernel_rfl) (fun _ _ _ h => h) (Or.inl ⟨by rfl, ?_⟩) (by assumption) ?_
    · (intro W hSw; (try dsimp only at hSw); go_simp)
    show wpAnyH _ _ _ _ _ _ _ (Act.put _ (some 147) _) _
    simp only [Act.put, List.setIfInBounds_toArray, List.set_cons_zero, List.set_cons_succ]
    refine wpAnyH_take (i := 13) (v := .pointer (some ⟨gs, 0, none⟩)) rfl (by kernel_rfl) (by kernel_rfl) (by kernel_rfl) (fun _ _ _ h => h) (Or.inl ⟨by rfl, ?_⟩) (by assumption) ?_
    · (intro W hSw; (try dsimp only at hSw); go_simp)
    show wpAnyH _ _ _ _ _ _ _ (Act.put _ (some 148) _) _
    simp only [Act.put, List.setIfInBounds_toArray, List.set_cons_zero, List.set_cons_succ]
    refine wpAnyH_take (i := 14) (v := .pointer (some ⟨gs, 4, none⟩)) rfl (by kernel_rfl) (by kernel_rfl) (by kernel_rfl) (fun _ _ _ h => h) (Or.inl ⟨by rfl, ?_⟩) (by assumption) ?_
    · (intro W hSw; (try dsimp only at hSw); go_simp)
    show wpAnyH _ _ _ _ _ _ _ (Act.put _ (some 149) _) _
    simp only [Act.put, List.setIfInBounds_toArray, List.set_cons_zero, List.set_cons_succ]
    refine wpAnyH_take (i := 15) (v := .slice (some ⟨M.gm, 0, none⟩) tn M.km) rfl (by kernel_rfl) (by kernel_rfl) (by kernel_rfl) (fun _ _ _ h => h) (Or.inl ⟨by rfl, ?_⟩) (by assumption) ?_
    · (intro W hSw; (try dsimp only at hSw); go_simp)
    show wpAnyH _ _ _ _ _ _ _ (Act.put _ (some 150) _) _
    simp only [Act.put, List.setIfInBounds_toArray, List.set_cons_zero, List.set_cons_succ]
    refine wpAnyH_take (i := 16) (v := .int .i64 t) rfl (by kernel_rfl) (by kernel_rfl) (by kernel_rfl) (fun _ _ _ h => h) (Or.inl ⟨by rfl, ?_⟩) (by assumption) ?_
    · (intro W hSw; (try dsimp only at hSw); go_simp)
    show wpAnyH _ _ _ _ _ _ _ (Act.put _ (some 151) _) _
    simp only [Act.put, List.setIfInBounds_toArray, List.set_cons_zero, List.set_cons_succ]
    refine wpAnyH_take (i := 17) (v := .pointer (some ⟨M.gm, t, none⟩)) rfl (by kernel_rfl) (by kernel_rfl) (by kernel_rfl) (fun _ _ _ h => h) (Or.inl ⟨by rfl, ?_⟩) (by assumption) ?_
    · (intro W hSw; (try dsimp only at hSw); go_simp)
    show wpAnyH _ _ _ _ _ _ _ (Act.put _ (some 152) _) _
    simp only [Act.put, List.setIfInBounds_toArray, List.set_cons_zero, List.set_cons_succ]
    refine wpAnyH_take (i := 18) (v := .slice (some ⟨g, 0, none⟩) tn (M.kc t)) rfl (by kernel_rfl) (by kernel_rfl) (by kernel_rfl) (fun _ _ _ h => h) (Or.inl ⟨by rfl, ?_⟩) (by assumption) ?_
    · (intro W hSw; (try dsimp only at hSw); go_simp)
    show wpAnyH _ _ _ _ _ _ _ (Act.put _ (some 153) _) _
    simp only [Act.put, List.setIfInBounds_toArray, List.set_cons_zero, List.set_cons_succ]
    obtain ⟨V0, hV9, HV0b⟩ : ∃ Z9, Z9 = E.drew ∧ Hid (Below E.heap.size E Z9) := ⟨_, rfl, (Below.refl _ _).drew⟩
    rw [← hV9]
    clear hV9 s4 m1 i0 i2
    refine wpAnyH_ready (rs := [4, 19]) (by kernel_rfl) (by simp) (AllReadyH.cons rfl (fun K1 hK1 => ?_) (AllReadyH.cons rfl (fun K1 hK1 => ?_) AllReadyH.nil))
    · have s6 : V0.cell? ⟨gs, 6, none⟩ = some (.slice vA es.length vk) := (HV0b.out.cell (p := ⟨gs, 6, none⟩) HGE.out.lt).trans HE6.out
      rw [if_pos (by rfl)]
      go_simp
      clear s6
      refine hK1.out _ _ (HSo.out _ (gb_below HV0b.out _)) (fun hS1 => ?_)
      refine wpAnyH_ready (rs := [19]) (by kernel_rfl) (by simp) (AllReadyH.cons rfl (fun K2 hK2 => ?_) (AllReadyH.nil))
      rw [if_pos (by rfl)]
      go_simp
      go_at_call 65
      refine (HTw.out V0 HV0b.out).mono ?_
      rintro e V1 ⟨A2, k2, rfl, hown2, hb2, hk21, hk22⟩
      have HV1b := Lib.hid (HV0b.out.trans (hb2.mono HV0b.out.size))
      obtain ⟨g2, hg2, hg2B, hR2⟩ := Rw.of_own hown2 (by omega)
      subst hg2
      have hg2D : E.heap.size ≤ g2 := Nat.le_trans HV0b.out.size hg2B
      have HRw2 := Lib.hid hR2
      clear hown2 hb2 hR2
      refine hK2.out _ _ (HSo.out _ (gb_below HV1b.out _)) (fun hS2 => ?_)
      refine wpAnyH_take (i := 20) (v := .agg #[.int .i64 t, .int .i64 2, .int .i64 adn, .bool true, .slice (some ⟨g2, 0, none⟩) tn k2]) rfl (by kernel_rfl) (by kernel_rfl) (by kernel_rfl) (fun _ _ _ h => h) (Or.inl ⟨by rfl, ?_⟩) (hS2) ?_
      · (intro W hSw; (try dsimp only at hSw); go_simp)
      show wpAnyH _ _ _ _ _ _ _ (Act.put _ (some 155) _) _
      simp only [Act.put, List.setIfInBounds_toArray, List.set_cons_zero, List.set_cons_succ]
      refine wpAnyH_ready (rs := [21]) (by kernel_rfl) (by simp) (AllReadyH.cons rfl (fun K3 hK3 => ?_) (AllReadyH.nil))
      rw [if_pos (by rfl)]
      go_simp
      have hbA := HV1b.out.alloc HV1b.out.size (.cells #[.int .i64 t, .int .i64 2, .int .i64 adn, .bool true, .slice (some ⟨g2, 0, none⟩) tn k2] 122)
      refine hK3.out _ _ (HSo.out _ (gb_below hbA _)) (fun hS3 => ?_)
      refine wpAnyH_ready (rs := [22]) (by kernel_rfl) (by simp) (AllReadyH.cons rfl (fun K4 hK4 => ?_) (AllReadyH.nil))
      refine step_app _ (by rfl) _ _ 114 (by rfl) B 122 ie (.agg #[.int .i64 0, .int .i64 0, .int .i64 0, .bool false, .slice none 0 0]) 5 56 Try.underlying114 hie hiez hies hieb rfl (by decide) (.slice vA es.length vk) es.length (evcV tn es M.cs) (by rfl) (HEv6.out.below hbA) (V1.heap.size + 1) (some ⟨V1.heap.size, 0, none⟩) 1 1 [.int .i64 t, .int .i64 2, .int .i64 adn, .bool true, .slice (some ⟨g2, 0, none⟩) tn k2] (by rfl) (((Blk.new V1 122 _).sl rfl).up (by simp)) (evc_one _ _ _ _ _ _ _) (es.length + 1) rfl _ rfl _ rfl (by simp only [maxLen]; omega) (by omega) (by have := HV1b.out.size; have := HRE.out.bs; rw [World.size_alloc]; omega) ?_
      intro A9 k9 W9 hown9 hg9 hat9 hk91 hk92
      have hgg := (gb_below hbA (Value.slice vA es.length vk).ownBlock).trans hg9
      have hG9 := HGE.out.grown hgg HEb.out
      have d0 : W9.cell? ⟨gs, 6, none⟩ = some (.slice vA es.length vk) := by rw [← HvE.out]; exact hG9.cell rfl
      have df := hG9.frozen 6
      refine hK4.out _ _ (HSo.out _ hgg) (fun hS4 => ?_)
      refine wpAnyH_take (i := 23) (v := .pointer (some ⟨gs, 0, none⟩)) rfl (by kernel_rfl) (by kernel_rfl) (by kernel_rfl) (fun _ _ _ h => h) (Or.inl ⟨by rfl, ?_⟩) (hS4) ?_
      · (intro W hSw; (try dsimp only at hSw); go_simp)
      show wpAnyH _ _ _ _ _ _ _ (Act.put _ (some 158) _) _
      simp only [Act.put, List.setIfInBounds_toArray, List.set_cons_zero, List.set_cons_succ]
      refine wpAnyH_take (i := 24) (v := .pointer (some ⟨gs, 6, none⟩)) rfl (by kernel_rfl) (by kernel_rfl) (by kernel_rfl) (fun _ _ _ h => h) (Or.inl ⟨by rfl, ?_⟩) (hS4) ?_
      · (intro W hSw; (try dsimp only at hSw); go_simp)
      show wpAnyH _ _ _ _ _ _ _ (Act.put _ (some 159) _) _
      simp only [Act.put, List.setIfInBounds_toArray, List.set_cons_zero, List.set_cons_succ]
      refine wpAnyH_ready (rs := [25]) (by kernel_rfl) (by simp) (AllReadyH.cons rfl (fun K5 hK5 => ?_) (AllReadyH.nil))
      rw [if_pos (by rfl)]
      go_simp
      have hS5 : (W9.setCell ⟨gs, 6, none⟩ (.slice A9 (es.length + 1) k9)).cell? ⟨gs, 4, none⟩ = some (.slice (some ⟨M.gm, 0, none⟩) tn M.km) ∧ (W9.setCell ⟨gs, 6, none⟩ (.slice A9 (es.length + 1) k9)).cell? ⟨M.gm, t, none⟩ = some (.slice (some ⟨g, 0, none⟩) tn (M.kc t)) ∧ (W9.setCell ⟨gs, 6, none⟩ (.slice A9 (es.length + 1) k9)).cell? ⟨gi, 0, none⟩ = some (.int .i64 2) ∧ (W9.setCell ⟨gs, 6, none⟩ (.slice A9 (es.length + 1) k9)).cell? ⟨gi, 2, none⟩ = some (.int .i64 adn) := by
        obtain ⟨z0, z1, z2, z3⟩ := hS4
        have hne1 : M.gm ≠ gs := HRE.out.mi.nb HGE.out (by decide)
        refine ⟨(World.cell?_setCell_other _ _ _ _ (by simp)).trans z0, (World.cell?_setCell_other _ _ _ _ (by simp [hne1])).trans z1, (World.cell?_setCell_other _ _ _ _ (by simp)).trans z2, (World.cell?_setCell_other _ _ _ _ (by simp)).trans z3⟩
      refine hK5.out _ _ hS5 (fun _ => ?_)
      refine wpAnyH_done (by kernel_rfl) ?_ _
      have hRA := HRw2.out.on (W' := V1.alloc (.cells #[.int .i64 t, .int .i64 2, .int .i64 adn, .bool true, .slice (some ⟨g2, 0, none⟩) tn k2] 122)) ((Below.refl _ _).alloc (Nat.le_refl _) _)
      have hRw9 : Rw W9 g2 3 1 tn k2 (ints (clkL tn (ckAt (es ++ [⟨t, 2, adn, true⟩]) es.length))) := by
        rw [ckAt_snoc]
        exact hRA.gb hg9 (own_nr (HEv6.out.below hbA) hRA (by decide))
      have hEnd := ((HRE.out.event (e := ⟨t, 2, adn, true⟩) rfl hRw9 (HRE.out.fresh hg2D) (Nat.le_trans HRE.out.bs hg2D) (by rw [show RM.vE M = M.vE from rfl, HvE.out]; exact hgg) hown9).head hG9 6 (.slice A9 (es.length + 1) k9))
      have HEnd := Lib.hid hEnd
      have HGe : Hid (Blk (W9.setCell ⟨gs, 6, none⟩ (.slice A9 (es.length + 1) k9)) gs 116 (rsL { M with vE := .slice A9 (es.length + 1) k9, cs := RM.cs M ++ [(g2, k2)] } tn wn)) := hG9.set_ 6 _
      have HWe : Hid (Below B w (W9.setCell ⟨gs, 6, none⟩ (.slice A9 (es.length + 1) k9))) := (HWE.out.grown hgg HRE.out.bs (fun q hq => (HEv6.out.lt q hq).1)).setCell hgs _
      clear hEnd d0 df hS5 hS4 hRA hRw9 hown9 hg9 hgg hG9 hbA
      go_wp2_with fail
      go_ret
      exact Rt27R.loud HPe.out HE.out HWe.out HGe.out (by rw [← HS5.out]; exact HEnd.out) rfl
    · rw [if_pos (by rfl)]
      go_simp
      go_at_call 65
      refine (HTw.out V0 HV0b.out).mono ?_
      rintro e V1 ⟨A2, k2, rfl, hown2, hb2, hk21, hk22⟩
      have HV1b := Lib.hid (HV0b.out.trans (hb2.mono HV0b.out.size))
      obtain ⟨g2, hg2, hg2B, hR2⟩ := Rw.of_own hown2 (by omega)
      subst hg2
      have hg2D : E.heap.size ≤ g2 := Nat.le_trans HV0b.out.size hg2B
      have HRw2 := Lib.hid hR2
      clear hown2 hb2 hR2
      refine hK1.out _ _ (HSo.out _ (gb_below HV1b.out _)) (fun hS1 => ?_)
      refine wpAnyH_take (i := 20) (v := .agg #[.int .i64 t, .int .i64 2, .int .i64 adn, .bool true, .slice (some ⟨g2, 0, none⟩) tn k2]) rfl (by kernel_rfl) (by kernel_rfl) (by kernel_rfl) (fun _ _ _ h => h) (Or.inl ⟨by rfl, ?_⟩) (hS1) ?_
      · (intro W hSw; (try dsimp only at hSw); go_simp)
      show wpAnyH _ _ _ _ _ _ _ (Act.put _ (some 155) _) _
      simp only [Act.put, List.setIfInBounds_toArray, List.set_cons_zero, List.set_cons_succ]
      refine wpAnyH_ready (rs := [4, 21]) (by kernel_rfl) (by simp) (AllReadyH.cons rfl (fun K2 hK2 => ?_) (AllReadyH.cons rfl (fun K2 hK2 => ?_) AllReadyH.nil))
      · have s6 : V1.cell? ⟨gs, 6, none⟩ = some (.slice vA es.length vk) := (HV1b.out.cell (p := ⟨gs, 6, none⟩) HGE.out.lt).trans HE6.out
        rw [if_pos (by rfl)]
        go_simp
        clear s6
        refine hK2.out _ _ (HSo.out _ (gb_below HV1b.out _)) (fun hS2 => ?_)
        refine wpAnyH_ready (rs := [21]) (by kernel_rfl) (by simp) (AllReadyH.cons rfl (fun K3 hK3 => ?_) (AllReadyH.nil))
        rw [if_pos (by rfl)]
        go_simp
        have hbA := HV1b.out.alloc HV1b.out.size (.cells #[.int .i64 t, .int .i64 2, .int .i64 adn, .bool true, .slice (some ⟨g2, 0, none⟩) tn k2] 122)
        refine hK3.out _ _ (HSo.out _ (gb_below hbA _)) (fun hS3 => ?_)
        refine wpAnyH_ready (rs := [22]) (by kernel_rfl) (by simp) (AllReadyH.cons rfl (fun K4 hK4 => ?_) (AllReadyH.nil))
        refine step_app _ (by rfl) _ _ 114 (by rfl) B 122 ie (.agg #[.int .i64 0, .int .i64 0, .int .i64 0, .bool false, .slice none 0 0]) 5 56 Try.underlying114 hie hiez hies hieb rfl (by decide) (.slice vA es.length vk) es.length (evcV tn es M.cs) (by rfl) (HEv6.out.below hbA) (V1.heap.size + 1) (some ⟨V1.heap.size, 0, none⟩) 1 1 [.int .i64 t, .int .i64 2, .int .i64 adn, .bool true, .slice (some ⟨g2, 0, none⟩) tn k2] (by rfl) (((Blk.new V1 122 _).sl rfl).up (by simp)) (evc_one _ _ _ _ _ _ _) (es.length + 1) rfl _ rfl _ rfl (by simp only [maxLen]; omega) (by omega) (by have := HV1b.out.size; have := HRE.out.bs; rw [World.size_alloc]; omega) ?_
        intro A9 k9 W9 hown9 hg9 hat9 hk91 hk92
        have hgg := (gb_below hbA (Value.slice vA es.length vk).ownBlock).trans hg9
        have hG9 := HGE.out.grown hgg HEb.out
        have d0 : W9.cell? ⟨gs, 6, none⟩ = some (.slice vA es.length vk) := by rw [← HvE.out]; exact hG9.cell rfl
        have df := hG9.frozen 6
        refine hK4.out _ _ (HSo.out _ hgg) (fun hS4 => ?_)
        refine wpAnyH_take (i := 23) (v := .pointer (some ⟨gs, 0, none⟩)) rfl (by kernel_rfl) (by kernel_rfl) (by kernel_rfl) (fun _ _ _ h => h) (Or.inl ⟨by rfl, ?_⟩) (hS4) ?_
        · (intro W hSw; (try dsimp only at hSw); go_simp)
        show wpAnyH _ _ _ _ _ _ _ (Act.put _ (some 158) _) _
        simp only [Act.put, List.setIfInBounds_toArray, List.set_cons_zero, List.set_cons_succ]
        refine wpAnyH_take (i := 24) (v := .pointer (some ⟨gs, 6, none⟩)) rfl (by kernel_rfl) (by kernel_rfl) (by kernel_rfl) (fun _ _ _ h => h) (Or.inl ⟨by rfl, ?_⟩) (hS4) ?_
        · (intro W hSw; (try dsimp only at hSw); go_simp)
        show wpAnyH _ _ _ _ _ _ _ (Act.put _ (some 159) _) _
        simp only [Act.put, List.setIfInBounds_toArray, List.set_cons_zero, List.set_cons_succ]
        refine wpAnyH_ready (rs := [25]) (by kernel_rfl) (by simp) (AllReadyH.cons rfl (fun K5 hK5 => ?_) (AllReadyH.nil))
        rw [if_pos (by rfl)]
        go_simp
        have hS5 : (W9.setCell ⟨gs, 6, none⟩ (.slice A9 (es.length + 1) k9)).cell? ⟨gs, 4, none⟩ = some (.slice (some ⟨M.gm, 0, none⟩) tn M.km) ∧ (W9.setCell ⟨gs, 6, none⟩ (.slice A9 (es.length + 1) k9)).cell? ⟨M.gm, t, none⟩ = some (.slice (some ⟨g, 0, none⟩) tn (M.kc t)) ∧ (W9.setCell ⟨gs, 6, none⟩ (.slice A9 (es.length + 1) k9)).cell? ⟨gi, 0, none⟩ = some (.int .i64 2) ∧ (W9.setCell ⟨gs, 6, none⟩ (.slice A9 (es.length + 1) k9)).cell? ⟨gi, 2, none⟩ = some (.int .i64 adn) := by
          obtain ⟨z0, z1, z2, z3⟩ := hS4
          have hne1 : M.gm ≠ gs := HRE.out.mi.nb HGE.out (by decide)
          refine ⟨(World.cell?_setCell_other _ _ _ _ (by simp)).trans z0, (World.cell?_setCell_other _ _ _ _ (by simp [hne1])).trans z1, (World.cell?_setCell_other _ _ _ _ (by simp)).trans z2, (World.cell?_setCell_other _ _ _ _ (by simp)).trans z3⟩
        refine hK5.out _ _ hS5 (fun _ => ?_)
        refine wpAnyH_done (by kernel_rfl) ?_ _
        have hRA := HRw2.out.on (W' := V1.alloc (.cells #[.int .i64 t, .int .i64 2, .int .i64 adn, .bool true, .slice (some ⟨g2, 0, none⟩) tn k2] 122)) ((Below.refl _ _).alloc (Nat.le_refl _) _)
        have hRw9 : Rw W9 g2 3 1 tn k2 (ints (clkL tn (ckAt (es ++ [⟨t, 2, adn, true⟩]) es.length))) := by
          rw [ckAt_snoc]
          exact hRA.gb hg9 (own_nr (HEv6.out.below hbA) hRA (by decide))
        have hEnd := ((HRE.out.event (e := ⟨t, 2, adn, true⟩) rfl hRw9 (HRE.out.fresh hg2D) (Nat.le_trans HRE.out.bs hg2D) (by rw [show RM.vE M = M.vE from rfl, HvE.out]; exact hgg) hown9).head hG9 6 (.slice A9 (es.length + 1) k9))
        have HEnd := Lib.hid hEnd
        have HGe : Hid (Blk (W9.setCell ⟨gs, 6, none⟩ (.slice A9 (es.length + 1) k9)) gs 116 (rsL { M with vE := .slice A9 (es.length + 1) k9, cs := RM.cs M ++ [(g2, k2)] } tn wn)) := hG9.set_ 6 _
        have HWe : Hid (Below B w (W9.setCell ⟨gs, 6, none⟩ (.slice A9 (es.length + 1) k9))) := (HWE.out.grown hgg HRE.out.bs (fun q hq => (HEv6.out.lt q hq).1)).setCell hgs _
        clear hEnd d0 df hS5 hS4 hRA hRw9 hown9 hg9 hgg hG9 hbA
        go_wp2_with fail
        go_ret
        exact Rt27R.loud HPe.out HE.out HWe.out HGe.out (by rw [← HS5.out]; exact HEnd.out) rfl
      · rw [if_pos (by rfl)]
        go_simp
        have hbA := HV1b.out.alloc HV1b.out.size (.cells #[.int .i64 t, .int .i64 2, .int .i64 adn, .bool true, .slice (some ⟨g2, 0, none⟩) tn k2] 122)
        refine hK2.out _ _ (HSo.out _ (gb_below hbA _)) (fun hS2 => ?_)
        refine wpAnyH_ready (rs := [4]) (by kernel_rfl) (by simp) (AllReadyH.cons rfl (fun K3 hK3 => ?_) (AllReadyH.nil))
        have s6 : (V1.alloc (.cells #[.int .i64 t, .int .i64 2, .int .i64 adn, .bool true, .slice (some ⟨g2, 0, none⟩) tn k2] 122)).cell? ⟨gs, 6, none⟩ = some (.slice vA es.length vk) := (hbA.cell (p := ⟨gs, 6, none⟩) HGE.out.lt).trans HE6.out
        rw [if_pos (by rfl)]
        go_simp
        clear s6
        refine hK3.out _ _ (HSo.out _ (gb_below hbA _)) (fun hS3 => ?_)
        refine wpAnyH_ready (rs := [22]) (by kernel_rfl) (by simp) (AllReadyH.cons rfl (fun K4 hK4 => ?_) (AllReadyH.nil))
        refine step_app _ (by rfl) _ _ 114 (by rfl) B 122 ie (.agg #[.int .i64 0, .int .i64 0, .int .i64 0, .bool false, .slice none 0 0]) 5 56 Try.underlying114 hie hiez hies hieb rfl (by decide) (.slice vA es.length vk) es.length (evcV tn es M.cs) (by rfl) (HEv6.out.below hbA) (V1.heap.size + 1) (some ⟨V1.heap.size, 0, none⟩) 1 1 [.int .i64 t, .int .i64 2, .int .i64 adn, .bool true, .slice (some ⟨g2, 0, none⟩) tn k2] (by rfl) (((Blk.new V1 122 _).sl rfl).up (by simp)) (evc_one _ _ _ _ _ _ _) (es.length + 1) rfl _ rfl _ rfl (by simp only [maxLen]; omega) (by omega) (by have := HV1b.out.size; have := HRE.out.bs; rw [World.size_alloc]; omega) ?_
        intro A9 k9 W9 hown9 hg9 hat9 hk91 hk92
        have hgg := (gb_below hbA (Value.slice vA es.length vk).ownBlock).trans hg9
        have hG9 := HGE.out.grown hgg HEb.out
        have d0 : W9.cell? ⟨gs, 6, none⟩ = some (.slice vA es.length vk) := by rw [← HvE.out]; exact hG9.cell rfl
        have df := hG9.frozen 6
        refine hK4.out _ _ (HSo.out _ hgg) (fun hS4 => ?_)
        refine wpAnyH_take (i := 23) (v := .pointer (some ⟨gs, 0, none⟩)) rfl (by kernel_rfl) (by kernel_rfl) (by kernel_rfl) (fun _ _ _ h => h) (Or.inl ⟨by rfl, ?_⟩) (hS4) ?_
        · (intro W hSw; (try dsimp only at hSw); go_simp)
        show wpAnyH _ _ _ _ _ _ _ (Act.put _ (some 158) _) _
        simp only [Act.put, List.setIfInBounds_toArray, List.set_cons_zero, List.set_cons_succ]
        refine wpAnyH_take (i := 24) (v := .pointer (some ⟨gs, 6, none⟩)) rfl (by kernel_rfl) (by kernel_rfl) (by kernel_rfl) (fun _ _ _ h => h) (Or.inl ⟨by rfl, ?_⟩) (hS4) ?_
        · (intro W hSw; (try dsimp only at hSw); go_simp)
        show wpAnyH _ _ _ _ _ _ _ (Act.put _ (some 159) _) _
        simp only [Act.put, List.setIfInBounds_toArray, List.set_cons_zero, List.set_cons_succ]
        refine wpAnyH_ready (rs := [25]) (by kernel_rfl) (by simp) (AllReadyH.cons rfl (fun K5 hK5 => ?_) (AllReadyH.nil))
        rw [if_pos (by rfl)]
        go_simp
        have hS5 : (W9.setCell ⟨gs, 6, none⟩ (.slice A9 (es.length + 1) k9)).cell? ⟨gs, 4, none⟩ = some (.slice (some ⟨M.gm, 0, none⟩) tn M.km) ∧ (W9.setCell ⟨gs, 6, none⟩ (.slice A9 (es.length + 1) k9)).cell? ⟨M.gm, t, none⟩ = some (.slice (some ⟨g, 0, none⟩) tn (M.kc t)) ∧ (W9.setCell ⟨gs, 6, none⟩ (.slice A9 (es.length + 1) k9)).cell? ⟨gi, 0, none⟩ = some (.int .i64 2) ∧ (W9.setCell ⟨gs, 6, none⟩ (.slice A9 (es.length + 1) k9)).cell? ⟨gi, 2, none⟩ = some (.int .i64 adn) := by
          obtain ⟨z0, z1, z2, z3⟩ := hS4
          have hne1 : M.gm ≠ gs := HRE.out.mi.nb HGE.out (by decide)
          refine ⟨(World.cell?_setCell_other _ _ _ _ (by simp)).trans z0, (World.cell?_setCell_other _ _ _ _ (by simp [hne1])).trans z1, (World.cell?_setCell_other _ _ _ _ (by simp)).trans z2, (World.cell?_setCell_other _ _ _ _ (by simp)).trans z3⟩
        refine hK5.out _ _ hS5 (fun _ => ?_)
        refine wpAnyH_done (by kernel_rfl) ?_ _
        have hRA := HRw2.out.on (W' := V1.alloc (.cells #[.int .i64 t, .int .i64 2, .int .i64 adn, .bool true, .slice (some ⟨g2, 0, none⟩) tn k2] 122)) ((Below.refl _ _).alloc (Nat.le_refl _) _)
        have hRw9 : Rw W9 g2 3 1 tn k2 (ints (clkL tn (ckAt (es ++ [⟨t, 2, adn, true⟩]) es.length))) := by
          rw [ckAt_snoc]
          exact hRA.gb hg9 (own_nr (HEv6.out.below hbA) hRA (by decide))
        have hEnd := ((HRE.out.event (e := ⟨t, 2, adn, true⟩) rfl hRw9 (HRE.out.fresh hg2D) (Nat.le_trans HRE.out.bs hg2D) (by rw [show RM.vE M = M.vE from rfl, HvE.out]; exact hgg) hown9).head hG9 6 (.slice A9 (es.length + 1) k9))
        have HEnd := Lib.hid hEnd
        have HGe : Hid (Blk (W9.setCell ⟨gs, 6, none⟩ (.slice A9 (es.length + 1) k9)) gs 116 (rsL { M with vE := .slice A9 (es.length + 1) k9, cs := RM.cs M ++ [(g2, k2)] } tn wn)) := hG9.set_ 6 _
        have HWe : Hid (Below B w (W9.setCell ⟨gs, 6, none⟩ (.slice A9 (es.length + 1) k9))) := (HWE.out.grown hgg HRE.out.bs (fun q hq => (HEv6.out.lt q hq).1)).setCell hgs _
        clear hEnd d0 df hS5 hS4 hRA hRw9 hown9 hg9 hgg hG9 hbA
        go_wp2_with fail
        go_ret
        exact Rt27R.loud HPe.out HE.out HWe.out HGe.out (by rw [← HS5.out]; exact HEnd.out) rfl
  · obtain ⟨rgn, hrg, hrg4⟩ : ∃ rgn : Nat, rg = rgn ∧ rgn < 4 := by
      have h9 := HOk9.out
      unfold okIns at h9
      rw [if_pos (Or.inr rfl), Bool.and_eq_true] at h9
      exact reg_of h9.1
    subst hrg
    obtain ⟨adn, ha, had⟩ : ∃ adn : Nat, ad = adn ∧ adn < wn := by
      have h9 := HOk9.out
      unfold okIns at h9
      rw [if_pos (Or.inr rfl), Bool.and_eq_true] at h9
      exact adr_of h9.2
    subst ha
    have e2 : (0 : Int) ≤ adn := by omega
    have e3 : (adn : Int) < wn := by omega
    have e4 : (0 : Int) ≤ rgn := by omega
    have e5 : (rgn : Int) < 4 := by omega
    obtain ⟨⟨pg, pk⟩, hpg⟩ := at_lt (show adn < M.ws.length by rw [HR.out.wl]; exact had)
    have HPg := Lib.hid hpg
    clear hpg
    by_cases hw1 : S5.r t rgn = 1
    · have HW1 : Hid (decide (S5.r t rgn = 1) = true) := Lib.hid (by simpa using hw1)
      clear hw1
      have HE : Hid (evOf ⟨wA, wn, wk, ws, some ⟨tb, to', none⟩, tn, tk, th⟩ S ⟨t, false, ua⟩ = some ⟨t, 3, adn, true⟩) := by rw [HEv.out]; show some (Ev.mk t 3 adn (decide (S5.r t rgn = 1))) = _; rw [HW1.out]
      have q3 : (S5.r t rgn == 1) = true := HW1.out
      have s1 : C.cell? ⟨gs, 1, none⟩ = some (.slice (some ⟨M.h.gr, 0, none⟩) tn M.h.kr) := HGC.out.cell rfl
      have rc : C.cell? ⟨M.h.gr, t * 4 + rgn, none⟩ = some (.int .i64 (S5.r t rgn)) := HRC.out.st.reg (LS.r_at (S := S5) (t := t) (q := rgn) (by rw [HRC.out.st.rlen]; omega))
      have i1 : C.cell? ⟨gi, 1, none⟩ = some (.int .i64 rgn) := HIC.out.cell rfl
      go_upto_region 10 with fail
      go_quiet (fail)
      clear s1 rc i1 q3
      obtain ⟨D, hZ, hbZ⟩ : ∃ Z9, Z9 = C.drewN nq ∧ Below C.heap.size C Z9 := ⟨_, rfl, (Below.refl _ _).drewN _⟩
      rw [← hZ]
      have HRD := Lib.hid (HRC.out.on hbZ)
      have HGD := Lib.hid (HGC.out.below hbZ HGC.out.lt)
      have HID := Lib.hid (HIC.out.below hbZ HIC.out.lt)
      have HWD := Lib.hid (HWC.out.trans (hbZ.mono HRC.out.bs))
      clear hZ hbZ HRC HGC HIC HWC
      have s4 : D.cell? ⟨gs, 4, none⟩ = some (.slice (some ⟨M.gm, 0, none⟩) tn M.km) := HGD.out.cell rfl
      have m1 : D.cell? ⟨M.gm, t, none⟩ = some (.slice (some ⟨g, 0, none⟩) tn (M.kc t)) := HRD.out.mi.cell (mhV_get HMg.out)
      have cg : D.cell? ⟨g, t, none⟩ = some (.int .i64 ((xAt es).m t t)) := (HRD.out.mr t g HMg.out).2.cell (clkV_get hlt)
      have cf := (HRD.out.mr t g HMg.out).2.frozen t
      go_upto_region 12 with fail
      have hgW : D.grownBy (D.setCell ⟨g, t, none⟩ (.int .i64 (wrap64 ((xAt es).m t t + 1)))) (some g) := gb_setCell (World.grownBy.refl _ _) _ _
      have hBl := (HRD.out.mr t g HMg.out).2.set_ t (.int .i64 (wrap64 ((xAt es).m t t + 1)))
      rw [bumpW_set2] at hBl
      obtain ⟨E, hZ, HRE, HGE, HIE, HWE⟩ : ∃ Z9, Z9 = D.setCell ⟨g, t, none⟩ (.int .i64 (wrap64 ((xAt es).m t t + 1))) ∧ Hid (RSB Z9 B tn wn S5 ((xAt es).own t (bumpW ((xAt es).m t) t)) es M) ∧ Hid (Blk Z9 gs 116 (rsL M tn wn)) ∧ Hid (Blk Z9 gi 204 [.int .i64 3, .int .i64 rgn, .int .i64 adn, .int .i64 vl, .int .i64 sr, .int .i64 od, .int .i64 ct]) ∧ Hid (Below B w Z9) :=
        ⟨_, rfl, HRD.out.mine HMg.out hgW hBl, HGD.out.far (((HRD.out.mr t g HMg.out).2.nb HGD.out (by decide)).symm) _, HID.out.far (((HRD.out.mr t g HMg.out).2.nb HID.out (by decide)).symm) _, HWD.out.setCell (HRD.out.mr t g HMg.out).1 _⟩
      rw [← hZ]
      clear hZ hgW hBl s4 m1 cg cf HRD HGD HID HWD
      have s4 : E.cell? ⟨gs, 4, none⟩ = some (.slice (some ⟨M.gm, 0, none⟩) tn M.km) := HGE.out.cell rfl
      have m1 : E.cell? ⟨M.gm, t, none⟩ = some (.slice (some ⟨g, 0, none⟩) tn (M.kc t)) := HRE.out.mi.cell (mhV_get HMg.out)
      have s5 : E.cell? ⟨gs, 5, none⟩ = some (.slice (some ⟨M.gd, 0, none⟩) wn M.kd) := HGE.out.cell rfl
      have i2 : E.cell? ⟨gi, 2, none⟩ = some (.int .i64 adn) := HIE.out.cell rfl
      have p1 : E.cell? ⟨M.gd, adn, none⟩ = some (sl1 tn (pg, pk)) := HRE.out.wi.cell (by unfold whV; rw [List.getElem?_map, HPg.out]; rfl)
      have HSo : Hid (∀ W, E.grownBy W (some g) → W.cell? ⟨gs, 4, none⟩ = some (.slice (some ⟨M.gm, 0, none⟩) tn M.km) ∧ W.cell? ⟨M.gm, t, none⟩ = some (.slice (some ⟨g, 0, none⟩) tn (M.kc t)) ∧ W.cell? ⟨gs, 5, none⟩ = some (.slice (some ⟨M.gd, 0, none⟩) wn M.kd) ∧ W.cell? ⟨gi, 2, none⟩ = some (.int .i64 adn) ∧ W.cell? ⟨M.gd, adn, none⟩ = some (sl1 tn (pg, pk))) := fun W hW => by
        have hgr := (HRE.out.mr t g HMg.out).2
        have k : ∀ (b o : Nat) (v : Value), E.cell? ⟨b, o, none⟩ = some v → b ≠ g → W.cell? ⟨b, o, none⟩ = some v := fun b o v hv hne => by
          have hlt9 := World.block_lt_of_cell? E _ hv
          have hkk9 := hW.block b hlt9 (by simpa using hne)
          unfold World.cell? at hv ⊢
          dsimp only at hv ⊢
          rw [hkk9]
          exact hv
        have g1 : gs ≠ g := (hgr.nb HGE.out (by decide)).symm
        exact ⟨k _ _ _ s4 g1, k _ _ _ m1 (HRE.out.mi.nt hgr (by decide)), k _ _ _ s5 g1, k _ _ _ i2 (hgr.nb HIE.out (by decide)).symm, k _ _ _ p1 (HRE.out.wi.nt hgr (by decide))⟩
      go_upto_region 13 with fail
      refine wp_region_held_drew (S := fun W => W.cell? ⟨gs, 4, none⟩ = some (.slice (some ⟨M.gm, 0, none⟩) tn M.km) ∧ W.cell? ⟨M.gm, t, none⟩ = some (.slice (some ⟨g, 0, none⟩) tn (M.kc t)) ∧ W.cell? ⟨gs, 5, none⟩ = some (.slice (some ⟨M.gd, 0, none⟩) wn M.kd) ∧ W.cell? ⟨gi, 2, none⟩ = some (.int .i64 adn) ∧ W.cell? ⟨M.gd, adn, none⟩ = some (sl1 tn (pg, pk))) (by kernel_rfl) (HSo.out _ (gb_below (Below.refl _ _).drew _)) (fun hS => ?_)
      refine wpAnyH_take (i := 0) (v := .pointer (some ⟨gs, 0, none⟩)) rfl (by kernel_rfl) (by kernel_rfl) (by kernel_rfl) (fun _ _ _ h => h) (Or.inl ⟨by rfl, ?_⟩) (by assumption) ?_
      · (intro W hSw; (try dsimp only at hSw); go_simp)
      show wpAnyH _ _ _ _ _ _ _ (Act.put _ (some 103) _) _
      simp only [Act.put, List.setIfInBounds_toArray, List.set_cons_zero, List.set_cons_succ]
      refine wpAnyH_take (i := 1) (v := .pointer (some ⟨gs, 0, none⟩)) rfl (by kernel_rfl) (by kernel_rfl) (by kernel_rfl) (fun _ _ _ h => h) (Or.inl ⟨by rfl, ?_⟩) (by assumption) ?_
      · (intro W hSw; (try dsimp only at hSw); go_simp)
      show wpAnyH _ _ _ _ _ _ _ (Act.put _ (some 104) _) _
      simp only [Act.put, List.setIfInBounds_toArray, List.set_cons_zero, List.set_cons_succ]
      refine wpAnyH_take (i := 2) (v := .pointer (some ⟨gs, 4, none⟩)) rfl (by kernel_rfl) (by kernel_rfl) (by kernel_rfl) (fun _ _ _ h => h) (Or.inl ⟨by rfl, ?_⟩) (by assumption) ?_
      · (intro W hSw; (try dsimp only at hSw); go_simp)
      show wpAnyH _ _ _ _ _ _ _ (Act.put _ (some 105) _) _
      simp only [Act.put, List.setIfInBounds_toArray, List.set_cons_zero, List.set_cons_succ]
      refine wpAnyH_take (i := 3) (v := .slice (some ⟨M.gm, 0, none⟩) tn M.km) rfl (by kernel_rfl) (by kernel_rfl) (by kernel_rfl) (fun _ _ _ h => h) (Or.inl ⟨by rfl, ?_⟩) (by assumption) ?_
      · (intro W hSw; (try dsimp only at hSw); go_simp)
      show wpAnyH _ _ _ _ _ _ _ (Act.put _ (some 106) _) _
      simp only [Act.put, List.setIfInBounds_toArray, List.set_cons_zero, List.set_cons_succ]
      refine wpAnyH_take (i := 4) (v := .int .i64 t) rfl (by kernel_rfl) (by kernel_rfl) (by kernel_rfl) (fun _ _ _ h => h) (Or.inl ⟨by rfl, ?_⟩) (by assumption) ?_
      · (intro W hSw; (try dsimp only at hSw); go_simp)
      show wpAnyH _ _ _ _ _ _ _ (Act.put _ (some 107) _) _
      simp only [Act.put, List.setIfInBounds_toArray, List.set_cons_zero, List.set_cons_succ]
      refine wpAnyH_take (i := 5) (v := .pointer (some ⟨M.gm, t, none⟩)) rfl (by kernel_rfl) (by kernel_rfl) (by kernel_rfl) (fun _ _ _ h => h) (Or.inl ⟨by rfl, ?_⟩) (by assumption) ?_
      · (intro W hSw; (try dsimp only at hSw); go_simp)
      show wpAnyH _ _ _ _ _ _ _ (Act.put _ (some 108) _) _
      simp only [Act.put, List.setIfInBounds_toArray, List.set_cons_zero, List.set_cons_succ]
      refine wpAnyH_take (i := 6) (v := .slice (some ⟨g, 0, none⟩) tn (M.kc t)) rfl (by kernel_rfl) (by kernel_rfl) (by kernel_rfl) (fun _ _ _ h => h) (Or.inl ⟨by rfl, ?_⟩) (by assumption) ?_
      · (intro W hSw; (try dsimp only at hSw); go_simp)
      show wpAnyH _ _ _ _ _ _ _ (Act.put _ (some 109) _) _
      simp only [Act.put, List.setIfInBounds_toArray, List.set_cons_zero, List.set_cons_succ]
      refine wpAnyH_take (i := 7) (v := .pointer (some ⟨gs, 0, none⟩)) rfl (by kernel_rfl) (by kernel_rfl) (by kernel_rfl) (fun _ _ _ h => h) (Or.inl ⟨by rfl, ?_⟩) (by assumption) ?_
      · (intro W hSw; (try dsimp only at hSw); go_simp)
      show wpAnyH _ _ _ _ _ _ _ (Act.put _ (some 110) _) _
      simp only [Act.put, List.setIfInBounds_toArray, List.set_cons_zero, List.set_cons_succ]
      refine wpAnyH_take (i := 8) (v := .pointer (some ⟨gs, 0, none⟩)) rfl (by kernel_rfl) (by kernel_rfl) (by kernel_rfl) (fun _ _ _ h => h) (Or.inl ⟨by rfl, ?_⟩) (by assumption) ?_
      · (intro W hSw; (try dsimp only at hSw); go_simp)
      show wpAnyH _ _ _ _ _ _ _ (Act.put _ (some 111) _) _
      simp only [Act.put, List.setIfInBounds_toArray, List.set_cons_zero, List.set_cons_succ]
      refine wpAnyH_take (i := 9) (v := .pointer (some ⟨gs, 5, none⟩)) rfl (by kernel_rfl) (by kernel_rfl) (by kernel_rfl) (fun _ _ _ h => h) (Or.inl ⟨by rfl, ?_⟩) (by assumption) ?_
      · (intro W hSw; (try dsimp only at hSw); go_simp)
      show wpAnyH _ _ _ _ _ _ _ (Act.put _ (some 112) _) _
      simp only [Act.put, List.setIfInBounds_toArray, List.set_cons_zero, List.set_cons_succ]
      refine wpAnyH_take (i := 10) (v := .slice (some ⟨M.gd, 0, none⟩) wn M.kd) rfl (by kernel_rfl) (by kernel_rfl) (by kernel_rfl) (fun _ _ _ h => h) (Or.inl ⟨by rfl, ?_⟩) (by assumption) ?_
      · (intro W hSw; (try dsimp only at hSw); go_simp)
      show wpAnyH _ _ _ _ _ _ _ (Act.put _ (some 113) _) _
      simp only [Act.put, List.setIfInBounds_toArray, List.set_cons_zero, List.set_cons_succ]
      refine wpAnyH_take (i := 11) (v := .pointer (some ⟨gi, 2, none⟩)) rfl (by kernel_rfl) (by kernel_rfl) (by kernel_rfl) (fun _ _ _ h => h) (Or.inl ⟨by rfl, ?_⟩) (by assumption) ?_
      · (intro W hSw; (try dsimp only at hSw); go_simp)
      show wpAnyH _ _ _ _ _ _ _ (Act.put _ (some 114) _) _
      simp only [Act.put, List.setIfInBounds_toArray, List.set_cons_zero, List.set_cons_succ]
      refine wpAnyH_take (i := 12) (v := .int .i64 adn) rfl (by kernel_rfl) (by kernel_rfl) (by kernel_rfl) (fun _ _ _ h => h) (Or.inl ⟨by rfl, ?_⟩) (by assumption) ?_
      · (intro W hSw; (try dsimp only at hSw); go_simp)
      show wpAnyH _ _ _ _ _ _ _ (Act.put _ (some 115) _) _
      simp only [Act.put, List.setIfInBounds_toArray, List.set_cons_zero, List.set_cons_succ]
      refine wpAnyH_take (i := 13) (v := .pointer (some ⟨M.gd, adn, none⟩)) rfl (by kernel_rfl) (by kernel_rfl) (by kernel_rfl) (fun _ _ _ h => h) (Or.inl ⟨by rfl, ?_⟩) (by assumption) ?_
      · (intro W hSw; (try dsimp only at hSw); go_simp)
      show wpAnyH _ _ _ _ _ _ _ (Act.put _ (some 116) _) _
      simp only [Act.put, List.setIfInBounds_toArray, List.set_cons_zero, List.set_cons_succ]
      refine wpAnyH_take (i := 14) (v := .slice (some ⟨pg, 0, none⟩) tn pk) rfl (by kernel_rfl) (by kernel_rfl) (by kernel_rfl) (fun _ _ _ h => h) (Or.inl ⟨by rfl, ?_⟩) (by assumption) ?_
      · (intro W hSw; (try dsimp only at hSw); go_simp)
      show wpAnyH _ _ _ _ _ _ _ (Act.put _ (some 117) _) _
      simp only [Act.put, List.setIfInBounds_toArray, List.set_cons_zero, List.set_cons_succ]
      refine wpAnyH_ready (rs := [15]) (by kernel_rfl) (by simp) (AllReadyH.cons rfl (fun K1 hK1 => ?_) (AllReadyH.nil))
      rw [if_pos (by rfl)]
      go_simp
      go_at_call 63
      have hgrE := (HRE.out.mr t g HMg.out).2
      have hpgE := HRE.out.wr adn (pg, pk) HPg.out
      have hne9 : pg ≠ g := fun e => hpgE.1 (e ▸ mut_ms HMg.out)
      refine (rraise_cap g (((xAt es).own t (bumpW ((xAt es).m t) t)).m t) (((xAt es).own t (bumpW ((xAt es).m t) t)).wd adn) (some ⟨pg, 0, none⟩) tn pk (M.kc t) E.drew hgrE hpgE.2.sl (fun b o h9 => by injection h9 with h9; injection h9 with h9; rw [← h9]; exact hne9) (by simp only [maxLen]; omega)).mono ?_
      rintro e F ⟨rfl, hgF, hBF⟩
      have hgF2 : E.grownBy F (some g) := (gb_below (Below.refl _ _).drew _).trans hgF
      have hRF := HRE.out.mine HMg.out hgF2 hBF
      rw [own_own, own_m] at hRF
      have HRF : Hid (RSB F B tn wn S5 ((xAt es).own t (tickM (xAt es) ⟨t, 3, adn, true⟩)) es M) := by rw [tickM_sw (e := ⟨t, 3, adn, true⟩) rfl]; exact hRF
      have HGF := Lib.hid (HGE.out.grown hgF2 (by intro e; injection e with e; exact hgrE.nb HGE.out (by decide) e.symm))
      have HIF := Lib.hid (HIE.out.grown hgF2 (by intro e; injection e with e; exact hgrE.nb HIE.out (by decide) e.symm))
      have HWF := Lib.hid (HWE.out.grown hgF2 HRE.out.bs (fun q hq => by injection hq with hq; rw [← hq]; exact (HRE.out.mr t g HMg.out).1))
      refine hK1.out _ _ (HSo.out _ hgF2) (fun _ => ?_)
      refine wpAnyH_done (by kernel_rfl) ?_ _
      clear hgrE hpgE hne9 hgF hBF hgF2 hRF hS HSo s4 m1 s5 i2 p1 HRE HGE HIE HWE
      have s4 : F.cell? ⟨gs, 4, none⟩ = some (.slice (some ⟨M.gm, 0, none⟩) tn M.km) := HGF.out.cell rfl
      have m1 : F.cell? ⟨M.gm, t, none⟩ = some (.slice (some ⟨g, 0, none⟩) tn (M.kc t)) := HRF.out.mi.cell (mhV_get HMg.out)
      have s5 : F.cell? ⟨gs, 5, none⟩ = some (.slice (some ⟨M.gd, 0, none⟩) wn M.kd) := HGF.out.cell rfl
      have i2 : F.cell? ⟨gi, 2, none⟩ = some (.int .i64 adn) := HIF.out.cell rfl
      have HSo : Hid (∀ W, Below F.heap.size F W → W.cell? ⟨gs, 4, none⟩ = some (.slice (some ⟨M.gm, 0, none⟩) tn M.km) ∧ W.cell? ⟨M.gm, t, none⟩ = some (.slice (some ⟨g, 0, none⟩) tn (M.kc t)) ∧ W.cell? ⟨gs, 5, none⟩ = some (.slice (some ⟨M.gd, 0, none⟩) wn M.kd) ∧ W.cell? ⟨gi, 2, none⟩ = some (.int .i64 adn)) := fun W hW => by
        have k : ∀ (a : Addr) (v : Value), F.cell? a = some v → W.cell? a = some v := fun a v hv => (hW.cell (World.block_lt_of_cell? F a hv)).trans hv
        exact ⟨k _ _ s4, k _ _ m1, k _ _ s5, k _ _ i2⟩
      have HTw : Hid (∀ V : World, Below F.heap.size F V → Calls Try.prog 65 #[.slice (some ⟨g, 0, none⟩) tn (M.kc t)] V (CopyR (clkL tn (tickM (xAt es) ⟨t, 3, adn, true⟩)) tn V)) := fun V hV => by
        refine twin27_any _ _ tn _ V ?_ (by omega)
        have h9 := ((HRF.out.mr t g HMg.out).2.on hV).sl
        rwa [own_m] at h9
      go_upto_region 15 with fail
      refine wp_region_held_drew (S := fun W => W.cell? ⟨gs, 4, none⟩ = some (.slice (some ⟨M.gm, 0, none⟩) tn M.km) ∧ W.cell? ⟨M.gm, t, none⟩ = some (.slice (some ⟨g, 0, none⟩) tn (M.kc t)) ∧ W.cell? ⟨gs, 5, none⟩ = some (.slice (some ⟨M.gd, 0, none⟩) wn M.kd) ∧ W.cell? ⟨gi, 2, none⟩ = some (.int .i64 adn)) (by kernel_rfl) (HSo.out _ (Below.refl _ _).drew) (fun hS => ?_)
      refine wpAnyH_take (i := 0) (v := .pointer (some ⟨gs, 0, none⟩)) rfl (by kernel_rfl) (by kernel_rfl) (by kernel_rfl) (fun _ _ _ h => h) (Or.inl ⟨by rfl, ?_⟩) (by assumption) ?_
      · (intro W hSw; (try dsimp only at hSw); go_simp)
      show wpAnyH _ _ _ _ _ _ _ (Act.put _ (some 120) _) _
      simp only [Act.put, List.setIfInBounds_toArray, List.set_cons_zero, List.set_cons_succ]
      refine wpAnyH_take (i := 1) (v := .pointer (some ⟨gs, 0, none⟩)) rfl (by kernel_rfl) (by kernel_rfl) (by kernel_rfl) (fun _ _ _ h => h) (Or.inl ⟨by rfl, ?_⟩) (by assumption) ?_
      · (intro W hSw; (try dsimp only at hSw); go_simp)
      show wpAnyH _ _ _ _ _ _ _ (Act.put _ (some 121) _) _
      simp only [Act.put, List.setIfInBounds_toArray, List.set_cons_zero, List.set_cons_succ]
      refine wpAnyH_take (i := 2) (v := .pointer (some ⟨gs, 5, none⟩)) rfl (by kernel_rfl) (by kernel_rfl) (by kernel_rfl) (fun _ _ _ h => h) (Or.inl ⟨by rfl, ?_⟩) (by assumption) ?_
      · (intro W hSw; (try dsimp only at hSw); go_simp)
      show wpAnyH _ _ _ _ _ _ _ (Act.put _ (some 122) _) _
      simp only [Act.put, List.setIfInBounds_toArray, List.set_cons_zero, List.set_cons_succ]
      refine wpAnyH_take (i := 3) (v := .slice (some ⟨M.gd, 0, none⟩) wn M.kd) rfl (by kernel_rfl) (by kernel_rfl) (by kernel_rfl) (fun _ _ _ h => h) (Or.inl ⟨by rfl, ?_⟩) (by assumption) ?_
      · (intro W hSw; (try dsimp only at hSw); go_simp)
      show wpAnyH _ _ _ _ _ _ _ (Act.put _ (some 123) _) _
      simp only [Act.put, List.setIfInBounds_toArray, List.set_cons_zero, List.set_cons_succ]
      refine wpAnyH_take (i := 4) (v := .pointer (some ⟨gi, 2, none⟩)) rfl (by kernel_rfl) (by kernel_rfl) (by kernel_rfl) (fun _ _ _ h => h) (Or.inl ⟨by rfl, ?_⟩) (by assumption) ?_
      · (intro W hSw; (try dsimp only at hSw); go_simp)
      show wpAnyH _ _ _ _ _ _ _ (Act.put _ (some 124) _) _
      simp only [Act.put, List.setIfInBounds_toArray, List.set_cons_zero, List.set_cons_succ]
      refine wpAnyH_take (i := 5) (v := .int .i64 adn) rfl (by kernel_rfl) (by kernel_rfl) (by kernel_rfl) (fun _ _ _ h => h) (Or.inl ⟨by rfl, ?_⟩) (by assumption) ?_
      · (intro W hSw; (try dsimp only at hSw); go_simp)
      show wpAnyH _ _ _ _ _ _ _ (Act.put _ (some 125) _) _
      simp only [Act.put, List.setIfInBounds_toArray, List.set_cons_zero, List.set_cons_succ]
      refine wpAnyH_take (i := 6) (v := .pointer (some ⟨gs, 0, none⟩)) rfl (by kernel_rfl) (by kernel_rfl) (by kernel_rfl) (fun _ _ _ h => h) (Or.inl ⟨by rfl, ?_⟩) (by assumption) ?_
      · (intro W hSw; (try dsimp only at hSw); go_simp)
      show wpAnyH _ _ _ _ _ _ _ (Act.put _ (some 126) _) _
      simp only [Act.put, List.setIfInBounds_toArray, List.set_cons_zero, List.set_cons_succ]
      refine wpAnyH_take (i := 7) (v := .pointer (some ⟨gs, 0, none⟩)) rfl (by kernel_rfl) (by kernel_rfl) (by kernel_rfl) (fun _ _ _ h => h) (Or.inl ⟨by rfl, ?_⟩) (by assumption) ?_
      · (intro W hSw; (try dsimp only at hSw); go_simp)
      show wpAnyH _ _ _ _ _ _ _ (Act.put _ (some 127) _) _
      simp only [Act.put, List.setIfInBounds_toArray, List.set_cons_zero, List.set_cons_succ]
      refine wpAnyH_take (i := 8) (v := .pointer (some ⟨gs, 4, none⟩)) rfl (by kernel_rfl) (by kernel_rfl) (by kernel_rfl) (fun _ _ _ h => h) (Or.inl ⟨by rfl, ?_⟩) (by assumption) ?_
      · (intro W hSw; (try dsimp only at hSw); go_simp)
      show wpAnyH _ _ _ _ _ _ _ (Act.put _ (some 128) _) _
      simp only [Act.put, List.setIfInBounds_toArray, List.set_cons_zero, List.set_cons_succ]
      refine wpAnyH_take (i := 9) (v := .slice (some ⟨M.gm, 0, none⟩) tn M.km) rfl (by kernel_rfl) (by kernel_rfl) (by kernel_rfl) (fun _ _ _ h => h) (Or.inl ⟨by rfl, ?_⟩) (by assumption) ?_
      · (intro W hSw; (try dsimp only at hSw); go_simp)
      show wpAnyH _ _ _ _ _ _ _ (Act.put _ (some 129) _) _
      simp only [Act.put, List.setIfInBounds_toArray, List.set_cons_zero, List.set_cons_succ]
      refine wpAnyH_take (i := 10) (v := .int .i64 t) rfl (by kernel_rfl) (by kernel_rfl) (by kernel_rfl) (fun _ _ _ h => h) (Or.inl ⟨by rfl, ?_⟩) (by assumption) ?_
      · (intro W hSw; (try dsimp only at hSw); go_simp)
      show wpAnyH _ _ _ _ _ _ _ (Act.put _ (some 130) _) _
      simp only [Act.put, List.setIfInBounds_toArray, List.set_cons_zero, List.set_cons_succ]
      refine wpAnyH_take (i := 11) (v := .pointer (some ⟨M.gm, t, none⟩)) rfl (by kernel_rfl) (by kernel_rfl) (by kernel_rfl) (fun _ _ _ h => h) (Or.inl ⟨by rfl, ?_⟩) (by assumption) ?_
      · (intro W hSw; (try dsimp only at hSw); go_simp)
      show wpAnyH _ _ _ _ _ _ _ (Act.put _ (some 131) _) _
      simp only [Act.put, List.setIfInBounds_toArray, List.set_cons_zero, List.set_cons_succ]
      refine wpAnyH_take (i := 12) (v := .slice (some ⟨g, 0, none⟩) tn (M.kc t)) rfl (by kernel_rfl) (by kernel_rfl) (by kernel_rfl) (fun _ _ _ h => h) (Or.inl ⟨by rfl, ?_⟩) (by assumption) ?_
      · (intro W hSw; (try dsimp only at hSw); go_simp)
      show wpAnyH _ _ _ _ _ _ _ (Act.put _ (some 132) _) _
      simp only [Act.put, List.setIfInBounds_toArray, List.set_cons_zero, List.set_cons_succ]
      refine wpAnyH_ready (rs := [13]) (by kernel_rfl) (by simp) (AllReadyH.cons rfl (fun K1 hK1 => ?_) (AllReadyH.nil))
      rw [if_pos (by rfl)]
      go_simp
      go_at_call 65
      refine (HTw.out F.drew (Below.refl _ _).drew).mono ?_
      rintro e V1 ⟨A2, kq, rfl, hown2, hb2, hk21, hk22⟩
      have hbV : Below F.heap.size F V1 := (Below.refl _ _).drew.trans hb2
      obtain ⟨gq, hg2, hgqB, hR2⟩ := Rw.of_own hown2 (by omega)
      subst hg2
      refine hK1.out _ _ (HSo.out _ hbV) (fun hS1 => ?_)
      refine wpAnyH_take (i := 14) (v := .pointer (some ⟨M.gd, adn, none⟩)) rfl (by kernel_rfl) (by kernel_rfl) (by kernel_rfl) (fun _ _ _ h => h) (Or.inl ⟨by rfl, ?_⟩) (hS1) ?_
      · (intro W hSw; (try dsimp only at hSw); go_simp)
      show wpAnyH _ _ _ _ _ _ _ (Act.put _ (some 134) _) _
      simp only [Act.put, List.setIfInBounds_toArray, List.set_cons_zero, List.set_cons_succ]
      refine wpAnyH_ready (rs := [15]) (by kernel_rfl) (by simp) (AllReadyH.cons rfl (fun K2 hK2 => ?_) (AllReadyH.nil))
      rw [if_pos (by rfl)]
      have hRV := HRF.out.on hbV
      have dd : V1.cell? ⟨M.gd, adn, none⟩ = some (sl1 tn (pg, pk)) := hRV.wi.cell (by unfold whV; rw [List.getElem?_map, HPg.out]; rfl)
      have dff := hRV.wi.frozen adn
      go_simp
      have hne1 : M.gd ≠ gs := HRF.out.wi.nb HGF.out (by decide)
      have hne2 : M.gd ≠ gi := HRF.out.wi.nb HIF.out (by decide)
      have hne3 := HRF.out.gg
      have hS2 : (V1.setCell ⟨M.gd, adn, none⟩ (.slice (some ⟨gq, 0, none⟩) tn kq)).cell? ⟨gs, 4, none⟩ = some (.slice (some ⟨M.gm, 0, none⟩) tn M.km) ∧ (V1.setCell ⟨M.gd, adn, none⟩ (.slice (some ⟨gq, 0, none⟩) tn kq)).cell? ⟨M.gm, t, none⟩ = some (.slice (some ⟨g, 0, none⟩) tn (M.kc t)) ∧ (V1.setCell ⟨M.gd, adn, none⟩ (.slice (some ⟨gq, 0, none⟩) tn kq)).cell? ⟨gs, 5, none⟩ = some (.slice (some ⟨M.gd, 0, none⟩) wn M.kd) ∧ (V1.setCell ⟨M.gd, adn, none⟩ (.slice (some ⟨gq, 0, none⟩) tn kq)).cell? ⟨gi, 2, none⟩ = some (.int .i64 adn) := by
        obtain ⟨z0, z1, z2, z3⟩ := hS1
        refine ⟨(World.cell?_setCell_other _ _ _ _ (by simp [hne1.symm])).trans z0, (World.cell?_setCell_other _ _ _ _ (by simp [hne3])).trans z1, (World.cell?_setCell_other _ _ _ _ (by simp [hne1.symm])).trans z2, (World.cell?_setCell_other _ _ _ _ (by simp [hne2.symm])).trans z3⟩
      refine hK2.out _ _ hS2 (fun _ => ?_)
      refine wpAnyH_done (by kernel_rfl) ?_ _
      obtain ⟨G, hZ, HRG, HGG, HIG, HWG⟩ : ∃ Z9, Z9 = V1.setCell ⟨M.gd, adn, none⟩ (.slice (some ⟨gq, 0, none⟩) tn kq) ∧ Hid (RSB Z9 B tn wn S5 (tickS (xAt es) ⟨t, 3, adn, true⟩) es { M with ws := M.ws.set adn (gq, kq) }) ∧ Hid (Blk Z9 gs 116 (rsL M tn wn)) ∧ Hid (Blk Z9 gi 204 [.int .i64 3, .int .i64 rgn, .int .i64 adn, .int .i64 vl, .int .i64 sr, .int .i64 od, .int .i64 ct]) ∧ Hid (Below B w Z9) :=
        ⟨_, rfl, by rw [← tick_sw1 (x := xAt es) (e := ⟨t, 3, adn, true⟩) rfl rfl]; exact hRV.word hR2 (HRF.out.fresh hgqB) (Nat.le_trans HRF.out.bs hgqB) had, (HGF.out.below hbV HGF.out.lt).far hne1.symm _, (HIF.out.below hbV HIF.out.lt).far hne2.symm _, (HWF.out.trans (hbV.mono HRF.out.bs)).setCell HRF.out.gdB _⟩
      rw [← hZ]
      clear hZ hS2 hS1 hS dd dff hRV hbV hb2 hown2 hR2 hne1 hne2 hne3 HSo HTw s4 m1 s5 i2 HRF HGF HIF HWF
      have s4 : G.cell? ⟨gs, 4, none⟩ = some (.slice (some ⟨M.gm, 0, none⟩) tn M.km) := HGG.out.cell rfl
      have m1 : G.cell? ⟨M.gm, t, none⟩ = some (.slice (some ⟨g, 0, none⟩) tn (M.kc t)) := HRG.out.mi.cell (mhV_get HMg.out)
      have i0 : G.cell? ⟨gi, 0, none⟩ = some (.int .i64 3) := HIG.out.cell rfl
      have i2 : G.cell? ⟨gi, 2, none⟩ = some (.int .i64 adn) := HIG.out.cell rfl
      obtain ⟨vA, vk, hvE, hvk1, hvk2⟩ := own_form HRG.out.ev
      have HvE : Hid (M.vE = .slice vA es.length vk) := Lib.hid hvE
      clear hvE
      have HE6 : Hid (G.cell? ⟨gs, 6, none⟩ = some (.slice vA es.length vk)) := by rw [← HvE.out]; exact HGG.out.cell rfl
      have HEv6 : Hid (G.ownsRow B 122 5 (.slice vA es.length vk) es.length (evcV tn es M.cs)) := by rw [← HvE.out]; exact HRG.out.ev
      have HEb : Hid (some gs ≠ (Value.slice vA es.length vk).ownBlock) := own_nb HEv6.out HGG.out (by decide)
      have hiD := HIG.out.lt
      have hgD := HGG.out.lt
      have HSo : Hid (∀ W, G.grownBy W (Value.slice vA es.length vk).ownBlock → W.cell? ⟨gs, 4, none⟩ = some (.slice (some ⟨M.gm, 0, none⟩) tn M.km) ∧ W.cell? ⟨M.gm, t, none⟩ = some (.slice (some ⟨g, 0, none⟩) tn (M.kc t)) ∧ W.cell? ⟨gi, 0, none⟩ = some (.int .i64 3) ∧ W.cell? ⟨gi, 2, none⟩ = some (.int .i64 adn)) := fun W hW => by
        have e1 := own_nr HEv6.out HRG.out.mi (by decide)
        have e2 := own_nb HEv6.out HIG.out (by decide)
        have k : ∀ (b o : Nat) (v : Value), G.cell? ⟨b, o, none⟩ = some v → some b ≠ (Value.slice vA es.length vk).ownBlock → W.cell? ⟨b, o, none⟩ = some v := fun b o v hv hne => by
          have hlt9 := World.block_lt_of_cell? G _ hv
          have hkk9 := hW.block b hlt9 hne
          unfold World.cell? at hv ⊢
          dsimp only at hv ⊢
          rw [hkk9]
          exact hv
        exact ⟨k _ _ _ s4 HEb.out, k _ _ _ m1 e1, k _ _ _ i0 e2, k _ _ _ i2 e2⟩
      have HTw : Hid (∀ V : World, Below G.heap.size G V → Calls Try.prog 65 #[.slice (some ⟨g, 0, none⟩) tn (M.kc t)] V (CopyR (clkL tn (tickM (xAt es) ⟨t, 3, adn, true⟩)) tn V)) := fun V hV => by
        refine twin27_any _ _ tn _ V ?_ (by omega)
        have h9 := ((HRG.out.mr t g HMg.out).2.on hV).sl
        rwa [show (tickS (xAt es) ⟨t, 3, adn, true⟩).m t = tickM (xAt es) ⟨t, 3, adn, true⟩ from tickS_m _ _] at h9
      go_upto_region 16 with fail
      refine wp_region_held_drew (S := fun W => W.cell? ⟨gs, 4, none⟩ = some (.slice (some ⟨M.gm, 0, none⟩) tn M.km) ∧ W.cell? ⟨M.gm, t, none⟩ = some (.slice (some ⟨g, 0, none⟩) tn (M.kc t)) ∧ W.cell? ⟨gi, 0, none⟩ = some (.int .i64 3) ∧ W.cell? ⟨gi, 2, none⟩ = some (.int .i64 adn)) (by kernel_rfl) (HSo.out _ (gb_below (Below.refl _ _).drew _)) (fun hS => ?_)
      refine wpAnyH_take (i := 0) (v := .pointer (some ⟨gs, 0, none⟩)) rfl (by kernel_rfl) (by kernel_rfl) (by kernel_rfl) (fun _ _ _ h => h) (Or.inl ⟨by rfl, ?_⟩) (by assumption) ?_
      · (intro W hSw; (try dsimp only at hSw); go_simp)
      show wpAnyH _ _ _ _ _ _ _ (Act.put _ (some 135) _) _
      simp only [Act.put, List.setIfInBounds_toArray, List.set_cons_zero, List.set_cons_succ]
      refine wpAnyH_take (i := 1) (v := .pointer (some ⟨gs, 0, none⟩)) rfl (by kernel_rfl) (by kernel_rfl) (by kernel_rfl) (fun _ _ _ h => h) (Or.inl ⟨by rfl, ?_⟩) (by assumption) ?_
      · (intro W hSw; (try dsimp only at hSw); go_simp)
      show wpAnyH _ _ _ _ _ _ _ (Act.put _ (some 136) _) _
      simp only [Act.put, List.setIfInBounds_toArray, List.set_cons_zero, List.set_cons_succ]
      refine wpAnyH_take (i := 2) (v := .pointer (some ⟨gs, 0, none⟩)) rfl (by kernel_rfl) (by kernel_rfl) (by kernel_rfl) (fun _ _ _ h => h) (Or.inl ⟨by rfl, ?_⟩) (by assumption) ?_
      · (intro W hSw; (try dsimp only at hSw); go_simp)
      show wpAnyH _ _ _ _ _ _ _ (Act.put _ (some 137) _) _
      simp only [Act.put, List.setIfInBounds_toArray, List.set_cons_zero, List.set_cons_succ]
      refine wpAnyH_take (i := 3) (v := .pointer (some ⟨gs, 6, none⟩)) rfl (by kernel_rfl) (by kernel_rfl) (by kernel_rfl) (fun _ _ _ h => h) (Or.inl ⟨by rfl, ?_⟩) (by assumption) ?_
      · (intro W hSw; (try dsimp only at hSw); go_simp)
      show wpAnyH _ _ _ _ _ _ _ (Act.put _ (some 138) _) _
      simp only [Act.put, List.setIfInBounds_toArray, List.set_cons_zero, List.set_cons_succ]
      refine wpAnyH_take (i := 5) (v := .int .i64 t) rfl (by kernel_rfl) (by kernel_rfl) (by kernel_rfl) (fun _ _ _ h => h) (Or.inl ⟨by rfl, ?_⟩) (by assumption) ?_
      · (intro W hSw; (try dsimp only at hSw); go_simp)
      show wpAnyH _ _ _ _ _ _ _ (Act.put _ (some 140) _) _
      simp only [Act.put, List.setIfInBounds_toArray, List.set_cons_zero, List.set_cons_succ]
      refine wpAnyH_take (i := 6) (v := .pointer (some ⟨gi, 0, none⟩)) rfl (by kernel_rfl) (by kernel_rfl) (by kernel_rfl) (fun _ _ _ h => h) (Or.inl ⟨by rfl, ?_⟩) (by assumption) ?_
      · (intro W hSw; (try dsimp only at hSw); go_simp)
      show wpAnyH _ _ _ _ _ _ _ (Act.put _ (some 141) _) _
      simp only [Act.put, List.setIfInBounds_toArray, List.set_cons_zero, List.set_cons_succ]
      refine wpAnyH_take (i := 7) (v := .int .i64 3) rfl (by kernel_rfl) (by kernel_rfl) (by kernel_rfl) (fun _ _ _ h => h) (Or.inl ⟨by rfl, ?_⟩) (by assumption) ?_
      · (intro W hSw; (try dsimp only at hSw); go_simp)
      show wpAnyH _ _ _ _ _ _ _ (Act.put _ (some 142) _) _
      simp only [Act.put, List.setIfInBounds_toArray, List.set_cons_zero, List.set_cons_succ]
      refine wpAnyH_take (i := 8) (v := .pointer (some ⟨gi, 2, none⟩)) rfl (by kernel_rfl) (by kernel_rfl) (by kernel_rfl) (fun _ _ _ h => h) (Or.inl ⟨by rfl, ?_⟩) (by assumption) ?_
      · (intro W hSw; (try dsimp only at hSw); go_simp)
      show wpAnyH _ _ _ _ _ _ _ (Act.put _ (some 143) _) _
      simp only [Act.put, List.setIfInBounds_toArray, List.set_cons_zero, List.set_cons_succ]
      refine wpAnyH_take (i := 9) (v := .int .i64 adn) rfl (by kernel_rfl) (by kernel_rfl) (by kernel_rfl) (fun _ _ _ h => h) (Or.inl ⟨by rfl, ?_⟩) (by assumption) ?_
      · (intro W hSw; (try dsimp only at hSw); go_simp)
      show wpAnyH _ _ _ _ _ _ _ (Act.put _ (some 144) _) _
      simp only [Act.put, List.setIfInBounds_toArray, List.set_cons_zero, List.set_cons_succ]
      refine wpAnyH_take (i := 10) (v := .bool true) rfl (by kernel_rfl) (by kernel_rfl) (by kernel_rfl) (fun _ _ _ h => h) (Or.inl ⟨by rfl, ?_⟩) (by assumption) ?_
      · (intro W hSw; (try dsimp only at hSw); go_simp)
      show wpAnyH _ _ _ _ _ _ _ (Act.put _ (some 145) _) _
      simp only [Act.put, List.setIfInBounds_toArray, List.set_cons_zero, List.set_cons_succ]
      refine wpAnyH_take (i := 11) (v := .agg #[.int .i64 t, .int .i64 3, .int .i64 adn, .bool true]) rfl (by kernel_rfl) (by kernel_rfl) (by kernel_rfl) (fun _ _ _ h => h) (Or.inl ⟨by rfl, ?_⟩) (by assumption) ?_
      · (intro W hSw; (try dsimp only at hSw); go_simp)
      show wpAnyH _ _ _ _ _ _ _ (Act.put _ (some 146) _) _
      simp only [Act.put, List.setIfInBounds_toArray, List.set_cons_zero, List.set_cons_succ]
      refine wpAnyH_take (i := 12) (v := .pointer (some ⟨gs, 0, none⟩)) rfl (by kernel_rfl) (by kernel_rfl) (by kernel_rfl) (fun _ _ _ h => h) (Or.inl ⟨by rfl, ?_⟩) (by assumption) ?_
      · (intro W hSw; (try dsimp only at hSw); go_simp)
      show wpAnyH _ _ _ _ _ _ _ (Act.put _ (some 147) _) _
      simp only [Act.put, List.setIfInBounds_toArray, List.set_cons_zero, List.set_cons_succ]
      refine wpAnyH_take (i := 13) (v := .pointer (some ⟨gs, 0, none⟩)) rfl (by kernel_rfl) (by kernel_rfl) (by kernel_rfl) (fun _ _ _ h => h) (Or.inl ⟨by rfl, ?_⟩) (by assumption) ?_
      · (intro W hSw; (try dsimp only at hSw); go_simp)
      show wpAnyH _ _ _ _ _ _ _ (Act.put _ (some 148) _) _
      simp only [Act.put, List.setIfInBounds_toArray, List.set_cons_zero, List.set_cons_succ]
      refine wpAnyH_take (i := 14) (v := .pointer (some ⟨gs, 4, none⟩)) rfl (by kernel_rfl) (by kernel_rfl) (by kernel_rfl) (fun _ _ _ h => h) (Or.inl ⟨by rfl, ?_⟩) (by assumption) ?_
      · (intro W hSw; (try dsimp only at hSw); go_simp)
      show wpAnyH _ _ _ _ _ _ _ (Act.put _ (some 149) _) _
      simp only [Act.put, List.setIfInBounds_toArray, List.set_cons_zero, List.set_cons_succ]
      refine wpAnyH_take (i := 15) (v := .slice (some ⟨M.gm, 0, none⟩) tn M.km) rfl (by kernel_rfl) (by kernel_rfl) (by kernel_rfl) (fun _ _ _ h => h) (Or.inl ⟨by rfl, ?_⟩) (by assumption) ?_
      · (intro W hSw; (try dsimp only at hSw); go_simp)
      show wpAnyH _ _ _ _ _ _ _ (Act.put _ (some 150) _) _
      simp only [Act.put, List.setIfInBounds_toArray, List.set_cons_zero, List.set_cons_succ]
      refine wpAnyH_take (i := 16) (v := .int .i64 t) rfl (by kernel_rfl) (by kernel_rfl) (by kernel_rfl) (fun _ _ _ h => h) (Or.inl ⟨by rfl, ?_⟩) (by assumption) ?_
      · (intro W hSw; (try dsimp only at hSw); go_simp)
      show wpAnyH _ _ _ _ _ _ _ (Act.put _ (some 151) _) _
      simp only [Act.put, List.setIfInBounds_toArray, List.set_cons_zero, List.set_cons_succ]
      refine wpAnyH_take (i := 17) (v := .pointer (some ⟨M.gm, t, none⟩)) rfl (by kernel_rfl) (by kernel_rfl) (by kernel_rfl) (fun _ _ _ h => h) (Or.inl ⟨by rfl, ?_⟩) (by assumption) ?_
      · (intro W hSw; (try dsimp only at hSw); go_simp)
      show wpAnyH _ _ _ _ _ _ _ (Act.put _ (some 152) _) _
      simp only [Act.put, List.setIfInBounds_toArray, List.set_cons_zero, List.set_cons_succ]
      refine wpAnyH_take (i := 18) (v := .slice (some ⟨g, 0, none⟩) tn (M.kc t)) rfl (by kernel_rfl) (by kernel_rfl) (by kernel_rfl) (fun _ _ _ h => h) (Or.inl ⟨by rfl, ?_⟩) (by assumption) ?_
      · (intro W hSw; (try dsimp only at hSw); go_simp)
      show wpAnyH _ _ _ _ _ _ _ (Act.put _ (some 153) _) _
      simp only [Act.put, List.setIfInBounds_toArray, List.set_cons_zero, List.set_cons_succ]
      obtain ⟨V0, hV9, HV0b⟩ : ∃ Z9, Z9 = G.drew ∧ Hid (Below G.heap.size G Z9) := ⟨_, rfl, (Below.refl _ _).drew⟩
      rw [← hV9]
      clear hV9 s4 m1 i0 i2
      refine wpAnyH_ready (rs := [4, 19]) (by kernel_rfl) (by simp) (AllReadyH.cons rfl (fun K1 hK1 => ?_) (AllReadyH.cons rfl (fun K1 hK1 => ?_) AllReadyH.nil))
      · have s6 : V0.cell? ⟨gs, 6, none⟩ = some (.slice vA es.length vk) := (HV0b.out.cell (p := ⟨gs, 6, none⟩) HGG.out.lt).trans HE6.out
        rw [if_pos (by rfl)]
        go_simp
        clear s6
        refine hK1.out _ _ (HSo.out _ (gb_below HV0b.out _)) (fun hS1 => ?_)
        refine wpAnyH_ready (rs := [19]) (by kernel_rfl) (by simp) (AllReadyH.cons rfl (fun K2 hK2 => ?_) (AllReadyH.nil))
        rw [if_pos (by rfl)]
        go_simp
        go_at_call 65
        refine (HTw.out V0 HV0b.out).mono ?_
        rintro e V1 ⟨A2, k2, rfl, hown2, hb2, hk21, hk22⟩
        have HV1b := Lib.hid (HV0b.out.trans (hb2.mono HV0b.out.size))
        obtain ⟨g2, hg2, hg2B, hR2⟩ := Rw.of_own hown2 (by omega)
        subst hg2
        have hg2D : G.heap.size ≤ g2 := Nat.le_trans HV0b.out.size hg2B
        have HRw2 := Lib.hid hR2
        clear hown2 hb2 hR2
        refine hK2.out _ _ (HSo.out _ (gb_below HV1b.out _)) (fun hS2 => ?_)
        refine wpAnyH_take (i := 20) (v := .agg #[.int .i64 t, .int .i64 3, .int .i64 adn, .bool true, .slice (some ⟨g2, 0, none⟩) tn k2]) rfl (by kernel_rfl) (by kernel_rfl) (by kernel_rfl) (fun _ _ _ h => h) (Or.inl ⟨by rfl, ?_⟩) (hS2) ?_
        · (intro W hSw; (try dsimp only at hSw); go_simp)
        show wpAnyH _ _ _ _ _ _ _ (Act.put _ (some 155) _) _
        simp only [Act.put, List.setIfInBounds_toArray, List.set_cons_zero, List.set_cons_succ]
        refine wpAnyH_ready (rs := [21]) (by kernel_rfl) (by simp) (AllReadyH.cons rfl (fun K3 hK3 => ?_) (AllReadyH.nil))
        rw [if_pos (by rfl)]
        go_simp
        have hbA := HV1b.out.alloc HV1b.out.size (.cells #[.int .i64 t, .int .i64 3, .int .i64 adn, .bool true, .slice (some ⟨g2, 0, none⟩) tn k2] 122)
        refine hK3.out _ _ (HSo.out _ (gb_below hbA _)) (fun hS3 => ?_)
        refine wpAnyH_ready (rs := [22]) (by kernel_rfl) (by simp) (AllReadyH.cons rfl (fun K4 hK4 => ?_) (AllReadyH.nil))
        refine step_app _ (by rfl) _ _ 114 (by rfl) B 122 ie (.agg #[.int .i64 0, .int .i64 0, .int .i64 0, .bool false, .slice none 0 0]) 5 56 Try.underlying114 hie hiez hies hieb rfl (by decide) (.slice vA es.length vk) es.length (evcV tn es M.cs) (by rfl) (HEv6.out.below hbA) (V1.heap.size + 1) (some ⟨V1.heap.size, 0, none⟩) 1 1 [.int .i64 t, .int .i64 3, .int .i64 adn, .bool true, .slice (some ⟨g2, 0, none⟩) tn k2] (by rfl) (((Blk.new V1 122 _).sl rfl).up (by simp)) (evc_one _ _ _ _ _ _ _) (es.length + 1) rfl _ rfl _ rfl (by simp only [maxLen]; omega) (by omega) (by have := HV1b.out.size; have := HRG.out.bs; rw [World.size_alloc]; omega) ?_
        intro A9 k9 W9 hown9 hg9 hat9 hk91 hk92
        have hgg := (gb_below hbA (Value.slice vA es.length vk).ownBlock).trans hg9
        have hG9 := HGG.out.grown hgg HEb.out
        have d0 : W9.cell? ⟨gs, 6, none⟩ = some (.slice vA es.length vk) := by rw [← HvE.out]; exact hG9.cell rfl
        have df := hG9.frozen 6
        refine hK4.out _ _ (HSo.out _ hgg) (fun hS4 => ?_)
        refine wpAnyH_take (i := 23) (v := .pointer (some ⟨gs, 0, none⟩)) rfl (by kernel_rfl) (by kernel_rfl) (by kernel_rfl) (fun _ _ _ h => h) (Or.inl ⟨by rfl, ?_⟩) (hS4) ?_
        · (intro W hSw; (try dsimp only at hSw); go_simp)
        show wpAnyH _ _ _ _ _ _ _ (Act.put _ (some 158) _) _
        simp only [Act.put, List.setIfInBounds_toArray, List.set_cons_zero, List.set_cons_succ]
        refine wpAnyH_take (i := 24) (v := .pointer (some ⟨gs, 6, none⟩)) rfl (by kernel_rfl) (by kernel_rfl) (by kernel_rfl) (fun _ _ _ h => h) (Or.inl ⟨by rfl, ?_⟩) (hS4) ?_
        · (intro W hSw; (try dsimp only at hSw); go_simp)
        show wpAnyH _ _ _ _ _ _ _ (Act.put _ (some 159) _) _
        simp only [Act.put, List.setIfInBounds_toArray, List.set_cons_zero, List.set_cons_succ]
        refine wpAnyH_ready (rs := [25]) (by kernel_rfl) (by simp) (AllReadyH.cons rfl (fun K5 hK5 => ?_) (AllReadyH.nil))
        rw [if_pos (by rfl)]
        go_simp
        have hS5 : (W9.setCell ⟨gs, 6, none⟩ (.slice A9 (es.length + 1) k9)).cell? ⟨gs, 4, none⟩ = some (.slice (some ⟨M.gm, 0, none⟩) tn M.km) ∧ (W9.setCell ⟨gs, 6, none⟩ (.slice A9 (es.length + 1) k9)).cell? ⟨M.gm, t, none⟩ = some (.slice (some ⟨g, 0, none⟩) tn (M.kc t)) ∧ (W9.setCell ⟨gs, 6, none⟩ (.slice A9 (es.length + 1) k9)).cell? ⟨gi, 0, none⟩ = some (.int .i64 3) ∧ (W9.setCell ⟨gs, 6, none⟩ (.slice A9 (es.length + 1) k9)).cell? ⟨gi, 2, none⟩ = some (.int .i64 adn) := by
          obtain ⟨z0, z1, z2, z3⟩ := hS4
          have hne1 : M.gm ≠ gs := HRG.out.mi.nb HGG.out (by decide)
          refine ⟨(World.cell?_setCell_other _ _ _ _ (by simp)).trans z0, (World.cell?_setCell_other _ _ _ _ (by simp [hne1])).trans z1, (World.cell?_setCell_other _ _ _ _ (by simp)).trans z2, (World.cell?_setCell_other _ _ _ _ (by simp)).trans z3⟩
        refine hK5.out _ _ hS5 (fun _ => ?_)
        refine wpAnyH_done (by kernel_rfl) ?_ _
        have hRA := HRw2.out.on (W' := V1.alloc (.cells #[.int .i64 t, .int .i64 3, .int .i64 adn, .bool true, .slice (some ⟨g2, 0, none⟩) tn k2] 122)) ((Below.refl _ _).alloc (Nat.le_refl _) _)
        have hRw9 : Rw W9 g2 3 1 tn k2 (ints (clkL tn (ckAt (es ++ [⟨t, 3, adn, true⟩]) es.length))) := by
          rw [ckAt_snoc]
          exact hRA.gb hg9 (own_nr (HEv6.out.below hbA) hRA (by decide))
        have hEnd := ((HRG.out.event (e := ⟨t, 3, adn, true⟩) rfl hRw9 (HRG.out.fresh hg2D) (Nat.le_trans HRG.out.bs hg2D) (by rw [show RM.vE { M with ws := M.ws.set adn (gq, kq) } = M.vE from rfl, HvE.out]; exact hgg) hown9).head hG9 6 (.slice A9 (es.length + 1) k9))
        have HEnd := Lib.hid hEnd
        have HGe : Hid (Blk (W9.setCell ⟨gs, 6, none⟩ (.slice A9 (es.length + 1) k9)) gs 116 (rsL { { M with ws := M.ws.set adn (gq, kq) } with vE := .slice A9 (es.length + 1) k9, cs := RM.cs { M with ws := M.ws.set adn (gq, kq) } ++ [(g2, k2)] } tn wn)) := hG9.set_ 6 _
        have HWe : Hid (Below B w (W9.setCell ⟨gs, 6, none⟩ (.slice A9 (es.length + 1) k9))) := (HWG.out.grown hgg HRG.out.bs (fun q hq => (HEv6.out.lt q hq).1)).setCell hgs _
        clear hEnd d0 df hS5 hS4 hRA hRw9 hown9 hg9 hgg hG9 hbA
        go_wp2_with fail
        go_ret
        exact Rt27R.loud HPe.out HE.out HWe.out HGe.out (by rw [← HS5.out]; exact HEnd.out) rfl
      · rw [if_pos (by rfl)]
        go_simp
        go_at_call 65
        refine (HTw.out V0 HV0b.out).mono ?_
        rintro e V1 ⟨A2, k2, rfl, hown2, hb2, hk21, hk22⟩
        have HV1b := Lib.hid (HV0b.out.trans (hb2.mono HV0b.out.size))
        obtain ⟨g2, hg2, hg2B, hR2⟩ := Rw.of_own hown2 (by omega)
        subst hg2
        have hg2D : G.heap.size ≤ g2 := Nat.le_trans HV0b.out.size hg2B
        have HRw2 := Lib.hid hR2
        clear hown2 hb2 hR2
        refine hK1.out _ _ (HSo.out _ (gb_below HV1b.out _)) (fun hS1 => ?_)
        refine wpAnyH_take (i := 20) (v := .agg #[.int .i64 t, .int .i64 3, .int .i64 adn, .bool true, .slice (some ⟨g2, 0, none⟩) tn k2]) rfl (by kernel_rfl) (by kernel_rfl) (by kernel_rfl) (fun _ _ _ h => h) (Or.inl ⟨by rfl, ?_⟩) (hS1) ?_
        · (intro W hSw; (try dsimp only at hSw); go_simp)
        show wpAnyH _ _ _ _ _ _ _ (Act.put _ (some 155) _) _
        simp only [Act.put, List.setIfInBounds_toArray, List.set_cons_zero, List.set_cons_succ]
        refine wpAnyH_ready (rs := [4, 21]) (by kernel_rfl) (by simp) (AllReadyH.cons rfl (fun K2 hK2 => ?_) (AllReadyH.cons rfl (fun K2 hK2 => ?_) AllReadyH.nil))
        · have s6 : V1.cell? ⟨gs, 6, none⟩ = some (.slice vA es.length vk) := (HV1b.out.cell (p := ⟨gs, 6, none⟩) HGG.out.lt).trans HE6.out
          rw [if_pos (by rfl)]
          go_simp
          clear s6
          refine hK2.out _ _ (HSo.out _ (gb_below HV1b.out _)) (fun hS2 => ?_)
          refine wpAnyH_ready (rs := [21]) (by kernel_rfl) (by simp) (AllReadyH.cons rfl (fun K3 hK3 => ?_) (AllReadyH.nil))
          rw [if_pos (by rfl)]
          go_simp
          have hbA := HV1b.out.alloc HV1b.out.size (.cells #[.int .i64 t, .int .i64 3, .int .i64 adn, .bool true, .slice (some ⟨g2, 0, none⟩) tn k2] 122)
          refine hK3.out _ _ (HSo.out _ (gb_below hbA _)) (fun hS3 => ?_)
          refine wpAnyH_ready (rs := [22]) (by kernel_rfl) (by simp) (AllReadyH.cons rfl (fun K4 hK4 => ?_) (AllReadyH.nil))
          refine step_app _ (by rfl) _ _ 114 (by rfl) B 122 ie (.agg #[.int .i64 0, .int .i64 0, .int .i64 0, .bool false, .slice none 0 0]) 5 56 Try.underlying114 hie hiez hies hieb rfl (by decide) (.slice vA es.length vk) es.length (evcV tn es M.cs) (by rfl) (HEv6.out.below hbA) (V1.heap.size + 1) (some ⟨V1.heap.size, 0, none⟩) 1 1 [.int .i64 t, .int .i64 3, .int .i64 adn, .bool true, .slice (some ⟨g2, 0, none⟩) tn k2] (by rfl) (((Blk.new V1 122 _).sl rfl).up (by simp)) (evc_one _ _ _ _ _ _ _) (es.length + 1) rfl _ rfl _ rfl (by simp only [maxLen]; omega) (by omega) (by have := HV1b.out.size; have := HRG.out.bs; rw [World.size_alloc]; omega) ?_
          intro A9 k9 W9 hown9 hg9 hat9 hk91 hk92
          have hgg := (gb_below hbA (Value.slice vA es.length vk).ownBlock).trans hg9
          have hG9 := HGG.out.grown hgg HEb.out
          have d0 : W9.cell? ⟨gs, 6, none⟩ = some (.slice vA es.length vk) := by rw [← HvE.out]; exact hG9.cell rfl
          have df := hG9.frozen 6
          refine hK4.out _ _ (HSo.out _ hgg) (fun hS4 => ?_)
          refine wpAnyH_take (i := 23) (v := .pointer (some ⟨gs, 0, none⟩)) rfl (by kernel_rfl) (by kernel_rfl) (by kernel_rfl) (fun _ _ _ h => h) (Or.inl ⟨by rfl, ?_⟩) (hS4) ?_
          · (intro W hSw; (try dsimp only at hSw); go_simp)
          show wpAnyH _ _ _ _ _ _ _ (Act.put _ (some 158) _) _
          simp only [Act.put, List.setIfInBounds_toArray, List.set_cons_zero, List.set_cons_succ]
          refine wpAnyH_take (i := 24) (v := .pointer (some ⟨gs, 6, none⟩)) rfl (by kernel_rfl) (by kernel_rfl) (by kernel_rfl) (fun _ _ _ h => h) (Or.inl ⟨by rfl, ?_⟩) (hS4) ?_
          · (intro W hSw; (try dsimp only at hSw); go_simp)
          show wpAnyH _ _ _ _ _ _ _ (Act.put _ (some 159) _) _
          simp only [Act.put, List.setIfInBounds_toArray, List.set_cons_zero, List.set_cons_succ]
          refine wpAnyH_ready (rs := [25]) (by kernel_rfl) (by simp) (AllReadyH.cons rfl (fun K5 hK5 => ?_) (AllReadyH.nil))
          rw [if_pos (by rfl)]
          go_simp
          have hS5 : (W9.setCell ⟨gs, 6, none⟩ (.slice A9 (es.length + 1) k9)).cell? ⟨gs, 4, none⟩ = some (.slice (some ⟨M.gm, 0, none⟩) tn M.km) ∧ (W9.setCell ⟨gs, 6, none⟩ (.slice A9 (es.length + 1) k9)).cell? ⟨M.gm, t, none⟩ = some (.slice (some ⟨g, 0, none⟩) tn (M.kc t)) ∧ (W9.setCell ⟨gs, 6, none⟩ (.slice A9 (es.length + 1) k9)).cell? ⟨gi, 0, none⟩ = some (.int .i64 3) ∧ (W9.setCell ⟨gs, 6, none⟩ (.slice A9 (es.length + 1) k9)).cell? ⟨gi, 2, none⟩ = some (.int .i64 adn) := by
            obtain ⟨z0, z1, z2, z3⟩ := hS4
            have hne1 : M.gm ≠ gs := HRG.out.mi.nb HGG.out (by decide)
            refine ⟨(World.cell?_setCell_other _ _ _ _ (by simp)).trans z0, (World.cell?_setCell_other _ _ _ _ (by simp [hne1])).trans z1, (World.cell?_setCell_other _ _ _ _ (by simp)).trans z2, (World.cell?_setCell_other _ _ _ _ (by simp)).trans z3⟩
          refine hK5.out _ _ hS5 (fun _ => ?_)
          refine wpAnyH_done (by kernel_rfl) ?_ _
          have hRA := HRw2.out.on (W' := V1.alloc (.cells #[.int .i64 t, .int .i64 3, .int .i64 adn, .bool true, .slice (some ⟨g2, 0, none⟩) tn k2] 122)) ((Below.refl _ _).alloc (Nat.le_refl _) _)
          have hRw9 : Rw W9 g2 3 1 tn k2 (ints (clkL tn (ckAt (es ++ [⟨t, 3, adn, true⟩]) es.length))) := by
            rw [ckAt_snoc]
            exact hRA.gb hg9 (own_nr (HEv6.out.below hbA) hRA (by decide))
          have hEnd := ((HRG.out.event (e := ⟨t, 3, adn, true⟩) rfl hRw9 (HRG.out.fresh hg2D) (Nat.le_trans HRG.out.bs hg2D) (by rw [show RM.vE { M with ws := M.ws.set adn (gq, kq) } = M.vE from rfl, HvE.out]; exact hgg) hown9).head hG9 6 (.slice A9 (es.length + 1) k9))
          have HEnd := Lib.hid hEnd
          have HGe : Hid (Blk (W9.setCell ⟨gs, 6, none⟩ (.slice A9 (es.length + 1) k9)) gs 116 (rsL { { M with ws := M.ws.set adn (gq, kq) } with vE := .slice A9 (es.length + 1) k9, cs := RM.cs { M with ws := M.ws.set adn (gq, kq) } ++ [(g2, k2)] } tn wn)) := hG9.set_ 6 _
          have HWe : Hid (Below B w (W9.setCell ⟨gs, 6, none⟩ (.slice A9 (es.length + 1) k9))) := (HWG.out.grown hgg HRG.out.bs (fun q hq => (HEv6.out.lt q hq).1)).setCell hgs _
          clear hEnd d0 df hS5 hS4 hRA hRw9 hown9 hg9 hgg hG9 hbA
          go_wp2_with fail
          go_ret
          exact Rt27R.loud HPe.out HE.out HWe.out HGe.out (by rw [← HS5.out]; exact HEnd.out) rfl
        · rw [if_pos (by rfl)]
          go_simp
          have hbA := HV1b.out.alloc HV1b.out.size (.cells #[.int .i64 t, .int .i64 3, .int .i64 adn, .bool true, .slice (some ⟨g2, 0, none⟩) tn k2] 122)
          refine hK2.out _ _ (HSo.out _ (gb_below hbA _)) (fun hS2 => ?_)
          refine wpAnyH_ready (rs := [4]) (by kernel_rfl) (by simp) (AllReadyH.cons rfl (fun K3 hK3 => ?_) (AllReadyH.nil))
          have s6 : (V1.alloc (.cells #[.int .i64 t, .int .i64 3, .int .i64 adn, .bool true, .slice (some ⟨g2, 0, none⟩) tn k2] 122)).cell? ⟨gs, 6, none⟩ = some (.slice vA es.length vk) := (hbA.cell (p := ⟨gs, 6, none⟩) HGG.out.lt).trans HE6.out
          rw [if_pos (by rfl)]
          go_simp
          clear s6
          refine hK3.out _ _ (HSo.out _ (gb_below hbA _)) (fun hS3 => ?_)
          refine wpAnyH_ready (rs := [22]) (by kernel_rfl) (by simp) (AllReadyH.cons rfl (fun K4 hK4 => ?_) (AllReadyH.nil))
          refine step_app _ (by rfl) _ _ 114 (by rfl) B 122 ie (.agg #[.int .i64 0, .int .i64 0, .int .i64 0, .bool false, .slice none 0 0]) 5 56 Try.underlying114 hie hiez hies hieb rfl (by decide) (.slice vA es.length vk) es.length (evcV tn es M.cs) (by rfl) (HEv6.out.below hbA) (V1.heap.size + 1) (some ⟨V1.heap.size, 0, none⟩) 1 1 [.int .i64 t, .int .i64 3, .int .i64 adn, .bool true, .slice (some ⟨g2, 0, none⟩) tn k2] (by rfl) (((Blk.new V1 122 _).sl rfl).up (by simp)) (evc_one _ _ _ _ _ _ _) (es.length + 1) rfl _ rfl _ rfl (by simp only [maxLen]; omega) (by omega) (by have := HV1b.out.size; have := HRG.out.bs; rw [World.size_alloc]; omega) ?_
          intro A9 k9 W9 hown9 hg9 hat9 hk91 hk92
          have hgg := (gb_below hbA (Value.slice vA es.length vk).ownBlock).trans hg9
          have hG9 := HGG.out.grown hgg HEb.out
          have d0 : W9.cell? ⟨gs, 6, none⟩ = some (.slice vA es.length vk) := by rw [← HvE.out]; exact hG9.cell rfl
          have df := hG9.frozen 6
          refine hK4.out _ _ (HSo.out _ hgg) (fun hS4 => ?_)
          refine wpAnyH_take (i := 23) (v := .pointer (some ⟨gs, 0, none⟩)) rfl (by kernel_rfl) (by kernel_rfl) (by kernel_rfl) (fun _ _ _ h => h) (Or.inl ⟨by rfl, ?_⟩) (hS4) ?_
          · (intro W hSw; (try dsimp only at hSw); go_simp)
          show wpAnyH _ _ _ _ _ _ _ (Act.put _ (some 158) _) _
          simp only [Act.put, List.setIfInBounds_toArray, List.set_cons_zero, List.set_cons_succ]
          refine wpAnyH_take (i := 24) (v := .pointer (some ⟨gs, 6, none⟩)) rfl (by kernel_rfl) (by kernel_rfl) (by kernel_rfl) (fun _ _ _ h => h) (Or.inl ⟨by rfl, ?_⟩) (hS4) ?_
          · (intro W hSw; (try dsimp only at hSw); go_simp)
          show wpAnyH _ _ _ _ _ _ _ (Act.put _ (some 159) _) _
          simp only [Act.put, List.setIfInBounds_toArray, List.set_cons_zero, List.set_cons_succ]
          refine wpAnyH_ready (rs := [25]) (by kernel_rfl) (by simp) (AllReadyH.cons rfl (fun K5 hK5 => ?_) (AllReadyH.nil))
          rw [if_pos (by rfl)]
          go_simp
          have hS5 : (W9.setCell ⟨gs, 6, none⟩ (.slice A9 (es.length + 1) k9)).cell? ⟨gs, 4, none⟩ = some (.slice (some ⟨M.gm, 0, none⟩) tn M.km) ∧ (W9.setCell ⟨gs, 6, none⟩ (.slice A9 (es.length + 1) k9)).cell? ⟨M.gm, t, none⟩ = some (.slice (some ⟨g, 0, none⟩) tn (M.kc t)) ∧ (W9.setCell ⟨gs, 6, none⟩ (.slice A9 (es.length + 1) k9)).cell? ⟨gi, 0, none⟩ = some (.int .i64 3) ∧ (W9.setCell ⟨gs, 6, none⟩ (.slice A9 (es.length + 1) k9)).cell? ⟨gi, 2, none⟩ = some (.int .i64 adn) := by
            obtain ⟨z0, z1, z2, z3⟩ := hS4
            have hne1 : M.gm ≠ gs := HRG.out.mi.nb HGG.out (by decide)
            refine ⟨(World.cell?_setCell_other _ _ _ _ (by simp)).trans z0, (World.cell?_setCell_other _ _ _ _ (by simp [hne1])).trans z1, (World.cell?_setCell_other _ _ _ _ (by simp)).trans z2, (World.cell?_setCell_other _ _ _ _ (by simp)).trans z3⟩
          refine hK5.out _ _ hS5 (fun _ => ?_)
          refine wpAnyH_done (by kernel_rfl) ?_ _
          have hRA := HRw2.out.on (W' := V1.alloc (.cells #[.int .i64 t, .int .i64 3, .int .i64 adn, .bool true, .slice (some ⟨g2, 0, none⟩) tn k2] 122)) ((Below.refl _ _).alloc (Nat.le_refl _) _)
          have hRw9 : Rw W9 g2 3 1 tn k2 (ints (clkL tn (ckAt (es ++ [⟨t, 3, adn, true⟩]) es.length))) := by
            rw [ckAt_snoc]
            exact hRA.gb hg9 (own_nr (HEv6.out.below hbA) hRA (by decide))
          have hEnd := ((HRG.out.event (e := ⟨t, 3, adn, true⟩) rfl hRw9 (HRG.out.fresh hg2D) (Nat.le_trans HRG.out.bs hg2D) (by rw [show RM.vE { M with ws := M.ws.set adn (gq, kq) } = M.vE from rfl, HvE.out]; exact hgg) hown9).head hG9 6 (.slice A9 (es.length + 1) k9))
          have HEnd := Lib.hid hEnd
          have HGe : Hid (Blk (W9.setCell ⟨gs, 6, none⟩ (.slice A9 (es.length + 1) k9)) gs 116 (rsL { { M with ws := M.ws.set adn (gq, kq) } with vE := .slice A9 (es.length + 1) k9, cs := RM.cs { M with ws := M.ws.set adn (gq, kq) } ++ [(g2, k2)] } tn wn)) := hG9.set_ 6 _
          have HWe : Hid (Below B w (W9.setCell ⟨gs, 6, none⟩ (.slice A9 (es.length + 1) k9))) := (HWG.out.grown hgg HRG.out.bs (fun q hq => (HEv6.out.lt q hq).1)).setCell hgs _
          clear hEnd d0 df hS5 hS4 hRA hRw9 hown9 hg9 hgg hG9 hbA
          go_wp2_with fail
          go_ret
          exact Rt27R.loud HPe.out HE.out HWe.out HGe.out (by rw [← HS5.out]; exact HEnd.out) rfl
    · have HW1 : Hid (decide (S5.r t rgn = 1) = false) := Lib.hid (by simpa using hw1)
      clear hw1
      have HE : Hid (evOf ⟨wA, wn, wk, ws, some ⟨tb, to', none⟩, tn, tk, th⟩ S ⟨t, false, ua⟩ = some ⟨t, 3, adn, false⟩) := by rw [HEv.out]; show some (Ev.mk t 3 adn (decide (S5.r t rgn = 1))) = _; rw [HW1.out]
      have q3 : (S5.r t rgn == 1) = false := HW1.out
      have s1 : C.cell? ⟨gs, 1, none⟩ = some (.slice (some ⟨M.h.gr, 0, none⟩) tn M.h.kr) := HGC.out.cell rfl
      have rc : C.cell? ⟨M.h.gr, t * 4 + rgn, none⟩ = some (.int .i64 (S5.r t rgn)) := HRC.out.st.reg (LS.r_at (S := S5) (t := t) (q := rgn) (by rw [HRC.out.st.rlen]; omega))
      have i1 : C.cell? ⟨gi, 1, none⟩ = some (.int .i64 rgn) := HIC.out.cell rfl
      go_upto_region 10 with fail
      go_quiet (fail)
      clear s1 rc i1 q3
      obtain ⟨D, hZ, hbZ⟩ : ∃ Z9, Z9 = C.drewN nq ∧ Below C.heap.size C Z9 := ⟨_, rfl, (Below.refl _ _).drewN _⟩
      rw [← hZ]
      have HRD := Lib.hid (HRC.out.on hbZ)
      have HGD := Lib.hid (HGC.out.below hbZ HGC.out.lt)
      have HID := Lib.hid (HIC.out.below hbZ HIC.out.lt)
      have HWD := Lib.hid (HWC.out.trans (hbZ.mono HRC.out.bs))
      clear hZ hbZ HRC HGC HIC HWC
      have s4 : D.cell? ⟨gs, 4, none⟩ = some (.slice (some ⟨M.gm, 0, none⟩) tn M.km) := HGD.out.cell rfl
      have m1 : D.cell? ⟨M.gm, t, none⟩ = some (.slice (some ⟨g, 0, none⟩) tn (M.kc t)) := HRD.out.mi.cell (mhV_get HMg.out)
      have cg : D.cell? ⟨g, t, none⟩ = some (.int .i64 ((xAt es).m t t)) := (HRD.out.mr t g HMg.out).2.cell (clkV_get hlt)
      have cf := (HRD.out.mr t g HMg.out).2.frozen t
      go_upto_region 12 with fail
      have hgW : D.grownBy (D.setCell ⟨g, t, none⟩ (.int .i64 (wrap64 ((xAt es).m t t + 1)))) (some g) := gb_setCell (World.grownBy.refl _ _) _ _
      have hBl := (HRD.out.mr t g HMg.out).2.set_ t (.int .i64 (wrap64 ((xAt es).m t t + 1)))
      rw [bumpW_set2] at hBl
      obtain ⟨E, hZ, HRE, HGE, HIE, HWE⟩ : ∃ Z9, Z9 = D.setCell ⟨g, t, none⟩ (.int .i64 (wrap64 ((xAt es).m t t + 1))) ∧ Hid (RSB Z9 B tn wn S5 ((xAt es).own t (bumpW ((xAt es).m t) t)) es M) ∧ Hid (Blk Z9 gs 116 (rsL M tn wn)) ∧ Hid (Blk Z9 gi 204 [.int .i64 3, .int .i64 rgn, .int .i64 adn, .int .i64 vl, .int .i64 sr, .int .i64 od, .int .i64 ct]) ∧ Hid (Below B w Z9) :=
        ⟨_, rfl, HRD.out.mine HMg.out hgW hBl, HGD.out.far (((HRD.out.mr t g HMg.out).2.nb HGD.out (by decide)).symm) _, HID.out.far (((HRD.out.mr t g HMg.out).2.nb HID.out (by decide)).symm) _, HWD.out.setCell (HRD.out.mr t g HMg.out).1 _⟩
      rw [← hZ]
      clear hZ hgW hBl s4 m1 cg cf HRD HGD HID HWD
      have s4 : E.cell? ⟨gs, 4, none⟩ = some (.slice (some ⟨M.gm, 0, none⟩) tn M.km) := HGE.out.cell rfl
      have m1 : E.cell? ⟨M.gm, t, none⟩ = some (.slice (some ⟨g, 0, none⟩) tn (M.kc t)) := HRE.out.mi.cell (mhV_get HMg.out)
      have s5 : E.cell? ⟨gs, 5, none⟩ = some (.slice (some ⟨M.gd, 0, none⟩) wn M.kd) := HGE.out.cell rfl
      have i2 : E.cell? ⟨gi, 2, none⟩ = some (.int .i64 adn) := HIE.out.cell rfl
      have p1 : E.cell? ⟨M.gd, adn, none⟩ = some (sl1 tn (pg, pk)) := HRE.out.wi.cell (by unfold whV; rw [List.getElem?_map, HPg.out]; rfl)
      have HSo : Hid (∀ W, E.grownBy W (some g) → W.cell? ⟨gs, 4, none⟩ = some (.slice (some ⟨M.gm, 0, none⟩) tn M.km) ∧ W.cell? ⟨M.gm, t, none⟩ = some (.slice (some ⟨g, 0, none⟩) tn (M.kc t)) ∧ W.cell? ⟨gs, 5, none⟩ = some (.slice (some ⟨M.gd, 0, none⟩) wn M.kd) ∧ W.cell? ⟨gi, 2, none⟩ = some (.int .i64 adn) ∧ W.cell? ⟨M.gd, adn, none⟩ = some (sl1 tn (pg, pk))) := fun W hW => by
        have hgr := (HRE.out.mr t g HMg.out).2
        have k : ∀ (b o : Nat) (v : Value), E.cell? ⟨b, o, none⟩ = some v → b ≠ g → W.cell? ⟨b, o, none⟩ = some v := fun b o v hv hne => by
          have hlt9 := World.block_lt_of_cell? E _ hv
          have hkk9 := hW.block b hlt9 (by simpa using hne)
          unfold World.cell? at hv ⊢
          dsimp only at hv ⊢
          rw [hkk9]
          exact hv
        have g1 : gs ≠ g := (hgr.nb HGE.out (by decide)).symm
        exact ⟨k _ _ _ s4 g1, k _ _ _ m1 (HRE.out.mi.nt hgr (by decide)), k _ _ _ s5 g1, k _ _ _ i2 (hgr.nb HIE.out (by decide)).symm, k _ _ _ p1 (HRE.out.wi.nt hgr (by decide))⟩
      go_upto_region 13 with fail
      refine wp_region_held_drew (S := fun W => W.cell? ⟨gs, 4, none⟩ = some (.slice (some ⟨M.gm, 0, none⟩) tn M.km) ∧ W.cell? ⟨M.gm, t, none⟩ = some (.slice (some ⟨g, 0, none⟩) tn (M.kc t)) ∧ W.cell? ⟨gs, 5, none⟩ = some (.slice (some ⟨M.gd, 0, none⟩) wn M.kd) ∧ W.cell? ⟨gi, 2, none⟩ = some (.int .i64 adn) ∧ W.cell? ⟨M.gd, adn, none⟩ = some (sl1 tn (pg, pk))) (by kernel_rfl) (HSo.out _ (gb_below (Below.refl _ _).drew _)) (fun hS => ?_)
      refine wpAnyH_take (i := 0) (v := .pointer (some ⟨gs, 0, none⟩)) rfl (by kernel_rfl) (by kernel_rfl) (by kernel_rfl) (fun _ _ _ h => h) (Or.inl ⟨by rfl, ?_⟩) (by assumption) ?_
      · (intro W hSw; (try dsimp only at hSw); go_simp)
      show wpAnyH _ _ _ _ _ _ _ (Act.put _ (some 103) _) _
      simp only [Act.put, List.setIfInBounds_toArray, List.set_cons_zero, List.set_cons_succ]
      refine wpAnyH_take (i := 1) (v := .pointer (some ⟨gs, 0, none⟩)) rfl (by kernel_rfl) (by kernel_rfl) (by kernel_rfl) (fun _ _ _ h => h) (Or.inl ⟨by rfl, ?_⟩) (by assumption) ?_
      · (intro W hSw; (try dsimp only at hSw); go_simp)
      show wpAnyH _ _ _ _ _ _ _ (Act.put _ (some 104) _) _
      simp only [Act.put, List.setIfInBounds_toArray, List.set_cons_zero, List.set_cons_succ]
      refine wpAnyH_take (i := 2) (v := .pointer (some ⟨gs, 4, none⟩)) rfl (by kernel_rfl) (by kernel_rfl) (by kernel_rfl) (fun _ _ _ h => h) (Or.inl ⟨by rfl, ?_⟩) (by assumption) ?_
      · (intro W hSw; (try dsimp only at hSw); go_simp)
      show wpAnyH _ _ _ _ _ _ _ (Act.put _ (some 105) _) _
      simp only [Act.put, List.setIfInBounds_toArray, List.set_cons_zero, List.set_cons_succ]
      refine wpAnyH_take (i := 3) (v := .slice (some ⟨M.gm, 0, none⟩) tn M.km) rfl (by kernel_rfl) (by kernel_rfl) (by kernel_rfl) (fun _ _ _ h => h) (Or.inl ⟨by rfl, ?_⟩) (by assumption) ?_
      · (intro W hSw; (try dsimp only at hSw); go_simp)
      show wpAnyH _ _ _ _ _ _ _ (Act.put _ (some 106) _) _
      simp only [Act.put, List.setIfInBounds_toArray, List.set_cons_zero, List.set_cons_succ]
      refine wpAnyH_take (i := 4) (v := .int .i64 t) rfl (by kernel_rfl) (by kernel_rfl) (by kernel_rfl) (fun _ _ _ h => h) (Or.inl ⟨by rfl, ?_⟩) (by assumption) ?_
      · (intro W hSw; (try dsimp only at hSw); go_simp)
      show wpAnyH _ _ _ _ _ _ _ (Act.put _ (some 107) _) _
      simp only [Act.put, List.setIfInBounds_toArray, List.set_cons_zero, List.set_cons_succ]
      refine wpAnyH_take (i := 5) (v := .pointer (some ⟨M.gm, t, none⟩)) rfl (by kernel_rfl) (by kernel_rfl) (by kernel_rfl) (fun _ _ _ h => h) (Or.inl ⟨by rfl, ?_⟩) (by assumption) ?_
      · (intro W hSw; (try dsimp only at hSw); go_simp)
      show wpAnyH _ _ _ _ _ _ _ (Act.put _ (some 108) _) _
      simp only [Act.put, List.setIfInBounds_toArray, List.set_cons_zero, List.set_cons_succ]
      refine wpAnyH_take (i := 6) (v := .slice (some ⟨g, 0, none⟩) tn (M.kc t)) rfl (by kernel_rfl) (by kernel_rfl) (by kernel_rfl) (fun _ _ _ h => h) (Or.inl ⟨by rfl, ?_⟩) (by assumption) ?_
      · (intro W hSw; (try dsimp only at hSw); go_simp)
      show wpAnyH _ _ _ _ _ _ _ (Act.put _ (some 109) _) _
      simp only [Act.put, List.setIfInBounds_toArray, List.set_cons_zero, List.set_cons_succ]
      refine wpAnyH_take (i := 7) (v := .pointer (some ⟨gs, 0, none⟩)) rfl (by kernel_rfl) (by kernel_rfl) (by kernel_rfl) (fun _ _ _ h => h) (Or.inl ⟨by rfl, ?_⟩) (by assumption) ?_
      · (intro W hSw; (try dsimp only at hSw); go_simp)
      show wpAnyH _ _ _ _ _ _ _ (Act.put _ (some 110) _) _
      simp only [Act.put, List.setIfInBounds_toArray, List.set_cons_zero, List.set_cons_succ]
      refine wpAnyH_take (i := 8) (v := .pointer (some ⟨gs, 0, none⟩)) rfl (by kernel_rfl) (by kernel_rfl) (by kernel_rfl) (fun _ _ _ h => h) (Or.inl ⟨by rfl, ?_⟩) (by assumption) ?_
      · (intro W hSw; (try dsimp only at hSw); go_simp)
      show wpAnyH _ _ _ _ _ _ _ (Act.put _ (some 111) _) _
      simp only [Act.put, List.setIfInBounds_toArray, List.set_cons_zero, List.set_cons_succ]
      refine wpAnyH_take (i := 9) (v := .pointer (some ⟨gs, 5, none⟩)) rfl (by kernel_rfl) (by kernel_rfl) (by kernel_rfl) (fun _ _ _ h => h) (Or.inl ⟨by rfl, ?_⟩) (by assumption) ?_
      · (intro W hSw; (try dsimp only at hSw); go_simp)
      show wpAnyH _ _ _ _ _ _ _ (Act.put _ (some 112) _) _
      simp only [Act.put, List.setIfInBounds_toArray, List.set_cons_zero, List.set_cons_succ]
      refine wpAnyH_take (i := 10) (v := .slice (some ⟨M.gd, 0, none⟩) wn M.kd) rfl (by kernel_rfl) (by kernel_rfl) (by kernel_rfl) (fun _ _ _ h => h) (Or.inl ⟨by rfl, ?_⟩) (by assumption) ?_
      · (intro W hSw; (try dsimp only at hSw); go_simp)
      show wpAnyH _ _ _ _ _ _ _ (Act.put _ (some 113) _) _
      simp only [Act.put, List.setIfInBounds_toArray, List.set_cons_zero, List.set_cons_succ]
      refine wpAnyH_take (i := 11) (v := .pointer (some ⟨gi, 2, none⟩)) rfl (by kernel_rfl) (by kernel_rfl) (by kernel_rfl) (fun _ _ _ h => h) (Or.inl ⟨by rfl, ?_⟩) (by assumption) ?_
      · (intro W hSw; (try dsimp only at hSw); go_simp)
      show wpAnyH _ _ _ _ _ _ _ (Act.put _ (some 114) _) _
      simp only [Act.put, List.setIfInBounds_toArray, List.set_cons_zero, List.set_cons_succ]
      refine wpAnyH_take (i := 12) (v := .int .i64 adn) rfl (by kernel_rfl) (by kernel_rfl) (by kernel_rfl) (fun _ _ _ h => h) (Or.inl ⟨by rfl, ?_⟩) (by assumption) ?_
      · (intro W hSw; (try dsimp only at hSw); go_simp)
      show wpAnyH _ _ _ _ _ _ _ (Act.put _ (some 115) _) _
      simp only [Act.put, List.setIfInBounds_toArray, List.set_cons_zero, List.set_cons_succ]
      refine wpAnyH_take (i := 13) (v := .pointer (some ⟨M.gd, adn, none⟩)) rfl (by kernel_rfl) (by kernel_rfl) (by kernel_rfl) (fun _ _ _ h => h) (Or.inl ⟨by rfl, ?_⟩) (by assumption) ?_
      · (intro W hSw; (try dsimp only at hSw); go_simp)
      show wpAnyH _ _ _ _ _ _ _ (Act.put _ (some 116) _) _
      simp only [Act.put, List.setIfInBounds_toArray, List.set_cons_zero, List.set_cons_succ]
      refine wpAnyH_take (i := 14) (v := .slice (some ⟨pg, 0, none⟩) tn pk) rfl (by kernel_rfl) (by kernel_rfl) (by kernel_rfl) (fun _ _ _ h => h) (Or.inl ⟨by rfl, ?_⟩) (by assumption) ?_
      · (intro W hSw; (try dsimp only at hSw); go_simp)
      show wpAnyH _ _ _ _ _ _ _ (Act.put _ (some 117) _) _
      simp only [Act.put, List.setIfInBounds_toArray, List.set_cons_zero, List.set_cons_succ]
      refine wpAnyH_ready (rs := [15]) (by kernel_rfl) (by simp) (AllReadyH.cons rfl (fun K1 hK1 => ?_) (AllReadyH.nil))
      rw [if_pos (by rfl)]
      go_simp
      go_at_call 63
      have hgrE := (HRE.out.mr t g HMg.out).2
      have hpgE := HRE.out.wr adn (pg, pk) HPg.out
      have hne9 : pg ≠ g := fun e => hpgE.1 (e ▸ mut_ms HMg.out)
      refine (rraise_cap g (((xAt es).own t (bumpW ((xAt es).m t) t)).m t) (((xAt es).own t (bumpW ((xAt es).m t) t)).wd adn) (some ⟨pg, 0, none⟩) tn pk (M.kc t) E.drew hgrE hpgE.2.sl (fun b o h9 => by injection h9 with h9; injection h9 with h9; rw [← h9]; exact hne9) (by simp only [maxLen]; omega)).mono ?_
      rintro e F ⟨rfl, hgF, hBF⟩
      have hgF2 : E.grownBy F (some g) := (gb_below (Below.refl _ _).drew _).trans hgF
      have hRF := HRE.out.mine HMg.out hgF2 hBF
      rw [own_own, own_m] at hRF
      have HRF : Hid (RSB F B tn wn S5 ((xAt es).own t (tickM (xAt es) ⟨t, 3, adn, false⟩)) es M) := by rw [tickM_sw (e := ⟨t, 3, adn, false⟩) rfl]; exact hRF
      have HGF := Lib.hid (HGE.out.grown hgF2 (by intro e; injection e with e; exact hgrE.nb HGE.out (by decide) e.symm))
      have HIF := Lib.hid (HIE.out.grown hgF2 (by intro e; injection e with e; exact hgrE.nb HIE.out (by decide) e.symm))
      have HWF := Lib.hid (HWE.out.grown hgF2 HRE.out.bs (fun q hq => by injection hq with hq; rw [← hq]; exact (HRE.out.mr t g HMg.out).1))
      refine hK1.out _ _ (HSo.out _ hgF2) (fun _ => ?_)
      refine wpAnyH_done (by kernel_rfl) ?_ _
      clear hgrE hpgE hne9 hgF hBF hgF2 hRF hS HSo s4 m1 s5 i2 p1 HRE HGE HIE HWE
      replace HRF : Hid (RSB F B tn wn S5 (tickS (xAt es) ⟨t, 3, adn, false⟩) es M) := by rw [← tick_sw0 (x := xAt es) (e := ⟨t, 3, adn, false⟩) rfl]; exact HRF
      have s4 : F.cell? ⟨gs, 4, none⟩ = some (.slice (some ⟨M.gm, 0, none⟩) tn M.km) := HGF.out.cell rfl
      have m1 : F.cell? ⟨M.gm, t, none⟩ = some (.slice (some ⟨g, 0, none⟩) tn (M.kc t)) := HRF.out.mi.cell (mhV_get HMg.out)
      have i0 : F.cell? ⟨gi, 0, none⟩ = some (.int .i64 3) := HIF.out.cell rfl
      have i2 : F.cell? ⟨gi, 2, none⟩ = some (.int .i64 adn) := HIF.out.cell rfl
      obtain ⟨vA, vk, hvE, hvk1, hvk2⟩ := own_form HRF.out.ev
      have HvE : Hid (M.vE = .slice vA es.length vk) := Lib.hid hvE
      clear hvE
      have HE6 : Hid (F.cell? ⟨gs, 6, none⟩ = some (.slice vA es.length vk)) := by rw [← HvE.out]; exact HGF.out.cell rfl
      have HEv6 : Hid (F.ownsRow B 122 5 (.slice vA es.length vk) es.length (evcV tn es M.cs)) := by rw [← HvE.out]; exact HRF.out.ev
      have HEb : Hid (some gs ≠ (Value.slice vA es.length vk).ownBlock) := own_nb HEv6.out HGF.out (by decide)
      have hiD := HIF.out.lt
      have hgD := HGF.out.lt
      have HSo : Hid (∀ W, F.grownBy W (Value.slice vA es.length vk).ownBlock → W.cell? ⟨gs, 4, none⟩ = some (.slice (some ⟨M.gm, 0, none⟩) tn M.km) ∧ W.cell? ⟨M.gm, t, none⟩ = some (.slice (some ⟨g, 0, none⟩) tn (M.kc t)) ∧ W.cell? ⟨gi, 0, none⟩ = some (.int .i64 3) ∧ W.cell? ⟨gi, 2, none⟩ = some (.int .i64 adn)) := fun W hW => by
        have e1 := own_nr HEv6.out HRF.out.mi (by decide)
        have e2 := own_nb HEv6.out HIF.out (by decide)
        have k : ∀ (b o : Nat) (v : Value), F.cell? ⟨b, o, none⟩ = some v → some b ≠ (Value.slice vA es.length vk).ownBlock → W.cell? ⟨b, o, none⟩ = some v := fun b o v hv hne => by
          have hlt9 := World.block_lt_of_cell? F _ hv
          have hkk9 := hW.block b hlt9 hne
          unfold World.cell? at hv ⊢
          dsimp only at hv ⊢
          rw [hkk9]
          exact hv
        exact ⟨k _ _ _ s4 HEb.out, k _ _ _ m1 e1, k _ _ _ i0 e2, k _ _ _ i2 e2⟩
      have HTw : Hid (∀ V : World, Below F.heap.size F V → Calls Try.prog 65 #[.slice (some ⟨g, 0, none⟩) tn (M.kc t)] V (CopyR (clkL tn (tickM (xAt es) ⟨t, 3, adn, false⟩)) tn V)) := fun V hV => by
        refine twin27_any _ _ tn _ V ?_ (by omega)
        have h9 := ((HRF.out.mr t g HMg.out).2.on hV).sl
        rwa [show (tickS (xAt es) ⟨t, 3, adn, false⟩).m t = tickM (xAt es) ⟨t, 3, adn, false⟩ from tickS_m _ _] at h9
      go_upto_region 16 with fail
      refine wp_region_held_drew (S := fun W => W.cell? ⟨gs, 4, none⟩ = some (.slice (some ⟨M.gm, 0, none⟩) tn M.km) ∧ W.cell? ⟨M.gm, t, none⟩ = some (.slice (some ⟨g, 0, none⟩) tn (M.kc t)) ∧ W.cell? ⟨gi, 0, none⟩ = some (.int .i64 3) ∧ W.cell? ⟨gi, 2, none⟩ = some (.int .i64 adn)) (by kernel_rfl) (HSo.out _ (gb_below (Below.refl _ _).drew _)) (fun hS => ?_)
      refine wpAnyH_take (i := 0) (v := .pointer (some ⟨gs, 0, none⟩)) rfl (by kernel_rfl) (by kernel_rfl) (by kernel_rfl) (fun _ _ _ h => h) (Or.inl ⟨by rfl, ?_⟩) (by assumption) ?_
      · (intro W hSw; (try dsimp only at hSw); go_simp)
      show wpAnyH _ _ _ _ _ _ _ (Act.put _ (some 135) _) _
      simp only [Act.put, List.setIfInBounds_toArray, List.set_cons_zero, List.set_cons_succ]
      refine wpAnyH_take (i := 1) (v := .pointer (some ⟨gs, 0, none⟩)) rfl (by kernel_rfl) (by kernel_rfl) (by kernel_rfl) (fun _ _ _ h => h) (Or.inl ⟨by rfl, ?_⟩) (by assumption) ?_
      · (intro W hSw; (try dsimp only at hSw); go_simp)
      show wpAnyH _ _ _ _ _ _ _ (Act.put _ (some 136) _) _
      simp only [Act.put, List.setIfInBounds_toArray, List.set_cons_zero, List.set_cons_succ]
      refine wpAnyH_take (i := 2) (v := .pointer (some ⟨gs, 0, none⟩)) rfl (by kernel_rfl) (by kernel_rfl) (by kernel_rfl) (fun _ _ _ h => h) (Or.inl ⟨by rfl, ?_⟩) (by assumption) ?_
      · (intro W hSw; (try dsimp only at hSw); go_simp)
      show wpAnyH _ _ _ _ _ _ _ (Act.put _ (some 137) _) _
      simp only [Act.put, List.setIfInBounds_toArray, List.set_cons_zero, List.set_cons_succ]
      refine wpAnyH_take (i := 3) (v := .pointer (some ⟨gs, 6, none⟩)) rfl (by kernel_rfl) (by kernel_rfl) (by kernel_rfl) (fun _ _ _ h => h) (Or.inl ⟨by rfl, ?_⟩) (by assumption) ?_
      · (intro W hSw; (try dsimp only at hSw); go_simp)
      show wpAnyH _ _ _ _ _ _ _ (Act.put _ (some 138) _) _
      simp only [Act.put, List.setIfInBounds_toArray, List.set_cons_zero, List.set_cons_succ]
      refine wpAnyH_take (i := 5) (v := .int .i64 t) rfl (by kernel_rfl) (by kernel_rfl) (by kernel_rfl) (fun _ _ _ h => h) (Or.inl ⟨by rfl, ?_⟩) (by assumption) ?_
      · (intro W hSw; (try dsimp only at hSw); go_simp)
      show wpAnyH _ _ _ _ _ _ _ (Act.put _ (some 140) _) _
      simp only [Act.put, List.setIfInBounds_toArray, List.set_cons_zero, List.set_cons_succ]
      refine wpAnyH_take (i := 6) (v := .pointer (some ⟨gi, 0, none⟩)) rfl (by kernel_rfl) (by kernel_rfl) (by kernel_rfl) (fun _ _ _ h => h) (Or.inl ⟨by rfl, ?_⟩) (by assumption) ?_
      · (intro W hSw; (try dsimp only at hSw); go_simp)
      show wpAnyH _ _ _ _ _ _ _ (Act.put _ (some 141) _) _
      simp only [Act.put, List.setIfInBounds_toArray, List.set_cons_zero, List.set_cons_succ]
      refine wpAnyH_take (i := 7) (v := .int .i64 3) rfl (by kernel_rfl) (by kernel_rfl) (by kernel_rfl) (fun _ _ _ h => h) (Or.inl ⟨by rfl, ?_⟩) (by assumption) ?_
      · (intro W hSw; (try dsimp only at hSw); go_simp)
      show wpAnyH _ _ _ _ _ _ _ (Act.put _ (some 142) _) _
      simp only [Act.put, List.setIfInBounds_toArray, List.set_cons_zero, List.set_cons_succ]
      refine wpAnyH_take (i := 8) (v := .pointer (some ⟨gi, 2, none⟩)) rfl (by kernel_rfl) (by kernel_rfl) (by kernel_rfl) (fun _ _ _ h => h) (Or.inl ⟨by rfl, ?_⟩) (by assumption) ?_
      · (intro W hSw; (try dsimp only at hSw); go_simp)
      show wpAnyH _ _ _ _ _ _ _ (Act.put _ (some 143) _) _
      simp only [Act.put, List.setIfInBounds_toArray, List.set_cons_zero, List.set_cons_succ]
      refine wpAnyH_take (i := 9) (v := .int .i64 adn) rfl (by kernel_rfl) (by kernel_rfl) (by kernel_rfl) (fun _ _ _ h => h) (Or.inl ⟨by rfl, ?_⟩) (by assumption) ?_
      · (intro W hSw; (try dsimp only at hSw); go_simp)
      show wpAnyH _ _ _ _ _ _ _ (Act.put _ (some 144) _) _
      simp only [Act.put, List.setIfInBounds_toArray, List.set_cons_zero, List.set_cons_succ]
      refine wpAnyH_take (i := 10) (v := .bool false) rfl (by kernel_rfl) (by kernel_rfl) (by kernel_rfl) (fun _ _ _ h => h) (Or.inl ⟨by rfl, ?_⟩) (by assumption) ?_
      · (intro W hSw; (try dsimp only at hSw); go_simp)
      show wpAnyH _ _ _ _ _ _ _ (Act.put _ (some 145) _) _
      simp only [Act.put, List.setIfInBounds_toArray, List.set_cons_zero, List.set_cons_succ]
      refine wpAnyH_take (i := 11) (v := .agg #[.int .i64 t, .int .i64 3, .int .i64 adn, .bool false]) rfl (by kernel_rfl) (by kernel_rfl) (by kernel_rfl) (fun _ _ _ h => h) (Or.inl ⟨by rfl, ?_⟩) (by assumption) ?_
      · (intro W hSw; (try dsimp only at hSw); go_simp)
      show wpAnyH _ _ _ _ _ _ _ (Act.put _ (some 146) _) _
      simp only [Act.put, List.setIfInBounds_toArray, List.set_cons_zero, List.set_cons_succ]
      refine wpAnyH_take (i := 12) (v := .pointer (some ⟨gs, 0, none⟩)) rfl (by kernel_rfl) (by kernel_rfl) (by kernel_rfl) (fun _ _ _ h => h) (Or.inl ⟨by rfl, ?_⟩) (by assumption) ?_
      · (intro W hSw; (try dsimp only at hSw); go_simp)
      show wpAnyH _ _ _ _ _ _ _ (Act.put _ (some 147) _) _
      simp only [Act.put, List.setIfInBounds_toArray, List.set_cons_zero, List.set_cons_succ]
      refine wpAnyH_take (i := 13) (v := .pointer (some ⟨gs, 0, none⟩)) rfl (by kernel_rfl) (by kernel_rfl) (by kernel_rfl) (fun _ _ _ h => h) (Or.inl ⟨by rfl, ?_⟩) (by assumption) ?_
      · (intro W hSw; (try dsimp only at hSw); go_simp)
      show wpAnyH _ _ _ _ _ _ _ (Act.put _ (some 148) _) _
      simp only [Act.put, List.setIfInBounds_toArray, List.set_cons_zero, List.set_cons_succ]
      refine wpAnyH_take (i := 14) (v := .pointer (some ⟨gs, 4, none⟩)) rfl (by kernel_rfl) (by kernel_rfl) (by kernel_rfl) (fun _ _ _ h => h) (Or.inl ⟨by rfl, ?_⟩) (by assumption) ?_
      · (intro W hSw; (try dsimp only at hSw); go_simp)
      show wpAnyH _ _ _ _ _ _ _ (Act.put _ (some 149) _) _
      simp only [Act.put, List.setIfInBounds_toArray, List.set_cons_zero, List.set_cons_succ]
      refine wpAnyH_take (i := 15) (v := .slice (some ⟨M.gm, 0, none⟩) tn M.km) rfl (by kernel_rfl) (by kernel_rfl) (by kernel_rfl) (fun _ _ _ h => h) (Or.inl ⟨by rfl, ?_⟩) (by assumption) ?_
      · (intro W hSw; (try dsimp only at hSw); go_simp)
      show wpAnyH _ _ _ _ _ _ _ (Act.put _ (some 150) _) _
      simp only [Act.put, List.setIfInBounds_toArray, List.set_cons_zero, List.set_cons_succ]
      refine wpAnyH_take (i := 16) (v := .int .i64 t) rfl (by kernel_rfl) (by kernel_rfl) (by kernel_rfl) (fun _ _ _ h => h) (Or.inl ⟨by rfl, ?_⟩) (by assumption) ?_
      · (intro W hSw; (try dsimp only at hSw); go_simp)
      show wpAnyH _ _ _ _ _ _ _ (Act.put _ (some 151) _) _
      simp only [Act.put, List.setIfInBounds_toArray, List.set_cons_zero, List.set_cons_succ]
      refine wpAnyH_take (i := 17) (v := .pointer (some ⟨M.gm, t, none⟩)) rfl (by kernel_rfl) (by kernel_rfl) (by kernel_rfl) (fun _ _ _ h => h) (Or.inl ⟨by rfl, ?_⟩) (by assumption) ?_
      · (intro W hSw; (try dsimp only at hSw); go_simp)
      show wpAnyH _ _ _ _ _ _ _ (Act.put _ (some 152) _) _
      simp only [Act.put, List.setIfInBounds_toArray, List.set_cons_zero, List.set_cons_succ]
      refine wpAnyH_take (i := 18) (v := .slice (some ⟨g, 0, none⟩) tn (M.kc t)) rfl (by kernel_rfl) (by kernel_rfl) (by kernel_rfl) (fun _ _ _ h => h) (Or.inl ⟨by rfl, ?_⟩) (by assumption) ?_
      · (intro W hSw; (try dsimp only at hSw); go_simp)
      show wpAnyH _ _ _ _ _ _ _ (Act.put _ (some 153) _) _
      simp only [Act.put, List.setIfInBounds_toArray, List.set_cons_zero, List.set_cons_succ]
      obtain ⟨V0, hV9, HV0b⟩ : ∃ Z9, Z9 = F.drew ∧ Hid (Below F.heap.size F Z9) := ⟨_, rfl, (Below.refl _ _).drew⟩
      rw [← hV9]
      clear hV9 s4 m1 i0 i2
      refine wpAnyH_ready (rs := [4, 19]) (by kernel_rfl) (by simp) (AllReadyH.cons rfl (fun K1 hK1 => ?_) (AllReadyH.cons rfl (fun K1 hK1 => ?_) AllReadyH.nil))
      · have s6 : V0.cell? ⟨gs, 6, none⟩ = some (.slice vA es.length vk) := (HV0b.out.cell (p := ⟨gs, 6, none⟩) HGF.out.lt).trans HE6.out
        rw [if_pos (by rfl)]
        go_simp
        clear s6
        refine hK1.out _ _ (HSo.out _ (gb_below HV0b.out _)) (fun hS1 => ?_)
        refine wpAnyH_ready (rs := [19]) (by kernel_rfl) (by simp) (AllReadyH.cons rfl (fun K2 hK2 => ?_) (AllReadyH.nil))
        rw [if_pos (by rfl)]
        go_simp
        go_at_call 65
        refine (HTw.out V0 HV0b.out).mono ?_
        rintro e V1 ⟨A2, k2, rfl, hown2, hb2, hk21, hk22⟩
        have HV1b := Lib.hid (HV0b.out.trans (hb2.mono HV0b.out.size))
        obtain ⟨g2, hg2, hg2B, hR2⟩ := Rw.of_own hown2 (by omega)
        subst hg2
        have hg2D : F.heap.size ≤ g2 := Nat.le_trans HV0b.out.size hg2B
        have HRw2 := Lib.hid hR2
        clear hown2 hb2 hR2
        refine hK2.out _ _ (HSo.out _ (gb_below HV1b.out _)) (fun hS2 => ?_)
        refine wpAnyH_take (i := 20) (v := .agg #[.int .i64 t, .int .i64 3, .int .i64 adn, .bool false, .slice (some ⟨g2, 0, none⟩) tn k2]) rfl (by kernel_rfl) (by kernel_rfl) (by kernel_rfl) (fun _ _ _ h => h) (Or.inl ⟨by rfl, ?_⟩) (hS2) ?_
        · (intro W hSw; (try dsimp only at hSw); go_simp)
        show wpAnyH _ _ _ _ _ _ _ (Act.put _ (some 155) _) _
        simp only [Act.put, List.setIfInBounds_toArray, List.set_cons_zero, List.set_cons_succ]
        refine wpAnyH_ready (rs := [21]) (by kernel_rfl) (by simp) (AllReadyH.cons rfl (fun K3 hK3 => ?_) (AllReadyH.nil))
        rw [if_pos (by rfl)]
        go_simp
        have hbA := HV1b.out.alloc HV1b.out.size (.cells #[.int .i64 t, .int .i64 3, .int .i64 adn, .bool false, .slice (some ⟨g2, 0, none⟩) tn k2] 122)
        refine hK3.out _ _ (HSo.out _ (gb_below hbA _)) (fun hS3 => ?_)
        refine wpAnyH_ready (rs := [22]) (by kernel_rfl) (by simp) (AllReadyH.cons rfl (fun K4 hK4 => ?_) (AllReadyH.nil))
        refine step_app _ (by rfl) _ _ 114 (by rfl) B 122 ie (.agg #[.int .i64 0, .int .i64 0, .int .i64 0, .bool false, .slice none 0 0]) 5 56 Try.underlying114 hie hiez hies hieb rfl (by decide) (.slice vA es.length vk) es.length (evcV tn es M.cs) (by rfl) (HEv6.out.below hbA) (V1.heap.size + 1) (some ⟨V1.heap.size, 0, none⟩) 1 1 [.int .i64 t, .int .i64 3, .int .i64 adn, .bool false, .slice (some ⟨g2, 0, none⟩) tn k2] (by rfl) (((Blk.new V1 122 _).sl rfl).up (by simp)) (evc_one _ _ _ _ _ _ _) (es.length + 1) rfl _ rfl _ rfl (by simp only [maxLen]; omega) (by omega) (by have := HV1b.out.size; have := HRF.out.bs; rw [World.size_alloc]; omega) ?_
        intro A9 k9 W9 hown9 hg9 hat9 hk91 hk92
        have hgg := (gb_below hbA (Value.slice vA es.length vk).ownBlock).trans hg9
        have hG9 := HGF.out.grown hgg HEb.out
        have d0 : W9.cell? ⟨gs, 6, none⟩ = some (.slice vA es.length vk) := by rw [← HvE.out]; exact hG9.cell rfl
        have df := hG9.frozen 6
        refine hK4.out _ _ (HSo.out _ hgg) (fun hS4 => ?_)
        refine wpAnyH_take (i := 23) (v := .pointer (some ⟨gs, 0, none⟩)) rfl (by kernel_rfl) (by kernel_rfl) (by kernel_rfl) (fun _ _ _ h => h) (Or.inl ⟨by rfl, ?_⟩) (hS4) ?_
        · (intro W hSw; (try dsimp only at hSw); go_simp)
        show wpAnyH _ _ _ _ _ _ _ (Act.put _ (some 158) _) _
        simp only [Act.put, List.setIfInBounds_toArray, List.set_cons_zero, List.set_cons_succ]
        refine wpAnyH_take (i := 24) (v := .pointer (some ⟨gs, 6, none⟩)) rfl (by kernel_rfl) (by kernel_rfl) (by kernel_rfl) (fun _ _ _ h => h) (Or.inl ⟨by rfl, ?_⟩) (hS4) ?_
        · (intro W hSw; (try dsimp only at hSw); go_simp)
        show wpAnyH _ _ _ _ _ _ _ (Act.put _ (some 159) _) _
        simp only [Act.put, List.setIfInBounds_toArray, List.set_cons_zero, List.set_cons_succ]
        refine wpAnyH_ready (rs := [25]) (by kernel_rfl) (by simp) (AllReadyH.cons rfl (fun K5 hK5 => ?_) (AllReadyH.nil))
        rw [if_pos (by rfl)]
        go_simp
        have hS5 : (W9.setCell ⟨gs, 6, none⟩ (.slice A9 (es.length + 1) k9)).cell? ⟨gs, 4, none⟩ = some (.slice (some ⟨M.gm, 0, none⟩) tn M.km) ∧ (W9.setCell ⟨gs, 6, none⟩ (.slice A9 (es.length + 1) k9)).cell? ⟨M.gm, t, none⟩ = some (.slice (some ⟨g, 0, none⟩) tn (M.kc t)) ∧ (W9.setCell ⟨gs, 6, none⟩ (.slice A9 (es.length + 1) k9)).cell? ⟨gi, 0, none⟩ = some (.int .i64 3) ∧ (W9.setCell ⟨gs, 6, none⟩ (.slice A9 (es.length + 1) k9)).cell? ⟨gi, 2, none⟩ = some (.int .i64 adn) := by
          obtain ⟨z0, z1, z2, z3⟩ := hS4
          have hne1 : M.gm ≠ gs := HRF.out.mi.nb HGF.out (by decide)
          refine ⟨(World.cell?_setCell_other _ _ _ _ (by simp)).trans z0, (World.cell?_setCell_other _ _ _ _ (by simp [hne1])).trans z1, (World.cell?_setCell_other _ _ _ _ (by simp)).trans z2, (World.cell?_setCell_other _ _ _ _ (by simp)).trans z3⟩
        refine hK5.out _ _ hS5 (fun _ => ?_)
        refine wpAnyH_done (by kernel_rfl) ?_ _
        have hRA := HRw2.out.on (W' := V1.alloc (.cells #[.int .i64 t, .int .i64 3, .int .i64 adn, .bool false, .slice (some ⟨g2, 0, none⟩) tn k2] 122)) ((Below.refl _ _).alloc (Nat.le_refl _) _)
        have hRw9 : Rw W9 g2 3 1 tn k2 (ints (clkL tn (ckAt (es ++ [⟨t, 3, adn, false⟩]) es.length))) := by
          rw [ckAt_snoc]
          exact hRA.gb hg9 (own_nr (HEv6.out.below hbA) hRA (by decide))
        have hEnd := ((HRF.out.event (e := ⟨t, 3, adn, false⟩) rfl hRw9 (HRF.out.fresh hg2D) (Nat.le_trans HRF.out.bs hg2D) (by rw [show RM.vE M = M.vE from rfl, HvE.out]; exact hgg) hown9).head hG9 6 (.slice A9 (es.length + 1) k9))
        have HEnd := Lib.hid hEnd
        have HGe : Hid (Blk (W9.setCell ⟨gs, 6, none⟩ (.slice A9 (es.length + 1) k9)) gs 116 (rsL { M with vE := .slice A9 (es.length + 1) k9, cs := RM.cs M ++ [(g2, k2)] } tn wn)) := hG9.set_ 6 _
        have HWe : Hid (Below B w (W9.setCell ⟨gs, 6, none⟩ (.slice A9 (es.length + 1) k9))) := (HWF.out.grown hgg HRF.out.bs (fun q hq => (HEv6.out.lt q hq).1)).setCell hgs _
        clear hEnd d0 df hS5 hS4 hRA hRw9 hown9 hg9 hgg hG9 hbA
        go_wp2_with fail
        go_ret
        exact Rt27R.loud HPe.out HE.out HWe.out HGe.out (by rw [← HS5.out]; exact HEnd.out) rfl
      · rw [if_pos (by rfl)]
        go_simp
        go_at_call 65
        refine (HTw.out V0 HV0b.out).mono ?_
        rintro e V1 ⟨A2, k2, rfl, hown2, hb2, hk21, hk22⟩
        have HV1b := Lib.hid (HV0b.out.trans (hb2.mono HV0b.out.size))
        obtain ⟨g2, hg2, hg2B, hR2⟩ := Rw.of_own hown2 (by omega)
        subst hg2
        have hg2D : F.heap.size ≤ g2 := Nat.le_trans HV0b.out.size hg2B
        have HRw2 := Lib.hid hR2
        clear hown2 hb2 hR2
        refine hK1.out _ _ (HSo.out _ (gb_below HV1b.out _)) (fun hS1 => ?_)
        refine wpAnyH_take (i := 20) (v := .agg #[.int .i64 t, .int .i64 3, .int .i64 adn, .bool false, .slice (some ⟨g2, 0, none⟩) tn k2]) rfl (by kernel_rfl) (by kernel_rfl) (by kernel_rfl) (fun _ _ _ h => h) (Or.inl ⟨by rfl, ?_⟩) (hS1) ?_
        · (intro W hSw; (try dsimp only at hSw); go_simp)
        show wpAnyH _ _ _ _ _ _ _ (Act.put _ (some 155) _) _
        simp only [Act.put, List.setIfInBounds_toArray, List.set_cons_zero, List.set_cons_succ]
        refine wpAnyH_ready (rs := [4, 21]) (by kernel_rfl) (by simp) (AllReadyH.cons rfl (fun K2 hK2 => ?_) (AllReadyH.cons rfl (fun K2 hK2 => ?_) AllReadyH.nil))
        · have s6 : V1.cell? ⟨gs, 6, none⟩ = some (.slice vA es.length vk) := (HV1b.out.cell (p := ⟨gs, 6, none⟩) HGF.out.lt).trans HE6.out
          rw [if_pos (by rfl)]
          go_simp
          clear s6
          refine hK2.out _ _ (HSo.out _ (gb_below HV1b.out _)) (fun hS2 => ?_)
          refine wpAnyH_ready (rs := [21]) (by kernel_rfl) (by simp) (AllReadyH.cons rfl (fun K3 hK3 => ?_) (AllReadyH.nil))
          rw [if_pos (by rfl)]
          go_simp
          have hbA := HV1b.out.alloc HV1b.out.size (.cells #[.int .i64 t, .int .i64 3, .int .i64 adn, .bool false, .slice (some ⟨g2, 0, none⟩) tn k2] 122)
          refine hK3.out _ _ (HSo.out _ (gb_below hbA _)) (fun hS3 => ?_)
          refine wpAnyH_ready (rs := [22]) (by kernel_rfl) (by simp) (AllReadyH.cons rfl (fun K4 hK4 => ?_) (AllReadyH.nil))
          refine step_app _ (by rfl) _ _ 114 (by rfl) B 122 ie (.agg #[.int .i64 0, .int .i64 0, .int .i64 0, .bool false, .slice none 0 0]) 5 56 Try.underlying114 hie hiez hies hieb rfl (by decide) (.slice vA es.length vk) es.length (evcV tn es M.cs) (by rfl) (HEv6.out.below hbA) (V1.heap.size + 1) (some ⟨V1.heap.size, 0, none⟩) 1 1 [.int .i64 t, .int .i64 3, .int .i64 adn, .bool false, .slice (some ⟨g2, 0, none⟩) tn k2] (by rfl) (((Blk.new V1 122 _).sl rfl).up (by simp)) (evc_one _ _ _ _ _ _ _) (es.length + 1) rfl _ rfl _ rfl (by simp only [maxLen]; omega) (by omega) (by have := HV1b.out.size; have := HRF.out.bs; rw [World.size_alloc]; omega) ?_
          intro A9 k9 W9 hown9 hg9 hat9 hk91 hk92
          have hgg := (gb_below hbA (Value.slice vA es.length vk).ownBlock).trans hg9
          have hG9 := HGF.out.grown hgg HEb.out
          have d0 : W9.cell? ⟨gs, 6, none⟩ = some (.slice vA es.length vk) := by rw [← HvE.out]; exact hG9.cell rfl
          have df := hG9.frozen 6
          refine hK4.out _ _ (HSo.out _ hgg) (fun hS4 => ?_)
          refine wpAnyH_take (i := 23) (v := .pointer (some ⟨gs, 0, none⟩)) rfl (by kernel_rfl) (by kernel_rfl) (by kernel_rfl) (fun _ _ _ h => h) (Or.inl ⟨by rfl, ?_⟩) (hS4) ?_
          · (intro W hSw; (try dsimp only at hSw); go_simp)
          show wpAnyH _ _ _ _ _ _ _ (Act.put _ (some 158) _) _
          simp only [Act.put, List.setIfInBounds_toArray, List.set_cons_zero, List.set_cons_succ]
          refine wpAnyH_take (i := 24) (v := .pointer (some ⟨gs, 6, none⟩)) rfl (by kernel_rfl) (by kernel_rfl) (by kernel_rfl) (fun _ _ _ h => h) (Or.inl ⟨by rfl, ?_⟩) (hS4) ?_
          · (intro W hSw; (try dsimp only at hSw); go_simp)
          show wpAnyH _ _ _ _ _ _ _ (Act.put _ (some 159) _) _
          simp only [Act.put, List.setIfInBounds_toArray, List.set_cons_zero, List.set_cons_succ]
          refine wpAnyH_ready (rs := [25]) (by kernel_rfl) (by simp) (AllReadyH.cons rfl (fun K5 hK5 => ?_) (AllReadyH.nil))
          rw [if_pos (by rfl)]
          go_simp
          have hS5 : (W9.setCell ⟨gs, 6, none⟩ (.slice A9 (es.length + 1) k9)).cell? ⟨gs, 4, none⟩ = some (.slice (some ⟨M.gm, 0, none⟩) tn M.km) ∧ (W9.setCell ⟨gs, 6, none⟩ (.slice A9 (es.length + 1) k9)).cell? ⟨M.gm, t, none⟩ = some (.slice (some ⟨g, 0, none⟩) tn (M.kc t)) ∧ (W9.setCell ⟨gs, 6, none⟩ (.slice A9 (es.length + 1) k9)).cell? ⟨gi, 0, none⟩ = some (.int .i64 3) ∧ (W9.setCell ⟨gs, 6, none⟩ (.slice A9 (es.length + 1) k9)).cell? ⟨gi, 2, none⟩ = some (.int .i64 adn) := by
            obtain ⟨z0, z1, z2, z3⟩ := hS4
            have hne1 : M.gm ≠ gs := HRF.out.mi.nb HGF.out (by decide)
            refine ⟨(World.cell?_setCell_other _ _ _ _ (by simp)).trans z0, (World.cell?_setCell_other _ _ _ _ (by simp [hne1])).trans z1, (World.cell?_setCell_other _ _ _ _ (by simp)).trans z2, (World.cell?_setCell_other _ _ _ _ (by simp)).trans z3⟩
          refine hK5.out _ _ hS5 (fun _ => ?_)
          refine wpAnyH_done (by kernel_rfl) ?_ _
          have hRA := HRw2.out.on (W' := V1.alloc (.cells #[.int .i64 t, .int .i64 3, .int .i64 adn, .bool false, .slice (some ⟨g2, 0, none⟩) tn k2] 122)) ((Below.refl _ _).alloc (Nat.le_refl _) _)
          have hRw9 : Rw W9 g2 3 1 tn k2 (ints (clkL tn (ckAt (es ++ [⟨t, 3, adn, false⟩]) es.length))) := by
            rw [ckAt_snoc]
            exact hRA.gb hg9 (own_nr (HEv6.out.below hbA) hRA (by decide))
          have hEnd := ((HRF.out.event (e := ⟨t, 3, adn, false⟩) rfl hRw9 (HRF.out.fresh hg2D) (Nat.le_trans HRF.out.bs hg2D) (by rw [show RM.vE M = M.vE from rfl, HvE.out]; exact hgg) hown9).head hG9 6 (.slice A9 (es.length + 1) k9))
          have HEnd := Lib.hid hEnd
          have HGe : Hid (Blk (W9.setCell ⟨gs, 6, none⟩ (.slice A9 (es.length + 1) k9)) gs 116 (rsL { M with vE := .slice A9 (es.length + 1) k9, cs := RM.cs M ++ [(g2, k2)] } tn wn)) := hG9.set_ 6 _
          have HWe : Hid (Below B w (W9.setCell ⟨gs, 6, none⟩ (.slice A9 (es.length + 1) k9))) := (HWF.out.grown hgg HRF.out.bs (fun q hq => (HEv6.out.lt q hq).1)).setCell hgs _
          clear hEnd d0 df hS5 hS4 hRA hRw9 hown9 hg9 hgg hG9 hbA
          go_wp2_with fail
          go_ret
          exact Rt27R.loud HPe.out HE.out HWe.out HGe.out (by rw [← HS5.out]; exact HEnd.out) rfl
        · rw [if_pos (by rfl)]
          go_simp
          have hbA := HV1b.out.alloc HV1b.out.size (.cells #[.int .i64 t, .int .i64 3, .int .i64 adn, .bool false, .slice (some ⟨g2, 0, none⟩) tn k2] 122)
          refine hK2.out _ _ (HSo.out _ (gb_below hbA _)) (fun hS2 => ?_)
          refine wpAnyH_ready (rs := [4]) (by kernel_rfl) (by simp) (AllReadyH.cons rfl (fun K3 hK3 => ?_) (AllReadyH.nil))
          have s6 : (V1.alloc (.cells #[.int .i64 t, .int .i64 3, .int .i64 adn, .bool false, .slice (some ⟨g2, 0, none⟩) tn k2] 122)).cell? ⟨gs, 6, none⟩ = some (.slice vA es.length vk) := (hbA.cell (p := ⟨gs, 6, none⟩) HGF.out.lt).trans HE6.out
          rw [if_pos (by rfl)]
          go_simp
          clear s6
          refine hK3.out _ _ (HSo.out _ (gb_below hbA _)) (fun hS3 => ?_)
          refine wpAnyH_ready (rs := [22]) (by kernel_rfl) (by simp) (AllReadyH.cons rfl (fun K4 hK4 => ?_) (AllReadyH.nil))
          refine step_app _ (by rfl) _ _ 114 (by rfl) B 122 ie (.agg #[.int .i64 0, .int .i64 0, .int .i64 0, .bool false, .slice none 0 0]) 5 56 Try.underlying114 hie hiez hies hieb rfl (by decide) (.slice vA es.length vk) es.length (evcV tn es M.cs) (by rfl) (HEv6.out.below hbA) (V1.heap.size + 1) (some ⟨V1.heap.size, 0, none⟩) 1 1 [.int .i64 t, .int .i64 3, .int .i64 adn, .bool false, .slice (some ⟨g2, 0, none⟩) tn k2] (by rfl) (((Blk.new V1 122 _).sl rfl).up (by simp)) (evc_one _ _ _ _ _ _ _) (es.length + 1) rfl _ rfl _ rfl (by simp only [maxLen]; omega) (by omega) (by have := HV1b.out.size; have := HRF.out.bs; rw [World.size_alloc]; omega) ?_
          intro A9 k9 W9 hown9 hg9 hat9 hk91 hk92
          have hgg := (gb_below hbA (Value.slice vA es.length vk).ownBlock).trans hg9
          have hG9 := HGF.out.grown hgg HEb.out
          have d0 : W9.cell? ⟨gs, 6, none⟩ = some (.slice vA es.length vk) := by rw [← HvE.out]; exact hG9.cell rfl
          have df := hG9.frozen 6
          refine hK4.out _ _ (HSo.out _ hgg) (fun hS4 => ?_)
          refine wpAnyH_take (i := 23) (v := .pointer (some ⟨gs, 0, none⟩)) rfl (by kernel_rfl) (by kernel_rfl) (by kernel_rfl) (fun _ _ _ h => h) (Or.inl ⟨by rfl, ?_⟩) (hS4) ?_
          · (intro W hSw; (try dsimp only at hSw); go_simp)
          show wpAnyH _ _ _ _ _ _ _ (Act.put _ (some 158) _) _
          simp only [Act.put, List.setIfInBounds_toArray, List.set_cons_zero, List.set_cons_succ]
          refine wpAnyH_take (i := 24) (v := .pointer (some ⟨gs, 6, none⟩)) rfl (by kernel_rfl) (by kernel_rfl) (by kernel_rfl) (fun _ _ _ h => h) (Or.inl ⟨by rfl, ?_⟩) (hS4) ?_
          · (intro W hSw; (try dsimp only at hSw); go_simp)
          show wpAnyH _ _ _ _ _ _ _ (Act.put _ (some 159) _) _
          simp only [Act.put, List.setIfInBounds_toArray, List.set_cons_zero, List.set_cons_succ]
          refine wpAnyH_ready (rs := [25]) (by kernel_rfl) (by simp) (AllReadyH.cons rfl (fun K5 hK5 => ?_) (AllReadyH.nil))
          rw [if_pos (by rfl)]
          go_simp
          have hS5 : (W9.setCell ⟨gs, 6, none⟩ (.slice A9 (es.length + 1) k9)).cell? ⟨gs, 4, none⟩ = some (.slice (some ⟨M.gm, 0, none⟩) tn M.km) ∧ (W9.setCell ⟨gs, 6, none⟩ (.slice A9 (es.length + 1) k9)).cell? ⟨M.gm, t, none⟩ = some (.slice (some ⟨g, 0, none⟩) tn (M.kc t)) ∧ (W9.setCell ⟨gs, 6, none⟩ (.slice A9 (es.length + 1) k9)).cell? ⟨gi, 0, none⟩ = some (.int .i64 3) ∧ (W9.setCell ⟨gs, 6, none⟩ (.slice A9 (es.length + 1) k9)).cell? ⟨gi, 2, none⟩ = some (.int .i64 adn) := by
            obtain ⟨z0, z1, z2, z3⟩ := hS4
            have hne1 : M.gm ≠ gs := HRF.out.mi.nb HGF.out (by decide)
            refine ⟨(World.cell?_setCell_other _ _ _ _ (by simp)).trans z0, (World.cell?_setCell_other _ _ _ _ (by simp [hne1])).trans z1, (World.cell?_setCell_other _ _ _ _ (by simp)).trans z2, (World.cell?_setCell_other _ _ _ _ (by simp)).trans z3⟩
          refine hK5.out _ _ hS5 (fun _ => ?_)
          refine wpAnyH_done (by kernel_rfl) ?_ _
          have hRA := HRw2.out.on (W' := V1.alloc (.cells #[.int .i64 t, .int .i64 3, .int .i64 adn, .bool false, .slice (some ⟨g2, 0, none⟩) tn k2] 122)) ((Below.refl _ _).alloc (Nat.le_refl _) _)
          have hRw9 : Rw W9 g2 3 1 tn k2 (ints (clkL tn (ckAt (es ++ [⟨t, 3, adn, false⟩]) es.length))) := by
            rw [ckAt_snoc]
            exact hRA.gb hg9 (own_nr (HEv6.out.below hbA) hRA (by decide))
          have hEnd := ((HRF.out.event (e := ⟨t, 3, adn, false⟩) rfl hRw9 (HRF.out.fresh hg2D) (Nat.le_trans HRF.out.bs hg2D) (by rw [show RM.vE M = M.vE from rfl, HvE.out]; exact hgg) hown9).head hG9 6 (.slice A9 (es.length + 1) k9))
          have HEnd := Lib.hid hEnd
          have HGe : Hid (Blk (W9.setCell ⟨gs, 6, none⟩ (.slice A9 (es.length + 1) k9)) gs 116 (rsL { M with vE := .slice A9 (es.length + 1) k9, cs := RM.cs M ++ [(g2, k2)] } tn wn)) := hG9.set_ 6 _
          have HWe : Hid (Below B w (W9.setCell ⟨gs, 6, none⟩ (.slice A9 (es.length + 1) k9))) := (HWF.out.grown hgg HRF.out.bs (fun q hq => (HEv6.out.lt q hq).1)).setCell hgs _
          clear hEnd d0 df hS5 hS4 hRA hRw9 hown9 hg9 hgg hG9 hbA
          go_wp2_with fail
          go_ret
          exact Rt27R.loud HPe.out HE.out HWe.out HGe.out (by rw [← HS5.out]; exact HEnd.out) rfl
  · have hE : evOf ⟨wA, wn, wk, ws, some ⟨tb, to', none⟩, tn, tk, th⟩ S ⟨t, false, ua⟩ = none := by rw [HEv.out]; rfl
    go_wp2_with fail
    go_ret
    exact Rt27R.quiet HPe.out hE HWC.out HGC.out (by rw [← HS5.out]; exact HRC.out) rfl
  · have hE : evOf ⟨wA, wn, wk, ws, some ⟨tb, to', none⟩, tn, tk, th⟩ S ⟨t, false, ua⟩ = none := by rw [HEv.out]; rfl
    go_wp2_with fail
    go_ret
    exact Rt27R.quiet HPe.out hE HWC.out HGC.out (by rw [← HS5.out]; exact HRC.out) rfl
  · have hE : evOf ⟨wA, wn, wk, ws, some ⟨tb, to', none⟩, tn, tk, th⟩ S ⟨t, false, ua⟩ = none := by rw [HEv.out]; rfl
    go_wp2_with fail
    go_ret
    exact Rt27R.quiet HPe.out hE HWC.out HGC.out (by rw [← HS5.out]; exact HRC.out) rfl
  · have hE : evOf ⟨wA, wn, wk, ws, some ⟨tb, to', none⟩, tn, tk, th⟩ S ⟨t, false, ua⟩ = none := by rw [HEv.out]; rfl
    go_wp2_with fail
    go_ret
    exact Rt27R.quiet HPe.out hE HWC.out HGC.out (by rw [← HS5.out]; exact HRC.out) rfl

end Go.Proofs.Ytgbopmgeicokoaa
