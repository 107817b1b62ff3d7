/-
reclaimref27.Turn: a turn of a state with its clocks and eve
-/
import Derived.Test.YtgjdgapfnfhklaaGreatRst
import Derived.Test.YtgjdgapfnfhklaaGreatRt
import Derived.Test.YtgjdgapfnfhklaaGreatZ4
import Derived.Test.YtgjdgapfnfhklaaGreatZ25
set_option linter.unusedSimpArgs false
set_option linter.unusedVariables false
set_option maxRecDepth 100000
set_option maxHeartbeats 16000000
namespace Go.Proofs.YtgjdgapfnfhklaaGreat
open Go.RowKit
def esN (l : Lit) (S : LS) (u : Tn) (es : List Ev) : List Ev := es ++ (evOf l S u).toList
def Rt27R (l : Lit) (B gs : Nat) (S : LS) (es : List Ev) (u : Tn) (Z : Nat -> Prop) (w : World) (e : Ending) (w' : World) : Prop :=
 e = .returned (.bool (pickS l S u).isSome) /\ Below B w w' /\ ∃ M', Blk w' gs 80 (rsL M' l.tn l.wn) /\ RSB w' B l.tn l.wn (turnS l S u) (xAt (esN l S u es)) (esN l S u es) M' /\ M'.Z = Z
theorem info_ev27 : (Tryz.prog.info? 147).map (fun i => (i.zero, i.size, i.bytes)) = some (some (.agg #[.int .i64 0, .int .i64 0, .int .i64 0, .bool false, .slice none 0 0]), 5, 56) := by kernel_rfl
theorem SF_ge {h : SH} {B : Nat} (hn : NewS B h) : ∀ q, SF h q -> B <= q := by
 rintro q (e | e | e)
 ·rw [e]; exact hn.1
 ·rw [e]; exact hn.2.1
 ·rw [e]; exact hn.2.2.1
theorem RSB.hd {W : World} {B n nw gs : Nat} {S : LS} {x : TS} {es : List Ev} {M : RM} (h : RSB W B n nw S x es M) (hb : Blk W gs 80 (rsL M n nw)) : HdAt W gs M.h n nw S 80 [.slice (some ⟨M.gm, 0, none⟩) n M.km, .slice (some ⟨M.gd, 0, none⟩) nw M.kd, M.vE] :=
 ⟨hb, h.st, (h.st.w.nb hb (by decide)).symm, (h.st.r.nb hb (by decide)).symm, (h.st.p.nb hb (by decide)).symm⟩
theorem pick_ev_none {l : Lit} {S : LS} {u : Tn} (h : pickS l S u = none) : turnS l S u = S /\ evOf l S u = none := by
 unfold turnS evOf
 rw [h]
 exact ⟨rfl, rfl⟩
theorem pick_parts {l : Lit} {S : LS} {u : Tn} {x : Ins} (hp : pickS l S u = some x) : 0 <= u.t /\ u.t < l.tn /\ u.out = false /\ turnS l S u = nextS S u.t.toNat (codeOf l u.t.toNat).length x /\ evOf l S u = eventS (turnS l S u) u.t.toNat x := by
 refine ⟨?_, ?_, ?_, by unfold turnS; rw [hp], by unfold evOf; rw [hp]⟩
 all_goals (
  unfold pickS at hp
  by_cases hc : 0 <= u.t /\ u.t < (l.tn : Int) /\ u.out = false
  ·first | exact hc.1 | exact hc.2.1 | exact hc.2.2
  ·rw [if_neg hc] at hp
   cases hp)
theorem Rt27R.quiet {l : Lit} {B gs : Nat} {S : LS} {es : List Ev} {u : Tn} {w C : World} {M : RM} (hp : (pickS l S u).isSome = true) (he : evOf l S u = none) (hw : Below B w C) (hg : Blk C gs 80 (rsL M l.tn l.wn)) (hr : RSB C B l.tn l.wn (turnS l S u) (xAt es) es M) {Z : Nat -> Prop} (hZ : M.Z = Z) : Rt27R l B gs S es u Z w (.returned (.bool true)) C := by
 refine ⟨by rw [hp], hw, M, hg, ?_⟩
 have : esN l S u es = es := by unfold esN; rw [he]; simp
 rw [this]
 exact ⟨hr, hZ⟩
theorem Rt27R.loud {l : Lit} {B gs : Nat} {S : LS} {es : List Ev} {u : Tn} {w C : World} {M : RM} {e9 : Ev} (hp : (pickS l S u).isSome = true) (he : evOf l S u = some e9) (hw : Below B w C) (hg : Blk C gs 80 (rsL M l.tn l.wn)) (hr : RSB C B l.tn l.wn (turnS l S u) (tickS (xAt es) e9) (es ++ [e9]) M) {Z : Nat -> Prop} (hZ : M.Z = Z) : Rt27R l B gs S es u Z w (.returned (.bool true)) C := by
 refine ⟨by rw [hp], hw, M, hg, ?_⟩
 have : esN l S u es = es ++ [e9] := by unfold esN; rw [he]; simp
 rw [this, xAt_snoc]
 exact ⟨hr, hZ⟩
theorem rt27_no (l : Lit) (w : World) (B gs : Nat) (S : LS) (es : List Ev) (M : RM) (u : Tn) (hl : LitAt w B l) (hBw : B <= w.heap.size) (hb : Blk w gs 80 (rsL M l.tn l.wn)) (hr : RSB w B l.tn l.wn S (xAt es) es M) (hg : GoodS l S) (hok : okLit l = true) (hp : pickS l S u = none) :
  Calls Tryz.prog 22 #[litV l, .pointer (some ⟨gs, 0, none⟩), tnV u] w (BoolR false w) := by
 obtain ⟨n1, n2, n3, n4⟩ := okLit_num hok
 have HL := Lh hl
 have HG := Lh hb
 have HR := Lh hr
 have HGd := Lh hg
 have HOk := Lh hok
 have HP := Lh hp
 obtain ⟨tb, to', hta, htb, _⟩ := hl.heads n1
 clear hl hb hr hg hok hp
 obtain ⟨wA, wn, wk, ws, tA, tn, tk, th⟩ := l
 have hta' : tA = some ⟨tb, to', none⟩ := hta
 subst hta'
 clear hta
 dsimp only at n1 n2 n3 n4
 replace HG : Hid (Blk w gs 80 (rsL M tn wn)) := HG
 replace HR : Hid (RSB w B tn wn S (xAt es) es M) := HR
 obtain ⟨ut, uo, ua⟩ := u
 by_cases h0 : ut < 0
 case pos =>
  have d1 : decide (ut < 0) = true := by simpa using h0
  obtain ⟨w0, hw0⟩ : ∃ w0 : World, w0 = (w.alloc (.cells #[.slice wA wn wk, .slice (some ⟨tb, to', none⟩) tn tk] 25)).alloc (.cells #[.int .i64 ut, .bool uo, .int .i64 ua] 91) := ⟨_, rfl⟩
  have HLb0 : Hid (Blk w0 w.heap.size 25 [.slice wA wn wk, .slice (some ⟨tb, to', none⟩) tn tk]) := by rw [hw0]; exact (Blk.new w 25 [.slice wA wn wk, .slice (some ⟨tb, to', none⟩) tn tk]).alloc _
  have HU0 : Hid (Blk w0 (w.heap.size + 1) 91 [.int .i64 ut, .bool uo, .int .i64 ua]) := by
   rw [hw0]
   have h9 := Blk.new (w.alloc (.cells #[.slice wA wn wk, .slice (some ⟨tb, to', none⟩) tn tk] 25)) 91 [.int .i64 ut, .bool uo, .int .i64 ua]
   rw [World.size_alloc] at h9
   exact h9
  have HW0 : Hid (Below w.heap.size w w0) := by rw [hw0]; exact ((Below.refl _ _).alloc (Nat.le_refl _) _).alloc (by simp) _
  have hz0 : w.heap.size + 1 < w0.heap.size := HU0.o.lt
  have HWe := Lh hw0
  clear hw0
  go_enter Tryz.func22, Tryz.ntmps22
  go_upto_region 1 with fail
  rw [<- HWe.o]
  clear HWe
  have HG0 := Lh (HG.o.below HW0.o HG.o.lt)
  have HR0 := Lh (HR.o.on HW0.o)
  have q1 := HLb0.o.cell (i := 1) rfl
  have u0 := HU0.o.cell (i := 0) rfl
  have u1 := HU0.o.cell (i := 1) rfl
  go_upto_region 2 with fail
  go_quiet (fail)
  go_wp2_with fail
  go_ret
  exact ⟨rfl, HW0.o.trans ((Below.refl _ _).drewN _)⟩
 have d1 : decide (ut < 0) = false := by simpa using h0
 obtain ⟨t, rfl⟩ : ∃ t : Nat, ut = t := ⟨ut.toNat, by omega⟩
 by_cases h1 : tn <= t
 case pos =>
  have d2 : decide ((tn : Int) <= t) = true := by simp; omega
  have d3 : (tn : Int) <= t := by omega
  obtain ⟨w0, hw0⟩ : ∃ w0 : World, w0 = (w.alloc (.cells #[.slice wA wn wk, .slice (some ⟨tb, to', none⟩) tn tk] 25)).alloc (.cells #[.int .i64 t, .bool uo, .int .i64 ua] 91) := ⟨_, rfl⟩
  have HLb0 : Hid (Blk w0 w.heap.size 25 [.slice wA wn wk, .slice (some ⟨tb, to', none⟩) tn tk]) := by rw [hw0]; exact (Blk.new w 25 [.slice wA wn wk, .slice (some ⟨tb, to', none⟩) tn tk]).alloc _
  have HU0 : Hid (Blk w0 (w.heap.size + 1) 91 [.int .i64 t, .bool uo, .int .i64 ua]) := by
   rw [hw0]
   have h9 := Blk.new (w.alloc (.cells #[.slice wA wn wk, .slice (some ⟨tb, to', none⟩) tn tk] 25)) 91 [.int .i64 t, .bool uo, .int .i64 ua]
   rw [World.size_alloc] at h9
   exact h9
  have HW0 : Hid (Below w.heap.size w w0) := by rw [hw0]; exact ((Below.refl _ _).alloc (Nat.le_refl _) _).alloc (by simp) _
  have hz0 : w.heap.size + 1 < w0.heap.size := HU0.o.lt
  have HWe := Lh hw0
  clear hw0
  go_enter Tryz.func22, Tryz.ntmps22
  go_upto_region 1 with fail
  rw [<- HWe.o]
  clear HWe
  have HG0 := Lh (HG.o.below HW0.o HG.o.lt)
  have HR0 := Lh (HR.o.on HW0.o)
  have q1 := HLb0.o.cell (i := 1) rfl
  have u0 := HU0.o.cell (i := 0) rfl
  have u1 := HU0.o.cell (i := 1) rfl
  go_upto_region 2 with fail
  go_quiet (fail)
  go_wp2_with fail
  go_ret
  exact ⟨rfl, HW0.o.trans ((Below.refl _ _).drewN _)⟩
 have d2 : decide ((tn : Int) <= t) = false := by simp; omega
 have d3 : ¬ (tn : Int) <= t := by omega
 have hlt : t < tn := by omega
 have e0 : (0 : Int) <= t := by omega
 have e1 : (t : Int) < tn := by omega
 cases uo
 case true =>
  obtain ⟨w0, hw0⟩ : ∃ w0 : World, w0 = (w.alloc (.cells #[.slice wA wn wk, .slice (some ⟨tb, to', none⟩) tn tk] 25)).alloc (.cells #[.int .i64 t, .bool true, .int .i64 ua] 91) := ⟨_, rfl⟩
  have HLb0 : Hid (Blk w0 w.heap.size 25 [.slice wA wn wk, .slice (some ⟨tb, to', none⟩) tn tk]) := by rw [hw0]; exact (Blk.new w 25 [.slice wA wn wk, .slice (some ⟨tb, to', none⟩) tn tk]).alloc _
  have HU0 : Hid (Blk w0 (w.heap.size + 1) 91 [.int .i64 t, .bool true, .int .i64 ua]) := by
   rw [hw0]
   have h9 := Blk.new (w.alloc (.cells #[.slice wA wn wk, .slice (some ⟨tb, to', none⟩) tn tk] 25)) 91 [.int .i64 t, .bool true, .int .i64 ua]
   rw [World.size_alloc] at h9
   exact h9
  have HW0 : Hid (Below w.heap.size w w0) := by rw [hw0]; exact ((Below.refl _ _).alloc (Nat.le_refl _) _).alloc (by simp) _
  have hz0 : w.heap.size + 1 < w0.heap.size := HU0.o.lt
  have HWe := Lh hw0
  clear hw0
  go_enter Tryz.func22, Tryz.ntmps22
  go_upto_region 1 with fail
  rw [<- HWe.o]
  clear HWe
  have HG0 := Lh (HG.o.below HW0.o HG.o.lt)
  have HR0 := Lh (HR.o.on HW0.o)
  have q1 := HLb0.o.cell (i := 1) rfl
  have u0 := HU0.o.cell (i := 0) rfl
  have u1 := HU0.o.cell (i := 1) rfl
  go_upto_region 2 with fail
  go_quiet (fail)
  go_wp2_with fail
  go_ret
  exact ⟨rfl, HW0.o.trans ((Below.refl _ _).drewN _)⟩
 obtain ⟨w0, hw0⟩ : ∃ w0 : World, w0 = (w.alloc (.cells #[.slice wA wn wk, .slice (some ⟨tb, to', none⟩) tn tk] 25)).alloc (.cells #[.int .i64 t, .bool false, .int .i64 ua] 91) := ⟨_, rfl⟩
 have HLb0 : Hid (Blk w0 w.heap.size 25 [.slice wA wn wk, .slice (some ⟨tb, to', none⟩) tn tk]) := by rw [hw0]; exact (Blk.new w 25 [.slice wA wn wk, .slice (some ⟨tb, to', none⟩) tn tk]).alloc _
 have HU0 : Hid (Blk w0 (w.heap.size + 1) 91 [.int .i64 t, .bool false, .int .i64 ua]) := by
  rw [hw0]
  have h9 := Blk.new (w.alloc (.cells #[.slice wA wn wk, .slice (some ⟨tb, to', none⟩) tn tk] 25)) 91 [.int .i64 t, .bool false, .int .i64 ua]
  rw [World.size_alloc] at h9
  exact h9
 have HW0 : Hid (Below w.heap.size w w0) := by rw [hw0]; exact ((Below.refl _ _).alloc (Nat.le_refl _) _).alloc (by simp) _
 have hz0 : w.heap.size + 1 < w0.heap.size := HU0.o.lt
 have HWe := Lh hw0
 clear hw0
 go_enter Tryz.func22, Tryz.ntmps22
 go_upto_region 1 with fail
 rw [<- HWe.o]
 clear HWe
 have HG0 := Lh (HG.o.below HW0.o HG.o.lt)
 have HR0 := Lh (HR.o.on HW0.o)
 have q1 := HLb0.o.cell (i := 1) rfl
 have u0 := HU0.o.cell (i := 0) rfl
 have u1 := HU0.o.cell (i := 1) rfl
 obtain ⟨x, hx⟩ := at_lt (show t < th.length by have := HL.o.tlen; dsimp only at this; omega)
 have hL := HL.o.keep (HW0.o.mono hBw)
 obtain ⟨tb2, to2, hta2, htb2, htc⟩ := hL.head hx
 injection hta2 with hta2
 injection hta2 with e1' e2'
 subst e1' e2'
 have hcl := hL.clen (List.mem_of_getElem? hx)
 have hco := (hL.code x (List.mem_of_getElem? hx)).2.1
 have hn1 := hco.1
 have hn2 := hco.2
 unfold maxLen at hn2
 have h10 := (okLit_code HOk.o hx).1
 have HX := Lh hx
 have HCl := Lh hcl
 have hle := HGd.o.le t hlt
 rw [codeOf_at hx, hcl] at hle
 clear hx hco hcl
 obtain ⟨⟨xA, xn, xk⟩, code⟩ := x
 dsimp only at hn1 hn2 htc h10 hle
 have hpt := HR0.o.st.place (LS.p_at (S := S) (t := t) (by rw [HR.o.st.plen]; exact hlt))
 have s2 := HG0.o.cell (i := 2) rfl
 have hge : xn <= S.p t := by
  have h9 := HP.o
  unfold pickS at h9
  dsimp only at h9
  rw [if_pos ⟨e0, e1, rfl⟩, Int.toNat_natCast, codeOf_at HX.o, List.getElem?_eq_none_iff] at h9
  have := HCl.o
  dsimp only at h9 this
  omega
 have d4 : ((S.p t : Int) == (xn : Int)) = true := by simp; omega
 have d5 : (S.p t : Int) = (xn : Int) := by omega
 have d6 : S.p t = xn := by omega
 go_upto_region 2 with fail
 go_quiet (fail)
 go_wp2_with fail
 go_ret
 exact ⟨rfl, HW0.o.trans ((Below.refl _ _).drewN _)⟩
theorem rt27_yes (l : Lit) (w : World) (B gs : Nat) (S : LS) (es : List Ev) (M : RM) (u : Tn) (x9 : Ins) (hl : LitAt w B l) (hBw : B <= w.heap.size) (hgs : B <= gs) (hb : Blk w gs 80 (rsL M l.tn l.wn)) (hr : RSB w B l.tn l.wn S (xAt es) es M) (hg : GoodS l S) (hok : okLit l = true) (hen : es.length <= 100000) (hp : pickS l S u = some x9) :
  Calls Tryz.prog 22 #[litV l, .pointer (some ⟨gs, 0, none⟩), tnV u] w (Rt27R l B gs S es u M.Z w) := by
 obtain ⟨n1, n2, n3, n4⟩ := okLit_num hok
 obtain ⟨hr1, hr2, hr3, hTS, hEv⟩ := pick_parts hp
 have hpe : (pickS l S u).isSome = true := by rw [hp]; rfl
 have HPe := Lh hpe
 have HL := Lh hl
 have HG := Lh hb
 have HR := Lh hr
 have HGd := Lh hg
 have HOk := Lh hok
 have HP := Lh hp
 have HTS := Lh hTS
 have HEv := Lh hEv
 obtain ⟨ie, hie, hiez, hies, hieb⟩ := info_parts info_ev27
 obtain ⟨tb, to', hta, htb, _⟩ := hl.heads n1
 clear hl hb hr hg hok hp hpe hTS hEv
 obtain ⟨wA, wn, wk, ws, tA, tn, tk, th⟩ := l
 have hta' : tA = some ⟨tb, to', none⟩ := hta
 subst hta'
 clear hta
 dsimp only at n1 n2 n3 n4 hr2
 replace HG : Hid (Blk w gs 80 (rsL M tn wn)) := HG
 replace HR : Hid (RSB w B tn wn S (xAt es) es M) := HR
 obtain ⟨ut, uo, ua⟩ := u
 dsimp only at hr1 hr2 hr3
 subst hr3
 obtain ⟨t, rfl⟩ : ∃ t : Nat, ut = t := ⟨ut.toNat, by omega⟩
 have d1 : decide ((t : Int) < 0) = false := by simp
 have d2 : decide ((tn : Int) <= t) = false := by simp; omega
 have d3 : ¬ (tn : Int) <= t := by omega
 have hlt : t < tn := by omega
 have e0 : (0 : Int) <= t := by omega
 have e1 : (t : Int) < tn := by omega
 obtain ⟨w0, hw0⟩ : ∃ w0 : World, w0 = (w.alloc (.cells #[.slice wA wn wk, .slice (some ⟨tb, to', none⟩) tn tk] 25)).alloc (.cells #[.int .i64 t, .bool false, .int .i64 ua] 91) := ⟨_, rfl⟩
 have HLb0 : Hid (Blk w0 w.heap.size 25 [.slice wA wn wk, .slice (some ⟨tb, to', none⟩) tn tk]) := by rw [hw0]; exact (Blk.new w 25 [.slice wA wn wk, .slice (some ⟨tb, to', none⟩) tn tk]).alloc _
 have HU0 : Hid (Blk w0 (w.heap.size + 1) 91 [.int .i64 t, .bool false, .int .i64 ua]) := by
  rw [hw0]
  have h9 := Blk.new (w.alloc (.cells #[.slice wA wn wk, .slice (some ⟨tb, to', none⟩) tn tk] 25)) 91 [.int .i64 t, .bool false, .int .i64 ua]
  rw [World.size_alloc] at h9
  exact h9
 have HW0 : Hid (Below w.heap.size w w0) := by rw [hw0]; exact ((Below.refl _ _).alloc (Nat.le_refl _) _).alloc (by simp) _
 have hz0 : w.heap.size + 1 < w0.heap.size := HU0.o.lt
 have HWe := Lh hw0
 clear hw0
 go_enter Tryz.func22, Tryz.ntmps22
 go_upto_region 1 with fail
 rw [<- HWe.o]
 clear HWe
 have HG0 := Lh (HG.o.below HW0.o HG.o.lt)
 have HR0 := Lh (HR.o.on HW0.o)
 have q1 := HLb0.o.cell (i := 1) rfl
 have u0 := HU0.o.cell (i := 0) rfl
 have u1 := HU0.o.cell (i := 1) rfl
 obtain ⟨x, hx⟩ := at_lt (show t < th.length by have := HL.o.tlen; dsimp only at this; omega)
 have hL := HL.o.keep (HW0.o.mono hBw)
 obtain ⟨tb2, to2, hta2, htb2, htc⟩ := hL.head hx
 injection hta2 with hta2
 injection hta2 with e1' e2'
 subst e1' e2'
 have hcl := hL.clen (List.mem_of_getElem? hx)
 have hco := (hL.code x (List.mem_of_getElem? hx)).2.1
 have hn1 := hco.1
 have hn2 := hco.2
 unfold maxLen at hn2
 have h10 := (okLit_code HOk.o hx).1
 have HX := Lh hx
 have HCl := Lh hcl
 have hle := HGd.o.le t hlt
 rw [codeOf_at hx, hcl] at hle
 clear hx hco hcl
 obtain ⟨⟨xA, xn, xk⟩, code⟩ := x
 dsimp only at hn1 hn2 htc h10 hle
 have hpt := HR0.o.st.place (LS.p_at (S := S) (t := t) (by rw [HR.o.st.plen]; exact hlt))
 have s2 := HG0.o.cell (i := 2) rfl
 have hp9 : code[S.p t]? = some x9 := by
  have h9 := HP.o
  unfold pickS at h9
  dsimp only at h9
  rwa [if_pos ⟨hr1, hr2, rfl⟩, Int.toNat_natCast, codeOf_at HX.o] at h9
 have hlt2 : S.p t < xn := by
  have := HCl.o
  have := (List.getElem?_eq_some_iff.1 hp9).1
  dsimp only at *
  omega
 have hok9 := (okLit_code HOk.o HX.o).2 x9 (List.mem_of_getElem? hp9)
 obtain ⟨cb, co, hca, hcb, hc⟩ := ins_cell (hL.code _ (List.mem_of_getElem? HX.o)).1 hp9
 have hca' : xA = some ⟨cb, co, none⟩ := hca
 subst hca'
 have HOk9 : Hid (okIns wn x9 = true) := hok9
 clear hca hp9 hok9
 obtain ⟨kd, rg, ad, vl, sr, od, ct⟩ := x9
 have c0 := hc.c0
 have c1 := hc.c1
 have c2 := hc.c2
 have c3 := hc.c3
 have c4 := hc.c4
 have c5 := hc.c5
 have c6 := hc.c6
 dsimp only at c0 c1 c2 c3 c4 c5 c6
 clear hc
 have d4 : ((S.p t : Int) == (xn : Int)) = false := by simp; omega
 have d5 : ¬ (S.p t : Int) = (xn : Int) := by omega
 have d6 : ¬ S.p t = xn := by omega
 have f0 : (0 : Int) <= S.p t := by omega
 have f1 : (S.p t : Int) < xn := by omega
 have hSc : w0.cell? ⟨w.heap.size, 1, none⟩ = some (.slice (some ⟨tb, to', none⟩) tn tk) /\ w0.cell? ⟨tb, to' + t, none⟩ = some (.slice (some ⟨cb, co, none⟩) xn xk) /\ w0.cell? ⟨gs, 2, none⟩ = some (.slice (some ⟨M.h.gp, 0, none⟩) tn M.h.kp) /\ w0.cell? ⟨M.h.gp, t, none⟩ = some (.int .i64 (S.p t)) /\ w0.cell? ⟨cb, co + S.p t * 7, none⟩ = some (.int .i64 kd) /\ w0.cell? ⟨cb, co + S.p t * 7 + 1, none⟩ = some (.int .i64 rg) /\ w0.cell? ⟨cb, co + S.p t * 7 + 2, none⟩ = some (.int .i64 ad) /\ w0.cell? ⟨cb, co + S.p t * 7 + 3, none⟩ = some (.int .i64 vl) /\ w0.cell? ⟨cb, co + S.p t * 7 + 4, none⟩ = some (.int .i64 sr) /\ w0.cell? ⟨cb, co + S.p t * 7 + 5, none⟩ = some (.int .i64 od) /\ w0.cell? ⟨cb, co + S.p t * 7 + 6, none⟩ = some (.int .i64 ct) := ⟨q1, htc, s2, hpt, c0, c1, c2, c3, c4, c5, c6⟩
 have HSo : Hid (∀ W, Below w0.heap.size w0 W -> W.cell? ⟨w.heap.size, 1, none⟩ = some (.slice (some ⟨tb, to', none⟩) tn tk) /\ W.cell? ⟨tb, to' + t, none⟩ = some (.slice (some ⟨cb, co, none⟩) xn xk) /\ W.cell? ⟨gs, 2, none⟩ = some (.slice (some ⟨M.h.gp, 0, none⟩) tn M.h.kp) /\ W.cell? ⟨M.h.gp, t, none⟩ = some (.int .i64 (S.p t)) /\ W.cell? ⟨cb, co + S.p t * 7, none⟩ = some (.int .i64 kd) /\ W.cell? ⟨cb, co + S.p t * 7 + 1, none⟩ = some (.int .i64 rg) /\ W.cell? ⟨cb, co + S.p t * 7 + 2, none⟩ = some (.int .i64 ad) /\ W.cell? ⟨cb, co + S.p t * 7 + 3, none⟩ = some (.int .i64 vl) /\ W.cell? ⟨cb, co + S.p t * 7 + 4, none⟩ = some (.int .i64 sr) /\ W.cell? ⟨cb, co + S.p t * 7 + 5, none⟩ = some (.int .i64 od) /\ W.cell? ⟨cb, co + S.p t * 7 + 6, none⟩ = some (.int .i64 ct)) := fun W hW => by
  obtain ⟨a0, a1, a2, a3, a4, a5, a6, a7, a8, a9, a10⟩ := hSc
  have k : ∀ (a : Addr) (v : Value), w0.cell? a = some v -> W.cell? a = some v := fun a v hv => (hW.cell (World.block_lt_of_cell? w0 a hv)).trans hv
  exact ⟨k _ _ a0, k _ _ a1, k _ _ a2, k _ _ a3, k _ _ a4, k _ _ a5, k _ _ a6, k _ _ a7, k _ _ a8, k _ _ a9, k _ _ a10⟩
 clear hSc c0 c1 c2 c3 c4 c5 c6
 go_upto_region 2 with fail
 go_quiet (fail)
 obtain ⟨w1, hw1, hb1⟩ : ∃ Z9, Z9 = w0.drewN nq /\ Below w0.heap.size w0 Z9 := ⟨_, rfl, (Below.refl _ _).drewN _⟩
 rw [<- hw1]
 have HB1 := Lh hb1
 clear hw1 hb1 q1 u0 u1 htc hpt s2
 go_upto_region 4 with fail
 refine wp_region_held_drew (S := fun W => W.cell? ⟨w.heap.size, 1, none⟩ = some (.slice (some ⟨tb, to', none⟩) tn tk) /\ W.cell? ⟨tb, to' + t, none⟩ = some (.slice (some ⟨cb, co, none⟩) xn xk) /\ W.cell? ⟨gs, 2, none⟩ = some (.slice (some ⟨M.h.gp, 0, none⟩) tn M.h.kp) /\ W.cell? ⟨M.h.gp, t, none⟩ = some (.int .i64 (S.p t)) /\ W.cell? ⟨cb, co + S.p t * 7, none⟩ = some (.int .i64 kd) /\ W.cell? ⟨cb, co + S.p t * 7 + 1, none⟩ = some (.int .i64 rg) /\ W.cell? ⟨cb, co + S.p t * 7 + 2, none⟩ = some (.int .i64 ad) /\ W.cell? ⟨cb, co + S.p t * 7 + 3, none⟩ = some (.int .i64 vl) /\ W.cell? ⟨cb, co + S.p t * 7 + 4, none⟩ = some (.int .i64 sr) /\ W.cell? ⟨cb, co + S.p t * 7 + 5, none⟩ = some (.int .i64 od) /\ W.cell? ⟨cb, co + S.p t * 7 + 6, none⟩ = some (.int .i64 ct)) (by kernel_rfl) (HSo.o _ HB1.o.drew) (fun hS => ?_)
 iterate 15 (refine tkF 0 (v := ?_) ?_ ?_; rotate_left; · (intro W hSw; (try dsimp only at hSw); go_simp; try with_reducible rfl); try simp only [Act.put, List.setIfInBounds_toArray, List.set_cons_zero, List.set_cons_succ])
 obtain ⟨V, hV9, HVb⟩ : ∃ Z9, Z9 = w1.drew /\ Hid (Below w0.heap.size w0 Z9) := ⟨_, rfl, HB1.o.drew⟩
 rw [<- hV9]
 clear hV9
 refine rd 15 fun K1 hK1 => ?_
 go_simp
 refine hK1.out _ _ (HSo.o _ (HVb.o.alloc HVb.o.size _)) (fun _ => ?_)
 refine rd 16 fun K2 hK2 => ?_
 have hx4 : Blk (V.alloc (.cells #[.int .i64 0, .int .i64 0, .int .i64 0, .int .i64 0, .int .i64 0, .int .i64 0, .int .i64 0] 68)) V.heap.size 68 [.int .i64 0, .int .i64 0, .int .i64 0, .int .i64 0, .int .i64 0, .int .i64 0, .int .i64 0] := Blk.new V 68 [.int .i64 0, .int .i64 0, .int .i64 0, .int .i64 0, .int .i64 0, .int .i64 0, .int .i64 0]
 refine wp_store_row _ _ _ rfl V.heap.size #[.int .i64 kd, .int .i64 rg, .int .i64 ad, .int .i64 vl, .int .i64 sr, .int .i64 od, .int .i64 ct] rfl rfl 68 _ hx4 size_lin rfl (lin_one _ _ _ _ _ _ _) ?_
 have hb4 : Below w0.heap.size w0 ((V.alloc (.cells #[.int .i64 0, .int .i64 0, .int .i64 0, .int .i64 0, .int .i64 0, .int .i64 0, .int .i64 0] 68)).setRow V.heap.size #[.int .i64 kd, .int .i64 rg, .int .i64 ad, .int .i64 vl, .int .i64 sr, .int .i64 od, .int .i64 ct]) := rowB (HVb.o.alloc HVb.o.size _) HVb.o.size
 refine hK2.out _ _ (HSo.o _ hb4) (fun _ => ?_)
 refine wpAnyH_done (by kernel_rfl) ?_ _
 obtain ⟨gi, hgi⟩ : ∃ gi, gi = V.heap.size := ⟨_, rfl⟩
 obtain ⟨A, hA, HIA, hbA⟩ : ∃ Z9, Z9 = (V.alloc (.cells #[.int .i64 0, .int .i64 0, .int .i64 0, .int .i64 0, .int .i64 0, .int .i64 0, .int .i64 0] 68)).setRow V.heap.size #[.int .i64 kd, .int .i64 rg, .int .i64 ad, .int .i64 vl, .int .i64 sr, .int .i64 od, .int .i64 ct] /\ Hid (Blk Z9 gi 68 [.int .i64 kd, .int .i64 rg, .int .i64 ad, .int .i64 vl, .int .i64 sr, .int .i64 od, .int .i64 ct]) /\ Below w0.heap.size w0 Z9 := ⟨_, rfl, by rw [hgi]; exact setRow_heap _ _ _ #[.int .i64 kd, .int .i64 rg, .int .i64 ad, .int .i64 vl, .int .i64 sr, .int .i64 od, .int .i64 ct] _ _ hx4, hb4⟩
 rw [<- hA, <- hgi]
 have hgil : w.heap.size < gi := by have := HVb.o.size; omega
 have HRA := Lh (HR0.o.on hbA)
 have HGA := Lh (HG0.o.below hbA HG0.o.lt)
 have HLA := Lh (HLb0.o.below hbA HLb0.o.lt)
 have HUA := Lh (HU0.o.below hbA HU0.o.lt)
 have HWA := Lh ((HW0.o.mono hBw).trans (hbA.mono (Nat.le_trans hBw HW0.o.size)))
 have HgsA : gs < w.heap.size := HG.o.lt
 have HWs : w.heap.size + 1 < A.heap.size := by have := hbA.size; omega
 have HLitA := Lh (HL.o.keep HWA.o)
 clear hA hx4 hb4 hS HSo hgi HVb HB1 hbA HR0 HG0 HLb0 HU0 HW0 hL
 go_upto_region 5 with fail
 refine wp_region_held_drew (S := fun W => Blk W w.heap.size 25 [.slice wA wn wk, .slice (some ⟨tb, to', none⟩) tn tk] /\ Blk W (w.heap.size + 1) 91 [.int .i64 t, .bool false, .int .i64 ua]) (by kernel_rfl) ⟨HLA.o, HUA.o⟩ (fun hS => ?_)
 refine tkF 0 (v := .agg #[.slice wA wn wk, .slice (some ⟨tb, to', none⟩) tn tk]) ?_ ?_
 ·(intro W hSw; (try dsimp only at hSw); have a0 := hSw.1.cell (i := 0) rfl; have a1 := hSw.1.cell (i := 1) rfl; have b0 := hSw.2.cell (i := 0) rfl; have b1 := hSw.2.cell (i := 1) rfl; have b2 := hSw.2.cell (i := 2) rfl; go_simp)
 try simp only [Act.put, List.setIfInBounds_toArray, List.set_cons_zero, List.set_cons_succ]
 refine tkF 1 (v := .pointer (some ⟨gs, 0, none⟩)) ?_ ?_
 ·(intro W hSw; (try dsimp only at hSw); have a0 := hSw.1.cell (i := 0) rfl; have a1 := hSw.1.cell (i := 1) rfl; have b0 := hSw.2.cell (i := 0) rfl; have b1 := hSw.2.cell (i := 1) rfl; have b2 := hSw.2.cell (i := 2) rfl; go_simp)
 try simp only [Act.put, List.setIfInBounds_toArray, List.set_cons_zero, List.set_cons_succ]
 refine tkF 2 (v := .pointer (some ⟨gs, 0, none⟩)) ?_ ?_
 ·(intro W hSw; (try dsimp only at hSw); have a0 := hSw.1.cell (i := 0) rfl; have a1 := hSw.1.cell (i := 1) rfl; have b0 := hSw.2.cell (i := 0) rfl; have b1 := hSw.2.cell (i := 1) rfl; have b2 := hSw.2.cell (i := 2) rfl; go_simp)
 try simp only [Act.put, List.setIfInBounds_toArray, List.set_cons_zero, List.set_cons_succ]
 refine tkF 3 (v := .pointer (some ⟨gs, 0, none⟩)) ?_ ?_
 ·(intro W hSw; (try dsimp only at hSw); have a0 := hSw.1.cell (i := 0) rfl; have a1 := hSw.1.cell (i := 1) rfl; have b0 := hSw.2.cell (i := 0) rfl; have b1 := hSw.2.cell (i := 1) rfl; have b2 := hSw.2.cell (i := 2) rfl; go_simp)
 try simp only [Act.put, List.setIfInBounds_toArray, List.set_cons_zero, List.set_cons_succ]
 refine tkF 4 (v := .agg #[.int .i64 t, .bool false, .int .i64 ua]) ?_ ?_
 ·(intro W hSw; (try dsimp only at hSw); have a0 := hSw.1.cell (i := 0) rfl; have a1 := hSw.1.cell (i := 1) rfl; have b0 := hSw.2.cell (i := 0) rfl; have b1 := hSw.2.cell (i := 1) rfl; have b2 := hSw.2.cell (i := 2) rfl; go_simp)
 try simp only [Act.put, List.setIfInBounds_toArray, List.set_cons_zero, List.set_cons_succ]
 refine rd 5 fun K1 hK1 => ?_
 go_simp
 go_at_call 51
 refine (rturn_any ⟨wA, wn, wk, ws, some ⟨tb, to', none⟩, tn, tk, th⟩ A.drew B gs M.h S ⟨t, false, ua⟩ 80 _ (HLitA.o.keep (Below.refl _ _).drew) (by have := HWs; show B <= A.heap.size; omega) HRA.o.nu ((HRA.o.hd HGA.o).on (Below.refl _ _).drew) HGd.o HOk.o).mono ?_
 rintro e C ⟨rfl, hst5, hfr5⟩
 obtain ⟨S5, hS5⟩ : ∃ S5, S5 = turnS ⟨wA, wn, wk, ws, some ⟨tb, to', none⟩, tn, tk, th⟩ S ⟨t, false, ua⟩ := ⟨_, rfl⟩
 rw [<- hS5] at hst5 HEv
 have HS5 := Lh hS5
 clear hS5
 obtain ⟨g, hMg⟩ := at_lt (show t < M.ms.length by rw [HR.o.ml]; exact hlt)
 have HMg := Lh hMg
 clear hMg
 rw [HPe.o]
 have hfr6 : Fr (SF M.h) A C := (Fr.of (Below.refl _ _).drew).trans hfr5
 have hSf : ∀ q, SF M.h q -> q < w.heap.size := by
  rintro q (e | e | e)
  ·rw [e]; exact HR.o.st.w.lt
  ·rw [e]; exact HR.o.st.r.lt
  ·rw [e]; exact HR.o.st.p.lt
 have hSg : ∀ q, SF M.h q -> q ≠ gs := by
  have := (HR.o.hd HG.o).ne
  rintro q (e | e | e) e2
  ·exact this.1 (e2.symm.trans e)
  ·exact this.2.1 (e2.symm.trans e)
  ·exact this.2.2 (e2.symm.trans e)
 have hSC : Blk C w.heap.size 25 [.slice wA wn wk, .slice (some ⟨tb, to', none⟩) tn tk] /\ Blk C (w.heap.size + 1) 91 [.int .i64 t, .bool false, .int .i64 ua] := ⟨HLA.o.kept (hfr6.block _ HLA.o.lt (fun h9 => by have := hSf _ h9; omega)), HUA.o.kept (hfr6.block _ HUA.o.lt (fun h9 => by have := hSf _ h9; omega))⟩
 refine hK1.out _ _ hSC (fun _ => ?_)
 refine tkF 6 (v := ?_) ?_ ?_
 rotate_left
 ·(intro W hSw; (try dsimp only at hSw); go_simp; try with_reducible rfl)
 try simp only [Act.put, List.setIfInBounds_toArray, List.set_cons_zero, List.set_cons_succ]
 refine wpAnyH_done (by kernel_rfl) ?_ _
 have HRC := Lh (HRA.o.st_ hfr6 hst5)
 have HGC := Lh (HGA.o.kept (hfr6.block _ HGA.o.lt (fun h9 => hSg _ h9 rfl)))
 have HIC := Lh (HIA.o.kept (hfr6.block _ HIA.o.lt (fun h9 => by have := hSf _ h9; omega)))
 have HWC := Lh (HWA.o.trans (hfr6.to_below (by have := HWs; omega) (SF_ge HRA.o.nu)))
 clear hS hSC hSf hSg hst5 hfr5 hfr6 HRA HGA HIA HWA HLA HUA
 have i0 := HIC.o.cell (i := 0) rfl
 go_upto_region 8 with fail
 clear i0
 have hkk : kd = 1 ∨ kd = 2 ∨ kd = 3 ∨ kd = 4 ∨ kd = 5 ∨ kd = 6 ∨ kd = 7 := okIns_kind HOk9.o
 by_cases hk3 : kd <= 3
 ·have hk9 : kd = 1 ∨ kd = 2 ∨ kd = 3 := by omega
  obtain ⟨adn, ha, had⟩ : ∃ adn : Nat, ad = adn /\ adn < wn := by
   have h9 := HOk9.o
   unfold okIns at h9
   rcases hk9 with rfl | rfl | rfl
   ·rw [if_pos (Or.inl rfl), Bool.and_eq_true] at h9
    exact adr_of h9.2
   ·rw [if_neg (by simp), if_pos rfl, Bool.and_eq_true] at h9
    exact adr_of h9.1
   ·rw [if_pos (Or.inr rfl), Bool.and_eq_true] at h9
    exact adr_of h9.2
  subst ha
  have e2 : (0 : Int) <= adn := by omega
  have e3 : (adn : Int) < wn := by omega
  obtain ⟨wr, HE, HwR⟩ : ∃ wr : Bool, Hid (evOf ⟨wA, wn, wk, ws, some ⟨tb, to', none⟩, tn, tk, th⟩ S ⟨t, false, ua⟩ = some ⟨t, kd, adn, wr⟩) /\ Hid (wr = (decide (kd = 2) || (decide (kd = 3) && decide (S5.r t rg.toNat = 1)))) := by
   refine ⟨_, Lh ?_, Lh rfl⟩
   rw [HEv.o]
   rcases hk9 with rfl | rfl | rfl <;> rfl
  have b3 : (decide (kd > 3)) = false := by simp; omega
  have b4 : ¬ kd > 3 := by omega
  go_upto_region 10 with fail
  go_cut [10] (fun s10 wc => s10 = .bool wr /\ Hid (Below C.heap.size C wc))
  case first =>
   rcases hk9 with rfl | rfl | rfl
   ·go_quiet (fail)
    (try go_wp2_with fail)
    go_meet
    exact ⟨by rw [HwR.o]; rfl, Lh ((Below.refl _ _).drewN _)⟩
   ·go_quiet (fail)
    (try go_wp2_with fail)
    go_meet
    exact ⟨by rw [HwR.o]; rfl, Lh ((Below.refl _ _).drewN _)⟩
   ·obtain ⟨rgn, hrg, hrg4⟩ : ∃ rgn : Nat, rg = rgn /\ rgn < 4 := by
     have h9 := HOk9.o
     unfold okIns at h9
     rw [if_pos (Or.inr rfl), Bool.and_eq_true] at h9
     exact reg_of h9.1
    subst hrg
    have e4 : (0 : Int) <= rgn := by omega
    have e5 : (rgn : Int) < 4 := by omega
    have s1 := HGC.o.cell (i := 1) rfl
    have rc : C.cell? ⟨M.h.gr, t * 4 + rgn, none⟩ = some (.int .i64 (S5.r t rgn)) := HRC.o.st.reg (LS.r_at (S := S5) (t := t) (q := rgn) (by rw [HRC.o.st.rlen]; omega))
    have i1 := HIC.o.cell (i := 1) rfl
    by_cases hw1 : S5.r t rgn = 1
    ·have q3 : (S5.r t rgn == 1) = true := by simpa using hw1
     have HW1 := Lh hw1
     clear hw1
     go_quiet (fail)
     (try go_wp2_with fail)
     go_meet
     exact ⟨by rw [HwR.o]; show Value.bool true = Value.bool (decide (S5.r t rgn = 1)); rw [decide_eq_true HW1.o], Lh ((Below.refl _ _).drewN _)⟩
    ·have q3 : (S5.r t rgn == 1) = false := by simpa using hw1
     have HW1 := Lh hw1
     clear hw1
     go_quiet (fail)
     (try go_wp2_with fail)
     go_meet
     exact ⟨by rw [HwR.o]; show Value.bool false = Value.bool (decide (S5.r t rgn = 1)); rw [decide_eq_false HW1.o], Lh ((Below.refl _ _).drewN _)⟩
  case rest =>
  obtain ⟨rfl, hbZ⟩ := hcut
  obtain ⟨D, rfl⟩ : ∃ D : World, D = wc := ⟨_, rfl⟩
  have HRD := Lh (HRC.o.on hbZ.out)
  have HGD := Lh (HGC.o.below hbZ.out HGC.o.lt)
  have HID := Lh (HIC.o.below hbZ.out HIC.o.lt)
  have HWD := Lh (HWC.o.trans (hbZ.out.mono HRC.o.bs))
  clear hbZ HRC HGC HIC HWC
  have s4 := HGD.o.cell (i := 4) rfl
  have m1 : D.cell? ⟨M.gm, t, none⟩ = some (.slice (some ⟨g, 0, none⟩) tn (M.kc t)) := HRD.o.mi.cell (mhV_get HMg.o)
  have cg : D.cell? ⟨g, t, none⟩ = some (.int .i64 ((xAt es).m t t)) := (HRD.o.mr t g HMg.o).2.cell (clkV_get hlt)
  have cf := (HRD.o.mr t g HMg.o).2.frozen t
  go_upto_region 12 with fail
  have hgW : D.grownBy (D.setCell ⟨g, t, none⟩ (.int .i64 (wrap64 ((xAt es).m t t + 1)))) (some g) := gb_setCell (World.grownBy.refl _ _) _ _
  have hBl := (HRD.o.mr t g HMg.o).2.set_ t (.int .i64 (wrap64 ((xAt es).m t t + 1)))
  rw [bumpW_set2] at hBl
  obtain ⟨E, hZ, HRE, HGE, HIE, HWE⟩ : ∃ Z9, Z9 = D.setCell ⟨g, t, none⟩ (.int .i64 (wrap64 ((xAt es).m t t + 1))) /\ Hid (RSB Z9 B tn wn S5 ((xAt es).own t (bumpW ((xAt es).m t) t)) es M) /\ Hid (Blk Z9 gs 80 (rsL M tn wn)) /\ Hid (Blk Z9 gi 68 [.int .i64 kd, .int .i64 rg, .int .i64 adn, .int .i64 vl, .int .i64 sr, .int .i64 od, .int .i64 ct]) /\ Hid (Below B w Z9) :=
   ⟨_, rfl, HRD.o.mine HMg.o hgW hBl, HGD.o.far (((HRD.o.mr t g HMg.o).2.nb HGD.o (by decide)).symm) _, HID.o.far (((HRD.o.mr t g HMg.o).2.nb HID.o (by decide)).symm) _, HWD.o.setCell (HRD.o.mr t g HMg.o).1 _⟩
  rw [<- hZ]
  clear hZ hgW hBl s4 m1 cg cf HRD HGD HID HWD
  go_upto_if 102 with fail
  go_cut [] (fun wc => ∃ M9 : RM, Hid (RSB wc B tn wn S5 (tickS (xAt es) ⟨t, kd, adn, wr⟩) es M9) /\ Hid (Blk wc gs 80 (rsL M9 tn wn)) /\ Hid (Blk wc gi 68 [.int .i64 kd, .int .i64 rg, .int .i64 adn, .int .i64 vl, .int .i64 sr, .int .i64 od, .int .i64 ct]) /\ Hid (Below B w wc) /\ Hid (M9.ms[t]? = some g) /\ Hid (M9.Z = M.Z))
  case first =>
   by_cases hk : kd = 3
   ·subst hk
    obtain ⟨⟨pg, pk⟩, hpg⟩ := at_lt (show adn < M.ws.length by rw [HR.o.wl]; exact had)
    have HPg := Lh hpg
    clear hpg
    have s4 := HGE.o.cell (i := 4) rfl
    have m1 : E.cell? ⟨M.gm, t, none⟩ = some (.slice (some ⟨g, 0, none⟩) tn (M.kc t)) := HRE.o.mi.cell (mhV_get HMg.o)
    have s5 := HGE.o.cell (i := 5) rfl
    have i2 := HIE.o.cell (i := 2) rfl
    have p1 : E.cell? ⟨M.gd, adn, none⟩ = some (sl1 tn (pg, pk)) := HRE.o.wi.cell (by unfold whV; rw [List.getElem?_map, HPg.o]; rfl)
    have HSo : Hid (∀ W, E.grownBy W (some g) -> W.cell? ⟨gs, 4, none⟩ = some (.slice (some ⟨M.gm, 0, none⟩) tn M.km) /\ W.cell? ⟨M.gm, t, none⟩ = some (.slice (some ⟨g, 0, none⟩) tn (M.kc t)) /\ W.cell? ⟨gs, 5, none⟩ = some (.slice (some ⟨M.gd, 0, none⟩) wn M.kd) /\ W.cell? ⟨gi, 2, none⟩ = some (.int .i64 adn) /\ W.cell? ⟨M.gd, adn, none⟩ = some (sl1 tn (pg, pk))) := fun W hW => by
     have hgr := (HRE.o.mr t g HMg.o).2
     have k : ∀ (b o : Nat) (v : Value), E.cell? ⟨b, o, none⟩ = some v -> b ≠ g -> W.cell? ⟨b, o, none⟩ = some v := fun b o v hv hne => by
      have hlt9 := World.block_lt_of_cell? E _ hv
      have hkk9 := hW.block b hlt9 (by simpa using hne)
      unfold World.cell? at hv ⊢
      dsimp only at hv ⊢
      rw [hkk9]
      exact hv
     have g1 : gs ≠ g := (hgr.nb HGE.o (by decide)).symm
     exact ⟨k _ _ _ s4 g1, k _ _ _ m1 (HRE.o.mi.nt hgr (by decide)), k _ _ _ s5 g1, k _ _ _ i2 (hgr.nb HIE.o (by decide)).symm, k _ _ _ p1 (HRE.o.wi.nt hgr (by decide))⟩
    go_upto_region 13 with fail
    refine wp_region_held_drew (S := fun W => W.cell? ⟨gs, 4, none⟩ = some (.slice (some ⟨M.gm, 0, none⟩) tn M.km) /\ W.cell? ⟨M.gm, t, none⟩ = some (.slice (some ⟨g, 0, none⟩) tn (M.kc t)) /\ W.cell? ⟨gs, 5, none⟩ = some (.slice (some ⟨M.gd, 0, none⟩) wn M.kd) /\ W.cell? ⟨gi, 2, none⟩ = some (.int .i64 adn) /\ W.cell? ⟨M.gd, adn, none⟩ = some (sl1 tn (pg, pk))) (by kernel_rfl) (HSo.o _ (gb_below (Below.refl _ _).drew _)) (fun hS => ?_)
    iterate 15 (refine tkF 0 (v := ?_) ?_ ?_; rotate_left; · (intro W hSw; (try dsimp only at hSw); go_simp; try with_reducible rfl); try simp only [Act.put, List.setIfInBounds_toArray, List.set_cons_zero, List.set_cons_succ])
    refine rd 15 fun K1 hK1 => ?_
    go_simp
    go_at_call 52
    have hgrE := (HRE.o.mr t g HMg.o).2
    have hpgE := HRE.o.wr adn (pg, pk) HPg.o
    have hne9 : pg ≠ g := fun e => hpgE.1 (e ▸ mut_ms HMg.o)
    refine (rraise_cap g (((xAt es).own t (bumpW ((xAt es).m t) t)).m t) (((xAt es).own t (bumpW ((xAt es).m t) t)).wd adn) (some ⟨pg, 0, none⟩) tn pk (M.kc t) E.drew hgrE hpgE.2.sl (fun b o h9 => by injection h9 with h9; injection h9 with h9; rw [<- h9]; exact hne9) (by simp only [maxLen]; omega)).mono ?_
    rintro e F ⟨rfl, hgF, hBF⟩
    have hgF2 : E.grownBy F (some g) := (gb_below (Below.refl _ _).drew _).trans hgF
    have hRF := HRE.o.mine HMg.o hgF2 hBF
    rw [own_own, own_m] at hRF
    have HRF : Hid (RSB F B tn wn S5 ((xAt es).own t (tickM (xAt es) ⟨t, 3, adn, wr⟩)) es M) := by rw [tickM_sw (e := ⟨t, 3, adn, wr⟩) rfl]; exact hRF
    have HGF := Lh (HGE.o.grown hgF2 (by intro e; injection e with e; exact hgrE.nb HGE.o (by decide) e.symm))
    have HIF := Lh (HIE.o.grown hgF2 (by intro e; injection e with e; exact hgrE.nb HIE.o (by decide) e.symm))
    have HWF := Lh (HWE.o.grown hgF2 HRE.o.bs (fun q hq => by injection hq with hq; rw [<- hq]; exact (HRE.o.mr t g HMg.o).1))
    refine hK1.out _ _ (HSo.o _ hgF2) (fun _ => ?_)
    refine wpAnyH_done (by kernel_rfl) ?_ _
    clear hgrE hpgE hne9 hgF hBF hgF2 hRF hS HSo s4 m1 s5 i2 p1 HRE HGE HIE HWE
    have s4 := HGF.o.cell (i := 4) rfl
    have m1 : F.cell? ⟨M.gm, t, none⟩ = some (.slice (some ⟨g, 0, none⟩) tn (M.kc t)) := HRF.o.mi.cell (mhV_get HMg.o)
    have s5 := HGF.o.cell (i := 5) rfl
    have i2 := HIF.o.cell (i := 2) rfl
    have HSo : Hid (∀ W, Below F.heap.size F W -> W.cell? ⟨gs, 4, none⟩ = some (.slice (some ⟨M.gm, 0, none⟩) tn M.km) /\ W.cell? ⟨M.gm, t, none⟩ = some (.slice (some ⟨g, 0, none⟩) tn (M.kc t)) /\ W.cell? ⟨gs, 5, none⟩ = some (.slice (some ⟨M.gd, 0, none⟩) wn M.kd) /\ W.cell? ⟨gi, 2, none⟩ = some (.int .i64 adn)) := fun W hW => by
     have k : ∀ (a : Addr) (v : Value), F.cell? a = some v -> W.cell? a = some v := fun a v hv => (hW.cell (World.block_lt_of_cell? F a hv)).trans hv
     exact ⟨k _ _ s4, k _ _ m1, k _ _ s5, k _ _ i2⟩
    have HTw : Hid (∀ V : World, Below F.heap.size F V -> Calls Tryz.prog 50 #[.slice (some ⟨g, 0, none⟩) tn (M.kc t)] V (CopyR (clkL tn (tickM (xAt es) ⟨t, 3, adn, wr⟩)) tn V)) := fun V hV => by
     refine twin27_any _ _ tn _ V ?_ (by omega)
     have h9 := ((HRF.o.mr t g HMg.o).2.on hV).sl
     rwa [own_m] at h9
    cases wr
    ·go_wp2_with fail
     go_meet
     exact ⟨M, by rw [<- tick_sw0 (x := xAt es) (e := ⟨t, 3, adn, false⟩) rfl]; exact HRF, HGF, HIF, HWF, HMg, Lh rfl⟩
    ·go_upto_region 15 with fail
     refine wp_region_held_drew (S := fun W => W.cell? ⟨gs, 4, none⟩ = some (.slice (some ⟨M.gm, 0, none⟩) tn M.km) /\ W.cell? ⟨M.gm, t, none⟩ = some (.slice (some ⟨g, 0, none⟩) tn (M.kc t)) /\ W.cell? ⟨gs, 5, none⟩ = some (.slice (some ⟨M.gd, 0, none⟩) wn M.kd) /\ W.cell? ⟨gi, 2, none⟩ = some (.int .i64 adn)) (by kernel_rfl) (HSo.o _ (Below.refl _ _).drew) (fun hS => ?_)
     iterate 13 (refine tkF 0 (v := ?_) ?_ ?_; rotate_left; · (intro W hSw; (try dsimp only at hSw); go_simp; try with_reducible rfl); try simp only [Act.put, List.setIfInBounds_toArray, List.set_cons_zero, List.set_cons_succ])
     refine rd 13 fun K1 hK1 => ?_
     go_simp
     go_at_call 50
     refine (HTw.o F.drew (Below.refl _ _).drew).mono ?_
     rintro e V1 ⟨A2, kq, rfl, hown2, hb2, hk21, hk22⟩
     have hbV : Below F.heap.size F V1 := (Below.refl _ _).drew.trans hb2
     obtain ⟨gq, hg2, hgqB, hR2⟩ := Rw.of_own hown2 (by omega)
     subst hg2
     refine hK1.out _ _ (HSo.o _ hbV) (fun hS1 => ?_)
     refine tkF 14 (v := ?_) ?_ ?_
     rotate_left
     ·(intro W hSw; (try dsimp only at hSw); go_simp; try with_reducible rfl)
     try simp only [Act.put, List.setIfInBounds_toArray, List.set_cons_zero, List.set_cons_succ]
     refine rd 15 fun K2 hK2 => ?_
     have hRV := HRF.o.on hbV
     have dd : V1.cell? ⟨M.gd, adn, none⟩ = some (sl1 tn (pg, pk)) := hRV.wi.cell (by unfold whV; rw [List.getElem?_map, HPg.o]; rfl)
     have dff := hRV.wi.frozen adn
     go_simp
     have hne1 : M.gd ≠ gs := HRF.o.wi.nb HGF.o (by decide)
     have hne2 : M.gd ≠ gi := HRF.o.wi.nb HIF.o (by decide)
     have hne3 := HRF.o.gg
     have hS2 : (V1.setCell ⟨M.gd, adn, none⟩ (.slice (some ⟨gq, 0, none⟩) tn kq)).cell? ⟨gs, 4, none⟩ = some (.slice (some ⟨M.gm, 0, none⟩) tn M.km) /\ (V1.setCell ⟨M.gd, adn, none⟩ (.slice (some ⟨gq, 0, none⟩) tn kq)).cell? ⟨M.gm, t, none⟩ = some (.slice (some ⟨g, 0, none⟩) tn (M.kc t)) /\ (V1.setCell ⟨M.gd, adn, none⟩ (.slice (some ⟨gq, 0, none⟩) tn kq)).cell? ⟨gs, 5, none⟩ = some (.slice (some ⟨M.gd, 0, none⟩) wn M.kd) /\ (V1.setCell ⟨M.gd, adn, none⟩ (.slice (some ⟨gq, 0, none⟩) tn kq)).cell? ⟨gi, 2, none⟩ = some (.int .i64 adn) := by
      obtain ⟨z0, z1, z2, z3⟩ := hS1
      refine ⟨(World.cell?_setCell_other _ _ _ _ (by simp [hne1.symm])).trans z0, (World.cell?_setCell_other _ _ _ _ (by simp [hne3])).trans z1, (World.cell?_setCell_other _ _ _ _ (by simp [hne1.symm])).trans z2, (World.cell?_setCell_other _ _ _ _ (by simp [hne2.symm])).trans z3⟩
     refine hK2.out _ _ hS2 (fun _ => ?_)
     refine wpAnyH_done (by kernel_rfl) ?_ _
     obtain ⟨G, hZ, HRG, HGG, HIG, HWG⟩ : ∃ Z9, Z9 = V1.setCell ⟨M.gd, adn, none⟩ (.slice (some ⟨gq, 0, none⟩) tn kq) /\ Hid (RSB Z9 B tn wn S5 (tickS (xAt es) ⟨t, 3, adn, true⟩) es { M with ws := M.ws.set adn (gq, kq) }) /\ Hid (Blk Z9 gs 80 (rsL M tn wn)) /\ Hid (Blk Z9 gi 68 [.int .i64 3, .int .i64 rg, .int .i64 adn, .int .i64 vl, .int .i64 sr, .int .i64 od, .int .i64 ct]) /\ Hid (Below B w Z9) :=
      ⟨_, rfl, by rw [<- tick_sw1 (x := xAt es) (e := ⟨t, 3, adn, true⟩) rfl rfl]; exact hRV.word hR2 (HRF.o.fresh hgqB) (Nat.le_trans HRF.o.bs hgqB) had, (HGF.o.below hbV HGF.o.lt).far hne1.symm _, (HIF.o.below hbV HIF.o.lt).far hne2.symm _, (HWF.o.trans (hbV.mono HRF.o.bs)).setCell HRF.o.gdB _⟩
     rw [<- hZ]
     clear hZ hS2 hS1 hS dd dff hRV hbV hb2 hown2 hR2 hne1 hne2 hne3 HSo HTw s4 m1 s5 i2 HRF HGF HIF HWF
     go_wp2_with fail
     go_meet
     exact ⟨{ M with ws := M.ws.set adn (gq, kq) }, HRG, HGG, HIG, HWG, HMg, Lh rfl⟩
   ·have hk2 : (kd == 3) = false := by simpa using hk
    go_wp2_with fail
    go_meet
    exact ⟨M, by rw [<- tick_pl (x := xAt es) (e := ⟨t, kd, adn, wr⟩) hk]; exact HRE, HGE, HIE, HWE, HMg, Lh rfl⟩
  case rest =>
  obtain ⟨M, HRE, HGE, HIE, HWE, HMg, HZ9⟩ := hcut
  obtain ⟨E, rfl⟩ : ∃ E : World, E = wc := ⟨_, rfl⟩
  have s4 := HGE.o.cell (i := 4) rfl
  have m1 : E.cell? ⟨M.gm, t, none⟩ = some (.slice (some ⟨g, 0, none⟩) tn (M.kc t)) := HRE.o.mi.cell (mhV_get HMg.o)
  have i0 := HIE.o.cell (i := 0) rfl
  have i2 := HIE.o.cell (i := 2) rfl
  obtain ⟨vA, vk, hvE, hvk1, hvk2⟩ := own_form HRE.o.ev
  have HvE : Hid (M.vE = .slice vA es.length vk) := Lh hvE
  clear hvE
  have HE6 : Hid (E.cell? ⟨gs, 6, none⟩ = some (.slice vA es.length vk)) := by rw [<- HvE.o]; exact HGE.o.cell rfl
  have HEv6 : Hid (E.ownsRow B 147 5 (.slice vA es.length vk) es.length (evcV tn es M.cs)) := by rw [<- HvE.o]; exact HRE.o.ev
  have HEb : Hid (some gs ≠ (Value.slice vA es.length vk).ownBlock) := own_nb HEv6.o HGE.o (by decide)
  have hiD := HIE.o.lt
  have hgD := HGE.o.lt
  have HSo : Hid (∀ W, E.grownBy W (Value.slice vA es.length vk).ownBlock -> W.cell? ⟨gs, 4, none⟩ = some (.slice (some ⟨M.gm, 0, none⟩) tn M.km) /\ W.cell? ⟨M.gm, t, none⟩ = some (.slice (some ⟨g, 0, none⟩) tn (M.kc t)) /\ W.cell? ⟨gi, 0, none⟩ = some (.int .i64 kd) /\ W.cell? ⟨gi, 2, none⟩ = some (.int .i64 adn)) := fun W hW => by
   have e1 := own_nr HEv6.o HRE.o.mi (by decide)
   have e2 := own_nb HEv6.o HIE.o (by decide)
   have k : ∀ (b o : Nat) (v : Value), E.cell? ⟨b, o, none⟩ = some v -> some b ≠ (Value.slice vA es.length vk).ownBlock -> W.cell? ⟨b, o, none⟩ = some v := fun b o v hv hne => by
    have hlt9 := World.block_lt_of_cell? E _ hv
    have hkk9 := hW.block b hlt9 hne
    unfold World.cell? at hv ⊢
    dsimp only at hv ⊢
    rw [hkk9]
    exact hv
   exact ⟨k _ _ _ s4 HEb.o, k _ _ _ m1 e1, k _ _ _ i0 e2, k _ _ _ i2 e2⟩
  have HTw : Hid (∀ V : World, Below E.heap.size E V -> Calls Tryz.prog 50 #[.slice (some ⟨g, 0, none⟩) tn (M.kc t)] V (CopyR (clkL tn (tickM (xAt es) ⟨t, kd, adn, wr⟩)) tn V)) := fun V hV => by
   refine twin27_any _ _ tn _ V ?_ (by omega)
   have h9 := ((HRE.o.mr t g HMg.o).2.on hV).sl
   rwa [show (tickS (xAt es) ⟨t, kd, adn, wr⟩).m t = tickM (xAt es) ⟨t, kd, adn, wr⟩ from tickS_m _ _] at h9
  go_upto_region 16 with fail
  refine wp_region_held_drew (S := fun W => W.cell? ⟨gs, 4, none⟩ = some (.slice (some ⟨M.gm, 0, none⟩) tn M.km) /\ W.cell? ⟨M.gm, t, none⟩ = some (.slice (some ⟨g, 0, none⟩) tn (M.kc t)) /\ W.cell? ⟨gi, 0, none⟩ = some (.int .i64 kd) /\ W.cell? ⟨gi, 2, none⟩ = some (.int .i64 adn)) (by kernel_rfl) (HSo.o _ (gb_below (Below.refl _ _).drew _)) (fun hS => ?_)
  iterate 4 (refine tkF 0 (v := ?_) ?_ ?_; rotate_left; · (intro W hSw; (try dsimp only at hSw); go_simp; try with_reducible rfl); try simp only [Act.put, List.setIfInBounds_toArray, List.set_cons_zero, List.set_cons_succ])
  iterate 14 (refine tkF 5 (v := ?_) ?_ ?_; rotate_left; · (intro W hSw; (try dsimp only at hSw); go_simp; try with_reducible rfl); try simp only [Act.put, List.setIfInBounds_toArray, List.set_cons_zero, List.set_cons_succ])
  obtain ⟨V0, hV9, HV0b⟩ : ∃ Z9, Z9 = E.drew /\ Hid (Below E.heap.size E Z9) := ⟨_, rfl, (Below.refl _ _).drew⟩
  rw [<- hV9]
  clear hV9 s4 m1 i0 i2
  refine rd2 4 19 (fun K1 hK1 => ?ga) (fun K1 hK1 => ?gb)
  case' ga =>
   have s6 : V0.cell? ⟨gs, 6, none⟩ = some (.slice vA es.length vk) := (HV0b.o.cell (p := ⟨gs, 6, none⟩) HGE.o.lt).trans HE6.o
   go_simp
   clear s6
   refine hK1.out _ _ (HSo.o _ (gb_below HV0b.o _)) (fun hS1 => ?_)
   refine rd 19 fun K2 hK2 => ?_
   go_simp
   go_at_call 50
   refine (HTw.o V0 HV0b.o).mono ?_
   rintro e V1 ⟨A2, k2, rfl, hown2, hb2, hk21, hk22⟩
   have HV1b := Lh (HV0b.o.trans (hb2.mono HV0b.o.size))
   refine hK2.out _ _ (HSo.o _ (gb_below HV1b.o _)) (fun hS2 => ?_)
   obtain ⟨g2, hg2, hg2B, hR2⟩ := Rw.of_own hown2 (by omega)
   subst hg2
   refine tkF 20 (v := ?_) ?_ ?_
   rotate_left
   ·(intro W hSw; (try dsimp only at hSw); go_simp; try with_reducible rfl)
   try simp only [Act.put, List.setIfInBounds_toArray, List.set_cons_zero, List.set_cons_succ]
   refine rd 21 fun K3 hK3 => ?_
   go_simp
   have hbA := HV1b.o.alloc HV1b.o.size (.cells #[.int .i64 t, .int .i64 kd, .int .i64 adn, .bool wr, .slice (some ⟨g2, 0, none⟩) tn k2] 147)
   refine hK3.out _ _ (HSo.o _ (gb_below hbA _)) (fun hS3 => ?_)
  case' gb =>
   go_simp
   go_at_call 50
   refine (HTw.o V0 HV0b.o).mono ?_
   rintro e V1 ⟨A2, k2, rfl, hown2, hb2, hk21, hk22⟩
   have HV1b := Lh (HV0b.o.trans (hb2.mono HV0b.o.size))
   refine hK1.out _ _ (HSo.o _ (gb_below HV1b.o _)) (fun hS1 => ?_)
   obtain ⟨g2, hg2, hg2B, hR2⟩ := Rw.of_own hown2 (by omega)
   subst hg2
   refine tkF 20 (v := ?_) ?_ ?_
   rotate_left
   ·(intro W hSw; (try dsimp only at hSw); go_simp; try with_reducible rfl)
   try simp only [Act.put, List.setIfInBounds_toArray, List.set_cons_zero, List.set_cons_succ]
   have hbA := HV1b.o.alloc HV1b.o.size (.cells #[.int .i64 t, .int .i64 kd, .int .i64 adn, .bool wr, .slice (some ⟨g2, 0, none⟩) tn k2] 147)
   refine rd2 4 21 (fun K2 hK2 => ?gba) (fun K2 hK2 => ?gbb)
   case' gba =>
    have s6 : V1.cell? ⟨gs, 6, none⟩ = some (.slice vA es.length vk) := (HV1b.o.cell (p := ⟨gs, 6, none⟩) HGE.o.lt).trans HE6.o
    go_simp
    clear s6
    refine hK2.out _ _ (HSo.o _ (gb_below HV1b.o _)) (fun hS2 => ?_)
    refine rd 21 fun K3 hK3 => ?_
    go_simp
    refine hK3.out _ _ (HSo.o _ (gb_below hbA _)) (fun hS3 => ?_)
   case' gbb =>
    go_simp
    refine hK2.out _ _ (HSo.o _ (gb_below hbA _)) (fun hS2 => ?_)
    have s6 : (V1.alloc (.cells #[.int .i64 t, .int .i64 kd, .int .i64 adn, .bool wr, .slice (some ⟨g2, 0, none⟩) tn k2] 147)).cell? ⟨gs, 6, none⟩ = some (.slice vA es.length vk) := (hbA.cell (p := ⟨gs, 6, none⟩) HGE.o.lt).trans HE6.o
    refine rd 4 fun K3 hK3 => ?_
    go_simp
    clear s6
    refine hK3.out _ _ (HSo.o _ (gb_below hbA _)) (fun hS3 => ?_)
  all_goals (
   have hg2D : E.heap.size <= g2 := Nat.le_trans HV0b.o.size hg2B
   have HRw2 := Lh hR2
   clear hown2 hb2 hR2
   refine rd1 22 fun K4 hK4 => ?_
   refine step_app _ (by rfl) _ _ 78 (by rfl) B 147 ie (.agg #[.int .i64 0, .int .i64 0, .int .i64 0, .bool false, .slice none 0 0]) 5 56 Tryz.underlying78 hie hiez hies hieb rfl (by decide) (.slice vA es.length vk) es.length (evcV tn es M.cs) (by rfl) (HEv6.o.below hbA) (V1.heap.size + 1) (some ⟨V1.heap.size, 0, none⟩) 1 1 [.int .i64 t, .int .i64 kd, .int .i64 adn, .bool wr, .slice (some ⟨g2, 0, none⟩) tn k2] (by rfl) (((Blk.new V1 147 _).sl rfl).up (by simp)) (evc_one _ _ _ _ _ _ _) (es.length + 1) rfl _ rfl _ rfl (by simp only [maxLen]; omega) (by omega) (by have := HV1b.o.size; have := HRE.o.bs; rw [World.size_alloc]; omega) ?_
   intro A9 k9 W9 hown9 hg9 hat9 hk91 hk92
   have hgg := (gb_below hbA (Value.slice vA es.length vk).ownBlock).trans hg9
   have hG9 := HGE.o.grown hgg HEb.o
   have d0 : W9.cell? ⟨gs, 6, none⟩ = some (.slice vA es.length vk) := by rw [<- HvE.o]; exact hG9.cell rfl
   have df := hG9.frozen 6
   refine hK4.out _ _ (HSo.o _ hgg) (fun hS4 => ?_)
   iterate 2 (refine tkF 23 (v := ?_) ?_ ?_; rotate_left; · (intro W hSw; (try dsimp only at hSw); go_simp; try with_reducible rfl); try simp only [Act.put, List.setIfInBounds_toArray, List.set_cons_zero, List.set_cons_succ])
   refine rd 25 fun K5 hK5 => ?_
   go_simp
   have hS5 : (W9.setCell ⟨gs, 6, none⟩ (.slice A9 (es.length + 1) k9)).cell? ⟨gs, 4, none⟩ = some (.slice (some ⟨M.gm, 0, none⟩) tn M.km) /\ (W9.setCell ⟨gs, 6, none⟩ (.slice A9 (es.length + 1) k9)).cell? ⟨M.gm, t, none⟩ = some (.slice (some ⟨g, 0, none⟩) tn (M.kc t)) /\ (W9.setCell ⟨gs, 6, none⟩ (.slice A9 (es.length + 1) k9)).cell? ⟨gi, 0, none⟩ = some (.int .i64 kd) /\ (W9.setCell ⟨gs, 6, none⟩ (.slice A9 (es.length + 1) k9)).cell? ⟨gi, 2, none⟩ = some (.int .i64 adn) := by
    obtain ⟨z0, z1, z2, z3⟩ := hS4
    have hne1 : M.gm ≠ gs := HRE.o.mi.nb HGE.o (by decide)
    refine ⟨(World.cell?_setCell_other _ _ _ _ (by simp)).trans z0, (World.cell?_setCell_other _ _ _ _ (by simp [hne1])).trans z1, (World.cell?_setCell_other _ _ _ _ (by simp)).trans z2, (World.cell?_setCell_other _ _ _ _ (by simp)).trans z3⟩
   refine hK5.out _ _ hS5 (fun _ => ?_)
   refine wpAnyH_done (by kernel_rfl) ?_ _
   have hRA := HRw2.o.on (W' := V1.alloc (.cells #[.int .i64 t, .int .i64 kd, .int .i64 adn, .bool wr, .slice (some ⟨g2, 0, none⟩) tn k2] 147)) ((Below.refl _ _).alloc (Nat.le_refl _) _)
   have hRw9 : Rw W9 g2 3 1 tn k2 (ints (clkL tn (ckAt (es ++ [⟨t, kd, adn, wr⟩]) es.length))) := by
    rw [ckAt_snoc]
    exact hRA.gb hg9 (own_nr (HEv6.o.below hbA) hRA (by decide))
   have hEnd := ((HRE.o.event (e := ⟨t, kd, adn, wr⟩) rfl hRw9 (HRE.o.fresh hg2D) (Nat.le_trans HRE.o.bs hg2D) (by rw [show RM.vE M = M.vE from rfl, HvE.o]; exact hgg) hown9).head hG9 6 (.slice A9 (es.length + 1) k9))
   have HEnd := Lh hEnd
   have HGe : Hid (Blk (W9.setCell ⟨gs, 6, none⟩ (.slice A9 (es.length + 1) k9)) gs 80 (rsL { M with vE := .slice A9 (es.length + 1) k9, cs := RM.cs M ++ [(g2, k2)] } tn wn)) := hG9.set_ 6 _
   have HWe : Hid (Below B w (W9.setCell ⟨gs, 6, none⟩ (.slice A9 (es.length + 1) k9))) := (HWE.o.grown hgg HRE.o.bs (fun q hq => (HEv6.o.lt q hq).1)).setCell hgs _
   clear hEnd d0 df hS5 hS4 hRA hRw9 hown9 hg9 hgg hG9 hbA
   go_wp2_with fail
   go_ret
   exact Rt27R.loud HPe.o HE.o HWe.o HGe.o (by rw [<- HS5.o]; exact HEnd.o) HZ9.o)
 ·have hE : evOf ⟨wA, wn, wk, ws, some ⟨tb, to', none⟩, tn, tk, th⟩ S ⟨t, false, ua⟩ = none := by
   rw [HEv.o]
   rcases (show kd = 4 ∨ kd = 5 ∨ kd = 6 ∨ kd = 7 by omega) with rfl | rfl | rfl | rfl <;> rfl
  have HE := Lh hE
  clear hE
  have b3 : (decide (kd > 3)) = true := by simp; omega
  have b4 : kd > 3 := by omega
  go_wp2_with fail
  go_ret
  exact Rt27R.quiet HPe.o HE.o HWC.o HGC.o (by rw [<- HS5.o]; exact HRC.o) rfl
end Go.Proofs.YtgjdgapfnfhklaaGreat
