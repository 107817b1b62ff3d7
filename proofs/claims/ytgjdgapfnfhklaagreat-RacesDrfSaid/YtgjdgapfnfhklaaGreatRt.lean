/-
reclaimref19.see, reclaimref19.out and reclaimref19.Turn, un
-/
import Derived.Test.YtgjdgapfnfhklaaGreatZ25
import Derived.Deep.CutBlock
import Derived.Test.YtgjdgapfnfhklaaGreatMad
import Derived.Test.YtgjdgapfnfhklaaGreatZ5
set_option linter.unusedSimpArgs false
set_option linter.unusedVariables false
set_option maxRecDepth 100000
set_option maxHeartbeats 8000000
namespace Go.Proofs.YtgjdgapfnfhklaaGreat
open Go.RowKit
structure HdAt (W : World) (gs : Nat) (h : SH) (n nw : Nat) (S : LS) (tt : TypeId) (xs : List Value) : Prop where
 b : Blk W gs tt (stL h n nw ++ xs)
 st : StAt W h n nw S
 ne : gs ≠ h.gw /\ gs ≠ h.gr /\ gs ≠ h.gp
section
variable {W W' : World} {gs : Nat} {h : SH} {n nw : Nat} {S : LS} {tt : TypeId} {xs : List Value}
theorem HdAt.on (H : HdAt W gs h n nw S tt xs) (hb : Below W.heap.size W W') : HdAt W' gs h n nw S tt xs := ⟨H.b.below hb H.b.lt, H.st.on hb, H.ne⟩
theorem HdAt.setR (H : HdAt W gs h n nw S tt xs) (j : Nat) (z : Int) : HdAt (W.setCell ⟨h.gr, j, none⟩ (.int .i64 z)) gs h n nw ⟨S.ws, S.rs.set j z, S.ps⟩ tt xs := ⟨H.b.far H.ne.2.1 _, H.st.setR j z, H.ne⟩
theorem HdAt.setW (H : HdAt W gs h n nw S tt xs) (j : Nat) (z : Int) : HdAt (W.setCell ⟨h.gw, j, none⟩ (.int .i64 z)) gs h n nw ⟨S.ws.set j z, S.rs, S.ps⟩ tt xs := ⟨H.b.far H.ne.1 _, H.st.setW j z, H.ne⟩
theorem HdAt.s0 (H : HdAt W gs h n nw S tt xs) : W.cell? ⟨gs, 0, none⟩ = some (.slice (some ⟨h.gw, 0, none⟩) nw h.kw) := H.b.cell rfl
theorem HdAt.s1 (H : HdAt W gs h n nw S tt xs) : W.cell? ⟨gs, 1, none⟩ = some (.slice (some ⟨h.gr, 0, none⟩) n h.kr) := H.b.cell rfl
theorem HdAt.s2 (H : HdAt W gs h n nw S tt xs) : W.cell? ⟨gs, 2, none⟩ = some (.slice (some ⟨h.gp, 0, none⟩) n h.kp) := H.b.cell rfl
theorem HdAt.s3 (H : HdAt W gs h n nw S tt xs) : W.cell? ⟨gs, 3, none⟩ = some (.slice (some ⟨h.gb, 0, none⟩) n h.kb) := H.b.cell rfl
end
theorem see_any (W : World) (gs : Nat) (h : SH) (n nw : Nat) (S : LS) (tt : TypeId) (xs : List Value) (H : HdAt W gs h n nw S tt xs) (t ad : Nat) (ht : t < n) (ha : ad < nw) :
  Calls Tryz.prog 70 #[.pointer (some ⟨gs, 0, none⟩), .int .i64 t, .int .i64 ad] W (fun e w' => e = .returned (.int .i64 (S.w ad)) /\ w' = W) := by
 have s0 := H.s0
 have s3 := H.s3
 have c0 : W.cell? ⟨h.gw, ad, none⟩ = some (.int .i64 (S.w ad)) := H.st.word (LS.w_at (by rw [H.st.wlen]; exact ha))
 have c1 : W.cell? ⟨h.gb, t, none⟩ = some (.slice none 0 0) := H.st.buf ht
 have e0 : (0 : Int) <= t := by omega
 have e1 : (t : Int) < n := by omega
 have e2 : (0 : Int) <= ad := by omega
 have e3 : (ad : Int) < nw := by omega
 clear H
 go_enter Tryz.func70, Tryz.ntmps70
 go_wp2_with fail
 go_loopg [7, 8] 0 (fun g9 v i wr => v = .int .i64 (S.w ad) /\ i = .int .i64 0 /\ wr = W)
 case atStart => exact ⟨rfl, rfl, rfl⟩
 case round =>
  obtain ⟨rfl, rfl, rfl⟩ := hrel
  have d1 : decide ((0 : Int) < 0) = false := rfl
  go_wp2_with fail
  go_ret
  exact ⟨rfl, rfl⟩
theorem rout_any (W : World) (gs : Nat) (h : SH) (n nw : Nat) (S : LS) (tt : TypeId) (xs : List Value) (H : HdAt W gs h n nw S tt xs) (t : Nat) (a : Int) (ht : t < n) :
  Calls Tryz.prog 69 #[.int .i64 1, .pointer (some ⟨gs, 0, none⟩), .int .i64 t, .int .i64 a] W (fun e w' => e = .returned (.bool false) /\ w' = W) := by
 have s3 := H.s3
 have c1 : W.cell? ⟨h.gb, t, none⟩ = some (.slice none 0 0) := H.st.buf ht
 have e0 : (0 : Int) <= t := by omega
 have e1 : (t : Int) < n := by omega
 clear H
 go_enter Tryz.func69, Tryz.ntmps69
 go_wp2_with fail
 go_loopg [9] 0 (fun g9 i wr => i = .int .i64 0 /\ wr = W)
 case atStart => exact ⟨rfl, rfl⟩
 case round =>
  obtain ⟨rfl, rfl⟩ := hrel
  have d1 : decide ((0 : Int) < 0) = false := rfl
  go_wp2_with fail
  go_ret
  exact ⟨rfl, rfl⟩
theorem rturn_no (l : Lit) (w : World) (B gs : Nat) (h : SH) (S : LS) (u : Tn) (tt : TypeId) (xs : List Value) (hl : LitAt w B l) (hBw : B <= w.heap.size) (hn : NewS B h) (hh : HdAt w gs h l.tn l.wn S tt xs) (hg : GoodS l S) (hok : okLit l = true) (hp : pickS l S u = none) :
  Calls Tryz.prog 51 #[litV l, .int .i64 1, .pointer (some ⟨gs, 0, none⟩), tnV u] w (BoolR false w) := by
 obtain ⟨n1, n2, n3, n4⟩ := okLit_num hok
 have HL := Lh hl
 have HH := Lh hh
 have HG := Lh hg
 have HOk := Lh hok
 have HP := Lh hp
 have HNw := Lh hn
 obtain ⟨tb, to', hta, htb, _⟩ := hl.heads n1
 clear hl hh hg hok hp hn
 obtain ⟨wA, wn, wk, ws, tA, tn, tk, th⟩ := l
 have hta' : tA = some ⟨tb, to', none⟩ := hta
 subst hta'
 clear hta
 dsimp only at n1 n2 n3 n4
 replace HH : Hid (HdAt w gs h tn wn S tt xs) := HH
 obtain ⟨ut, uo, ua⟩ := u
 by_cases h0 : ut < 0
 case pos =>
  have d1 : decide (ut < 0) = true := by simpa using h0
  obtain ⟨w0, hw0⟩ : ∃ w0 : World, w0 = (w.alloc (.cells #[.slice wA wn wk, .slice (some ⟨tb, to', none⟩) tn tk] 25)).alloc (.cells #[.int .i64 ut, .bool uo, .int .i64 ua] 91) := ⟨_, rfl⟩
  have HLb0 : Hid (Blk w0 w.heap.size 25 [.slice wA wn wk, .slice (some ⟨tb, to', none⟩) tn tk]) := by rw [hw0]; exact (Blk.new w 25 [.slice wA wn wk, .slice (some ⟨tb, to', none⟩) tn tk]).alloc _
  have HU0 : Hid (Blk w0 (w.heap.size + 1) 91 [.int .i64 ut, .bool uo, .int .i64 ua]) := by
   rw [hw0]
   have h9 := Blk.new (w.alloc (.cells #[.slice wA wn wk, .slice (some ⟨tb, to', none⟩) tn tk] 25)) 91 [.int .i64 ut, .bool uo, .int .i64 ua]
   rw [World.size_alloc] at h9
   exact h9
  have HW0 : Hid (Below w.heap.size w w0) := by rw [hw0]; exact ((Below.refl _ _).alloc (Nat.le_refl _) _).alloc (by simp) _
  have hz0 : w.heap.size + 1 < w0.heap.size := HU0.o.lt
  have HWe := Lh hw0
  clear hw0
  go_enter Tryz.func51, Tryz.ntmps51
  go_upto_region 1 with fail
  rw [<- HWe.o]
  clear HWe
  have HH0 := Lh (HH.o.on HW0.o)
  have q1 := HLb0.o.cell (i := 1) rfl
  have u0 := HU0.o.cell (i := 0) rfl
  have u1 := HU0.o.cell (i := 1) rfl
  have u2 := HU0.o.cell (i := 2) rfl
  go_wp2_with fail
  go_ret
  exact ⟨rfl, HW0.o⟩
 have d1 : decide (ut < 0) = false := by simpa using h0
 obtain ⟨t, rfl⟩ : ∃ t : Nat, ut = t := ⟨ut.toNat, by omega⟩
 by_cases h1 : tn <= t
 case pos =>
  have d2 : decide ((tn : Int) <= t) = true := by simp; omega
  have d3 : (tn : Int) <= t := by omega
  obtain ⟨w0, hw0⟩ : ∃ w0 : World, w0 = (w.alloc (.cells #[.slice wA wn wk, .slice (some ⟨tb, to', none⟩) tn tk] 25)).alloc (.cells #[.int .i64 t, .bool uo, .int .i64 ua] 91) := ⟨_, rfl⟩
  have HLb0 : Hid (Blk w0 w.heap.size 25 [.slice wA wn wk, .slice (some ⟨tb, to', none⟩) tn tk]) := by rw [hw0]; exact (Blk.new w 25 [.slice wA wn wk, .slice (some ⟨tb, to', none⟩) tn tk]).alloc _
  have HU0 : Hid (Blk w0 (w.heap.size + 1) 91 [.int .i64 t, .bool uo, .int .i64 ua]) := by
   rw [hw0]
   have h9 := Blk.new (w.alloc (.cells #[.slice wA wn wk, .slice (some ⟨tb, to', none⟩) tn tk] 25)) 91 [.int .i64 t, .bool uo, .int .i64 ua]
   rw [World.size_alloc] at h9
   exact h9
  have HW0 : Hid (Below w.heap.size w w0) := by rw [hw0]; exact ((Below.refl _ _).alloc (Nat.le_refl _) _).alloc (by simp) _
  have hz0 : w.heap.size + 1 < w0.heap.size := HU0.o.lt
  have HWe := Lh hw0
  clear hw0
  go_enter Tryz.func51, Tryz.ntmps51
  go_upto_region 1 with fail
  rw [<- HWe.o]
  clear HWe
  have HH0 := Lh (HH.o.on HW0.o)
  have q1 := HLb0.o.cell (i := 1) rfl
  have u0 := HU0.o.cell (i := 0) rfl
  have u1 := HU0.o.cell (i := 1) rfl
  have u2 := HU0.o.cell (i := 2) rfl
  go_wp2_with fail
  go_ret
  exact ⟨rfl, HW0.o⟩
 have d2 : decide ((tn : Int) <= t) = false := by simp; omega
 have d3 : ¬ (tn : Int) <= t := by omega
 have hlt : t < tn := by omega
 have e0 : (0 : Int) <= t := by omega
 have e1 : (t : Int) < tn := by omega
 cases uo
 case true =>
  obtain ⟨w0, hw0⟩ : ∃ w0 : World, w0 = (w.alloc (.cells #[.slice wA wn wk, .slice (some ⟨tb, to', none⟩) tn tk] 25)).alloc (.cells #[.int .i64 t, .bool true, .int .i64 ua] 91) := ⟨_, rfl⟩
  have HLb0 : Hid (Blk w0 w.heap.size 25 [.slice wA wn wk, .slice (some ⟨tb, to', none⟩) tn tk]) := by rw [hw0]; exact (Blk.new w 25 [.slice wA wn wk, .slice (some ⟨tb, to', none⟩) tn tk]).alloc _
  have HU0 : Hid (Blk w0 (w.heap.size + 1) 91 [.int .i64 t, .bool true, .int .i64 ua]) := by
   rw [hw0]
   have h9 := Blk.new (w.alloc (.cells #[.slice wA wn wk, .slice (some ⟨tb, to', none⟩) tn tk] 25)) 91 [.int .i64 t, .bool true, .int .i64 ua]
   rw [World.size_alloc] at h9
   exact h9
  have HW0 : Hid (Below w.heap.size w w0) := by rw [hw0]; exact ((Below.refl _ _).alloc (Nat.le_refl _) _).alloc (by simp) _
  have hz0 : w.heap.size + 1 < w0.heap.size := HU0.o.lt
  have HWe := Lh hw0
  clear hw0
  go_enter Tryz.func51, Tryz.ntmps51
  go_upto_region 1 with fail
  rw [<- HWe.o]
  clear HWe
  have HH0 := Lh (HH.o.on HW0.o)
  have q1 := HLb0.o.cell (i := 1) rfl
  have u0 := HU0.o.cell (i := 0) rfl
  have u1 := HU0.o.cell (i := 1) rfl
  have u2 := HU0.o.cell (i := 2) rfl
  go_wp2_with fail
  refine (rout_any w0 gs h tn wn S tt xs HH0.o t ua hlt).mono ?_
  rintro e w1 ⟨rfl, rfl⟩
  go_wp2_with fail
  go_ret
  exact ⟨rfl, HW0.o⟩
 obtain ⟨w0, hw0⟩ : ∃ w0 : World, w0 = (w.alloc (.cells #[.slice wA wn wk, .slice (some ⟨tb, to', none⟩) tn tk] 25)).alloc (.cells #[.int .i64 t, .bool false, .int .i64 ua] 91) := ⟨_, rfl⟩
 have HLb0 : Hid (Blk w0 w.heap.size 25 [.slice wA wn wk, .slice (some ⟨tb, to', none⟩) tn tk]) := by rw [hw0]; exact (Blk.new w 25 [.slice wA wn wk, .slice (some ⟨tb, to', none⟩) tn tk]).alloc _
 have HU0 : Hid (Blk w0 (w.heap.size + 1) 91 [.int .i64 t, .bool false, .int .i64 ua]) := by
  rw [hw0]
  have h9 := Blk.new (w.alloc (.cells #[.slice wA wn wk, .slice (some ⟨tb, to', none⟩) tn tk] 25)) 91 [.int .i64 t, .bool false, .int .i64 ua]
  rw [World.size_alloc] at h9
  exact h9
 have HW0 : Hid (Below w.heap.size w w0) := by rw [hw0]; exact ((Below.refl _ _).alloc (Nat.le_refl _) _).alloc (by simp) _
 have hz0 : w.heap.size + 1 < w0.heap.size := HU0.o.lt
 have HWe := Lh hw0
 clear hw0
 go_enter Tryz.func51, Tryz.ntmps51
 go_upto_region 1 with fail
 rw [<- HWe.o]
 clear HWe
 have HH0 := Lh (HH.o.on HW0.o)
 have q1 := HLb0.o.cell (i := 1) rfl
 have u0 := HU0.o.cell (i := 0) rfl
 have u1 := HU0.o.cell (i := 1) rfl
 have u2 := HU0.o.cell (i := 2) rfl
 obtain ⟨x, hx⟩ := at_lt (show t < th.length by have := HL.o.tlen; dsimp only at this; omega)
 have hL := HL.o.keep (HW0.o.mono hBw)
 obtain ⟨tb2, to2, hta2, htb2, htc⟩ := hL.head hx
 injection hta2 with hta2
 injection hta2 with e1' e2'
 subst e1' e2'
 have hcl := hL.clen (List.mem_of_getElem? hx)
 have hco := (hL.code x (List.mem_of_getElem? hx)).2.1
 have hn1 := hco.1
 have hn2 := hco.2
 unfold maxLen at hn2
 have h10 := (okLit_code HOk.o hx).1
 have HX := Lh hx
 have HCl := Lh hcl
 have hle := HG.o.le t hlt
 rw [codeOf_at hx, hcl] at hle
 clear hx hco hcl
 obtain ⟨⟨xA, xn, xk⟩, code⟩ := x
 dsimp only at hn1 hn2 htc h10 hle
 have hpt := HH0.o.st.place (LS.p_at (S := S) (t := t) (by rw [HH.o.st.plen]; exact hlt))
 have s2 := HH0.o.s2
 have hge : xn <= S.p t := by
  have h9 := HP.o
  unfold pickS at h9
  dsimp only at h9
  rw [if_pos ⟨e0, e1, rfl⟩, Int.toNat_natCast, codeOf_at HX.o, List.getElem?_eq_none_iff] at h9
  have := HCl.o
  dsimp only at h9 this
  omega
 have d4 : ((S.p t : Int) == (xn : Int)) = true := by simp; omega
 have d5 : (S.p t : Int) = (xn : Int) := by omega
 have d6 : S.p t = xn := by omega
 go_upto_region 6 with fail
 go_quiet (fail)
 go_wp2_with fail
 go_ret
 exact ⟨rfl, HW0.o.trans ((Below.refl _ _).drewN _)⟩
theorem w64' (z : Int) : wrap64 z = IntKind.i64.wrap z := by simp only [wrap64, IntKind.wrap_i64]
theorem okIns_kind {nw : Nat} {x : Ins} (h9 : okIns nw x = true) : x.kind = 1 ∨ x.kind = 2 ∨ x.kind = 3 ∨ x.kind = 4 ∨ x.kind = 5 ∨ x.kind = 6 ∨ x.kind = 7 := by
 unfold okIns at h9
 by_cases k1 : x.kind = 1 ∨ x.kind = 3
 ·omega
 ·rw [if_neg k1] at h9
  by_cases k2 : x.kind = 2
  ·omega
  ·rw [if_neg k2] at h9
   by_cases k3 : x.kind = 4
   ·omega
   ·rw [if_neg k3] at h9
    by_cases k4 : x.kind = 5 ∨ x.kind = 6
    ·omega
    ·rw [if_neg k4] at h9
     by_cases k5 : x.kind = 7
     ·omega
     ·rw [if_neg k5] at h9
      cases h9
theorem effS_ps (S : LS) (t : Nat) (x : Ins) : (effS S t x).ps = S.ps := by
 unfold effS
 repeat' split
 all_goals rfl
theorem rt_end {w V : World} {gs : Nat} {h : SH} {n nw : Nat} {S S1 S2 : LS} {t c : Nat} {x : Ins} {tt : TypeId} {xs : List Value} {v : Int} {k : Nat} (HH : HdAt V gs h n nw S1 tt xs) (HF : Fr (SF h) w V) (hT : S2 = nextS S t c x) (he : effS S t x = S1) (hk : skipS S t x = k) (hv : v = ((min (S.p t + k + 1) c : Nat) : Int)) :
  WkR h n nw S2 true w (.returned (.bool true)) (V.setCell ⟨h.gp, t, none⟩ (.int .i64 v)).drew := by
 subst hv
 have h8 := HH.st.setP t (min (S.p t + k + 1) c)
 rw [hT]
 unfold nextS
 rw [hk]
 have hp : S1.ps = S.ps := by rw [<- he]; exact effS_ps S t x
 rw [hp] at h8
 rw [he]
 exact ⟨rfl, h8.on (Below.refl _ _).drew, (HF.setCell (Or.inr (Or.inr rfl)) _).drew⟩
theorem rturn_yes (l : Lit) (w : World) (B gs : Nat) (h : SH) (S : LS) (u : Tn) (tt : TypeId) (xs : List Value) (x9 : Ins) (hl : LitAt w B l) (hBw : B <= w.heap.size) (hn : NewS B h) (hh : HdAt w gs h l.tn l.wn S tt xs) (hg : GoodS l S) (hok : okLit l = true) (hp : pickS l S u = some x9) :
  Calls Tryz.prog 51 #[litV l, .int .i64 1, .pointer (some ⟨gs, 0, none⟩), tnV u] w (WkR h l.tn l.wn (turnS l S u) true w) := by
 have HTS := Lh (show turnS l S u = nextS S u.t.toNat (codeOf l u.t.toNat).length x9 by unfold turnS; rw [hp])
 obtain ⟨n1, n2, n3, n4⟩ := okLit_num hok
 have HL := Lh hl
 have HH := Lh hh
 have HG := Lh hg
 have HOk := Lh hok
 have HP := Lh hp
 have HNw := Lh hn
 obtain ⟨tb, to', hta, htb, _⟩ := hl.heads n1
 clear hl hh hg hok hp hn
 obtain ⟨wA, wn, wk, ws, tA, tn, tk, th⟩ := l
 have hta' : tA = some ⟨tb, to', none⟩ := hta
 subst hta'
 clear hta
 dsimp only at n1 n2 n3 n4
 replace HH : Hid (HdAt w gs h tn wn S tt xs) := HH
 obtain ⟨ut, uo, ua⟩ := u
 have hr : (0 <= ut /\ ut < (tn : Int) /\ uo = false) := by
  have h9 := HP.o
  unfold pickS at h9
  dsimp only at h9
  by_cases hc : 0 <= ut /\ ut < (tn : Int) /\ uo = false
  ·exact hc
  ·rw [if_neg hc] at h9
   cases h9
 obtain ⟨hr1, hr2, rfl⟩ := hr
 obtain ⟨t, rfl⟩ : ∃ t : Nat, ut = t := ⟨ut.toNat, by omega⟩
 have hlt : t < tn := by omega
 have e0 : (0 : Int) <= t := by omega
 have e1 : (t : Int) < tn := by omega
 have d1 : decide ((t : Int) < 0) = false := by simp
 have d2 : decide ((tn : Int) <= t) = false := by simp; omega
 have d3 : ¬ (tn : Int) <= t := by omega
 obtain ⟨w0, hw0⟩ : ∃ w0 : World, w0 = (w.alloc (.cells #[.slice wA wn wk, .slice (some ⟨tb, to', none⟩) tn tk] 25)).alloc (.cells #[.int .i64 t, .bool false, .int .i64 ua] 91) := ⟨_, rfl⟩
 have HLb0 : Hid (Blk w0 w.heap.size 25 [.slice wA wn wk, .slice (some ⟨tb, to', none⟩) tn tk]) := by rw [hw0]; exact (Blk.new w 25 [.slice wA wn wk, .slice (some ⟨tb, to', none⟩) tn tk]).alloc _
 have HU0 : Hid (Blk w0 (w.heap.size + 1) 91 [.int .i64 t, .bool false, .int .i64 ua]) := by
  rw [hw0]
  have h9 := Blk.new (w.alloc (.cells #[.slice wA wn wk, .slice (some ⟨tb, to', none⟩) tn tk] 25)) 91 [.int .i64 t, .bool false, .int .i64 ua]
  rw [World.size_alloc] at h9
  exact h9
 have HW0 : Hid (Below w.heap.size w w0) := by rw [hw0]; exact ((Below.refl _ _).alloc (Nat.le_refl _) _).alloc (by simp) _
 have hz0 : w.heap.size + 1 < w0.heap.size := HU0.o.lt
 have HWe := Lh hw0
 clear hw0
 go_enter Tryz.func51, Tryz.ntmps51
 go_upto_region 1 with fail
 rw [<- HWe.o]
 clear HWe
 have HH0 := Lh (HH.o.on HW0.o)
 have q1 := HLb0.o.cell (i := 1) rfl
 have u0 := HU0.o.cell (i := 0) rfl
 have u1 := HU0.o.cell (i := 1) rfl
 have u2 := HU0.o.cell (i := 2) rfl
 obtain ⟨x, hx⟩ := at_lt (show t < th.length by have := HL.o.tlen; dsimp only at this; omega)
 have hL := HL.o.keep (HW0.o.mono hBw)
 obtain ⟨tb2, to2, hta2, htb2, htc⟩ := hL.head hx
 injection hta2 with hta2
 injection hta2 with e1' e2'
 subst e1' e2'
 have hcl := hL.clen (List.mem_of_getElem? hx)
 have hco := (hL.code x (List.mem_of_getElem? hx)).2.1
 have hn1 := hco.1
 have hn2 := hco.2
 unfold maxLen at hn2
 have h10 := (okLit_code HOk.o hx).1
 have HX := Lh hx
 have HCl := Lh hcl
 have hle := HG.o.le t hlt
 rw [codeOf_at hx, hcl] at hle
 clear hx hco hcl
 obtain ⟨⟨xA, xn, xk⟩, code⟩ := x
 dsimp only at hn1 hn2 htc h10 hle
 have hpt := HH0.o.st.place (LS.p_at (S := S) (t := t) (by rw [HH.o.st.plen]; exact hlt))
 have s2 := HH0.o.s2
 have hp9 : code[S.p t]? = some x9 := by
  have h9 := HP.o
  unfold pickS at h9
  dsimp only at h9
  rwa [if_pos ⟨hr1, hr2, rfl⟩, Int.toNat_natCast, codeOf_at HX.o] at h9
 have hlt2 : S.p t < xn := by
  have := HCl.o
  have := (List.getElem?_eq_some_iff.1 hp9).1
  dsimp only at *
  omega
 have HTS2 : Hid (turnS ⟨wA, wn, wk, ws, some ⟨tb, to', none⟩, tn, tk, th⟩ S ⟨t, false, ua⟩ = nextS S t xn x9) := by
  have h9 := HTS.o
  rw [h9]
  dsimp only
  rw [Int.toNat_natCast, codeOf_at HX.o]
  have := HCl.o
  dsimp only at this
  rw [<- this]
  exact Lh rfl
 clear HTS
 have hok9 := (okLit_code HOk.o HX.o).2 x9 (List.mem_of_getElem? hp9)
 obtain ⟨cb, co, hca, hcb, hc⟩ := ins_cell (hL.code _ (List.mem_of_getElem? HX.o)).1 hp9
 have hca' : xA = some ⟨cb, co, none⟩ := hca
 subst hca'
 have HHd : Hid (∀ V, Below B w V -> V.cell? ⟨tb, to' + t, none⟩ = some (.slice (some ⟨cb, co, none⟩) xn xk)) := fun V hV => by
  obtain ⟨tb3, to3, hta3, _, htc3⟩ := (HL.o.keep hV).head HX.o
  injection hta3 with hta3
  injection hta3 with e1' e2'
  subst e1' e2'
  exact htc3
 have hsf : ∀ q, SF h q -> B <= q := by
  have := HNw.o
  rintro q (e | e | e)
  ·rw [e]; exact this.1
  ·rw [e]; exact this.2.1
  ·rw [e]; exact this.2.2.1
 have hgw : h.gw < w.heap.size := HH.o.st.w.lt
 have hgr : h.gr < w.heap.size := HH.o.st.r.lt
 have hgp : h.gp < w.heap.size := HH.o.st.p.lt
 have HOk9 : Hid (okIns wn x9 = true) := hok9
 clear hca hp9 hok9
 obtain ⟨kd, rg, ad, vl, sr, od, ct⟩ := x9
 have c0 := hc.c0
 have c1 := hc.c1
 have c2 := hc.c2
 have c3 := hc.c3
 have c4 := hc.c4
 have c5 := hc.c5
 have c6 := hc.c6
 dsimp only at c0 c1 c2 c3 c4 c5 c6
 clear hc
 have d4 : ((S.p t : Int) == (xn : Int)) = false := by simp; omega
 have d5 : ¬ (S.p t : Int) = (xn : Int) := by omega
 have d6 : ¬ S.p t = xn := by omega
 have f0 : (0 : Int) <= S.p t := by omega
 have f1 : (S.p t : Int) < xn := by omega
 have hSc : w0.cell? ⟨w.heap.size, 1, none⟩ = some (.slice (some ⟨tb, to', none⟩) tn tk) /\ w0.cell? ⟨tb, to' + t, none⟩ = some (.slice (some ⟨cb, co, none⟩) xn xk) /\ w0.cell? ⟨gs, 2, none⟩ = some (.slice (some ⟨h.gp, 0, none⟩) tn h.kp) /\ w0.cell? ⟨h.gp, t, none⟩ = some (.int .i64 (S.p t)) /\ w0.cell? ⟨cb, co + S.p t * 7, none⟩ = some (.int .i64 kd) /\ w0.cell? ⟨cb, co + S.p t * 7 + 1, none⟩ = some (.int .i64 rg) /\ w0.cell? ⟨cb, co + S.p t * 7 + 2, none⟩ = some (.int .i64 ad) /\ w0.cell? ⟨cb, co + S.p t * 7 + 3, none⟩ = some (.int .i64 vl) /\ w0.cell? ⟨cb, co + S.p t * 7 + 4, none⟩ = some (.int .i64 sr) /\ w0.cell? ⟨cb, co + S.p t * 7 + 5, none⟩ = some (.int .i64 od) /\ w0.cell? ⟨cb, co + S.p t * 7 + 6, none⟩ = some (.int .i64 ct) := ⟨q1, htc, s2, hpt, c0, c1, c2, c3, c4, c5, c6⟩
 have HSo : Hid (∀ W, Below w0.heap.size w0 W -> W.cell? ⟨w.heap.size, 1, none⟩ = some (.slice (some ⟨tb, to', none⟩) tn tk) /\ W.cell? ⟨tb, to' + t, none⟩ = some (.slice (some ⟨cb, co, none⟩) xn xk) /\ W.cell? ⟨gs, 2, none⟩ = some (.slice (some ⟨h.gp, 0, none⟩) tn h.kp) /\ W.cell? ⟨h.gp, t, none⟩ = some (.int .i64 (S.p t)) /\ W.cell? ⟨cb, co + S.p t * 7, none⟩ = some (.int .i64 kd) /\ W.cell? ⟨cb, co + S.p t * 7 + 1, none⟩ = some (.int .i64 rg) /\ W.cell? ⟨cb, co + S.p t * 7 + 2, none⟩ = some (.int .i64 ad) /\ W.cell? ⟨cb, co + S.p t * 7 + 3, none⟩ = some (.int .i64 vl) /\ W.cell? ⟨cb, co + S.p t * 7 + 4, none⟩ = some (.int .i64 sr) /\ W.cell? ⟨cb, co + S.p t * 7 + 5, none⟩ = some (.int .i64 od) /\ W.cell? ⟨cb, co + S.p t * 7 + 6, none⟩ = some (.int .i64 ct)) := fun W hW => by
  obtain ⟨a0, a1, a2, a3, a4, a5, a6, a7, a8, a9, a10⟩ := hSc
  have k : ∀ (a : Addr) (v : Value), w0.cell? a = some v -> W.cell? a = some v := fun a v hv => (hW.cell (World.block_lt_of_cell? w0 a hv)).trans hv
  exact ⟨k _ _ a0, k _ _ a1, k _ _ a2, k _ _ a3, k _ _ a4, k _ _ a5, k _ _ a6, k _ _ a7, k _ _ a8, k _ _ a9, k _ _ a10⟩
 clear hSc c0 c1 c2 c3 c4 c5 c6
 go_upto_region 6 with fail
 go_quiet (fail)
 obtain ⟨w1, hw1, hb1⟩ : ∃ Z9, Z9 = w0.drewN nq /\ Below w0.heap.size w0 Z9 := ⟨_, rfl, (Below.refl _ _).drewN _⟩
 rw [<- hw1]
 have HB1 := Lh hb1
 clear hw1 hb1 q1 u0 u1 u2 htc hpt s2
 go_upto_region 8 with fail
 refine wp_region_held_drew (S := fun W => W.cell? ⟨w.heap.size, 1, none⟩ = some (.slice (some ⟨tb, to', none⟩) tn tk) /\ W.cell? ⟨tb, to' + t, none⟩ = some (.slice (some ⟨cb, co, none⟩) xn xk) /\ W.cell? ⟨gs, 2, none⟩ = some (.slice (some ⟨h.gp, 0, none⟩) tn h.kp) /\ W.cell? ⟨h.gp, t, none⟩ = some (.int .i64 (S.p t)) /\ W.cell? ⟨cb, co + S.p t * 7, none⟩ = some (.int .i64 kd) /\ W.cell? ⟨cb, co + S.p t * 7 + 1, none⟩ = some (.int .i64 rg) /\ W.cell? ⟨cb, co + S.p t * 7 + 2, none⟩ = some (.int .i64 ad) /\ W.cell? ⟨cb, co + S.p t * 7 + 3, none⟩ = some (.int .i64 vl) /\ W.cell? ⟨cb, co + S.p t * 7 + 4, none⟩ = some (.int .i64 sr) /\ W.cell? ⟨cb, co + S.p t * 7 + 5, none⟩ = some (.int .i64 od) /\ W.cell? ⟨cb, co + S.p t * 7 + 6, none⟩ = some (.int .i64 ct)) (by kernel_rfl) (HSo.o _ HB1.o.drew) (fun hS => ?_)
 iterate 14 (refine tkF 0 (v := ?_) ?_ ?_; rotate_left; · (intro W hSw; (try dsimp only at hSw); go_simp; try with_reducible rfl); try simp only [Act.put, List.setIfInBounds_toArray, List.set_cons_zero, List.set_cons_succ])
 obtain ⟨V, hV9, HVb⟩ : ∃ Z9, Z9 = w1.drew /\ Hid (Below w0.heap.size w0 Z9) := ⟨_, rfl, HB1.o.drew⟩
 rw [<- hV9]
 clear hV9
 refine rd 14 fun K1 hK1 => ?_
 go_simp
 refine hK1.out _ _ (HSo.o _ (HVb.o.alloc HVb.o.size _)) (fun _ => ?_)
 refine rd 15 fun K2 hK2 => ?_
 have hx4 : Blk (V.alloc (.cells #[.int .i64 0, .int .i64 0, .int .i64 0, .int .i64 0, .int .i64 0, .int .i64 0, .int .i64 0] 68)) V.heap.size 68 [.int .i64 0, .int .i64 0, .int .i64 0, .int .i64 0, .int .i64 0, .int .i64 0, .int .i64 0] := Blk.new V 68 [.int .i64 0, .int .i64 0, .int .i64 0, .int .i64 0, .int .i64 0, .int .i64 0, .int .i64 0]
 refine wp_store_row _ _ _ rfl V.heap.size #[.int .i64 kd, .int .i64 rg, .int .i64 ad, .int .i64 vl, .int .i64 sr, .int .i64 od, .int .i64 ct] rfl rfl 68 _ hx4 size_lin rfl (lin_one _ _ _ _ _ _ _) ?_
 have hb4 : Below w0.heap.size w0 ((V.alloc (.cells #[.int .i64 0, .int .i64 0, .int .i64 0, .int .i64 0, .int .i64 0, .int .i64 0, .int .i64 0] 68)).setRow V.heap.size #[.int .i64 kd, .int .i64 rg, .int .i64 ad, .int .i64 vl, .int .i64 sr, .int .i64 od, .int .i64 ct]) := rowB (HVb.o.alloc HVb.o.size _) HVb.o.size
 refine hK2.out _ _ (HSo.o _ hb4) (fun _ => ?_)
 refine wpAnyH_done (by kernel_rfl) ?_ _
 obtain ⟨gi, hgi⟩ : ∃ gi, gi = V.heap.size := ⟨_, rfl⟩
 obtain ⟨A, hA, HIA, hbA⟩ : ∃ Z9, Z9 = (V.alloc (.cells #[.int .i64 0, .int .i64 0, .int .i64 0, .int .i64 0, .int .i64 0, .int .i64 0, .int .i64 0] 68)).setRow V.heap.size #[.int .i64 kd, .int .i64 rg, .int .i64 ad, .int .i64 vl, .int .i64 sr, .int .i64 od, .int .i64 ct] /\ Hid (Blk Z9 gi 68 [.int .i64 kd, .int .i64 rg, .int .i64 ad, .int .i64 vl, .int .i64 sr, .int .i64 od, .int .i64 ct]) /\ Below w0.heap.size w0 Z9 := ⟨_, rfl, by rw [hgi]; exact setRow_heap _ _ _ #[.int .i64 kd, .int .i64 rg, .int .i64 ad, .int .i64 vl, .int .i64 sr, .int .i64 od, .int .i64 ct] _ _ hx4, hb4⟩
 rw [<- hA, <- hgi]
 have hgil : w.heap.size < gi := by have := HVb.o.size; omega
 have HHA := Lh (HH0.o.on hbA)
 have HLA := Lh (HLb0.o.below hbA HLb0.o.lt)
 have HFA : Hid (Fr (SF h) w A) := Fr.of (HW0.o.trans (hbA.mono HW0.o.size))
 clear hA hx4 hb4 hS HSo hgi HVb HB1 hbA HH0 HLb0 HU0 HW0 hL
 have i0 := HIA.o.cell (i := 0) rfl
 go_upto_block 0 with fail
 clear i0
 have hkk : kd = 1 ∨ kd = 2 ∨ kd = 3 ∨ kd = 4 ∨ kd = 5 ∨ kd = 6 ∨ kd = 7 := okIns_kind HOk9.o
 go_cut [11] (fun s11 wc => ∃ (z : Int) (k : Nat) (S1 : LS), s11 = .int .i64 z /\ z = (k : Int) + 1 /\ k <= 10 /\ Hid (HdAt wc gs h tn wn S1 tt xs) /\ Hid (Fr (SF h) w wc) /\ Hid (Blk wc w.heap.size 25 [.slice wA wn wk, .slice (some ⟨tb, to', none⟩) tn tk]) /\ Hid (effS S t ⟨kd, rg, ad, vl, sr, od, ct⟩ = S1) /\ Hid (skipS S t ⟨kd, rg, ad, vl, sr, od, ct⟩ = k))
 case first =>
  rcases hkk with rfl | rfl | rfl | rfl | rfl | rfl | rfl
  ·have h9 := HOk9.o
   unfold okIns at h9
   rw [if_pos (by simp)] at h9
   rw [Bool.and_eq_true] at h9
   obtain ⟨rgn, hrg, hrg4⟩ := reg_of (h9.1)
   dsimp only at hrg
   subst hrg
   obtain ⟨adn, ha, had⟩ := adr_of (h9.2)
   dsimp only at ha
   subst ha
   clear h9
   have g0 : (0 : Int) <= rgn := by omega
   have g1 : (rgn : Int) < 4 := by omega
   have g2 : (0 : Int) <= adn := by omega
   have g3 : (adn : Int) < wn := by omega
   have s1 := HHA.o.s1
   have i1 := HIA.o.cell (i := 1) rfl
   have i2 := HIA.o.cell (i := 2) rfl
   go_upto_region 12 with fail
   obtain ⟨C, hC, HHC, HFC, HLC, HIC⟩ : ∃ Z9, Z9 = A.drew /\ Hid (HdAt Z9 gs h tn wn S tt xs) /\ Hid (Fr (SF h) w Z9) /\ Hid (Blk Z9 w.heap.size 25 [.slice wA wn wk, .slice (some ⟨tb, to', none⟩) tn tk]) /\ Hid (Blk Z9 gi 68 [.int .i64 1, .int .i64 rgn, .int .i64 adn, .int .i64 vl, .int .i64 sr, .int .i64 od, .int .i64 ct]) := ⟨_, rfl, HHA.o.on (Below.refl _ _).drew, HFA.o.drew, HLA.o, HIA.o⟩
   refine wp_region_held_drew (S := fun W => W.cell? ⟨gs, 1, none⟩ = some (.slice (some ⟨h.gr, 0, none⟩) tn h.kr) /\ W.cell? ⟨gi, 1, none⟩ = some (.int .i64 rgn) /\ W.cell? ⟨gi, 2, none⟩ = some (.int .i64 adn)) (by kernel_rfl) ⟨s1, i1, i2⟩ (fun hS => ?_)
   iterate 11 (refine tkF 0 (v := ?_) ?_ ?_; rotate_left; · (intro W hSw; (try dsimp only at hSw); go_simp; try with_reducible rfl); try simp only [Act.put, List.setIfInBounds_toArray, List.set_cons_zero, List.set_cons_succ])
   refine tkF 12 (v := ?_) ?_ ?_
   rotate_left
   ·(intro W hSw; (try dsimp only at hSw); go_simp; try with_reducible rfl)
   try simp only [Act.put, List.setIfInBounds_toArray, List.set_cons_zero, List.set_cons_succ]
   rw [<- hC]
   rw [<- hC] at hS
   clear hC s1 i1 i2
   have rc := HHC.o.st.reg (LS.r_at (t := t) (q := rgn) (by have := HHC.o.st.rlen; omega))
   have rf := HHC.o.st.r.frozen (t * 4 + rgn)
   refine rd 11 fun K1 hK1 => ?_
   go_simp
   go_at_call 70
   refine (see_any C gs h tn wn S tt xs HHC.o t adn hlt had).mono ?_
   rintro e w3 ⟨rfl, rfl⟩
   refine hK1.out _ _ hS (fun _ => ?_)
   refine tkF 13 (v := ?_) ?_ ?_
   rotate_left
   ·(intro W hSw; (try dsimp only at hSw); go_simp; try with_reducible rfl)
   try simp only [Act.put, List.setIfInBounds_toArray, List.set_cons_zero, List.set_cons_succ]
   refine rd 14 fun K2 hK2 => ?_
   go_simp
   have hSe : (w3.setCell ⟨h.gr, t * 4 + rgn, none⟩ (.int .i64 (S.w adn))).cell? ⟨gs, 1, none⟩ = some (.slice (some ⟨h.gr, 0, none⟩) tn h.kr) /\ (w3.setCell ⟨h.gr, t * 4 + rgn, none⟩ (.int .i64 (S.w adn))).cell? ⟨gi, 1, none⟩ = some (.int .i64 rgn) /\ (w3.setCell ⟨h.gr, t * 4 + rgn, none⟩ (.int .i64 (S.w adn))).cell? ⟨gi, 2, none⟩ = some (.int .i64 adn) := ⟨(HHC.o.setR _ _).s1, (HIC.o.far (by dsimp only; omega) _).cell rfl, (HIC.o.far (by dsimp only; omega) _).cell rfl⟩
   refine hK2.out _ _ hSe (fun _ => ?_)
   refine wpAnyH_done (by kernel_rfl) ?_ _
   go_wp2_with fail
   go_meet
   exact ⟨_, 0, (LS.mk S.ws (S.rs.set (t * 4 + rgn) (S.w adn)) S.ps), rfl, rfl, by omega, HHC.o.setR _ _, HFC.o.setCell (Or.inr (Or.inl rfl)) _, HLC.o.far (by dsimp only; omega) _, Lh (by unfold effS; simp), Lh (by unfold skipS; simp)⟩
  ·have h9 := HOk9.o
   unfold okIns at h9
   rw [if_neg (by simp), if_pos (by simp)] at h9
   rw [Bool.and_eq_true, Bool.and_eq_true, decide_eq_true_eq, decide_eq_true_eq] at h9
   obtain ⟨adn, ha, had⟩ := adr_of (h9.1)
   dsimp only at ha
   subst ha
   have hsr := h9.2
   dsimp only at hsr
   clear h9
   have g2 : (0 : Int) <= adn := by omega
   have g3 : (adn : Int) < wn := by omega
   by_cases hs : sr < 0
   ·have m1 : decide ((0 : Int) <= sr) = false := by simp; omega
    have m2 : ¬ (0 : Int) <= sr := by omega
    have s0 := HHA.o.s0
    have wc := HHA.o.st.word (LS.w_at (a := adn) (by rw [HHA.o.st.wlen]; exact had))
    have wf := HHA.o.st.w.frozen adn
    have i2 := HIA.o.cell (i := 2) rfl
    have i3 := HIA.o.cell (i := 3) rfl
    have i4 := HIA.o.cell (i := 4) rfl
    go_upto_region 18 with fail
    go_still_tail 7, (by kernel_rfl)
    go_wp2_with fail
    go_meet
    exact ⟨_, 0, (LS.mk (S.ws.set adn vl) S.rs S.ps), rfl, rfl, by omega, (HHA.o.setW _ _).on (Below.refl _ _).drew, (HFA.o.setCell (Or.inl rfl) _).drew, HLA.o.far (by dsimp only; omega) _, Lh (by unfold effS; simp [show ¬ (0 : Int) <= sr by omega]), Lh (by unfold skipS; simp)⟩
   ·obtain ⟨srn, rfl⟩ : ∃ srn : Nat, sr = srn := ⟨sr.toNat, by omega⟩
    have m1 : decide ((0 : Int) <= (srn : Int)) = true := by simp
    have g4 : (0 : Int) <= srn := by omega
    have g5 : (srn : Int) < 4 := by omega
    have s1 := HHA.o.s1
    have rs := HHA.o.st.reg (LS.r_at (t := t) (q := srn) (by have := HHA.o.st.rlen; omega))
    have i3 := HIA.o.cell (i := 3) rfl
    have i4 := HIA.o.cell (i := 4) rfl
    go_upto_region 16 with fail
    go_quiet (fail)
    have hb9 : Below A.heap.size A (A.drewN nq) := (Below.refl _ _).drewN _
    obtain ⟨C, hC, HHC, HFC, HLC, HIC⟩ : ∃ Z9, Z9 = A.drewN nq /\ Hid (HdAt Z9 gs h tn wn S tt xs) /\ Hid (Fr (SF h) w Z9) /\ Hid (Blk Z9 w.heap.size 25 [.slice wA wn wk, .slice (some ⟨tb, to', none⟩) tn tk]) /\ Hid (Blk Z9 gi 68 [.int .i64 2, .int .i64 rg, .int .i64 adn, .int .i64 vl, .int .i64 srn, .int .i64 od, .int .i64 ct]) := ⟨_, rfl, HHA.o.on hb9, HFA.o.trans (Fr.of hb9), HLA.o.below hb9 HLA.o.lt, HIA.o.below hb9 HIA.o.lt⟩
    rw [<- hC]
    clear hC
    clear hb9
    clear s1 rs i3 i4
    have s0 := HHC.o.s0
    have wc := HHC.o.st.word (LS.w_at (a := adn) (by rw [HHC.o.st.wlen]; exact had))
    have wf := HHC.o.st.w.frozen adn
    have i2 := HIC.o.cell (i := 2) rfl
    have i3 := HIC.o.cell (i := 3) rfl
    have i4 := HIC.o.cell (i := 4) rfl
    go_upto_region 18 with fail
    go_still_tail 7, (by kernel_rfl)
    go_wp2_with fail
    go_meet
    exact ⟨_, 0, (LS.mk (S.ws.set adn (S.r t srn)) S.rs S.ps), rfl, rfl, by omega, (HHC.o.setW _ _).on (Below.refl _ _).drew, (HFC.o.setCell (Or.inl rfl) _).drew, HLC.o.far (by dsimp only; omega) _, Lh (by unfold effS; simp), Lh (by unfold skipS; simp)⟩
  ·have h9 := HOk9.o
   unfold okIns at h9
   rw [if_pos (by simp)] at h9
   rw [Bool.and_eq_true] at h9
   obtain ⟨rgn, hrg, hrg4⟩ := reg_of (h9.1)
   dsimp only at hrg
   subst hrg
   obtain ⟨adn, ha, had⟩ := adr_of (h9.2)
   dsimp only at ha
   subst ha
   clear h9
   have g0 : (0 : Int) <= rgn := by omega
   have g1 : (rgn : Int) < 4 := by omega
   have g2 : (0 : Int) <= adn := by omega
   have g3 : (adn : Int) < wn := by omega
   have d7 : decide ((0 : Int) < 0) = false := rfl
   have s3 := HHA.o.s3
   have bu := HHA.o.st.buf hlt
   have s1 := HHA.o.s1
   have rc := HHA.o.st.reg (LS.r_at (t := t) (q := rgn) (by have := HHA.o.st.rlen; omega))
   have rf := HHA.o.st.r.frozen (t * 4 + rgn)
   have i1 := HIA.o.cell (i := 1) rfl
   go_upto_region 23 with fail
   go_still_tail 8, (by kernel_rfl)
   go_upto_region 24 with fail
   obtain ⟨C, hC, HHC, HFC, HLC, HIC⟩ : ∃ Z9, Z9 = (A.setCell ⟨h.gr, t * 4 + rgn, none⟩ (.int .i64 0)).drew /\ Hid (HdAt Z9 gs h tn wn (LS.mk S.ws (S.rs.set (t * 4 + rgn) 0) S.ps) tt xs) /\ Hid (Fr (SF h) w Z9) /\ Hid (Blk Z9 w.heap.size 25 [.slice wA wn wk, .slice (some ⟨tb, to', none⟩) tn tk]) /\ Hid (Blk Z9 gi 68 [.int .i64 3, .int .i64 rgn, .int .i64 adn, .int .i64 vl, .int .i64 sr, .int .i64 od, .int .i64 ct]) := ⟨_, rfl, (HHA.o.setR _ _).on (Below.refl _ _).drew, (HFA.o.setCell (Or.inr (Or.inl rfl)) _).drew, HLA.o.far (by dsimp only; omega) _, HIA.o.far (by dsimp only; omega) _⟩
   rw [<- hC]
   clear hC
   clear s3 bu s1 rc rf i1
   have s0 := HHC.o.s0
   have wc := HHC.o.st.word (LS.w_at (a := adn) (by rw [HHC.o.st.wlen]; exact had))
   have wf := HHC.o.st.w.frozen adn
   have i2 := HIC.o.cell (i := 2) rfl
   have i5 := HIC.o.cell (i := 5) rfl
   have hww : LS.w (LS.mk S.ws (S.rs.set (t * 4 + rgn) 0) S.ps) adn = S.w adn := rfl
   rw [hww] at wc
   by_cases hq : S.w adn = od
   ·have m1 : (S.w adn == od) = true := by simpa using hq
    have m2 : decide (S.w adn = od) = true := by simpa using hq
    have HQ := Lh hq
    clear hq
    go_quiet (fail)
    have hb9 : Below C.heap.size C (C.drewN nq) := (Below.refl _ _).drewN _
    obtain ⟨D, hD, HHD, HFD, HLD, HID⟩ : ∃ Z9, Z9 = C.drewN nq /\ Hid (HdAt Z9 gs h tn wn (LS.mk S.ws (S.rs.set (t * 4 + rgn) 0) S.ps) tt xs) /\ Hid (Fr (SF h) w Z9) /\ Hid (Blk Z9 w.heap.size 25 [.slice wA wn wk, .slice (some ⟨tb, to', none⟩) tn tk]) /\ Hid (Blk Z9 gi 68 [.int .i64 3, .int .i64 rgn, .int .i64 adn, .int .i64 vl, .int .i64 sr, .int .i64 od, .int .i64 ct]) := ⟨_, rfl, HHC.o.on hb9, HFC.o.trans (Fr.of hb9), HLC.o.below hb9 HLC.o.lt, HIC.o.below hb9 HIC.o.lt⟩
    rw [<- hD]
    clear hD
    clear hb9
    clear hww s0 wc wf i2 i5
    have s0 := HHD.o.s0
    have wc := HHD.o.st.word (LS.w_at (a := adn) (by rw [HHD.o.st.wlen]; exact had))
    have wf := HHD.o.st.w.frozen adn
    have i2 := HID.o.cell (i := 2) rfl
    have i3 := HID.o.cell (i := 3) rfl
    go_upto_region 25 with fail
    go_still_tail 8, (by kernel_rfl)
    go_upto_region 26 with fail
    obtain ⟨E, hE, HHE, HFE, HLE, HIE⟩ : ∃ Z9, Z9 = (D.setCell ⟨h.gw, adn, none⟩ (.int .i64 vl)).drew /\ Hid (HdAt Z9 gs h tn wn (LS.mk (S.ws.set adn vl) (S.rs.set (t * 4 + rgn) 0) S.ps) tt xs) /\ Hid (Fr (SF h) w Z9) /\ Hid (Blk Z9 w.heap.size 25 [.slice wA wn wk, .slice (some ⟨tb, to', none⟩) tn tk]) /\ Hid (Blk Z9 gi 68 [.int .i64 3, .int .i64 rgn, .int .i64 adn, .int .i64 vl, .int .i64 sr, .int .i64 od, .int .i64 ct]) := ⟨_, rfl, (HHD.o.setW _ _).on (Below.refl _ _).drew, (HFD.o.setCell (Or.inl rfl) _).drew, HLD.o.far (by dsimp only; omega) _, HID.o.far (by dsimp only; omega) _⟩
    rw [<- hE]
    clear hE
    clear m1 m2 s0 wc wf i2 i3
    have s1 := HHE.o.s1
    have rc := HHE.o.st.reg (LS.r_at (t := t) (q := rgn) (by have := HHE.o.st.rlen; omega))
    have rf := HHE.o.st.r.frozen (t * 4 + rgn)
    have i1 := HIE.o.cell (i := 1) rfl
    go_still_tail 8, (by kernel_rfl)
    go_wp2_with fail
    go_meet
    exact ⟨_, 0, (LS.mk (S.ws.set adn vl) ((S.rs.set (t * 4 + rgn) 0).set (t * 4 + rgn) 1) S.ps), rfl, rfl, by omega, (HHE.o.setR _ _).on (Below.refl _ _).drew, (HFE.o.setCell (Or.inr (Or.inl rfl)) _).drew, HLE.o.far (by dsimp only; omega) _, Lh (by unfold effS; simp [HQ.o]), Lh (by unfold skipS; simp)⟩
   ·have m1 : (S.w adn == od) = false := by simpa using hq
    have m2 : decide (S.w adn = od) = false := by simpa using hq
    have HQ := Lh hq
    clear hq
    go_quiet (fail)
    have hb9 : Below C.heap.size C (C.drewN nq) := (Below.refl _ _).drewN _
    obtain ⟨D, hD, HHD, HFD, HLD, HID⟩ : ∃ Z9, Z9 = C.drewN nq /\ Hid (HdAt Z9 gs h tn wn (LS.mk S.ws (S.rs.set (t * 4 + rgn) 0) S.ps) tt xs) /\ Hid (Fr (SF h) w Z9) /\ Hid (Blk Z9 w.heap.size 25 [.slice wA wn wk, .slice (some ⟨tb, to', none⟩) tn tk]) /\ Hid (Blk Z9 gi 68 [.int .i64 3, .int .i64 rgn, .int .i64 adn, .int .i64 vl, .int .i64 sr, .int .i64 od, .int .i64 ct]) := ⟨_, rfl, HHC.o.on hb9, HFC.o.trans (Fr.of hb9), HLC.o.below hb9 HLC.o.lt, HIC.o.below hb9 HIC.o.lt⟩
    rw [<- hD]
    clear hD
    clear hb9
    go_wp2_with fail
    go_meet
    exact ⟨_, 0, _, rfl, rfl, by omega, HHD, HFD, HLD, Lh (by unfold effS; simp [HQ.o]), Lh (by unfold skipS; simp)⟩
  ·have d7 : decide ((0 : Int) < 0) = false := rfl
   have s3 := HHA.o.s3
   have bu := HHA.o.st.buf hlt
   go_wp2_with fail
   go_meet
   exact ⟨_, 0, _, rfl, rfl, by omega, HHA, HFA, HLA, Lh (by unfold effS; simp), Lh (by unfold skipS; simp)⟩
  ·have h9 := HOk9.o
   unfold okIns at h9
   rw [if_neg (by simp), if_neg (by simp), if_neg (by simp), if_pos (by simp)] at h9
   obtain ⟨rgn, hrg, hrg4⟩ := reg_of (h9)
   dsimp only at hrg
   subst hrg
   clear h9
   have g0 : (0 : Int) <= rgn := by omega
   have g1 : (rgn : Int) < 4 := by omega
   have s1 := HHA.o.s1
   have rc := HHA.o.st.reg (LS.r_at (t := t) (q := rgn) (by have := HHA.o.st.rlen; omega))
   have rf := HHA.o.st.r.frozen (t * 4 + rgn)
   have i1 := HIA.o.cell (i := 1) rfl
   have i3 := HIA.o.cell (i := 3) rfl
   go_upto_region 31 with fail
   go_still_tail 10, (by kernel_rfl)
   go_wp2_with fail
   go_meet
   exact ⟨_, 0, (LS.mk S.ws (S.rs.set (t * 4 + rgn) vl) S.ps), rfl, rfl, by omega, (HHA.o.setR _ _).on (Below.refl _ _).drew, (HFA.o.setCell (Or.inr (Or.inl rfl)) _).drew, HLA.o.far (by dsimp only; omega) _, Lh (by unfold effS; simp), Lh (by unfold skipS; simp)⟩
  ·have h9 := HOk9.o
   unfold okIns at h9
   rw [if_neg (by simp), if_neg (by simp), if_neg (by simp), if_pos (by simp)] at h9
   obtain ⟨rgn, hrg, hrg4⟩ := reg_of (h9)
   dsimp only at hrg
   subst hrg
   clear h9
   have g0 : (0 : Int) <= rgn := by omega
   have g1 : (rgn : Int) < 4 := by omega
   have s1 := HHA.o.s1
   have rc := HHA.o.st.reg (LS.r_at (t := t) (q := rgn) (by have := HHA.o.st.rlen; omega))
   have rf := HHA.o.st.r.frozen (t * 4 + rgn)
   have i1 := HIA.o.cell (i := 1) rfl
   have i3 := HIA.o.cell (i := 3) rfl
   go_upto_region 33 with fail
   go_still_tail 14, (by kernel_rfl)
   go_wp2_with fail
   go_meet
   exact ⟨_, 0, (LS.mk S.ws (S.rs.set (t * 4 + rgn) (wrap64 (S.r t rgn + vl))) S.ps), rfl, rfl, by omega, (HHA.o.setR _ _).on (Below.refl _ _).drew, (HFA.o.setCell (Or.inr (Or.inl rfl)) _).drew, HLA.o.far (by dsimp only; omega) _, Lh (by unfold effS; simp [w64']), Lh (by unfold skipS; simp)⟩
  ·have h9 := HOk9.o
   unfold okIns at h9
   rw [if_neg (by simp), if_neg (by simp), if_neg (by simp), if_neg (by simp), if_pos (by simp)] at h9
   rw [Bool.and_eq_true, Bool.and_eq_true, decide_eq_true_eq, decide_eq_true_eq] at h9
   obtain ⟨rgn, hrg, hrg4⟩ := reg_of (h9.1)
   dsimp only at hrg
   subst hrg
   have hct := h9.2
   dsimp only at hct
   obtain ⟨ctn, rfl⟩ : ∃ ctn : Nat, ct = ctn := ⟨ct.toNat, by omega⟩
   clear h9
   have g0 : (0 : Int) <= rgn := by omega
   have g1 : (rgn : Int) < 4 := by omega
   have s1 := HHA.o.s1
   have rc := HHA.o.st.reg (LS.r_at (t := t) (q := rgn) (by have := HHA.o.st.rlen; omega))
   have rf := HHA.o.st.r.frozen (t * 4 + rgn)
   have i1 := HIA.o.cell (i := 1) rfl
   have i3 := HIA.o.cell (i := 3) rfl
   by_cases hq : S.r t rgn = vl
   ·have m1 : (S.r t rgn == vl) = true := by simpa using hq
    have m2 : decide (S.r t rgn = vl) = true := by simpa using hq
    have HQ := Lh hq
    clear hq
    go_upto_region 35 with fail
    go_quiet (fail)
    have hb9 : Below A.heap.size A (A.drewN nq) := (Below.refl _ _).drewN _
    obtain ⟨C, hC, HHC, HFC, HLC, HIC⟩ : ∃ Z9, Z9 = A.drewN nq /\ Hid (HdAt Z9 gs h tn wn S tt xs) /\ Hid (Fr (SF h) w Z9) /\ Hid (Blk Z9 w.heap.size 25 [.slice wA wn wk, .slice (some ⟨tb, to', none⟩) tn tk]) /\ Hid (Blk Z9 gi 68 [.int .i64 7, .int .i64 rgn, .int .i64 ad, .int .i64 vl, .int .i64 sr, .int .i64 od, .int .i64 ctn]) := ⟨_, rfl, HHA.o.on hb9, HFA.o.trans (Fr.of hb9), HLA.o.below hb9 HLA.o.lt, HIA.o.below hb9 HIA.o.lt⟩
    rw [<- hC]
    clear hC
    clear hb9
    clear m1 m2 s1 rc rf i1 i3
    have i6 := HIC.o.cell (i := 6) rfl
    have x0 : IntKind.i64.wrap ((1 : Int) + (ctn : Int)) = ((1 + ctn : Nat) : Int) := (IntWalk.i64_in _ (by omega)).trans (by simp)
    go_wp2_with fail
    go_meet
    exact ⟨_, ctn, _, rfl, by omega, by omega, HHC, HFC, HLC, Lh (by unfold effS; simp), Lh (by unfold skipS; simp [HQ.o])⟩
   ·have m1 : (S.r t rgn == vl) = false := by simpa using hq
    have m2 : decide (S.r t rgn = vl) = false := by simpa using hq
    have HQ := Lh hq
    clear hq
    go_upto_region 35 with fail
    go_quiet (fail)
    have hb9 : Below A.heap.size A (A.drewN nq) := (Below.refl _ _).drewN _
    obtain ⟨C, hC, HHC, HFC, HLC, HIC⟩ : ∃ Z9, Z9 = A.drewN nq /\ Hid (HdAt Z9 gs h tn wn S tt xs) /\ Hid (Fr (SF h) w Z9) /\ Hid (Blk Z9 w.heap.size 25 [.slice wA wn wk, .slice (some ⟨tb, to', none⟩) tn tk]) /\ Hid (Blk Z9 gi 68 [.int .i64 7, .int .i64 rgn, .int .i64 ad, .int .i64 vl, .int .i64 sr, .int .i64 od, .int .i64 ctn]) := ⟨_, rfl, HHA.o.on hb9, HFA.o.trans (Fr.of hb9), HLA.o.below hb9 HLA.o.lt, HIA.o.below hb9 HIA.o.lt⟩
    rw [<- hC]
    clear hC
    clear hb9
    go_wp2_with fail
    go_meet
    exact ⟨_, 0, _, rfl, rfl, by omega, HHC, HFC, HLC, Lh (by unfold effS; simp), Lh (by unfold skipS; simp [HQ.o])⟩
 case rest =>
 obtain ⟨z, k, S1, rfl, hz, hk10, HHD, HFD, HLD, HEf, HSk⟩ := hcut
 obtain ⟨D, rfl⟩ : ∃ D : World, D = wc := ⟨_, rfl⟩
 have q1 := HLD.o.cell (i := 1) rfl
 have hd : D.cell? ⟨tb, to' + t, none⟩ = some (.slice (some ⟨cb, co, none⟩) xn xk) := HHd.o D (HFD.o.to_below hBw hsf)
 have s2 := HHD.o.s2
 have hps : S1.ps = S.ps := by rw [<- HEf.o]; exact effS_ps S t _
 have hwp : LS.p S1 t = S.p t := by unfold LS.p; rw [hps]
 have pl := HHD.o.st.place (LS.p_at (t := t) (by rw [HHD.o.st.plen]; exact hlt))
 have pf := HHD.o.st.p.frozen t
 rw [hwp] at pl
 have x1 : IntKind.i64.wrap ((S.p t : Int) + z) = ((S.p t + k + 1 : Nat) : Int) := (IntWalk.i64_in _ (by omega)).trans (by omega)
 have HEnd : Hid (∀ v : Int, v = ((min (S.p t + k + 1) xn : Nat) : Int) -> WkR h tn wn (turnS ⟨wA, wn, wk, ws, some ⟨tb, to', none⟩, tn, tk, th⟩ S ⟨t, false, ua⟩) true w (.returned (.bool true)) (D.setCell ⟨h.gp, t, none⟩ (.int .i64 v)).drew) := fun v hv => rt_end HHD.o HFD.o HTS2.o HEf.o HSk.o hv
 clear hps hwp hz
 go_upto_region 37 with fail
 go_still_tail 21, (by kernel_rfl)
 go_wp2_with fail
 all_goals (go_ret; exact HEnd.o _ (by omega))
theorem rturn_any (l : Lit) (w : World) (B gs : Nat) (h : SH) (S : LS) (u : Tn) (tt : TypeId) (xs : List Value) (hl : LitAt w B l) (hBw : B <= w.heap.size) (hn : NewS B h) (hh : HdAt w gs h l.tn l.wn S tt xs) (hg : GoodS l S) (hok : okLit l = true) :
  Calls Tryz.prog 51 #[litV l, .int .i64 1, .pointer (some ⟨gs, 0, none⟩), tnV u] w (WkR h l.tn l.wn (turnS l S u) (pickS l S u).isSome w) := by
 cases hp : pickS l S u with
 | some x => exact rturn_yes l w B gs h S u tt xs x hl hBw hn hh hg hok hp
 | none =>
  refine (rturn_no l w B gs h S u tt xs hl hBw hn hh hg hok hp).mono ?_
  rintro e w' ⟨rfl, hb9⟩
  have : turnS l S u = S := by unfold turnS; rw [hp]
  rw [this]
  exact ⟨rfl, hh.st.on hb9, Fr.of hb9⟩
end Go.Proofs.YtgjdgapfnfhklaaGreat
