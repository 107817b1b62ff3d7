/-
tso.Check. reclaimref19.Check.
-/
import Derived.Test.YtgjdgapfnfhklaaGreatZ20
import Derived.Test.YtgjdgapfnfhklaaGreatZ25
import Derived.BigQuiet
import Derived.StillTailTactics
set_option linter.unusedSimpArgs false
set_option linter.unusedVariables false
set_option maxRecDepth 100000
set_option maxHeartbeats 4000000
namespace Go.Proofs.YtgjdgapfnfhklaaGreat
open Go.RowKit
def okTh (nw : Nat) (x : Hd × List Ins) : Bool := decide (x.1.2.1 <= 10) && x.2.all (okIns nw)
theorem okLit_th {l : Lit} : okLit l = (decide (1 <= l.tn) && decide (l.tn <= 4) && decide (1 <= l.wn) && decide (l.wn <= 6) && l.th.all (okTh l.wn)) := rfl
def litErr (l : Lit) : Int := if okLit l = true then 0 else 190
theorem litErr_no {l : Lit} (h : okLit l = false) : litErr l = 190 := by unfold litErr; rw [h]; rfl
theorem litErr_ok {l : Lit} (h : okLit l = true) : litErr l = 0 := by unfold litErr; rw [h]; rfl
theorem th_no {l : Lit} {j : Nat} {x : Hd × List Ins} (hx : l.th[j]? = some x) (h : okTh l.wn x = false) : okLit l = false := by
 rw [okLit_th, Bool.and_eq_false_iff]
 right
 rw [List.all_eq_false]
 exact ⟨x, List.mem_of_getElem? hx, by rw [h]; decide⟩
theorem all_snoc {α : Type} {p : α -> Bool} {l : List α} {j : Nat} {x : α} (hx : l[j]? = some x) (h : (l.take j).all p = true) (hp : p x = true) : (l.take (j + 1)).all p = true := by
 rw [take_snoc hx, List.all_append, h]
 simp [hp]
theorem tcheck_any (l : Lit) (w : World) (h : LitAt w w.heap.size l) : Calls Tryz.prog 54 #[litV l] w (IntR (litErr l) w) := by
 have HB0 : Hid (Blk (w.alloc (.cells #[.slice l.wA l.wn l.wk, .slice l.tA l.tn l.tk] 25)) w.heap.size 25 (litL l)) := Blk.new _ _ _
 have HW0 : Hid (Below w.heap.size w (w.alloc (.cells #[.slice l.wA l.wn l.wk, .slice l.tA l.tn l.tk] 25))) := (Below.refl _ _).alloc (Nat.le_refl _) _
 have HL := Lh h
 have HT := Lh h.tlen
 have hk1 := h.tk.1
 have hk2 := h.tk.2
 unfold maxLen at hk2
 have HV : Hid (∀ a b c : Bool, (decide (1 <= l.tn) && decide (l.tn <= 4) && decide (1 <= l.wn) && decide (l.wn <= 6)) = false -> litErr l = 190) := fun _ _ _ h0 => litErr_no (by rw [okLit_th, h0]; rfl)
 clear h
 obtain ⟨wA, wn, wk, ws, tA, tn, tk, th⟩ := l
 dsimp only at hk1 hk2
 go_enter Tryz.func54, Tryz.ntmps54
 go_upto_region 1 with fail
 generalize w.alloc (.cells #[.slice wA wn wk, .slice tA tn tk] 25) = w0 at HB0 HW0 ⊢
 have q0 := HB0.o.cell (i := 0) rfl
 have q1 := HB0.o.cell (i := 1) rfl
 by_cases a1 : 1 <= tn
 case neg =>
  have b1 : decide ((tn : Int) < 1) = true := by simp; omega
  have b2 : (tn : Int) < 1 := by omega
  have HE := Lh (HV.o true true true (by simp [a1]))
  clear HV a1
  go_wp2_with fail
  go_ret
  exact ⟨by rw [HE.o]; rfl, HW0.o⟩
 by_cases a2 : tn <= 4
 case neg =>
  have b1 : decide ((tn : Int) < 1) = false := by simp; omega
  have b2 : ¬ (tn : Int) < 1 := by omega
  have b3 : decide (4 < (tn : Int)) = true := by simp; omega
  have b4 : 4 < (tn : Int) := by omega
  have HE := Lh (HV.o true true true (by simp [a2]))
  clear HV a1 a2
  go_wp2_with fail
  go_ret
  exact ⟨by rw [HE.o]; rfl, HW0.o⟩
 by_cases a3 : 1 <= wn
 case neg =>
  have b1 : decide ((tn : Int) < 1) = false := by simp; omega
  have b2 : ¬ (tn : Int) < 1 := by omega
  have b3 : decide (4 < (tn : Int)) = false := by simp; omega
  have b4 : ¬ 4 < (tn : Int) := by omega
  have b5 : decide ((wn : Int) < 1) = true := by simp; omega
  have b6 : (wn : Int) < 1 := by omega
  have HE := Lh (HV.o true true true (by simp [a3]))
  clear HV a1 a2 a3
  go_wp2_with fail
  go_ret
  exact ⟨by rw [HE.o]; rfl, HW0.o⟩
 by_cases a4 : wn <= 6
 case neg =>
  have b1 : decide ((tn : Int) < 1) = false := by simp; omega
  have b2 : ¬ (tn : Int) < 1 := by omega
  have b3 : decide (4 < (tn : Int)) = false := by simp; omega
  have b4 : ¬ 4 < (tn : Int) := by omega
  have b5 : decide ((wn : Int) < 1) = false := by simp; omega
  have b6 : ¬ (wn : Int) < 1 := by omega
  have b7 : decide (6 < (wn : Int)) = true := by simp; omega
  have b8 : 6 < (wn : Int) := by omega
  have HE := Lh (HV.o true true true (by simp [a4]))
  clear HV a1 a2 a3 a4
  go_wp2_with fail
  go_ret
  exact ⟨by rw [HE.o]; rfl, HW0.o⟩
 have b1 : decide ((tn : Int) < 1) = false := by simp; omega
 have b2 : ¬ (tn : Int) < 1 := by omega
 have b3 : decide (4 < (tn : Int)) = false := by simp; omega
 have b4 : ¬ 4 < (tn : Int) := by omega
 have b5 : decide ((wn : Int) < 1) = false := by simp; omega
 have b6 : ¬ (wn : Int) < 1 := by omega
 have b7 : decide (6 < (wn : Int)) = false := by simp; omega
 have b8 : ¬ 6 < (wn : Int) := by omega
 have HOk : Hid (th.all (okTh wn) = true -> litErr ⟨wA, wn, wk, ws, tA, tn, tk, th⟩ = 0) := fun h0 => litErr_ok (by rw [okLit_th, h0]; simp [a1, a2, a3, a4])
 clear HV
 go_wp2_with fail
 clear b1 b2 b3 b4 b5 b6 b7 b8 q0 q1
 go_loopg [32] tn (fun gk i wr => ∃ j : Nat, j + gk = tn /\ i = .int .i64 j /\ Hid (Blk wr w.heap.size 25 (litL ⟨wA, wn, wk, ws, tA, tn, tk, th⟩)) /\ Hid (Below w.heap.size w wr) /\ Hid ((th.take j).all (okTh wn) = true))
 case atStart => exact ⟨0, by omega, rfl, HB0, HW0, rfl⟩
 case round =>
  obtain ⟨j, hj, rfl, HB, HW, HA⟩ := hrel
  by_cases hlt : j < tn
  ·obtain ⟨x, hx⟩ := at_lt (show j < th.length by rw [HT.o]; exact hlt)
   have hL := HL.o.keep HW.o
   obtain ⟨tb, to', hta, htb, htc⟩ := hL.head hx
   have hcl := hL.clen (List.mem_of_getElem? hx)
   have hco := hL.code x (List.mem_of_getElem? hx)
   have HX := Lh hx
   have HCo := Lh hco.1
   have HSr := Lh hco.2.2
   have hn1 := hco.2.1.1
   have hn2 := hco.2.1.2
   unfold maxLen at hn2
   clear hx hco hL
   obtain ⟨⟨xA, xn, xk⟩, code⟩ := x
   have e1 : (j : Int) < tn := by omega
   have e0 : (0 : Int) <= j := by omega
   have hta' : tA = some ⟨tb, to', none⟩ := hta
   subst hta'
   clear hta
   dsimp only at hcl hn1 hn2 htc
   by_cases h10 : xn <= 10
   case neg =>
    have b1 : decide (10 < (xn : Int)) = true := by simp; omega
    have b2 : 10 < (xn : Int) := by omega
    have HE := Lh (litErr_no (th_no (l := ⟨wA, wn, wk, ws, some ⟨tb, to', none⟩, tn, tk, th⟩) HX.o (by unfold okTh; simp [h10])))
    go_wp2_with fail
    go_ret
    exact ⟨by rw [HE.o]; rfl, HW.o⟩
   have b1 : decide (10 < (xn : Int)) = false := by simp; omega
   have b2 : ¬ 10 < (xn : Int) := by omega
   have HCl := Lh hcl
   clear hcl
   obtain ⟨wo, rfl⟩ : ∃ wo : World, wo = wr := ⟨_, rfl⟩
   obtain ⟨go, rfl⟩ : ∃ go : Nat, go = gk := ⟨_, rfl⟩
   have htb2 : tb < wo.heap.size := by have := HW.o.size; omega
   go_wp2_with fail
   clear b1 b2
   go_loopg [41] xn (fun gk i w' => ∃ q : Nat, q + gk = xn /\ i = .int .i64 q /\ Hid (Blk w' w.heap.size 25 (litL ⟨wA, wn, wk, ws, some ⟨tb, to', none⟩, tn, tk, th⟩)) /\ Hid (Below w.heap.size w w') /\ Hid ((code.take q).all (okIns wn) = true))
   case atStart => exact ⟨0, by omega, rfl, HB, HW, rfl⟩
   case round =>
    obtain ⟨q, hq, rfl, HB2, HW2, HQ⟩ := hrel
    by_cases hq8 : q < xn
    ·obtain ⟨y, hy⟩ := at_lt (show q < code.length by rw [HCl.o]; exact hq8)
     have hL2 := HL.o.keep HW2.o
     obtain ⟨cb, co, hca, hcb, hc⟩ := ins_cell (hL2.code _ (List.mem_of_getElem? HX.o)).1 hy
     have hsy := HSr.o y (List.mem_of_getElem? hy)
     have HY := Lh hy
     have hca' : xA = some ⟨cb, co, none⟩ := hca
     subst hca'
     have c0 := hc.c0
     have c1 := hc.c1
     have c2 := hc.c2
     have c3 := hc.c3
     have c4 := hc.c4
     have c5 := hc.c5
     have c6 := hc.c6
     have f1 : (q : Int) < xn := by omega
     have f0 : (0 : Int) <= q := by omega
     clear hy hc hca hL2
     go_upto_region 11 with fail
     have HB3 := Lh (HB2.o.alloc (.cells #[.int .i64 y.kind, .int .i64 y.reg, .int .i64 y.addr, .int .i64 y.value, .int .i64 y.src, .int .i64 y.old, .int .i64 y.count] 68))
     have HW3 := Lh (HW2.o.alloc HW2.o.size (.cells #[.int .i64 y.kind, .int .i64 y.reg, .int .i64 y.addr, .int .i64 y.value, .int .i64 y.src, .int .i64 y.old, .int .i64 y.count] 68))
     have q0 := HB3.o.cell (i := 0) (v := .slice wA wn wk) rfl
     have q1 := HB3.o.cell (i := 1) (v := .slice (some ⟨tb, to', none⟩) tn tk) rfl
     clear HB2 HW2 c0 c1 c2 c3 c4 c5 c6 hcb
     obtain ⟨v, hv⟩ : ∃ v, okIns wn y = v := ⟨_, rfl⟩
     have HFi : Hid (∀ W, Calls Tryz.prog 72 #[litV ⟨wA, wn, wk, ws, some ⟨tb, to', none⟩, tn, tk, th⟩, insV y] W (BoolR v W)) := fun W => by
      rw [<- hv]
      exact fits_any ⟨wA, wn, wk, ws, some ⟨tb, to', none⟩, tn, tk, th⟩ y W hsy
     have HVv := Lh hv
     clear hv hsy
     go_wp2_with fail
     refine (HFi.o _).mono ?_
     rintro e w4 ⟨rfl, hb4⟩
     have HB4 := Lh (HB3.o.below hb4 HB3.o.lt)
     have HW4 := Lh (HW3.o.trans (hb4.mono HW3.o.size))
     clear hb4 HB3 HW3 q0 q1 HFi
     cases v
     case false =>
      have HE := Lh (litErr_no (th_no (l := ⟨wA, wn, wk, ws, some ⟨tb, to', none⟩, tn, tk, th⟩) HX.o (by
       unfold okTh
       rw [Bool.and_eq_false_iff]
       right
       rw [List.all_eq_false]
       exact ⟨y, List.mem_of_getElem? HY.o, by rw [HVv.o]; decide⟩)))
      go_wp2_with fail
      go_ret
      exact ⟨by rw [HE.o]; rfl, HW4.o⟩
     go_wp2_with fail
     go_roundg (gk - 1)
     case measure => omega
     case rel => exact ⟨q + 1, by omega, by go_num, HB4, HW4, all_snoc HY.o HQ.o HVv.o⟩
    ·obtain rfl : q = xn := by omega
     have HQ' : Hid (okTh wn ((xA, q, xk), code) = true) := by
      have h9 := HQ.o
      rw [List.take_of_length_le (by rw [HCl.o]; exact Nat.le_refl _)] at h9
      show (decide (q <= 10) && code.all (okIns wn)) = true
      rw [h9]
      simp [h10]
     go_wp2_with fail
     go_roundg (go - 1)
     case measure => omega
     case rel => exact ⟨j + 1, by omega, by go_num, HB2, HW2, all_snoc HX.o HA.o HQ'.o⟩
  ·obtain hje : j = tn := by omega
   have HE := Lh (HOk.o (by
    have h9 := HA.o
    rwa [List.take_of_length_le (by rw [HT.o, hje]; exact Nat.le_refl _)] at h9))
   subst hje
   go_wp2_with fail
   go_ret
   exact ⟨by rw [HE.o]; rfl, HW.o⟩
end Go.Proofs.YtgjdgapfnfhklaaGreat
namespace Go.Proofs.YtgjdgapfnfhklaaGreat
open Go.RowKit
theorem rlcheck_any (l : Lit) (w : World) (h : LitAt w w.heap.size l) : Calls Tryz.prog 6 #[litV l] w (BoolR (okLit l) w) := by
 have HB0 : Hid (Blk (w.alloc (.cells #[.slice l.wA l.wn l.wk, .slice l.tA l.tn l.tk] 25)) w.heap.size 25 (litL l)) := Blk.new _ _ _
 have HW0 : Hid (Below w.heap.size w (w.alloc (.cells #[.slice l.wA l.wn l.wk, .slice l.tA l.tn l.tk] 25))) := (Below.refl _ _).alloc (Nat.le_refl _) _
 have HL := Lh h
 have HT := Lh h.tlen
 have hk1 := h.tk.1
 have hk2 := h.tk.2
 unfold maxLen at hk2
 have HV : Hid (∀ a b c : Bool, (decide (1 <= l.tn) && decide (l.tn <= 4) && decide (1 <= l.wn) && decide (l.wn <= 6)) = false -> okLit l = false) := fun _ _ _ h0 => by rw [okLit_th, h0]; rfl
 clear h
 obtain ⟨wA, wn, wk, ws, tA, tn, tk, th⟩ := l
 dsimp only at hk1 hk2
 go_enter Tryz.func6, Tryz.ntmps6
 go_upto_region 1 with fail
 generalize w.alloc (.cells #[.slice wA wn wk, .slice tA tn tk] 25) = w0 at HB0 HW0 ⊢
 have q0 := HB0.o.cell (i := 0) rfl
 have q1 := HB0.o.cell (i := 1) rfl
 by_cases a1 : 1 <= tn
 case neg =>
  have b1 : decide ((tn : Int) < 1) = true := by simp; omega
  have b2 : (tn : Int) < 1 := by omega
  have HE := Lh (HV.o true true true (by simp [a1]))
  clear HV a1
  go_wp2_with fail
  go_ret
  exact ⟨by rw [HE.o]; rfl, HW0.o⟩
 by_cases a2 : tn <= 4
 case neg =>
  have b1 : decide ((tn : Int) < 1) = false := by simp; omega
  have b2 : ¬ (tn : Int) < 1 := by omega
  have b3 : decide (4 < (tn : Int)) = true := by simp; omega
  have b4 : 4 < (tn : Int) := by omega
  have HE := Lh (HV.o true true true (by simp [a2]))
  clear HV a1 a2
  go_wp2_with fail
  go_ret
  exact ⟨by rw [HE.o]; rfl, HW0.o⟩
 by_cases a3 : 1 <= wn
 case neg =>
  have b1 : decide ((tn : Int) < 1) = false := by simp; omega
  have b2 : ¬ (tn : Int) < 1 := by omega
  have b3 : decide (4 < (tn : Int)) = false := by simp; omega
  have b4 : ¬ 4 < (tn : Int) := by omega
  have b5 : decide ((wn : Int) < 1) = true := by simp; omega
  have b6 : (wn : Int) < 1 := by omega
  have HE := Lh (HV.o true true true (by simp [a3]))
  clear HV a1 a2 a3
  go_wp2_with fail
  go_ret
  exact ⟨by rw [HE.o]; rfl, HW0.o⟩
 by_cases a4 : wn <= 6
 case neg =>
  have b1 : decide ((tn : Int) < 1) = false := by simp; omega
  have b2 : ¬ (tn : Int) < 1 := by omega
  have b3 : decide (4 < (tn : Int)) = false := by simp; omega
  have b4 : ¬ 4 < (tn : Int) := by omega
  have b5 : decide ((wn : Int) < 1) = false := by simp; omega
  have b6 : ¬ (wn : Int) < 1 := by omega
  have b7 : decide (6 < (wn : Int)) = true := by simp; omega
  have b8 : 6 < (wn : Int) := by omega
  have HE := Lh (HV.o true true true (by simp [a4]))
  clear HV a1 a2 a3 a4
  go_wp2_with fail
  go_ret
  exact ⟨by rw [HE.o]; rfl, HW0.o⟩
 have b1 : decide ((tn : Int) < 1) = false := by simp; omega
 have b2 : ¬ (tn : Int) < 1 := by omega
 have b3 : decide (4 < (tn : Int)) = false := by simp; omega
 have b4 : ¬ 4 < (tn : Int) := by omega
 have b5 : decide ((wn : Int) < 1) = false := by simp; omega
 have b6 : ¬ (wn : Int) < 1 := by omega
 have b7 : decide (6 < (wn : Int)) = false := by simp; omega
 have b8 : ¬ 6 < (wn : Int) := by omega
 have HOk : Hid (th.all (okTh wn) = true -> okLit ⟨wA, wn, wk, ws, tA, tn, tk, th⟩ = true) := fun h0 => by rw [okLit_th, h0]; simp [a1, a2, a3, a4]
 clear HV
 go_wp2_with fail
 clear b1 b2 b3 b4 b5 b6 b7 b8 q0 q1
 go_loopg [3] tn (fun gk i wr => ∃ j : Nat, j + gk = tn /\ i = .int .i64 j /\ Hid (Blk wr w.heap.size 25 (litL ⟨wA, wn, wk, ws, tA, tn, tk, th⟩)) /\ Hid (Below w.heap.size w wr) /\ Hid ((th.take j).all (okTh wn) = true))
 case atStart => exact ⟨0, by omega, rfl, HB0, HW0, rfl⟩
 case round =>
  obtain ⟨j, hj, rfl, HB, HW, HA⟩ := hrel
  have q1 := HB.o.cell (i := 1) rfl
  by_cases hlt : j < tn
  ·obtain ⟨x, hx⟩ := at_lt (show j < th.length by rw [HT.o]; exact hlt)
   have hL := HL.o.keep HW.o
   obtain ⟨tb, to', hta, htb, htc⟩ := hL.head hx
   have hcl := hL.clen (List.mem_of_getElem? hx)
   have hco := hL.code x (List.mem_of_getElem? hx)
   have HX := Lh hx
   have HCo := Lh hco.1
   have hn1 := hco.2.1.1
   have hn2 := hco.2.1.2
   unfold maxLen at hn2
   clear hx hco hL
   obtain ⟨⟨xA, xn, xk⟩, code⟩ := x
   have e1 : (j : Int) < tn := by omega
   have e0 : (0 : Int) <= j := by omega
   have hta' : tA = some ⟨tb, to', none⟩ := hta
   subst hta'
   clear hta
   dsimp only at hcl hn1 hn2 htc
   by_cases h10 : xn <= 10
   case neg =>
    have b1 : decide (10 < (xn : Int)) = true := by simp; omega
    have b2 : 10 < (xn : Int) := by omega
    have HE := Lh ((th_no (l := ⟨wA, wn, wk, ws, some ⟨tb, to', none⟩, tn, tk, th⟩) HX.o (by unfold okTh; simp [h10])))
    go_wp2_with fail
    go_ret
    exact ⟨by rw [HE.o]; rfl, HW.o⟩
   have b1 : decide (10 < (xn : Int)) = false := by simp; omega
   have b2 : ¬ 10 < (xn : Int) := by omega
   have HCl := Lh hcl
   clear hcl
   obtain ⟨wo, rfl⟩ : ∃ wo : World, wo = wr := ⟨_, rfl⟩
   obtain ⟨go, rfl⟩ : ∃ go : Nat, go = gk := ⟨_, rfl⟩
   have htb2 : tb < wo.heap.size := by have := HW.o.size; omega
   go_wp2_with fail
   clear b1 b2 q1 htc
   go_loopg [4] xn (fun gk i w' => ∃ q : Nat, q + gk = xn /\ i = .int .i64 q /\ Hid (Blk w' w.heap.size 25 (litL ⟨wA, wn, wk, ws, some ⟨tb, to', none⟩, tn, tk, th⟩)) /\ Hid (Below w.heap.size w w') /\ Hid ((code.take q).all (okIns wn) = true))
   case atStart => exact ⟨0, by omega, rfl, HB, HW, rfl⟩
   case round =>
    obtain ⟨q, hq, rfl, HB2, HW2, HQ⟩ := hrel
    have hL2 := HL.o.keep HW2.o
    have q0 := HB2.o.cell (i := 0) (v := .slice wA wn wk) rfl
    have q1 := HB2.o.cell (i := 1) (v := .slice (some ⟨tb, to', none⟩) tn tk) rfl
    have htc : wr.cell? ⟨tb, to' + j, none⟩ = some (.slice xA xn xk) := by
     obtain ⟨b9, o9, h1, _, h3⟩ := hL2.head HX.o
     injection h1 with h1
     injection h1 with h1 h2
     subst h1 h2
     exact h3
    by_cases hq8 : q < xn
    ·obtain ⟨y, hy⟩ := at_lt (show q < code.length by rw [HCl.o]; exact hq8)
     obtain ⟨cb, co, hca, hcb, hc⟩ := ins_cell (hL2.code _ (List.mem_of_getElem? HX.o)).1 hy
     have HY := Lh hy
     have hca' : xA = some ⟨cb, co, none⟩ := hca
     subst hca'
     have c0 := hc.c0
     have c1 := hc.c1
     have c2 := hc.c2
     have c3 := hc.c3
     have c4 := hc.c4
     have c5 := hc.c5
     have c6 := hc.c6
     have f1 : (q : Int) < xn := by omega
     have f0 : (0 : Int) <= q := by omega
     obtain ⟨v, hv⟩ : ∃ v, okIns wn y = v := ⟨_, rfl⟩
     have HFi : Hid (∀ W, Calls Tryz.prog 17 #[insV y, .int .i64 wn] W (BoolR v W)) := fun W => by
      rw [<- hv]
      exact rfits_any y wn W
     have HVv := Lh hv
     clear hy hc hca hL2 hv
     go_upto_region 11 with fail
     go_still_tail 11, (by kernel_rfl)
     change wpList _ _ _ _ _ wr.drew
     have HB3 : Hid (Blk wr.drew w.heap.size 25 (litL ⟨wA, wn, wk, ws, some ⟨tb, to', none⟩, tn, tk, th⟩)) := HB2.o
     have HW3 : Hid (Below w.heap.size w wr.drew) := HW2.o.drew
     clear q0 q1 htc c0 c1 c2 c3 c4 c5 c6 HB2 HW2
     generalize wr.drew = w3 at HB3 HW3 ⊢
     go_wp2_with fail
     refine (HFi.o _).mono ?_
     rintro e w4 ⟨rfl, hb4⟩
     have HB4 := Lh (HB3.o.below hb4 HB3.o.lt)
     have HW4 := Lh (HW3.o.trans (hb4.mono HW3.o.size))
     clear hb4 HB3 HW3 HFi
     cases v
     case false =>
      have HE := Lh ((th_no (l := ⟨wA, wn, wk, ws, some ⟨tb, to', none⟩, tn, tk, th⟩) HX.o (by
       unfold okTh
       rw [Bool.and_eq_false_iff]
       right
       rw [List.all_eq_false]
       exact ⟨y, List.mem_of_getElem? HY.o, by rw [HVv.o]; decide⟩)))
      go_wp2_with fail
      go_ret
      exact ⟨by rw [HE.o]; rfl, HW4.o⟩
     go_wp2_with fail
     go_roundg (gk - 1)
     case measure => omega
     case rel => exact ⟨q + 1, by omega, by go_num, HB4, HW4, all_snoc HY.o HQ.o HVv.o⟩
    ·obtain rfl : q = xn := by omega
     have HQ' : Hid (okTh wn ((xA, q, xk), code) = true) := by
      have h9 := HQ.o
      rw [List.take_of_length_le (by rw [HCl.o]; exact Nat.le_refl _)] at h9
      show (decide (q <= 10) && code.all (okIns wn)) = true
      rw [h9]
      simp [h10]
     go_wp2_with fail
     go_roundg (go - 1)
     case measure => omega
     case rel => exact ⟨j + 1, by omega, by go_num, HB2, HW2, all_snoc HX.o HA.o HQ'.o⟩
  ·obtain hje : j = tn := by omega
   have HE := Lh (HOk.o (by
    have h9 := HA.o
    rwa [List.take_of_length_le (by rw [HT.o, hje]; exact Nat.le_refl _)] at h9))
   subst hje
   go_wp2_with fail
   go_ret
   exact ⟨by rw [HE.o]; rfl, HW.o⟩
end Go.Proofs.YtgjdgapfnfhklaaGreat
