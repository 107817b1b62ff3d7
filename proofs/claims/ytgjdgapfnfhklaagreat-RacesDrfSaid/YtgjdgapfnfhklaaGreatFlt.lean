/-
reclaimref27.flat: a state with its clocks as a list of numb
-/
import Derived.Test.YtgjdgapfnfhklaaGreatZ10
import Derived.Test.YtgjdgapfnfhklaaGreatZ8
import Derived.Test.YtgjdgapfnfhklaaGreatRb27
set_option linter.unusedSimpArgs false
set_option linter.unusedVariables false
set_option maxRecDepth 100000
set_option maxHeartbeats 16000000
namespace Go.Proofs.YtgjdgapfnfhklaaGreat
open Go.RowKit
def mAt (n : Nat) (x : TS) (j : Nat) : List Int := (List.range j).flatMap fun t => clkL n (x.m t)
def wAt (n : Nat) (x : TS) (j : Nat) : List Int := (List.range j).flatMap fun a => clkL n (x.wd a)
theorem mAt_next (n : Nat) (x : TS) (j : Nat) : mAt n x (j + 1) = mAt n x j ++ clkL n (x.m j) := by unfold mAt; rw [List.range_succ, List.flatMap_append]; simp
theorem wAt_next (n : Nat) (x : TS) (j : Nat) : wAt n x (j + 1) = wAt n x j ++ clkL n (x.wd j) := by unfold wAt; rw [List.range_succ, List.flatMap_append]; simp
theorem mAt_len (n : Nat) (x : TS) : ∀ j, (mAt n x j).length = n * j
 | 0 => by simp [mAt]
 | j + 1 => by rw [mAt_next, List.length_append, mAt_len n x j, clkL_len]; rfl
theorem ints_app (a b : List Int) : ints (a ++ b) = ints a ++ ints b := by simp [ints]
theorem flat_eq (l : Lit) (S : LS) (es : List Ev) : ((((((flatAt S l.tn ++ mAt l.tn (xAt es) l.tn) ++ wAt l.tn (xAt es) l.wn) ++ lastK l.tn l.wn (lastE es 1)) ++ lastK l.tn l.wn (lastE es 2)) ++ lastK l.tn l.wn (lastE es 3)) ++ lastK l.tn l.wn (lastE es 9)) = flatK l.tn l.wn S es := rfl
theorem EvcAt.rsb {W : World} {B n nw : Nat} {S : LS} {x : TS} {es : List Ev} {M : RM} {vA : Option Addr} {vk : Nat} (h : RSB W B n nw S x es M) (hv : M.vE = .slice vA es.length vk) : EvcAt W W.heap.size n es M.cs vA := by
 refine ⟨?_, h.cl, fun j p hp => (h.cr j p hp).2.sl⟩
 have h9 := h.ev
 rw [hv] at h9
 exact Sl.of_own h9
theorem flat_any (l : Lit) (w : World) (B : Nat) (S : LS) (es : List Ev) (M : RM) (hl : LitAt w w.heap.size l) (hr : RSB w B l.tn l.wn S (xAt es) es M) (hok : okLit l = true) (hen : es.length <= 100000) (hes : ∀ e ∈ es, EvOk l e) :
  Calls Tryz.prog 20 #[litV l, rsV M l.tn l.wn] w (FltR (flatK l.tn l.wn S es) w) := by
 obtain ⟨n1, n2, n3, n4⟩ := okLit_num hok
 obtain ⟨vA, vk, hvE, hvk1, hvk2⟩ := own_form hr.ev
 have HvE := Lh hvE
 unfold rsV
 rw [hvE]
 obtain ⟨w0, hw0⟩ : ∃ w0 : World, w0 = (w.alloc (.cells #[.slice l.wA l.wn l.wk, .slice l.tA l.tn l.tk] 25)).alloc (.cells #[.slice (some ⟨M.h.gw, 0, none⟩) l.wn M.h.kw, .slice (some ⟨M.h.gr, 0, none⟩) l.tn M.h.kr, .slice (some ⟨M.h.gp, 0, none⟩) l.tn M.h.kp, .slice (some ⟨M.h.gb, 0, none⟩) l.tn M.h.kb, .slice (some ⟨M.gm, 0, none⟩) l.tn M.km, .slice (some ⟨M.gd, 0, none⟩) l.wn M.kd, .slice vA es.length vk] 80) := ⟨_, rfl⟩
 have HB0 : Hid (Blk w0 w.heap.size 25 (litL l)) := by rw [hw0]; exact Lh ((Blk.new w 25 (litL l)).alloc _)
 have HZ0 : Hid (Blk w0 (w.heap.size + 1) 80 [.slice (some ⟨M.h.gw, 0, none⟩) l.wn M.h.kw, .slice (some ⟨M.h.gr, 0, none⟩) l.tn M.h.kr, .slice (some ⟨M.h.gp, 0, none⟩) l.tn M.h.kp, .slice (some ⟨M.h.gb, 0, none⟩) l.tn M.h.kb, .slice (some ⟨M.gm, 0, none⟩) l.tn M.km, .slice (some ⟨M.gd, 0, none⟩) l.wn M.kd, .slice vA es.length vk]) := by
  rw [hw0]
  have h9 := Blk.new (w.alloc (.cells #[.slice l.wA l.wn l.wk, .slice l.tA l.tn l.tk] 25)) 80 [.slice (some ⟨M.h.gw, 0, none⟩) l.wn M.h.kw, .slice (some ⟨M.h.gr, 0, none⟩) l.tn M.h.kr, .slice (some ⟨M.h.gp, 0, none⟩) l.tn M.h.kp, .slice (some ⟨M.h.gb, 0, none⟩) l.tn M.h.kb, .slice (some ⟨M.gm, 0, none⟩) l.tn M.km, .slice (some ⟨M.gd, 0, none⟩) l.wn M.kd, .slice vA es.length vk]
  rw [World.size_alloc] at h9
  exact Lh h9
 have HW0 : Hid (Below w.heap.size w w0) := by rw [hw0]; exact Lh (((Below.refl _ _).alloc (Nat.le_refl _) _).alloc (by simp) _)
 have HR0 := Lh (hr.on HW0.o)
 have HL := Lh hl
 have HEs := Lh hes
 have HOk := Lh hok
 have HWe := Lh hw0
 have hz0 : w.heap.size + 1 < w0.heap.size := HZ0.o.lt
 obtain ⟨ii, hii, hiiz, hiis, hiib⟩ := info_parts info_iF
 obtain ⟨N0, hN0⟩ : ∃ N0, N0 = (flatAt S l.tn).length := ⟨_, rfl⟩
 have hN0b : N0 <= 30 := by rw [hN0, flatAt_len hr.st.wlen]; omega
 obtain ⟨NK, hNK⟩ : ∃ NK, NK = l.wn * l.tn := ⟨_, rfl⟩
 have hNKb : NK <= 24 := by
  rw [hNK]
  exact Nat.le_trans (Nat.mul_le_mul n4 n2) (by omega)
 obtain ⟨NM, hNM⟩ : ∃ NM, NM = l.tn * l.tn := ⟨_, rfl⟩
 have hNMb : NM <= 16 := by
  rw [hNM]
  exact Nat.le_trans (Nat.mul_le_mul n2 n2) (by omega)
 have hNMK : l.tn * l.wn = NK := by rw [hNK, Nat.mul_comm]
 have HN0 := Lh hN0
 have HNK := Lh hNK
 have HNM := Lh hNM
 have HNMK := Lh hNMK
 have HRl : Hid (∀ j, j <= l.tn -> l.tn * j <= NM) := Lh fun j hj => by rw [hNM]; exact Nat.mul_le_mul_left _ hj
 have HRw : Hid (∀ j, j <= l.wn -> l.tn * j <= NK) := Lh fun j hj => by rw [<- hNMK]; exact Nat.mul_le_mul_left _ hj
 clear hr hl hok hes hw0 hvE hN0 hNK hNM hNMK
 go_enter Tryz.func20, Tryz.ntmps20
 go_upto_region 1 with fail
 rw [<- HWe.o]
 clear HWe
 have s0 := HZ0.o.cell (i := 0) rfl
 have s1 := HZ0.o.cell (i := 1) rfl
 have s2 := HZ0.o.cell (i := 2) rfl
 have s3 := HZ0.o.cell (i := 3) rfl
 go_wp2_with (go_at_call 47; go_must (refine (flat19_any M.h l.tn l.wn S w0 HR0.o.st n2 n4).mono ?_; rintro e w1 ⟨A1, k1, rfl, hown, hb1⟩))
 rw [<- HN0.o] at hown ⊢
 have HO1 : Hid (w1.ownsRow w0.heap.size 3 1 (.slice A1 N0 k1) N0 (ints (flatAt S l.tn))) := Lh hown
 have HB1 := Lh hb1
 clear hown hb1 s0 s1 s2 s3
 go_wp2_with fail
 go_loopg [5, 6] l.tn (fun gk v i wr => ∃ (j : Nat) (v9 : Value), j + gk = l.tn /\ i = .int .i64 j /\ v = v9 /\ Hid (wr.ownsRow w0.heap.size 3 1 v9 (N0 + l.tn * j) (ints (flatAt S l.tn ++ mAt l.tn (xAt es) j))) /\ Hid (Below w0.heap.size w0 wr))
 case atStart => exact ⟨0, _, by omega, rfl, rfl, by simp only [mAt, List.range_zero, List.flatMap_nil, List.append_nil, Nat.mul_zero, Nat.add_zero]; exact HO1, HB1⟩
 case round =>
  obtain ⟨j, v, hj, rfl, hv9, HO, HB⟩ := hrel
  subst hv9
  obtain ⟨A5, k5, hv5, hk51, hk52⟩ := own_form HO.o
  subst hv5
  have s4 := (HZ0.o.below HB.o HZ0.o.lt).cell (i := 4) rfl
  by_cases hlt : j < l.tn
  ·have e1 : (j : Int) < l.tn := by omega
   have e0 : (0 : Int) <= j := by omega
   have d1 : decide (j < l.tn) = true := by simpa using hlt
   have hR := HR0.o.on HB.o
   obtain ⟨g, hg9⟩ := at_lt (show j < M.ms.length by rw [hR.ml]; exact hlt)
   have m1 : wr.cell? ⟨M.gm, j, none⟩ = some (.slice (some ⟨g, 0, none⟩) l.tn (M.kc j)) := hR.mi.cell (mhV_get hg9)
   have HSl := Lh (hR.mr j g hg9).2.sl
   have hbd := HRl.o (j + 1) hlt
   rw [Nat.mul_add, Nat.mul_one] at hbd
   clear hR hg9
   go_wp2_with (at_builtin; go_must (refine wpList_app _ rfl _ _ 22 rfl w0.heap.size 3 ii (.int .i64 0) 1 8 Tryz.underlying22 hii hiiz hiis hiib rfl (by decide) (.slice A5 (N0 + l.tn * j) k5) (N0 + l.tn * j) (ints (flatAt S l.tn ++ mAt l.tn (xAt es) j)) rfl HO.o _ (some ⟨g, 0, none⟩) l.tn (M.kc j) (ints (clkL l.tn ((xAt es).m j))) rfl HSl.o ints_oneI (N0 + l.tn * (j + 1)) (by rw [Nat.mul_add, Nat.mul_one]; omega) (ints (flatAt S l.tn ++ mAt l.tn (xAt es) (j + 1))) (by rw [mAt_next, <- List.append_assoc, ints_app (flatAt S l.tn ++ mAt l.tn (xAt es) j)]) _ rfl (by simp only [maxLen]; rw [Nat.mul_add, Nat.mul_one]; omega) (by rw [Nat.mul_add, Nat.mul_one]; omega) HB.o.size ?_; intro A7 k7 w7 hown hg hat hk7 hk8))
   have HO7 := Lh hown
   have HB7 : Hid (Below w0.heap.size w0 w7) := Lh (HB.o.grown hg HB.o.size (fun q hq => (HO.o.lt q hq).1))
   clear hown hg hat
   go_roundg (gk - 1)
   case measure => omega
   case rel => exact ⟨j + 1, _, by omega, by go_num, rfl, HO7, HB7⟩
  ·obtain rfl : j = l.tn := by omega
   go_wp2_with fail
   clear s4
   obtain ⟨wo, rfl⟩ : ∃ wo : World, wo = wr := ⟨_, rfl⟩
   rw [<- HNM.o] at HO hk51 ⊢
   obtain ⟨N1, hN1⟩ : ∃ N1, N1 = N0 + NM := ⟨_, rfl⟩
   rw [<- hN1] at HO hk51 ⊢
   have hN1b : N1 <= 46 := by omega
   have HFm : Hid ((flatAt S l.tn ++ mAt l.tn (xAt es) l.tn).length = N1) := Lh (by rw [List.length_append, mAt_len, <- HN0.o, <- HNM.o, hN1])
   clear hN1
   obtain ⟨F1, hF1⟩ : ∃ F1, F1 = flatAt S l.tn ++ mAt l.tn (xAt es) l.tn := ⟨_, rfl⟩
   rw [<- hF1] at HO HFm
   have HF1 := Lh hF1
   clear hF1
   go_loopg [5, 7] l.wn (fun gk v i wr => ∃ (j : Nat) (v9 : Value), j + gk = l.wn /\ i = .int .i64 j /\ v = v9 /\ Hid (wr.ownsRow w0.heap.size 3 1 v9 (N1 + l.tn * j) (ints (F1 ++ wAt l.tn (xAt es) j))) /\ Hid (Below w0.heap.size w0 wr))
   case atStart => exact ⟨0, _, by omega, rfl, rfl, by simp only [wAt, List.range_zero, List.flatMap_nil, List.append_nil, Nat.mul_zero, Nat.add_zero]; exact HO, HB⟩
   case round =>
    obtain ⟨j, v, hj, rfl, hv9, HO2, HB2⟩ := hrel
    subst hv9
    obtain ⟨A6, k6, hv6, hk61, hk62⟩ := own_form HO2.o
    subst hv6
    have s5 := (HZ0.o.below HB2.o HZ0.o.lt).cell (i := 5) rfl
    by_cases hlt : j < l.wn
    ·have e1 : (j : Int) < l.wn := by omega
     have e0 : (0 : Int) <= j := by omega
     have d1 : decide (j < l.wn) = true := by simpa using hlt
     have hR := HR0.o.on HB2.o
     obtain ⟨⟨g, gk9⟩, hg9⟩ := at_lt (show j < M.ws.length by rw [hR.wl]; exact hlt)
     have m1 : wr.cell? ⟨M.gd, j, none⟩ = some (.slice (some ⟨g, 0, none⟩) l.tn gk9) := hR.wi.cell (by unfold whV; rw [List.getElem?_map, hg9]; rfl)
     have HSl := Lh (hR.wr j _ hg9).2.sl
     have hbd := HRw.o (j + 1) hlt
     rw [Nat.mul_add, Nat.mul_one] at hbd
     clear hR hg9
     go_wp2_with (at_builtin; go_must (refine wpList_app _ rfl _ _ 22 rfl w0.heap.size 3 ii (.int .i64 0) 1 8 Tryz.underlying22 hii hiiz hiis hiib rfl (by decide) (.slice A6 (N1 + l.tn * j) k6) (N1 + l.tn * j) (ints (F1 ++ wAt l.tn (xAt es) j)) rfl HO2.o _ (some ⟨g, 0, none⟩) l.tn gk9 (ints (clkL l.tn ((xAt es).wd j))) rfl HSl.o ints_oneI (N1 + l.tn * (j + 1)) (by rw [Nat.mul_add, Nat.mul_one]; omega) (ints (F1 ++ wAt l.tn (xAt es) (j + 1))) (by rw [wAt_next, <- List.append_assoc, ints_app (F1 ++ wAt l.tn (xAt es) j)]) _ rfl (by simp only [maxLen]; rw [Nat.mul_add, Nat.mul_one]; omega) (by rw [Nat.mul_add, Nat.mul_one]; omega) HB2.o.size ?_; intro A7 k7 w7 hown hg hat hk7 hk8))
     have HO7 := Lh hown
     have HB7 : Hid (Below w0.heap.size w0 w7) := Lh (HB2.o.grown hg HB2.o.size (fun q hq => (HO2.o.lt q hq).1))
     clear hown hg hat
     go_roundg (gk - 1)
     case measure => omega
     case rel => exact ⟨j + 1, _, by omega, by go_num, rfl, HO7, HB7⟩
    ·obtain rfl : j = l.wn := by omega
     go_upto_region 10 with fail
     clear s5
     obtain ⟨x0, rfl⟩ : ∃ x0 : World, x0 = wr := ⟨_, rfl⟩
     rw [HNMK.o] at HO2 hk61 ⊢
     obtain ⟨M0, hM0⟩ : ∃ M0, M0 = N1 + NK := ⟨_, rfl⟩
     rw [<- hM0] at HO2 hk61 ⊢
     have hM0b : M0 <= 70 := by omega
     clear hM0
     obtain ⟨L0, hL0⟩ : ∃ L0, L0 = F1 ++ wAt l.tn (xAt es) l.wn := ⟨_, rfl⟩
     rw [<- hL0] at HO2
     have HL0 := Lh hL0
     clear hL0
     have HX0 := HB2
     have HOx0 := HO2
     have hLb := HB0.o.below HX0.o HB0.o.lt
     have hZb := HZ0.o.below HX0.o HZ0.o.lt
     have hW0 : Below w.heap.size w x0 := HW0.o.trans (HX0.o.mono HW0.o.size)
     have q0 := hLb.cell (i := 0) rfl
     have q1 := hLb.cell (i := 1) rfl
     have s0 := hZb.cell (i := 0) rfl
     have s1 := hZb.cell (i := 1) rfl
     have s2 := hZb.cell (i := 2) rfl
     have s3 := hZb.cell (i := 3) rfl
     have s4 := hZb.cell (i := 4) rfl
     have s5 := hZb.cell (i := 5) rfl
     have s6 := hZb.cell (i := 6) rfl
     have HLk : Hid (∀ V, V = x0 -> Calls Tryz.prog 48 #[litV l, .agg #[.slice (some ⟨M.h.gw, 0, none⟩) l.wn M.h.kw, .slice (some ⟨M.h.gr, 0, none⟩) l.tn M.h.kr, .slice (some ⟨M.h.gp, 0, none⟩) l.tn M.h.kp, .slice (some ⟨M.h.gb, 0, none⟩) l.tn M.h.kb, .slice (some ⟨M.gm, 0, none⟩) l.tn M.km, .slice (some ⟨M.gd, 0, none⟩) l.wn M.kd, .slice vA es.length vk], .int .i64 1] V (LsR (l.wn * l.tn) (lastK l.tn l.wn (lastE es 1)) V)) := Lh fun V hV => by
      rw [hV]
      exact last_any l vA es.length vk _ _ _ _ _ _ es M.cs 1 x0 ((HL.o.keep hW0).up hW0.size) HOk.o (EvcAt.rsb (HR0.o.on HX0.o) HvE.o) rfl hen HEs.o rfl rfl rfl rfl rfl rfl
     rw [<- HNK.o] at HLk
     clear hLb hZb hW0
     go_upto_region 11 with (first | (go_at_call 48; go_must (refine (HLk.o _ rfl).mono ?_; rintro e y0 ⟨g0, rfl, hgl, hrw, hby⟩)) | (at_builtin; go_must (refine wpList_app _ rfl _ _ 22 rfl w0.heap.size 3 ii (.int .i64 0) 1 8 Tryz.underlying22 hii hiiz hiis hiib rfl (by decide) (.slice A6 M0 k6) M0 (ints L0) rfl (HOx0.o.below hby) _ (some ⟨g0, 0, none⟩) NK NK (ints (lastK l.tn l.wn (lastE es 1))) rfl hrw.sl ints_oneI (M0 + NK) rfl (ints (L0 ++ lastK l.tn l.wn (lastE es 1))) (by rw [ints_app]) _ rfl (by simp only [maxLen]; omega) (by omega) (Nat.le_trans HX0.o.size hby.size) ?_; intro B1 c1 x1 hown hg hat hk7 hk8)))
     have HX1 : Hid (Below w0.heap.size w0 x1) := Lh ((HX0.o.trans (hby.mono HX0.o.size)).grown hg (Nat.le_trans HX0.o.size hby.size) (fun q hq => (HOx0.o.lt q hq).1))
     obtain ⟨M1, hM1⟩ : ∃ M1, M1 = M0 + NK := ⟨_, rfl⟩
     obtain ⟨L1, hL1⟩ : ∃ L1, L1 = L0 ++ lastK l.tn l.wn (lastE es 1) := ⟨_, rfl⟩
     rw [<- hM1, <- hL1] at hown
     rw [<- hM1] at hk7 ⊢
     have hM1b : M1 <= 94 := by omega
     have HL1 := Lh hL1
     have HOx1 := Lh hown
     clear hown hg hat hby hgl hrw q0 q1 s0 s1 s2 s3 s4 s5 s6 HLk hM1 hL1 HX0 HOx0
     have hLb := HB0.o.below HX1.o HB0.o.lt
     have hZb := HZ0.o.below HX1.o HZ0.o.lt
     have hW1 : Below w.heap.size w x1 := HW0.o.trans (HX1.o.mono HW0.o.size)
     have q0 := hLb.cell (i := 0) rfl
     have q1 := hLb.cell (i := 1) rfl
     have s0 := hZb.cell (i := 0) rfl
     have s1 := hZb.cell (i := 1) rfl
     have s2 := hZb.cell (i := 2) rfl
     have s3 := hZb.cell (i := 3) rfl
     have s4 := hZb.cell (i := 4) rfl
     have s5 := hZb.cell (i := 5) rfl
     have s6 := hZb.cell (i := 6) rfl
     have HLk : Hid (∀ V, V = x1 -> Calls Tryz.prog 48 #[litV l, .agg #[.slice (some ⟨M.h.gw, 0, none⟩) l.wn M.h.kw, .slice (some ⟨M.h.gr, 0, none⟩) l.tn M.h.kr, .slice (some ⟨M.h.gp, 0, none⟩) l.tn M.h.kp, .slice (some ⟨M.h.gb, 0, none⟩) l.tn M.h.kb, .slice (some ⟨M.gm, 0, none⟩) l.tn M.km, .slice (some ⟨M.gd, 0, none⟩) l.wn M.kd, .slice vA es.length vk], .int .i64 2] V (LsR (l.wn * l.tn) (lastK l.tn l.wn (lastE es 2)) V)) := Lh fun V hV => by
      rw [hV]
      exact last_any l vA es.length vk _ _ _ _ _ _ es M.cs 2 x1 ((HL.o.keep hW1).up hW1.size) HOk.o (EvcAt.rsb (HR0.o.on HX1.o) HvE.o) rfl hen HEs.o rfl rfl rfl rfl rfl rfl
     rw [<- HNK.o] at HLk
     clear hLb hZb hW1
     go_upto_region 12 with (first | (go_at_call 48; go_must (refine (HLk.o _ rfl).mono ?_; rintro e y1 ⟨g1, rfl, hgl, hrw, hby⟩)) | (at_builtin; go_must (refine wpList_app _ rfl _ _ 22 rfl w0.heap.size 3 ii (.int .i64 0) 1 8 Tryz.underlying22 hii hiiz hiis hiib rfl (by decide) (.slice B1 M1 c1) M1 (ints L1) rfl (HOx1.o.below hby) _ (some ⟨g1, 0, none⟩) NK NK (ints (lastK l.tn l.wn (lastE es 2))) rfl hrw.sl ints_oneI (M1 + NK) rfl (ints (L1 ++ lastK l.tn l.wn (lastE es 2))) (by rw [ints_app]) _ rfl (by simp only [maxLen]; omega) (by omega) (Nat.le_trans HX1.o.size hby.size) ?_; intro B2 c2 x2 hown hg hat hk7 hk8)))
     have HX2 : Hid (Below w0.heap.size w0 x2) := Lh ((HX1.o.trans (hby.mono HX1.o.size)).grown hg (Nat.le_trans HX1.o.size hby.size) (fun q hq => (HOx1.o.lt q hq).1))
     obtain ⟨M2, hM2⟩ : ∃ M2, M2 = M1 + NK := ⟨_, rfl⟩
     obtain ⟨L2, hL2⟩ : ∃ L2, L2 = L1 ++ lastK l.tn l.wn (lastE es 2) := ⟨_, rfl⟩
     rw [<- hM2, <- hL2] at hown
     rw [<- hM2] at hk7 ⊢
     have hM2b : M2 <= 118 := by omega
     have HL2 := Lh hL2
     have HOx2 := Lh hown
     clear hown hg hat hby hgl hrw q0 q1 s0 s1 s2 s3 s4 s5 s6 HLk hM2 hL2 HX1 HOx1
     have hLb := HB0.o.below HX2.o HB0.o.lt
     have hZb := HZ0.o.below HX2.o HZ0.o.lt
     have hW2 : Below w.heap.size w x2 := HW0.o.trans (HX2.o.mono HW0.o.size)
     have q0 := hLb.cell (i := 0) rfl
     have q1 := hLb.cell (i := 1) rfl
     have s0 := hZb.cell (i := 0) rfl
     have s1 := hZb.cell (i := 1) rfl
     have s2 := hZb.cell (i := 2) rfl
     have s3 := hZb.cell (i := 3) rfl
     have s4 := hZb.cell (i := 4) rfl
     have s5 := hZb.cell (i := 5) rfl
     have s6 := hZb.cell (i := 6) rfl
     have HLk : Hid (∀ V, V = x2 -> Calls Tryz.prog 48 #[litV l, .agg #[.slice (some ⟨M.h.gw, 0, none⟩) l.wn M.h.kw, .slice (some ⟨M.h.gr, 0, none⟩) l.tn M.h.kr, .slice (some ⟨M.h.gp, 0, none⟩) l.tn M.h.kp, .slice (some ⟨M.h.gb, 0, none⟩) l.tn M.h.kb, .slice (some ⟨M.gm, 0, none⟩) l.tn M.km, .slice (some ⟨M.gd, 0, none⟩) l.wn M.kd, .slice vA es.length vk], .int .i64 3] V (LsR (l.wn * l.tn) (lastK l.tn l.wn (lastE es 3)) V)) := Lh fun V hV => by
      rw [hV]
      exact last_any l vA es.length vk _ _ _ _ _ _ es M.cs 3 x2 ((HL.o.keep hW2).up hW2.size) HOk.o (EvcAt.rsb (HR0.o.on HX2.o) HvE.o) rfl hen HEs.o rfl rfl rfl rfl rfl rfl
     rw [<- HNK.o] at HLk
     clear hLb hZb hW2
     go_upto_region 13 with (first | (go_at_call 48; go_must (refine (HLk.o _ rfl).mono ?_; rintro e y2 ⟨g2, rfl, hgl, hrw, hby⟩)) | (at_builtin; go_must (refine wpList_app _ rfl _ _ 22 rfl w0.heap.size 3 ii (.int .i64 0) 1 8 Tryz.underlying22 hii hiiz hiis hiib rfl (by decide) (.slice B2 M2 c2) M2 (ints L2) rfl (HOx2.o.below hby) _ (some ⟨g2, 0, none⟩) NK NK (ints (lastK l.tn l.wn (lastE es 3))) rfl hrw.sl ints_oneI (M2 + NK) rfl (ints (L2 ++ lastK l.tn l.wn (lastE es 3))) (by rw [ints_app]) _ rfl (by simp only [maxLen]; omega) (by omega) (Nat.le_trans HX2.o.size hby.size) ?_; intro B3 c3 x3 hown hg hat hk7 hk8)))
     have HX3 : Hid (Below w0.heap.size w0 x3) := Lh ((HX2.o.trans (hby.mono HX2.o.size)).grown hg (Nat.le_trans HX2.o.size hby.size) (fun q hq => (HOx2.o.lt q hq).1))
     obtain ⟨M3, hM3⟩ : ∃ M3, M3 = M2 + NK := ⟨_, rfl⟩
     obtain ⟨L3, hL3⟩ : ∃ L3, L3 = L2 ++ lastK l.tn l.wn (lastE es 3) := ⟨_, rfl⟩
     rw [<- hM3, <- hL3] at hown
     rw [<- hM3] at hk7 ⊢
     have hM3b : M3 <= 142 := by omega
     have HL3 := Lh hL3
     have HOx3 := Lh hown
     clear hown hg hat hby hgl hrw q0 q1 s0 s1 s2 s3 s4 s5 s6 HLk hM3 hL3 HX2 HOx2
     have hLb := HB0.o.below HX3.o HB0.o.lt
     have hZb := HZ0.o.below HX3.o HZ0.o.lt
     have hW3 : Below w.heap.size w x3 := HW0.o.trans (HX3.o.mono HW0.o.size)
     have q0 := hLb.cell (i := 0) rfl
     have q1 := hLb.cell (i := 1) rfl
     have s0 := hZb.cell (i := 0) rfl
     have s1 := hZb.cell (i := 1) rfl
     have s2 := hZb.cell (i := 2) rfl
     have s3 := hZb.cell (i := 3) rfl
     have s4 := hZb.cell (i := 4) rfl
     have s5 := hZb.cell (i := 5) rfl
     have s6 := hZb.cell (i := 6) rfl
     have HLk : Hid (∀ V, V = x3 -> Calls Tryz.prog 48 #[litV l, .agg #[.slice (some ⟨M.h.gw, 0, none⟩) l.wn M.h.kw, .slice (some ⟨M.h.gr, 0, none⟩) l.tn M.h.kr, .slice (some ⟨M.h.gp, 0, none⟩) l.tn M.h.kp, .slice (some ⟨M.h.gb, 0, none⟩) l.tn M.h.kb, .slice (some ⟨M.gm, 0, none⟩) l.tn M.km, .slice (some ⟨M.gd, 0, none⟩) l.wn M.kd, .slice vA es.length vk], .int .i64 9] V (LsR (l.wn * l.tn) (lastK l.tn l.wn (lastE es 9)) V)) := Lh fun V hV => by
      rw [hV]
      exact last_any l vA es.length vk _ _ _ _ _ _ es M.cs 9 x3 ((HL.o.keep hW3).up hW3.size) HOk.o (EvcAt.rsb (HR0.o.on HX3.o) HvE.o) rfl hen HEs.o rfl rfl rfl rfl rfl rfl
     rw [<- HNK.o] at HLk
     clear hLb hZb hW3
     go_wp2_with (first | (go_at_call 48; go_must (refine (HLk.o _ rfl).mono ?_; rintro e y3 ⟨g3, rfl, hgl, hrw, hby⟩)) | (at_builtin; go_must (refine wpList_app _ rfl _ _ 22 rfl w0.heap.size 3 ii (.int .i64 0) 1 8 Tryz.underlying22 hii hiiz hiis hiib rfl (by decide) (.slice B3 M3 c3) M3 (ints L3) rfl (HOx3.o.below hby) _ (some ⟨g3, 0, none⟩) NK NK (ints (lastK l.tn l.wn (lastE es 9))) rfl hrw.sl ints_oneI (M3 + NK) rfl (ints (L3 ++ lastK l.tn l.wn (lastE es 9))) (by rw [ints_app]) _ rfl (by simp only [maxLen]; omega) (by omega) (Nat.le_trans HX3.o.size hby.size) ?_; intro B4 c4 x4 hown hg hat hk7 hk8)))
     have HX4 : Hid (Below w0.heap.size w0 x4) := Lh ((HX3.o.trans (hby.mono HX3.o.size)).grown hg (Nat.le_trans HX3.o.size hby.size) (fun q hq => (HOx3.o.lt q hq).1))
     obtain ⟨M4, hM4⟩ : ∃ M4, M4 = M3 + NK := ⟨_, rfl⟩
     obtain ⟨L4, hL4⟩ : ∃ L4, L4 = L3 ++ lastK l.tn l.wn (lastE es 9) := ⟨_, rfl⟩
     rw [<- hM4, <- hL4] at hown
     rw [<- hM4] at hk7 ⊢
     have hM4b : M4 <= 166 := by omega
     have HL4 := Lh hL4
     have HOx4 := Lh hown
     clear hown hg hat hby hgl hrw q0 q1 s0 s1 s2 s3 s4 s5 s6 HLk hM4 hL4 HX3 HOx3
     have hlen : (flatK l.tn l.wn S es).length = M4 := by
      have h9 := HOx4.o.1
      rw [ints_len, HL4.o, HL3.o, HL2.o, HL1.o, HL0.o, HF1.o, flat_eq] at h9
      omega
     have hlist : L4 = flatK l.tn l.wn S es := by rw [HL4.o, HL3.o, HL2.o, HL1.o, HL0.o, HF1.o, flat_eq]
     have Hlen := Lh hlen
     have Hlist := Lh hlist
     clear hlen hlist
     go_wp2_with fail
     go_ret
     refine ⟨B4, c4, congrArg (fun N => Ending.returned (Value.slice B4 N c4)) Hlen.o.symm, ?_, HW0.o.trans (HX4.o.mono HW0.o.size)⟩
     rw [Hlen.o, <- Hlist.o]
     exact own_lowF HOx4.o HW0.o.size
end Go.Proofs.YtgjdgapfnfhklaaGreat
