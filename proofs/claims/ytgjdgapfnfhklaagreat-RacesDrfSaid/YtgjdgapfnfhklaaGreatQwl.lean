/-
tso.walk: all states that an order comes to.
-/
import Derived.Test.YtgjdgapfnfhklaaGreatZ19
set_option linter.unusedSimpArgs false
set_option linter.unusedVariables false
set_option maxRecDepth 100000
set_option maxHeartbeats 16000000
namespace Go.Proofs.YtgjdgapfnfhklaaGreat
open Go.RowKit Go.Maps
theorem first_B (l : Lit) : (⟨firstS l, (List.replicate l.tn bf0).map (·.q)⟩ : BS) = firstB l := by rw [List.map_replicate]; rfl
def WalR (l : Lit) (w : World) (r : Option (List BS)) (e : Ending) (w' : World) : Prop := match r with
 | none => e = .returned (.tuple #[.slice none 0 0, .int .i64 192]) /\ Below w.heap.size w w'
 | some ns => ∃ gm rs A k, e = .returned (.tuple #[.slice A rs.length k, .int .i64 0]) /\ rs.map SR.B = ns /\ WlI l w w' gm rs (.slice A rs.length k)
theorem info_stp : (Tryz.prog.info? 118).map (fun i => (i.zero, i.size, i.bytes)) = some (some (.agg #[.slice none 0 0, .slice none 0 0, .slice none 0 0, .slice none 0 0, .int .i64 0, .int .i64 0, .bool false, .int .i64 0]), 8, 128) := by kernel_rfl
theorem own_gmap {W W' : World} {C sz m gm m2 : Nat} {t : TypeId} {v : Value} {xs : List Value} {ks : List (List Value)} (h : W.ownsRow C t sz v m xs) (hm : PtMap W gm m2 ks) (hg : W.grownBy W' (some gm)) : W'.ownsRow C t sz v m xs := by
 refine h.kept hg ?_
 rcases h.2 with ⟨h0, _⟩ | ⟨g, cap, cur, hv, _, hg9, _⟩
 ·exact Or.inl (by rw [h0]; rfl)
 ·refine Or.inr fun he => ?_
  rw [hv] at he
  injection he with he
  exact (show Blk W g t cur.toList from (by unfold Blk; rw [hg9])).nmap hm he
theorem tn_cells {W : World} {C gT n k : Nat} {us : List Tn} (h : W.ownsRow C 91 3 (.slice (some ⟨gT, 0, none⟩) n k) n (tnVals us)) {j : Nat} {u : Tn} (hu : us[j]? = some u) : W.cell? ⟨gT, j * 3, none⟩ = some (.int .i64 u.t) /\ W.cell? ⟨gT, j * 3 + 1, none⟩ = some (.bool u.out) /\ W.cell? ⟨gT, j * 3 + 2, none⟩ = some (.int .i64 u.a) := by
 have hl : us.length * 3 = n * 3 := (flat_len tnL 3 (fun _ => rfl) us).symm.trans h.1
 have hj := (List.getElem?_eq_some_iff.1 hu).1
 refine ⟨?_, ?_, ?_⟩
 ·rw [h.cellAt _ (by omega)]; exact flat_get tnL 3 (fun _ => rfl) hu 0 (by omega)
 ·rw [h.cellAt _ (by omega)]; exact flat_get tnL 3 (fun _ => rfl) hu 1 (by omega)
 ·rw [h.cellAt _ (by omega)]; exact flat_get tnL 3 (fun _ => rfl) hu 2 (by omega)
abbrev BegS (l : Lit) (W : World) : Prop := Calls Tryz.prog 24 #[litV l] W (fun e w' => ∃ h', e = .returned (.tuple #[stV h' l.tn l.wn, .int .i64 0]) /\ NewS W.heap.size h' /\ StAt w' h' l.tn l.wn (firstS l) /\ Below W.heap.size W w')
theorem walk_q (l : Lit) (o : Nat) (w : World) (ho : o = 1 ∨ o = 2 ∨ o = 3) (h : LitAt w w.heap.size l) (hok : okLit l = true) (hwf : WfL l) (hbeg : ∀ W, LitAt W W.heap.size l -> BegS l W) :
  Calls Tryz.prog 29 #[litV l, .int .i64 o] w (WalR l w (walkN l o)) := by
 obtain ⟨n1, n2, n3, n4⟩ := okLit_num hok
 have HB0 : Hid (Blk (w.alloc (.cells #[.slice l.wA l.wn l.wk, .slice l.tA l.tn l.tk] 25)) w.heap.size 25 (litL l)) := Lh (Blk.new _ _ _)
 have HW0 : Hid (Below w.heap.size w (w.alloc (.cells #[.slice l.wA l.wn l.wk, .slice l.tA l.tn l.tk] 25))) := Lh ((Below.refl _ _).alloc (Nat.le_refl _) _)
 have HL := Lh h
 have HOk := Lh hok
 have HWf := Lh hwf
 have HBg := Lh hbeg
 have HOo := Lh ho
 have hlw : l.ws.length = l.wn := h.wlen
 have HCo := Lh (code_len h hok)
 clear h hok hwf hbeg ho
 go_enter Tryz.func29, Tryz.ntmps29
 go_upto_region 1 with fail
 generalize w.alloc (.cells #[.slice l.wA l.wn l.wk, .slice l.tA l.tn l.tk] 25) = w0 at HB0 HW0 ⊢
 have q0 := HB0.o.cell (i := 0) rfl
 have q1 := HB0.o.cell (i := 1) rfl
 go_wp2_with fail
 refine (look_q l o w0 HOo.o ((HL.o.keep HW0.o).up HW0.o.size)).mono ?_
 rintro e w1 ⟨rfl, hb1⟩
 rw [litErr_ok HOk.o]
 have HW1 := Lh (HW0.o.trans (hb1.mono HW0.o.size))
 have HB1 := Lh (HB0.o.below hb1 HB0.o.lt)
 clear hb1 q0 q1 HW0 HB0
 have b1 : ((0 : Int) != 0) = false := rfl
 have q0 := HB1.o.cell (i := 0) rfl
 have q1 := HB1.o.cell (i := 1) rfl
 go_wp2_with fail
 refine (HBg.o w1 ((HL.o.keep HW1.o).up HW1.o.size)).mono ?_
 rintro e w2 ⟨h1, rfl, hn1, hs1, hb2⟩
 have HW2 := Lh (HW1.o.trans (hb2.mono HW1.o.size))
 have HB2 := Lh (HB1.o.below hb2 HB1.o.lt)
 have HS2 := Lh hs1
 have HN1 := Lh hn1
 have hz1 := HW1.o.size
 clear hb2 hn1 hs1 q0 q1 HW1 HB1
 go_upto_region 5 with fail
 obtain ⟨g7, hg7⟩ : ∃ g7, g7 = w2.heap.size := ⟨_, rfl⟩
 obtain ⟨w3, hw3, HT3, HX3⟩ : ∃ Z9, Z9 = w2.alloc (.cells #[.slice (some ⟨h1.gw, 0, none⟩) l.wn h1.kw, .slice (some ⟨h1.gr, 0, none⟩) l.tn h1.kr, .slice (some ⟨h1.gp, 0, none⟩) l.tn h1.kp, .slice (some ⟨h1.gb, 0, none⟩) l.tn h1.kb] 77) /\ Hid (Blk Z9 g7 77 (stL h1 l.tn l.wn)) /\ Below w2.heap.size w2 Z9 := ⟨_, rfl, Lh (by rw [hg7]; exact Blk.new _ _ _), (Below.refl _ _).alloc (Nat.le_refl _) _⟩
 rw [<- hw3, <- hg7]
 have HW3 := Lh (HW2.o.trans (HX3.mono HW2.o.size))
 have HB3 := Lh (HB2.o.below HX3 HB2.o.lt)
 have HS3 := Lh (HS2.o.q.on HX3)
 have hz3 := HX3.size
 clear hw3 hg7 HX3 HS2 HB2
 obtain ⟨gm, hgm⟩ : ∃ gm, gm = w3.heap.size := ⟨_, rfl⟩
 have hmm : (Instr.makeMap 159 none).run Tryz.prog w3 = .ok (.map (some gm)) (w3.alloc (.map #[] 0)) := by rw [hgm]; rfl
 have HPm0 : Hid (PtMap (w3.alloc (.map #[] 0)) gm 0 []) := Lh (by rw [hgm]; exact PtMap.made w3)
 have hw24 := HW2.o.size
 have hgmB : w.heap.size < gm := by rw [hgm]; have := HB3.o.lt; omega
 have HT4 := Lh (HT3.o.alloc (.map #[] 0))
 have c0 : (w3.alloc (.map #[] 0)).cell? ⟨g7, 0, none⟩ = some (.slice (some ⟨h1.gw, 0, none⟩) l.wn h1.kw) := HT4.o.cell rfl
 have c1 : (w3.alloc (.map #[] 0)).cell? ⟨g7, 1, none⟩ = some (.slice (some ⟨h1.gr, 0, none⟩) l.tn h1.kr) := HT4.o.cell rfl
 have c2 : (w3.alloc (.map #[] 0)).cell? ⟨g7, 2, none⟩ = some (.slice (some ⟨h1.gp, 0, none⟩) l.tn h1.kp) := HT4.o.cell rfl
 have c3 : (w3.alloc (.map #[] 0)).cell? ⟨g7, 3, none⟩ = some (.slice (some ⟨h1.gb, 0, none⟩) l.tn h1.kb) := HT4.o.cell rfl
 have HX4 : Hid (Below w3.heap.size w3 (w3.alloc (.map #[] 0))) := Lh ((Below.refl _ _).alloc (Nat.le_refl _) _)
 have Hgm := Lh hgm
 clear hgm
 go_wp2_with fail
 refine (pic_q h1 l.tn l.wn (firstS l) (List.replicate l.tn bf0) (w3.alloc (.map #[] 0)) (HS3.o.on HX4.o) (fun x hx => by rw [(List.mem_replicate.1 hx).2]; exact Nat.zero_le _) n2 n4).mono ?_
 rintro e w5 ⟨rfl, hb5⟩
 have hke : padI (picB ⟨firstS l, (List.replicate l.tn bf0).map (·.q)⟩ l.tn) = keyB l (firstB l) := by unfold keyB; rw [first_B]
 rw [hke]
 have HOB : Hid (OkB l (firstB l)) := Lh (OkB.first hlw)
 have HWB : Hid (WfB (firstB l)) := Lh (WfB.first HWf.o)
 obtain ⟨hkl, hki⟩ := keyB_ok HOB.o HWB.o HCo.o n2 n4
 obtain ⟨w6, hput, hpm6, hgb6⟩ := (HPm0.o.on hb5).put (by simp [maxLen]) hkl hki
 have HX5 := Lh (HX4.o.trans (hb5.mono (by simp)))
 have HPm5 := Lh (HPm0.o.on hb5)
 have HPm6 := Lh hpm6
 have HGb6 := Lh hgb6
 obtain ⟨K, hK⟩ : ∃ K, K = keyB l (firstB l) := ⟨_, rfl⟩
 rw [<- hK] at hput ⊢
 have HK := Lh hK
 clear hK hke hkl hki hpm6 hgb6 hb5 c0 c1 c2 c3 HT4 HX4 HPm0 hmm
 have HT6 : Hid (Blk w6 g7 77 (stL h1 l.tn l.wn)) := Lh ((HT3.o.below HX5.o HT3.o.lt).grown HGb6.o (fun e => by have h9 := HT3.o.lt; have := Hgm.o; injection e with e; omega))
 have c0 := HT6.o.cell (i := 0) rfl
 have c1 := HT6.o.cell (i := 1) rfl
 have c2 := HT6.o.cell (i := 2) rfl
 have c3 := HT6.o.cell (i := 3) rfl
 go_upto_region 7 with fail
 obtain ⟨r0, hr0⟩ : ∃ r0 : SR, r0 = ⟨h1, firstS l, List.replicate l.tn bf0, -1, ⟨0, false, 0⟩⟩ := ⟨_, rfl⟩
 have hrB : r0.B = firstB l := by rw [hr0]; exact first_B l
 obtain ⟨g9, hg9⟩ : ∃ g9, g9 = w6.heap.size := ⟨_, rfl⟩
 have hI7 : WlI l w (w6.alloc (.cells #[.slice (some ⟨h1.gw, 0, none⟩) l.wn h1.kw, .slice (some ⟨h1.gr, 0, none⟩) l.tn h1.kr, .slice (some ⟨h1.gp, 0, none⟩) l.tn h1.kp, .slice (some ⟨h1.gb, 0, none⟩) l.tn h1.kb, .int .i64 (-1), .int .i64 0, .bool false, .int .i64 0] 118)) gm [r0] (.slice (some ⟨g9, 0, none⟩) 1 1) := by
  have hb6 : Below w.heap.size w w6 := (HW3.o.trans (HX5.o.mono HW3.o.size)).grown HGb6.o (by have := HX5.o.size; omega) (fun q hq => by injection hq with hq; omega)
  have hst : StQ w6 h1 l.tn l.wn (firstS l) (List.replicate l.tn bf0) := (HS3.o.on HX5.o).gmap HPm5.o HGb6.o
  exact {
   bel := hb6.alloc hb6.size _
   gmB := hgmB
   lit := ((HB3.o.below HX5.o HB3.o.lt).grown HGb6.o (fun e => by injection e with e; omega)).alloc _
   own := by
    have h9 := World.ownsRow_lit (base := w.heap.size) (e := 118) (size := 8) w6 #[.slice (some ⟨h1.gw, 0, none⟩) l.wn h1.kw, .slice (some ⟨h1.gr, 0, none⟩) l.tn h1.kr, .slice (some ⟨h1.gp, 0, none⟩) l.tn h1.kp, .slice (some ⟨h1.gb, 0, none⟩) l.tn h1.kb, .int .i64 (-1), .int .i64 0, .bool false, .int .i64 0] 1 hb6.size (by simp [maxLen]) rfl
    rw [hr0, hg9]
    exact h9
   node := fun r hr => by
    rw [List.mem_singleton] at hr
    subst hr
    refine ⟨?_, ?_, by rw [hrB]; exact HOB.o, by rw [hrB]; exact HWB.o⟩
    ·rw [hr0]; exact hst.on ((Below.refl _ _).alloc (Nat.le_refl _) _)
    ·rw [hr0]
     obtain ⟨m1, m2, m3, m4⟩ := HN1.o
     exact ⟨⟨Nat.le_trans hz1 m1, Nat.le_trans hz1 m2, Nat.le_trans hz1 m3, Nat.le_trans hz1 m4⟩, fun x hx g hg => by rw [(List.mem_replicate.1 hx).2] at hg; cases hg⟩
   map := by
    show PtMap _ gm 1 [keyB l r0.B]
    rw [hrB]
    exact HPm6.o.on ((Below.refl _ _).alloc (Nat.le_refl _) _)
   ap := fun e => by
    have e' : some gm = some g9 := e
    injection e' with e'
    have := HPm6.o.lt
    omega }
 obtain ⟨w7, hw7, HI7⟩ : ∃ Z9, Z9 = w6.alloc (.cells #[.slice (some ⟨h1.gw, 0, none⟩) l.wn h1.kw, .slice (some ⟨h1.gr, 0, none⟩) l.tn h1.kr, .slice (some ⟨h1.gp, 0, none⟩) l.tn h1.kp, .slice (some ⟨h1.gb, 0, none⟩) l.tn h1.kb, .int .i64 (-1), .int .i64 0, .bool false, .int .i64 0] 118) /\ Hid (WlI l w Z9 gm [r0] (.slice (some ⟨g9, 0, none⟩) 1 1)) := ⟨_, rfl, hI7⟩
 rw [<- hw7, <- hg9]
 have HrB := Lh hrB
 clear hw7 hg9 hI7 hr0 hrB c0 c1 c2 c3 HT6 HT3 HPm5 HPm6 HGb6 HX5 hput HB3 HS3 HN1 HW3 HW2 HK hz3 hz1 hw24
 have q0 := HI7.o.lit.cell (i := 0) rfl
 have q1 := HI7.o.lit.cell (i := 1) rfl
 go_wp2_with fail
 refine (turns_q l o w7 HOo.o n2 n4).mono ?_
 rintro e w8 ⟨AT, kT, rfl, ht8, hb8⟩
 have HI8 := Lh (HI7.o.on hb8)
 obtain ⟨us, hus⟩ : ∃ us, us = turnsO l o := ⟨_, rfl⟩
 rw [<- hus] at ht8 ⊢
 have HUs := Lh hus
 have hus0 : 0 < us.length := by
  rw [hus, turnsO_tsA]
  obtain ⟨k, hk⟩ : ∃ k, l.tn = k + 1 := ⟨l.tn - 1, by omega⟩
  rw [hk, tsA, List.length_append]
  have : 0 < (tsP l o k).length := by unfold tsP; rw [List.length_cons]; omega
  omega
 have husl : us.length <= 28 := by
  rw [hus, turnsO_tsA]
  have key : ∀ t, (tsA l o t).length <= 7 * t := by
   intro t
   induction t with
   | zero => exact Nat.le_refl _
   | succ t ih =>
    rw [tsA, List.length_append]
    have : (tsP l o t).length <= 7 := by
     unfold tsP
     split
     ·simp
     ·split
      ·simp; omega
      ·simp
    omega
  have := key l.tn
  omega
 obtain ⟨gT, hgT⟩ : ∃ gT, AT = some ⟨gT, 0, none⟩ := by
  rcases ht8.2 with ⟨_, h0⟩ | ⟨g, cap, cur, hv, _⟩
  ·omega
  ·injection hv with hA _ _
   exact ⟨g, hA⟩
 subst hgT
 have HTr8 := Lh ht8
 clear hus ht8 hb8 q0 q1 HI7
 have hsl : ∃ G, G = w7.heap.size := ⟨_, rfl⟩
 obtain ⟨G7, hG7⟩ := hsl
 rw [<- hG7] at HTr8
 clear hG7
 go_wp2_with fail
 go_loopg [10, 12] 30001 (fun gk s10 s12 wr => ∃ (i : Nat) (rs : List SR) (vN : Value), s10 = vN /\ s12 = .int .i64 i /\ gk + i = 30001 /\ i <= rs.length /\ rs.length <= 30000 /\ Hid (walkN l o = wbfs l o gk (rs.map SR.B) i) /\ Hid (WlI l w wr gm rs vN) /\ Hid (wr.ownsRow G7 91 3 (.slice (some ⟨gT, 0, none⟩) us.length kT) us.length (tnVals us)))
 case atStart => exact ⟨0, [r0], _, rfl, rfl, rfl, Nat.zero_le _, by simp, Lh (by show wbfs l o 30001 [firstB l] 0 = _; rw [<- HrB.o]; rfl), HI8, HTr8⟩
 case round =>
  clear HI8 HTr8 HrB HOB HWB
  obtain ⟨i, rs, vN, hvN, rfl, hgk, hir, hrm, HF, HI, HTr⟩ := hrel
  subst hvN
  obtain ⟨AN, kN, hvN, hkN1, hkN2⟩ := own_form HI.o.own
  subst hvN
  by_cases hlt : i < rs.length
  ·have e1 : (i : Int) < rs.length := by omega
   have e0 : (0 : Int) <= i := by omega
   obtain ⟨r, hr⟩ := at_lt hlt
   have HR := Lh hr
   clear hr
   go_wp2_with fail
   clear e1
   obtain ⟨ga, rfl⟩ : ∃ ga : Nat, ga = gk := ⟨_, rfl⟩
   obtain ⟨wo, rfl⟩ : ∃ wo : World, wo = wr := ⟨_, rfl⟩
   obtain ⟨rs0, rfl⟩ : ∃ rs0 : List SR, rs0 = rs := ⟨_, rfl⟩
   go_loopg [10, 46] us.length (fun gk s10 s46 wr => ∃ (j : Nat) (rs es : List SR) (vN : Value), s10 = vN /\ s46 = .int .i64 j /\ j + gk = us.length /\ Hid (rs = rs0 ++ es) /\ rs.length <= 30000 /\ Hid (wrow l o r.B us (rs0.map SR.B) = wrow l o r.B (us.drop j) (rs.map SR.B)) /\ Hid (WlI l w wr gm rs vN) /\ Hid (wr.ownsRow G7 91 3 (.slice (some ⟨gT, 0, none⟩) us.length kT) us.length (tnVals us)))
   case atStart => exact ⟨0, rs0, [], _, rfl, rfl, by omega, Lh (by simp), hrm, Lh (by rw [List.drop_zero]), HI, HTr⟩
   case round =>
    clear HI HTr
    obtain ⟨j, rs, es, vN, hvN, rfl, hju, HRs, hrm2, HFr, HI, HTr⟩ := hrel
    subst hvN
    obtain ⟨AM, kM, hvM, hkM1, hkM2⟩ := own_form HI.o.own
    subst hvM
    by_cases hltj : j < us.length
    ·have e2 : (j : Int) < us.length := by omega
     have e3 : (0 : Int) <= j := by omega
     obtain ⟨u, hu⟩ := at_lt hltj
     obtain ⟨t0, t1, t2⟩ := tn_cells HTr.o hu
     have hri : rs[i]? = some r := by rw [HRs.o, List.getElem?_append_left hlt]; exact HR.o
     obtain ⟨g, kg, hvg, hcs⟩ := HI.o.cells hri
     injection hvg with hAg _ hkg
     subst hAg hkg
     have hirl : i < rs.length := (List.getElem?_eq_some_iff.1 hri).1
     have e4 : (i : Int) < rs.length := by omega
     obtain ⟨g14, hg14⟩ : ∃ g14, g14 = wr.heap.size := ⟨_, rfl⟩
     have HHu := Lh hu
     have hcs2 := Lh hcs
     clear hu hcs
     go_upto_region 14 with fail
     obtain ⟨X1, hX1, HI1, HTr1, HU1⟩ : ∃ Z9, Z9 = wr.alloc (.cells #[.int .i64 u.t, .bool u.out, .int .i64 u.a] 91) /\ Hid (WlI l w Z9 gm rs (.slice (some ⟨g, 0, none⟩) rs.length kM)) /\ Hid (Z9.ownsRow G7 91 3 (.slice (some ⟨gT, 0, none⟩) us.length kT) us.length (tnVals us)) /\ Hid (Blk Z9 g14 91 (tnL u)) := ⟨_, rfl, HI.o.on ((Below.refl _ _).alloc (Nat.le_refl _) _), HTr.o.alloc _, Lh (by rw [hg14]; exact Blk.new _ _ _)⟩
     rw [<- hX1, <- hg14]
     clear hX1 hg14 t0 t1 t2 hcs2 HI HTr
     have hc1 : ∀ q v, (SR.cs l r)[q]? = some v -> X1.cell? ⟨g, i * 8 + q, none⟩ = some v := by
      obtain ⟨g', k', hv', hc'⟩ := HI1.o.cells hri
      injection hv' with hA' _ _
      injection hA' with hA'
      injection hA' with hA' _
      subst hA'
      exact hc'
     have s0 : X1.cell? ⟨g, i * 8, none⟩ = some (.slice (some ⟨r.h.gw, 0, none⟩) l.wn r.h.kw) := hc1 0 _ rfl
     have s1 : X1.cell? ⟨g, i * 8 + 1, none⟩ = some (.slice (some ⟨r.h.gr, 0, none⟩) l.tn r.h.kr) := hc1 1 _ rfl
     have s2 : X1.cell? ⟨g, i * 8 + 2, none⟩ = some (.slice (some ⟨r.h.gp, 0, none⟩) l.tn r.h.kp) := hc1 2 _ rfl
     have s3 : X1.cell? ⟨g, i * 8 + 3, none⟩ = some (.slice (some ⟨r.h.gb, 0, none⟩) l.tn r.h.kb) := hc1 3 _ rfl
     obtain ⟨hst, hnw, hob, hwb⟩ := HI1.o.node r (List.mem_of_getElem? hri)
     have hG := goodQ_of HL.o HOk.o hob
     have HCp := Lh (copiedQ_any r.h l.tn l.wn r.S r.bs X1 hst (fun x hx => (hG.buf x hx).1) n1 n2 n3 n4)
     have HOb := Lh hob
     have HWb := Lh hwb
     clear hst hnw hob hwb hG hc1
     go_wp2_with fail
     refine HCp.o.mono ?_
     rintro e X2 ⟨h', bs', rfl, hn2, hs2, hq2, hb2, _⟩
     clear HCp s0 s1 s2 s3
     have HI2 := Lh (HI1.o.on hb2)
     have HTr2 := Lh (HTr1.o.below hb2)
     have HU2 := Lh (HU1.o.below hb2 HU1.o.lt)
     have HN2 := Lh hn2
     have HS2 := Lh hs2
     have HQ2 := Lh hq2
     have hz12 := hb2.size
     have hUlt := HU1.o.lt
     have HX12 := Lh hb2
     clear hb2 hn2 hs2 hq2
     go_upto_region 15 with fail
     obtain ⟨gs, hgs⟩ : ∃ gs, gs = X2.heap.size := ⟨_, rfl⟩
     obtain ⟨X3, hX3, HT3, hb3⟩ : ∃ Z9, Z9 = X2.alloc (.cells #[.slice (some ⟨h'.gw, 0, none⟩) l.wn h'.kw, .slice (some ⟨h'.gr, 0, none⟩) l.tn h'.kr, .slice (some ⟨h'.gp, 0, none⟩) l.tn h'.kp, .slice (some ⟨h'.gb, 0, none⟩) l.tn h'.kb] 77) /\ Hid (Blk Z9 gs 77 (stL h' l.tn l.wn)) /\ Below X2.heap.size X2 Z9 := ⟨_, rfl, Lh (by rw [hgs]; exact Blk.new _ _ _), (Below.refl _ _).alloc (Nat.le_refl _) _⟩
     rw [<- hX3, <- hgs]
     clear hX3 hgs
     have HI3 := Lh (HI2.o.on hb3)
     have HTr3 := Lh (HTr2.o.below hb3)
     have HU3 := Lh (HU2.o.below hb3 HU2.o.lt)
     have HS3 := Lh (HS2.o.on hb3)
     have hz23 := hb3.size
     have HX13 := Lh (HX12.o.trans (hb3.mono hz12))
     clear hb3 HI2 HTr2 HU2 HS2 HX12
     have hBe : (⟨r.S, bs'.map (·.q)⟩ : BS) = r.B := by rw [HQ2.o]; rfl
     have HBe := Lh hBe
     have HTu := Lh (turn_q l o X3 gs h' r.S bs' u ((HL.o.keep HI3.o.bel).up HI3.o.bel.size) HS3.o HT3.o (by rw [hBe]; exact HOb.o) HOk.o)
     clear hBe
     have q0 := HI3.o.lit.cell (i := 0) rfl
     have q1 := HI3.o.lit.cell (i := 1) rfl
     have u0 := HU3.o.cell (i := 0) rfl
     have u1 := HU3.o.cell (i := 1) rfl
     have u2 := HU3.o.cell (i := 2) rfl
     go_wp2_with fail
     refine HTu.o.mono ?_
     rintro e X4 ⟨rfl, S4, bs4, hs4, hn4', hf4, he4, _⟩
     rw [HBe.o] at he4 ⊢
     clear HTu q0 q1 u0 u1 u2
     have hb4 : Below X1.heap.size X3 X4 := hf4.to_below (by omega) (fun q hq => by
      obtain ⟨⟨m1, m2, m3, m4⟩, m5⟩ := HN2.o
      rcases hq with e | e | e | e | ⟨x, hx, e⟩
      ·omega
      ·omega
      ·omega
      ·omega
      ·exact m5 x hx q e)
     have hb14 := HX13.o.trans hb4
     have HI4 := Lh (HI1.o.on hb14)
     have HTr4 := Lh (HTr1.o.below hb14)
     have HU4 := Lh (HU1.o.below hb14 HU1.o.lt)
     have HS4 := Lh hs4
     have HNw4 : Hid (NewQ w.heap.size h' bs4) := Lh (by
      obtain ⟨⟨m1, m2, m3, m4⟩, m5⟩ := HN2.o
      have hz1 := HI1.o.bel.size
      refine ⟨⟨by omega, by omega, by omega, by omega⟩, fun x hx q hq => ?_⟩
      rcases hn4' x hx q hq with h9 | ⟨y, hy, h9⟩
      ·omega
      ·have := m5 y hy q h9
       omega)
     have HT4 : Hid (Blk X4 gs 77 (stL h' l.tn l.wn)) := Lh (HT3.o.kept (hf4.block gs HT3.o.lt (by
      rintro (e | e | e | e | ⟨x, hx, e⟩)
      ·exact HS3.o.w.ne HT3.o (by decide) e
      ·exact HS3.o.r.ne HT3.o (by decide) e
      ·exact HS3.o.p.ne HT3.o (by decide) e
      ·exact HS3.o.b.ne HT3.o (by decide) e
      ·exact own_nb (HS3.o.own x hx).2 HT3.o (by decide) e.symm)))
     have hug4 : us.drop j = u :: us.drop (j + 1) := by
      obtain ⟨hj9, rfl⟩ := List.getElem?_eq_some_iff.1 HHu.o
      exact List.drop_eq_getElem_cons hj9
     have HUd := Lh hug4
     clear hb4 hb14 hs4 hn4' hf4 HI1 HTr1 HU1 HI3 HTr3 HU3 HS3 HT3 HX13 hug4 hz12 hz23 hUlt HN2
     obtain ⟨res, hres⟩ : ∃ res, res = turnB l o r.B u := ⟨_, rfl⟩
     rw [<- hres] at he4 ⊢
     have HRes := Lh hres
     clear hres
     cases res with
     | none =>
      go_wp2_with fail
      go_roundg (gk - 1)
      case measure => omega
      case rel =>
       refine ⟨j + 1, rs, es, _, rfl, by go_num, by omega, HRs, hrm2, Lh ?_, HI4, HTr4⟩
       rw [HFr.o, HUd.o, wrow]
       unfold wstep
       rw [<- HRes.o]
       rfl
     | some B4 =>
      replace he4 : (⟨S4, bs4.map (·.q)⟩ : BS) = B4 := he4
      subst he4
      have HOb4 : Hid (OkB l ⟨S4, bs4.map (·.q)⟩) := Lh (HOb.o.turn HOk.o HRes.o.symm)
      have HWb4 : Hid (WfB ⟨S4, bs4.map (·.q)⟩) := Lh (HWb.o.turn HWf.o HOb.o HRes.o.symm)
      have hG4 := goodQ_of HL.o HOk.o HOb4.o
      obtain ⟨hkl, hki⟩ := keyB_ok HOb4.o HWb4.o HCo.o n2 n4
      obtain ⟨K4, hK4⟩ : ∃ K4, K4 = keyB l ⟨S4, bs4.map (·.q)⟩ := ⟨_, rfl⟩
      have hpic := pic_q h' l.tn l.wn S4 bs4 X4 HS4.o (fun x hx => (hG4.buf x hx).1) n2 n4
      have hpe : padI (picB ⟨S4, bs4.map (·.q)⟩ l.tn) = K4 := by rw [hK4]; rfl
      unfold PicR at hpic
      rw [hpe] at hpic
      have HPic := Lh hpic
      rw [<- hK4] at hkl hki
      have HKl := Lh hkl
      have HKi := Lh hki
      have HK4 := Lh hK4
      have HK1 : Hid (K4.toArray.all (·.oneCell') = true) := Lh (by rw [hK4]; exact padI_one _)
      have c0 := HT4.o.cell (i := 0) rfl
      have c1 := HT4.o.cell (i := 1) rfl
      have c2 := HT4.o.cell (i := 2) rfl
      have c3 := HT4.o.cell (i := 3) rfl
      clear hpic hpe hkl hki hK4 hG4
      go_wp2_with fail
      refine HPic.o.mono ?_
      rintro e X5 ⟨rfl, hb5⟩
      have HI5 := Lh (HI4.o.on hb5)
      have HTr5 := Lh (HTr4.o.below hb5)
      have HU5 := Lh (HU4.o.below hb5 HU4.o.lt)
      have HS5 := Lh (HS4.o.on hb5)
      have HT5 := Lh (HT4.o.below hb5 HT4.o.lt)
      clear HPic c0 c1 c2 c3 HI4 HTr4 HU4 HS4 HT4 hb5
      go_upto_region 17 with (first | (refine Great.wpList_allocTo rfl _ rfl _ (.cells (padI []).toArray 157) (exec_alloc_pt rfl) ?_) | (refine wpList_store_row rfl _ _ _ rfl X5.heap.size K4.toArray rfl rfl 157 _ (Blk.new X5 157 (padI [])) (by rw [size_pt, List.size_toArray, HKl.o]) (by rw [List.size_toArray, List.size_toArray, HKl.o]; rfl) HK1.o ?_))
      (try simp only [Act.put, List.setIfInBounds_toArray, List.set_cons_zero, List.set_cons_succ])
      obtain ⟨gp, hgp⟩ : ∃ gp, gp = X5.heap.size := ⟨_, rfl⟩
      obtain ⟨X6, hX6, HK6, hb6⟩ : ∃ Z9, Z9 = (X5.alloc (.cells (padI []).toArray 157)).setRow X5.heap.size K4.toArray /\ Hid (Blk Z9 gp 157 K4) /\ Below X5.heap.size X5 Z9 := ⟨_, rfl, Lh (by rw [hgp]; exact setRow_heap _ _ _ K4.toArray _ _ (Blk.new X5 157 (padI []))), rowB ((Below.refl _ _).alloc (Nat.le_refl _) _) (Nat.le_refl _)⟩
      rw [<- hX6, <- hgp]
      have HI6 := Lh (HI5.o.on hb6)
      have HTr6 := Lh (HTr5.o.below hb6)
      have HU6 := Lh (HU5.o.below hb6 HU5.o.lt)
      have HS6 := Lh (HS5.o.on hb6)
      have HT6 := Lh (HT5.o.below hb6 HT5.o.lt)
      clear hX6 hgp hb6 HI5 HTr5 HU5 HS5 HT5
      have hlk := HI6.o.map.look HKl.o HKi.o
      have hokm : ∀ C ∈ rs.map SR.B, OkB l C := fun C hC => by
       obtain ⟨r9, hr9, rfl⟩ := List.mem_map.1 hC
       exact (HI6.o.node r9 hr9).2.2.1
      have HMm : Hid (K4 ∈ (rs.map fun r => keyB l r.B) ↔ (⟨S4, bs4.map (·.q)⟩ : BS) ∈ rs.map SR.B) := Lh (by
       have h9 := keyB_mem hokm HOb4.o
       rw [List.map_map] at h9
       rw [HK4.o]
       exact h9)
      clear hokm
      by_cases hmem : K4 ∈ (rs.map fun r => keyB l r.B)
      ·rw [pmN_in hmem] at hlk
       have d1 : decide ((0 : Int) < 1) = true := rfl
       have HMe := Lh hmem
       clear hmem
       go_wp2_with (refine wpList_load_row rfl _ _ rfl gp rfl 157 _ (0, 0) _ HK6.o Tryz.underlying157 rfl (by rw [size_pt, List.size_toArray, HKl.o]) ?_)
       go_roundg (gk - 1)
       case measure => omega
       case rel =>
        refine ⟨j + 1, rs, es, _, rfl, by go_num, by omega, HRs, hrm2, Lh ?_, HI6, HTr6⟩
        rw [HFr.o, HUd.o, wrow]
        unfold wstep
        rw [<- HRes.o]
        show (wput (rs.map SR.B) _).bind _ = _
        rw [wput_old (HMm.o.1 HMe.o)]
        rfl
      ·rw [pmN_out hmem] at hlk
       have d1 : decide ((0 : Int) < 0) = false := rfl
       have HMe := Lh hmem
       clear hmem
       obtain ⟨X7, hput, hpm7, hgb7⟩ := HI6.o.map.put (by simp only [maxLen]; omega) HKl.o HKi.o
       obtain ⟨r', hr'⟩ : ∃ r' : SR, r' = ⟨h', S4, bs4, (i : Int), u⟩ := ⟨_, rfl⟩
       have hrB : r'.B = ⟨S4, bs4.map (·.q)⟩ := by rw [hr']; rfl
       have HP7 : Hid (WlP l w X7 gm rs (.slice (some ⟨g, 0, none⟩) rs.length kM) r') := Lh (HI6.o.put (by
        refine ⟨by rw [hr']; exact HS6.o, by rw [hr']; exact HNw4.o, by rw [hrB]; exact HOb4.o, by rw [hrB]; exact HWb4.o⟩) (by rw [hrB, <- HK4.o]; exact hpm7) hgb7)
       have HTr7 := Lh (own_gmap HTr6.o HI6.o.map hgb7)
       have hneg : ∀ {g8 : Nat} {T : TypeId} {cs : List Value}, Blk X6 g8 T cs -> Blk X7 g8 T cs := fun hB => hB.grown hgb7 (fun e => by injection e with e; exact hB.nmap HI6.o.map e)
       have HU7 := Lh (hneg HU6.o)
       have HT7 := Lh (hneg HT6.o)
       have HrB := Lh hrB
       have HCs : Hid (SR.cs l r' = [.slice (some ⟨h'.gw, 0, none⟩) l.wn h'.kw, .slice (some ⟨h'.gr, 0, none⟩) l.tn h'.kr, .slice (some ⟨h'.gp, 0, none⟩) l.tn h'.kp, .slice (some ⟨h'.gb, 0, none⟩) l.tn h'.kb, .int .i64 i, .int .i64 u.t, .bool u.out, .int .i64 u.a]) := Lh (by rw [hr']; rfl)
       clear hpm7 hgb7 hr' hrB hneg
       go_upto_region 19 with (refine wpList_load_row rfl _ _ rfl gp rfl 157 _ (0, 0) _ HK6.o Tryz.underlying157 rfl (by rw [size_pt, List.size_toArray, HKl.o]) ?_)
       clear hput hlk
       have HNm : Hid ((⟨S4, bs4.map (·.q)⟩ : BS) ∉ rs.map SR.B) := Lh (fun h9 => HMe.o (HMm.o.2 h9))
       by_cases hm : rs.length = 30000
       ·have d2 : ((rs.length : Int) == 30000) = true := by simp [hm]
        go_wp2_with fail
        go_ret2
        have hnone : walkN l o = none := by
         rw [HF.o]
         obtain ⟨f, rfl⟩ : ∃ f, ga = f + 1 := ⟨ga - 1, by omega⟩
         rw [wbfs, List.getElem?_map, HR.o]
         show (wrow l o r.B (turnsO l o) (rs0.map SR.B)).bind _ = none
         rw [<- HUs.o, HFr.o, HUd.o, wrow]
         unfold wstep
         rw [<- HRes.o]
         show ((wput (rs.map SR.B) _).bind _).bind _ = none
         rw [wput_many HNm.o (by rw [List.length_map]; exact hm)]
         rfl
        rw [hnone]
        exact ⟨rfl, HP7.o.bel⟩
       ·have d2 : ((rs.length : Int) == 30000) = false := by simp; omega
        have d3 : decide ((rs.length : Int) = 30000) = false := by simp; omega
        obtain ⟨i8, hi8, hi8z, hi8s, hi8b⟩ := info_parts info_stp
        have c0 := HT7.o.cell (i := 0) rfl
        have c1 := HT7.o.cell (i := 1) rfl
        have c2 := HT7.o.cell (i := 2) rfl
        have c3 := HT7.o.cell (i := 3) rfl
        have u0 := HU7.o.cell (i := 0) rfl
        have u1 := HU7.o.cell (i := 1) rfl
        have u2 := HU7.o.cell (i := 2) rfl
        have hwz := HP7.o.bel.size
        go_wp2_with (at_builtin; go_must (refine wpList_app _ rfl _ _ 114 rfl w.heap.size 118 i8 (.agg #[.slice none 0 0, .slice none 0 0, .slice none 0 0, .slice none 0 0, .int .i64 0, .int .i64 0, .bool false, .int .i64 0]) 8 128 Tryz.underlying114 hi8 hi8z hi8s hi8b rfl (by decide) (.slice (some ⟨g, 0, none⟩) rs.length kM) rs.length (rs.flatMap (SR.cs l)) rfl (HP7.o.own.alloc _) (X7.heap.size + 1) (some ⟨X7.heap.size, 0, none⟩) 1 1 (SR.cs l r') rfl (by rw [HCs.o]; exact (((Blk.new X7 118 [.slice (some ⟨h'.gw, 0, none⟩) l.wn h'.kw, .slice (some ⟨h'.gr, 0, none⟩) l.tn h'.kr, .slice (some ⟨h'.gp, 0, none⟩) l.tn h'.kp, .slice (some ⟨h'.gb, 0, none⟩) l.tn h'.kb, .int .i64 i, .int .i64 u.t, .bool u.out, .int .i64 u.a]).sl rfl).up (by simp))) (by rw [HCs.o]; intro v hv; simp at hv; rcases hv with rfl | rfl | rfl | rfl | rfl | rfl | rfl | rfl <;> rfl) (rs.length + 1) rfl _ rfl _ rfl (by simp only [maxLen]; omega) (by omega) (by simp; omega) ?_; intro A9 k9 X9 hown hg hat hk1 hk2))
        have hlen : (rs ++ [r']).length = rs.length + 1 := by simp
        have hgg := grown_trans (World.grownBy_alloc X7 _ _) hg
        have hTr9 := own_grown HTr7.o HP7.o.own hgg (by decide)
        have hI9 := HP7.o.snoc hgg hown (hat.imp id (fun h9 q hq => by
         rw [h9] at hq
         injection hq with hq
         rw [<- hq, World.size_alloc]
         omega))
        go_roundg (gk - 1)
        case measure => omega
        case rel =>
         refine ⟨j + 1, rs ++ [r'], es ++ [r'], .slice A9 (rs.length + 1) k9, rfl, by go_num, by omega, Lh (by rw [HRs.o, List.append_assoc]), by omega, Lh ?_, Lh hI9, Lh hTr9⟩
         rw [HFr.o, HUd.o, wrow]
         unfold wstep
         rw [<- HRes.o]
         show (wput (rs.map SR.B) _).bind _ = _
         rw [wput_new HNm.o (by rw [List.length_map]; exact hm), List.map_append, List.map_cons, List.map_nil, HrB.o]
         rfl
    ·have e2 : ¬ ((j : Int) < us.length) := by omega
     go_wp2_with fail
     go_roundg (ga - 1)
     case measure => omega
     case rel =>
      have hle : rs0.length <= rs.length := by rw [HRs.o, List.length_append]; omega
      refine ⟨i + 1, rs, _, rfl, by go_num, by omega, by omega, hrm2, Lh ?_, HI, HTr⟩
      obtain ⟨f, rfl⟩ : ∃ f, ga = f + 1 := ⟨ga - 1, by omega⟩
      rw [HF.o, wbfs, List.getElem?_map, HR.o]
      show (wrow l o r.B (turnsO l o) (rs0.map SR.B)).bind _ = _
      rw [<- HUs.o, HFr.o, List.drop_eq_nil_of_le (by omega), wrow]
      rfl
  ·have e1 : ¬ ((i : Int) < rs.length) := by omega
   go_wp2_with fail
   go_ret2
   have hw9 : walkN l o = some (rs.map SR.B) := by
    rw [HF.o]
    cases gk with
    | zero => rfl
    | succ f =>
     rw [wbfs, List.getElem?_eq_none (by rw [List.length_map]; omega)]
   rw [hw9]
   exact ⟨_, rs, _, _, rfl, rfl, HI.o⟩
end Go.Proofs.YtgjdgapfnfhklaaGreat
