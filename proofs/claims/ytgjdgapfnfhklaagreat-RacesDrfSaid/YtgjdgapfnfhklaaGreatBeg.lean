/-
tso.Begin.
-/
import Derived.Test.YtgjdgapfnfhklaaGreatQcp
import Derived.Test.YtgjdgapfnfhklaaGreatZ25
import Derived.OwnWalk
set_option linter.unusedSimpArgs false
set_option linter.unusedVariables false
set_option maxRecDepth 100000
set_option maxHeartbeats 16000000
namespace Go.Proofs.YtgjdgapfnfhklaaGreat
open Go.RowKit
theorem wp_make {P : Program} (w : World) {o : Oper} {a : Act} {K : Act -> World -> Prop} {Q : Exit -> Act -> World -> Prop}
  (l c : Operand) (t : TypeId) (hop : o.op = Op.makeSlice t l c)
  (base : Nat) (e : TypeId) (i : TypeInfo) (z : Value) (size : Nat) (h1 : P.underlying t = some (.slice e)) (h2 : P.info? e = some i) (h3 : i.zero = some z) (h4 : i.size = size)
  (kl kc : IntKind) (L C : Int) (n : Nat) (hl : a.eval l = .int kl L) (hc : a.eval c = .int kc C) (hL : L = (n : Int)) (hC : C = (n : Int)) (b2 : i.bytes * n <= 281474976710656) (b3 : n <= maxLen) (b4 : base <= w.heap.size)
  (hK : ∀ w', w'.ownsRow base e size (.slice (some ⟨w.heap.size, 0, none⟩) n n) n (madeCells z.cells (n * size)).toList -> w.grownBy w' none -> K (a.put o.dst (.slice (some ⟨w.heap.size, 0, none⟩) n n)) w') :
  o.wp P a w K Q := by
 obtain ⟨w', hrun, r1, r2⟩ := run_make_full (P := P) w base t e i z size h1 h2 h3 h4 kl kc n b2 b3 b4
 subst hL
 subst hC
 unfold Oper.wp
 simp [execOp, hop, hl, hc, hrun, Result.andThen]
 exact hK w' r1 r2
def BegR (l : Lit) (w : World) (e : Ending) (w' : World) : Prop := ∃ h', e = .returned (.tuple #[stV h' l.tn l.wn, .int .i64 0]) /\ NewS w.heap.size h' /\ StAt w' h' l.tn l.wn (firstS l) /\ Below w.heap.size w w'
theorem made_int (n : Nat) : (madeCells (Value.int .i64 0).cells (n * 1)).toList = natsI (List.replicate n 0) := by
 show (madeCells #[Value.int .i64 0] (n * 1)).toList = _
 rw [madeCells_one, Nat.mul_one]
 simp [natsI]
theorem made_nil (n : Nat) : (madeCells (Value.slice none 0 0).cells (n * 1)).toList = List.replicate n (.slice none 0 0) := by
 show (madeCells #[Value.slice none 0 0] (n * 1)).toList = _
 rw [madeCells_one, Nat.mul_one]
theorem made_reg (n : Nat) (hn : n <= 4) : (madeCells (Value.agg #[.int .i64 0, .int .i64 0, .int .i64 0, .int .i64 0]).cells (n * 4)).toList = ints (List.replicate (n * 4) 0) := by
 obtain rfl | rfl | rfl | rfl | rfl : n = 0 ∨ n = 1 ∨ n = 2 ∨ n = 3 ∨ n = 4 := by omega
 all_goals kernel_rfl
theorem gb_none {a b : World} (h : a.grownBy b none) : Below a.heap.size a b := (Below.refl _ _).grown h (Nat.le_refl _) (fun q hq => by cases hq)
theorem b9 {w a b : World} (h : Below w.heap.size w a) (h2 : Below a.heap.size a b) : Below w.heap.size w b := Below.step9 h h2 (Nat.le_refl _)
def MkI (t e : TypeId) (sz n : Nat) (xs : List Value) : Prop := ∃ i z, Tryz.prog.underlying t = some (.slice e) /\ Tryz.prog.info? e = some i /\ i.zero = some z /\ i.size = sz /\ i.bytes * n <= 281474976710656 /\ (madeCells z.cells (n * sz)).toList = xs
theorem mk_rw {V : World} {o : Oper} {a : Act} {K : Act -> World -> Prop} {Q : Exit -> Act -> World -> Prop} {t e : TypeId} {sz n : Nat} {xs : List Value} {l c : Operand} (hI : MkI t e sz n xs) (hn : 0 < n /\ n <= 1024) (h : ∀ V' g, V.heap.size <= g -> Below V.heap.size V V' -> Rw V' g e sz n n xs -> K (a.put o.dst (.slice (some ⟨g, 0, none⟩) n n)) V')
  (hop : o.op = Op.makeSlice t l c := by rfl) (hl : a.eval l = .int .i64 n := by rfl) (hc : a.eval c = .int .i64 n := by rfl) : W1 (o.wp Tryz.prog a V K Q) := by
 obtain ⟨i, z, h1, h2, h3, h4, h5, rfl⟩ := hI
 refine ⟨wp_make V l c t hop V.heap.size e i z sz h1 h2 h3 h4 .i64 .i64 n n n hl hc rfl rfl h5 (by simp only [maxLen]; omega) (Nat.le_refl _) fun V' ho hg => ?_⟩
 obtain ⟨g, he, hge, hR⟩ := Rw.of_own ho hn.1
 rw [he]
 exact h V' g hge (gb_none hg) hR
theorem beg_end {l : Lit} {w w1 W : World} {gw kw gr gp gb : Nat} (hw : Below w.heap.size w w1) (hb : Below w1.heap.size w1 W) (hg : w.heap.size + 1 < w1.heap.size)
  (h1 : Rw W gw 3 1 l.wn kw (ints l.ws)) (h2 : Rw W gr 96 4 l.tn l.tn (ints (List.replicate (l.tn * 4) 0))) (h3 : Rw W gp 3 1 l.tn l.tn (natsI (List.replicate l.tn 0))) (h4 : Rw W gb 161 1 l.tn l.tn (List.replicate l.tn (.slice none 0 0)))
  (hne : gw ≠ gp) (ge : w1.heap.size <= gw /\ w1.heap.size <= gr /\ w1.heap.size <= gp /\ w1.heap.size <= gb) :
  BegR l w (.returned (.tuple #[stV ⟨gw, kw, gr, l.tn, gp, l.tn, gb, l.tn⟩ l.tn l.wn, .int .i64 0])) (W.setRow (w.heap.size + 1) #[.slice (some ⟨gw, 0, none⟩) l.wn kw, .slice (some ⟨gr, 0, none⟩) l.tn l.tn, .slice (some ⟨gp, 0, none⟩) l.tn l.tn, .slice (some ⟨gb, 0, none⟩) l.tn l.tn]) := by
 have hne1 : gw ≠ gr := by
  obtain ⟨_, cs, c1, _⟩ := h2
  exact fun e => h1.ne c1 (by decide) e.symm
 have hne2 : gr ≠ gp := by
  obtain ⟨_, cs, c1, _⟩ := h3
  exact fun e => h2.ne c1 (by decide) e.symm
 have hb1 : gw ≠ gb := by
  obtain ⟨_, cs, c1, _⟩ := h4
  exact fun e => h1.ne c1 (by decide) e.symm
 have hb2 : gr ≠ gb := by
  obtain ⟨_, cs, c1, _⟩ := h4
  exact fun e => h2.ne c1 (by decide) e.symm
 have hb3 : gp ≠ gb := by
  obtain ⟨_, cs, c1, _⟩ := h4
  exact fun e => h3.ne c1 (by decide) e.symm
 have hs := hw.size
 exact ⟨⟨gw, kw, gr, l.tn, gp, l.tn, gb, l.tn⟩, rfl, ⟨Nat.le_trans hs ge.1, Nat.le_trans hs ge.2.1, Nat.le_trans hs ge.2.2.1, Nat.le_trans hs ge.2.2.2⟩, ⟨h1.kept (rowK (by omega)), h2.kept (rowK (by omega)), h3.kept (rowK (by omega)), h4.kept (rowK (by omega)), ⟨hne1, hne, hb1, hne2, hb2, hb3⟩⟩, rowB (hw.trans (hb.mono hs)) (by omega)⟩
theorem begin_ok (l : Lit) (w : World) (h : LitAt w w.heap.size l) (hok : okLit l = true) :
  Calls Tryz.prog 24 #[litV l] w (BegR l w) := by
 obtain ⟨n1, n2, n3, n4⟩ := okLit_num hok
 have hlw := h.wlen
 obtain ⟨wb, wo, hwa, hwb, _⟩ := h.ws.2 (by omega)
 have HHw := Lh hwa
 clear hwa
 obtain ⟨w0, hw0⟩ : ∃ w0 : World, w0 = (w.alloc (.cells #[.slice l.wA l.wn l.wk, .slice l.tA l.tn l.tk] 25)).alloc (.cells #[.slice none 0 0, .slice none 0 0, .slice none 0 0, .slice none 0 0] 77) := ⟨_, rfl⟩
 have HB0 : Hid (Blk w0 w.heap.size 25 (litL l)) := by rw [hw0]; exact (Blk.new w 25 (litL l)).alloc _
 have HZ0 : Hid (Blk w0 (w.heap.size + 1) 77 [.slice none 0 0, .slice none 0 0, .slice none 0 0, .slice none 0 0]) := by
  rw [hw0]
  have h9 := Blk.new (w.alloc (.cells #[.slice l.wA l.wn l.wk, .slice l.tA l.tn l.tk] 25)) 77 [.slice none 0 0, .slice none 0 0, .slice none 0 0, .slice none 0 0]
  rw [World.size_alloc] at h9
  exact h9
 have HW0 : Hid (Below w.heap.size w w0) := by rw [hw0]; exact ((Below.refl _ _).alloc (Nat.le_refl _) _).alloc (by simp) _
 have HL := Lh h
 have HWe := Lh hw0
 have hz0 : w.heap.size + 1 < w0.heap.size := HZ0.o.lt
 clear h hw0
 go_enter Tryz.func24, Tryz.ntmps24
 go_upto_region 1 with fail
 rw [<- HWe.o]
 clear HWe
 have q0 := HB0.o.cell (i := 0) rfl
 have q1 := HB0.o.cell (i := 1) rfl
 go_wp2_with fail
 refine (tcheck_any l w0 ((HL.o.keep HW0.o).up HW0.o.size)).mono ?_
 rintro e w1 ⟨rfl, hb1⟩
 have HW1 := Lh (HW0.o.trans (hb1.mono HW0.o.size))
 have HB1 := Lh (HB0.o.below hb1 HB0.o.lt)
 have HZ1 := Lh (HZ0.o.below hb1 HZ0.o.lt)
 have hz1 := hb1.size
 clear hb1 q0 q1 HB0 HZ0 HW0
 rw [litErr_ok hok]
 have b1 : ((0 : Int) != 0) = false := rfl
 have q1 := HB1.o.cell (i := 1) rfl
 have HCw : Hid (∀ W, Below w1.heap.size w1 W -> Calls Tryz.prog 55 #[.slice (some ⟨wb, wo, none⟩) l.wn l.wk] W (CloR 3 1 l.wn (ints l.ws) W)) := fun W hW => cloI_any wb wo l.wn l.wk _ W (by rw [<- HHw.o]; exact (HL.o.ws.below (HW1.o.trans (hW.mono HW1.o.size))).up (Nat.le_trans HW1.o.size hW.size)) (ints_one' _) ⟨by omega, by omega⟩
 have HSo : Hid (∀ W, Below w1.heap.size w1 W -> W.cell? ⟨w.heap.size, 0, none⟩ = some (.slice (some ⟨wb, wo, none⟩) l.wn l.wk)) := fun W hW => by rw [<- HHw.o]; exact (HB1.o.below hW HB1.o.lt).cell rfl
 have HSt : Hid (∀ W cs, Below w1.heap.size w1 W -> (W.setRow (w.heap.size + 1) cs).cell? ⟨w.heap.size, 0, none⟩ = some (.slice (some ⟨wb, wo, none⟩) l.wn l.wk)) := fun W cs hW => by rw [<- HHw.o]; exact ((HB1.o.below hW HB1.o.lt).kept (rowK (by omega))).cell rfl
 clear HL
 obtain ⟨i1, hi1, hi1z, hi1s, hi1b⟩ := info_parts info_int1
 obtain ⟨i2, hi2, hi2z, hi2s, hi2b⟩ := info_parts info_reg4
 obtain ⟨i3, hi3, hi3z, hi3s, hi3b⟩ := info_parts info_pend
 go_upto_region 5 with fail
 clear q1
 go_cut [3] (fun s3 wc => ∃ (V : World) (gw kw gr gp gb : Nat), wc = V.setRow (w.heap.size + 1) #[.slice (some ⟨gw, 0, none⟩) l.wn kw, .slice (some ⟨gr, 0, none⟩) l.tn l.tn, .slice (some ⟨gp, 0, none⟩) l.tn l.tn, .slice (some ⟨gb, 0, none⟩) l.tn l.tn] /\ s3 = .int .i64 0 /\ Hid (Blk V (w.heap.size + 1) 77 [.slice none 0 0, .slice none 0 0, .slice none 0 0, .slice none 0 0]) /\ Hid (BegR l w (.returned (.tuple #[stV ⟨gw, kw, gr, l.tn, gp, l.tn, gb, l.tn⟩ l.tn l.wn, .int .i64 0])) (V.setRow (w.heap.size + 1) #[.slice (some ⟨gw, 0, none⟩) l.wn kw, .slice (some ⟨gr, 0, none⟩) l.tn l.tn, .slice (some ⟨gp, 0, none⟩) l.tn l.tn, .slice (some ⟨gb, 0, none⟩) l.tn l.tn])))
 case first =>
  have hn : 0 < l.tn /\ l.tn <= 1024 := ⟨by omega, by omega⟩
  have hIr : MkI 40 96 4 l.tn (ints (List.replicate (l.tn * 4) 0)) := ⟨i2, _, Tryz.underlying40, hi2, hi2z, hi2s, by rw [hi2b]; omega, made_reg _ n2⟩
  have hIp : MkI 22 3 1 l.tn (natsI (List.replicate l.tn 0)) := ⟨i1, _, Tryz.underlying22, hi1, hi1z, hi1s, by rw [hi1b]; omega, made_int _⟩
  have hIb : MkI 75 161 1 l.tn (List.replicate l.tn (.slice none 0 0)) := ⟨i3, _, Tryz.underlying75, hi3, hi3z, hi3s, by rw [hi3b]; omega, made_nil _⟩
  refine wp_region_held_drew (S := fun W => W.cell? ⟨w.heap.size, 0, none⟩ = some (.slice (some ⟨wb, wo, none⟩) l.wn l.wk)) (by kernel_rfl) (HSo.o _ (Below.refl _ _).drew) (fun hS => ?_)
  iterate 2 (refine tkF 0 (v := ?_) ?_ ?_; rotate_left; · (intro W hSw; (try dsimp only at hSw); go_simp; try with_reducible rfl); try simp only [Act.put, List.setIfInBounds_toArray, List.set_cons_zero, List.set_cons_succ])
  refine tkF 3 (v := ?_) ?_ ?_
  rotate_left
  ·(intro W hSw; (try dsimp only at hSw); go_simp; try with_reducible rfl)
  try simp only [Act.put, List.setIfInBounds_toArray, List.set_cons_zero, List.set_cons_succ]
  refine tkF 5 (v := ?_) ?_ ?_
  rotate_left
  ·(intro W hSw; (try dsimp only at hSw); go_simp; try with_reducible rfl)
  try simp only [Act.put, List.setIfInBounds_toArray, List.set_cons_zero, List.set_cons_succ]
  refine tkF 7 (v := ?_) ?_ ?_
  rotate_left
  ·(intro W hSw; (try dsimp only at hSw); go_simp; try with_reducible rfl)
  try simp only [Act.put, List.setIfInBounds_toArray, List.set_cons_zero, List.set_cons_succ]
  obtain ⟨V0, hV9, HB0⟩ : ∃ Z9, Z9 = w1.drew /\ Hid (Below w1.heap.size w1 Z9) := ⟨_, rfl, (Below.refl _ _).drew⟩
  rw [<- hV9]
  clear hV9
  refine rw4 2 4 6 8 (fun K1 hK1 => ?aw) (fun K1 hK1 => ?ar) (fun K1 hK1 => ?ap) (fun K1 hK1 => ?ab)
  case' aw =>
   refine ⟨?_⟩
   go_simp
   go_at_call 55
   refine (HCw.o _ HB0.o).mono ?_
   rintro e V1 ⟨gw, kw, rfl, hgw, hRw, hb1⟩
   have HB1 := Lh (b9 HB0.o hb1)
   refine hK1.out _ _ (HSo.o _ HB1.o) (fun _ => ?_)
   refine rw3 4 6 8 (fun K2 hK2 => ?awr) (fun K2 hK2 => ?awp) (fun K2 hK2 => ?awb)
   case' awr =>
    refine mk_rw hIr hn fun V2 gr hgr hb2 hRr => ?_
    have HB2 := Lh (b9 HB1.o hb2)
    refine hK2.out _ _ (HSo.o _ HB2.o) (fun _ => ?_)
    refine rw2 6 8 (fun K3 hK3 => ?awrp) (fun K3 hK3 => ?awrb)
    case' awrp =>
     refine mk_rw hIp hn fun V3 gp hgp hb3 hRp => ?_
     have HB3 := Lh (b9 HB2.o hb3)
     refine hK3.out _ _ (HSo.o _ HB3.o) (fun _ => ?_)
     refine rw1 8 fun K4 hK4 => ?_
     refine mk_rw hIb hn fun V4 gb hgb hb4 hRb => ?_
     have HB4 := Lh (b9 HB3.o hb4)
     refine hK4.out _ _ (HSo.o _ HB4.o) (fun _ => ?_)
     have HRw := Lh (((hRw.on hb2).on hb3).on hb4)
     have HRr := Lh ((hRr.on hb3).on hb4)
     have HRp := Lh (hRp.on hb4)
     have HRb := Lh hRb
     have hlt := (hRw.on hb2).lt
    case' awrb =>
     refine mk_rw hIb hn fun V3 gb hgb hb3 hRb => ?_
     have HB3 := Lh (b9 HB2.o hb3)
     refine hK3.out _ _ (HSo.o _ HB3.o) (fun _ => ?_)
     refine rw1 6 fun K4 hK4 => ?_
     refine mk_rw hIp hn fun V4 gp hgp hb4 hRp => ?_
     have HB4 := Lh (b9 HB3.o hb4)
     refine hK4.out _ _ (HSo.o _ HB4.o) (fun _ => ?_)
     have HRw := Lh (((hRw.on hb2).on hb3).on hb4)
     have HRr := Lh ((hRr.on hb3).on hb4)
     have HRp := Lh hRp
     have HRb := Lh (hRb.on hb4)
     have hlt := ((hRw.on hb2).on hb3).lt
   case' awp =>
    refine mk_rw hIp hn fun V2 gp hgp hb2 hRp => ?_
    have HB2 := Lh (b9 HB1.o hb2)
    refine hK2.out _ _ (HSo.o _ HB2.o) (fun _ => ?_)
    refine rw2 4 8 (fun K3 hK3 => ?awpr) (fun K3 hK3 => ?awpb)
    case' awpr =>
     refine mk_rw hIr hn fun V3 gr hgr hb3 hRr => ?_
     have HB3 := Lh (b9 HB2.o hb3)
     refine hK3.out _ _ (HSo.o _ HB3.o) (fun _ => ?_)
     refine rw1 8 fun K4 hK4 => ?_
     refine mk_rw hIb hn fun V4 gb hgb hb4 hRb => ?_
     have HB4 := Lh (b9 HB3.o hb4)
     refine hK4.out _ _ (HSo.o _ HB4.o) (fun _ => ?_)
     have HRw := Lh (((hRw.on hb2).on hb3).on hb4)
     have HRr := Lh (hRr.on hb4)
     have HRp := Lh ((hRp.on hb3).on hb4)
     have HRb := Lh hRb
     have hlt := hRw.lt
    case' awpb =>
     refine mk_rw hIb hn fun V3 gb hgb hb3 hRb => ?_
     have HB3 := Lh (b9 HB2.o hb3)
     refine hK3.out _ _ (HSo.o _ HB3.o) (fun _ => ?_)
     refine rw1 4 fun K4 hK4 => ?_
     refine mk_rw hIr hn fun V4 gr hgr hb4 hRr => ?_
     have HB4 := Lh (b9 HB3.o hb4)
     refine hK4.out _ _ (HSo.o _ HB4.o) (fun _ => ?_)
     have HRw := Lh (((hRw.on hb2).on hb3).on hb4)
     have HRr := Lh hRr
     have HRp := Lh ((hRp.on hb3).on hb4)
     have HRb := Lh (hRb.on hb4)
     have hlt := hRw.lt
   case' awb =>
    refine mk_rw hIb hn fun V2 gb hgb hb2 hRb => ?_
    have HB2 := Lh (b9 HB1.o hb2)
    refine hK2.out _ _ (HSo.o _ HB2.o) (fun _ => ?_)
    refine rw2 4 6 (fun K3 hK3 => ?awbr) (fun K3 hK3 => ?awbp)
    case' awbr =>
     refine mk_rw hIr hn fun V3 gr hgr hb3 hRr => ?_
     have HB3 := Lh (b9 HB2.o hb3)
     refine hK3.out _ _ (HSo.o _ HB3.o) (fun _ => ?_)
     refine rw1 6 fun K4 hK4 => ?_
     refine mk_rw hIp hn fun V4 gp hgp hb4 hRp => ?_
     have HB4 := Lh (b9 HB3.o hb4)
     refine hK4.out _ _ (HSo.o _ HB4.o) (fun _ => ?_)
     have HRw := Lh (((hRw.on hb2).on hb3).on hb4)
     have HRr := Lh (hRr.on hb4)
     have HRp := Lh hRp
     have HRb := Lh ((hRb.on hb3).on hb4)
     have hlt := ((hRw.on hb2).on hb3).lt
    case' awbp =>
     refine mk_rw hIp hn fun V3 gp hgp hb3 hRp => ?_
     have HB3 := Lh (b9 HB2.o hb3)
     refine hK3.out _ _ (HSo.o _ HB3.o) (fun _ => ?_)
     refine rw1 4 fun K4 hK4 => ?_
     refine mk_rw hIr hn fun V4 gr hgr hb4 hRr => ?_
     have HB4 := Lh (b9 HB3.o hb4)
     refine hK4.out _ _ (HSo.o _ HB4.o) (fun _ => ?_)
     have HRw := Lh (((hRw.on hb2).on hb3).on hb4)
     have HRr := Lh hRr
     have HRp := Lh (hRp.on hb4)
     have HRb := Lh ((hRb.on hb3).on hb4)
     have hlt := (hRw.on hb2).lt
  case' ar =>
   refine mk_rw hIr hn fun V1 gr hgr hb1 hRr => ?_
   have HB1 := Lh (b9 HB0.o hb1)
   refine hK1.out _ _ (HSo.o _ HB1.o) (fun _ => ?_)
   refine rw3 2 6 8 (fun K2 hK2 => ?arw) (fun K2 hK2 => ?arp) (fun K2 hK2 => ?arb)
   case' arw =>
    refine ⟨?_⟩
    go_simp
    go_at_call 55
    refine (HCw.o _ HB1.o).mono ?_
    rintro e V2 ⟨gw, kw, rfl, hgw, hRw, hb2⟩
    have HB2 := Lh (b9 HB1.o hb2)
    refine hK2.out _ _ (HSo.o _ HB2.o) (fun _ => ?_)
    refine rw2 6 8 (fun K3 hK3 => ?arwp) (fun K3 hK3 => ?arwb)
    case' arwp =>
     refine mk_rw hIp hn fun V3 gp hgp hb3 hRp => ?_
     have HB3 := Lh (b9 HB2.o hb3)
     refine hK3.out _ _ (HSo.o _ HB3.o) (fun _ => ?_)
     refine rw1 8 fun K4 hK4 => ?_
     refine mk_rw hIb hn fun V4 gb hgb hb4 hRb => ?_
     have HB4 := Lh (b9 HB3.o hb4)
     refine hK4.out _ _ (HSo.o _ HB4.o) (fun _ => ?_)
     have HRw := Lh ((hRw.on hb3).on hb4)
     have HRr := Lh (((hRr.on hb2).on hb3).on hb4)
     have HRp := Lh (hRp.on hb4)
     have HRb := Lh hRb
     have hlt := hRw.lt
    case' arwb =>
     refine mk_rw hIb hn fun V3 gb hgb hb3 hRb => ?_
     have HB3 := Lh (b9 HB2.o hb3)
     refine hK3.out _ _ (HSo.o _ HB3.o) (fun _ => ?_)
     refine rw1 6 fun K4 hK4 => ?_
     refine mk_rw hIp hn fun V4 gp hgp hb4 hRp => ?_
     have HB4 := Lh (b9 HB3.o hb4)
     refine hK4.out _ _ (HSo.o _ HB4.o) (fun _ => ?_)
     have HRw := Lh ((hRw.on hb3).on hb4)
     have HRr := Lh (((hRr.on hb2).on hb3).on hb4)
     have HRp := Lh hRp
     have HRb := Lh (hRb.on hb4)
     have hlt := (hRw.on hb3).lt
   case' arp =>
    refine mk_rw hIp hn fun V2 gp hgp hb2 hRp => ?_
    have HB2 := Lh (b9 HB1.o hb2)
    refine hK2.out _ _ (HSo.o _ HB2.o) (fun _ => ?_)
    refine rw2 2 8 (fun K3 hK3 => ?arpw) (fun K3 hK3 => ?arpb)
    case' arpw =>
     refine ⟨?_⟩
     go_simp
     go_at_call 55
     refine (HCw.o _ HB2.o).mono ?_
     rintro e V3 ⟨gw, kw, rfl, hgw, hRw, hb3⟩
     have HB3 := Lh (b9 HB2.o hb3)
     refine hK3.out _ _ (HSo.o _ HB3.o) (fun _ => ?_)
     refine rw1 8 fun K4 hK4 => ?_
     refine mk_rw hIb hn fun V4 gb hgb hb4 hRb => ?_
     have HB4 := Lh (b9 HB3.o hb4)
     refine hK4.out _ _ (HSo.o _ HB4.o) (fun _ => ?_)
     have HRw := Lh (hRw.on hb4)
     have HRr := Lh (((hRr.on hb2).on hb3).on hb4)
     have HRp := Lh ((hRp.on hb3).on hb4)
     have HRb := Lh hRb
     have hlt := hRp.lt
    case' arpb =>
     refine mk_rw hIb hn fun V3 gb hgb hb3 hRb => ?_
     have HB3 := Lh (b9 HB2.o hb3)
     refine hK3.out _ _ (HSo.o _ HB3.o) (fun _ => ?_)
     refine rw1 2 fun K4 hK4 => ?_
     refine ⟨?_⟩
     go_simp
     go_at_call 55
     refine (HCw.o _ HB3.o).mono ?_
     rintro e V4 ⟨gw, kw, rfl, hgw, hRw, hb4⟩
     have HB4 := Lh (b9 HB3.o hb4)
     refine hK4.out _ _ (HSo.o _ HB4.o) (fun _ => ?_)
     have HRw := Lh hRw
     have HRr := Lh (((hRr.on hb2).on hb3).on hb4)
     have HRp := Lh ((hRp.on hb3).on hb4)
     have HRb := Lh (hRb.on hb4)
     have hlt := (hRp.on hb3).lt
   case' arb =>
    refine mk_rw hIb hn fun V2 gb hgb hb2 hRb => ?_
    have HB2 := Lh (b9 HB1.o hb2)
    refine hK2.out _ _ (HSo.o _ HB2.o) (fun _ => ?_)
    refine rw2 2 6 (fun K3 hK3 => ?arbw) (fun K3 hK3 => ?arbp)
    case' arbw =>
     refine ⟨?_⟩
     go_simp
     go_at_call 55
     refine (HCw.o _ HB2.o).mono ?_
     rintro e V3 ⟨gw, kw, rfl, hgw, hRw, hb3⟩
     have HB3 := Lh (b9 HB2.o hb3)
     refine hK3.out _ _ (HSo.o _ HB3.o) (fun _ => ?_)
     refine rw1 6 fun K4 hK4 => ?_
     refine mk_rw hIp hn fun V4 gp hgp hb4 hRp => ?_
     have HB4 := Lh (b9 HB3.o hb4)
     refine hK4.out _ _ (HSo.o _ HB4.o) (fun _ => ?_)
     have HRw := Lh (hRw.on hb4)
     have HRr := Lh (((hRr.on hb2).on hb3).on hb4)
     have HRp := Lh hRp
     have HRb := Lh ((hRb.on hb3).on hb4)
     have hlt := hRw.lt
    case' arbp =>
     refine mk_rw hIp hn fun V3 gp hgp hb3 hRp => ?_
     have HB3 := Lh (b9 HB2.o hb3)
     refine hK3.out _ _ (HSo.o _ HB3.o) (fun _ => ?_)
     refine rw1 2 fun K4 hK4 => ?_
     refine ⟨?_⟩
     go_simp
     go_at_call 55
     refine (HCw.o _ HB3.o).mono ?_
     rintro e V4 ⟨gw, kw, rfl, hgw, hRw, hb4⟩
     have HB4 := Lh (b9 HB3.o hb4)
     refine hK4.out _ _ (HSo.o _ HB4.o) (fun _ => ?_)
     have HRw := Lh hRw
     have HRr := Lh (((hRr.on hb2).on hb3).on hb4)
     have HRp := Lh (hRp.on hb4)
     have HRb := Lh ((hRb.on hb3).on hb4)
     have hlt := hRp.lt
  case' ap =>
   refine mk_rw hIp hn fun V1 gp hgp hb1 hRp => ?_
   have HB1 := Lh (b9 HB0.o hb1)
   refine hK1.out _ _ (HSo.o _ HB1.o) (fun _ => ?_)
   refine rw3 2 4 8 (fun K2 hK2 => ?apw) (fun K2 hK2 => ?apr) (fun K2 hK2 => ?apb)
   case' apw =>
    refine ⟨?_⟩
    go_simp
    go_at_call 55
    refine (HCw.o _ HB1.o).mono ?_
    rintro e V2 ⟨gw, kw, rfl, hgw, hRw, hb2⟩
    have HB2 := Lh (b9 HB1.o hb2)
    refine hK2.out _ _ (HSo.o _ HB2.o) (fun _ => ?_)
    refine rw2 4 8 (fun K3 hK3 => ?apwr) (fun K3 hK3 => ?apwb)
    case' apwr =>
     refine mk_rw hIr hn fun V3 gr hgr hb3 hRr => ?_
     have HB3 := Lh (b9 HB2.o hb3)
     refine hK3.out _ _ (HSo.o _ HB3.o) (fun _ => ?_)
     refine rw1 8 fun K4 hK4 => ?_
     refine mk_rw hIb hn fun V4 gb hgb hb4 hRb => ?_
     have HB4 := Lh (b9 HB3.o hb4)
     refine hK4.out _ _ (HSo.o _ HB4.o) (fun _ => ?_)
     have HRw := Lh ((hRw.on hb3).on hb4)
     have HRr := Lh (hRr.on hb4)
     have HRp := Lh (((hRp.on hb2).on hb3).on hb4)
     have HRb := Lh hRb
     have hlt := hRp.lt
    case' apwb =>
     refine mk_rw hIb hn fun V3 gb hgb hb3 hRb => ?_
     have HB3 := Lh (b9 HB2.o hb3)
     refine hK3.out _ _ (HSo.o _ HB3.o) (fun _ => ?_)
     refine rw1 4 fun K4 hK4 => ?_
     refine mk_rw hIr hn fun V4 gr hgr hb4 hRr => ?_
     have HB4 := Lh (b9 HB3.o hb4)
     refine hK4.out _ _ (HSo.o _ HB4.o) (fun _ => ?_)
     have HRw := Lh ((hRw.on hb3).on hb4)
     have HRr := Lh hRr
     have HRp := Lh (((hRp.on hb2).on hb3).on hb4)
     have HRb := Lh (hRb.on hb4)
     have hlt := hRp.lt
   case' apr =>
    refine mk_rw hIr hn fun V2 gr hgr hb2 hRr => ?_
    have HB2 := Lh (b9 HB1.o hb2)
    refine hK2.out _ _ (HSo.o _ HB2.o) (fun _ => ?_)
    refine rw2 2 8 (fun K3 hK3 => ?aprw) (fun K3 hK3 => ?aprb)
    case' aprw =>
     refine ⟨?_⟩
     go_simp
     go_at_call 55
     refine (HCw.o _ HB2.o).mono ?_
     rintro e V3 ⟨gw, kw, rfl, hgw, hRw, hb3⟩
     have HB3 := Lh (b9 HB2.o hb3)
     refine hK3.out _ _ (HSo.o _ HB3.o) (fun _ => ?_)
     refine rw1 8 fun K4 hK4 => ?_
     refine mk_rw hIb hn fun V4 gb hgb hb4 hRb => ?_
     have HB4 := Lh (b9 HB3.o hb4)
     refine hK4.out _ _ (HSo.o _ HB4.o) (fun _ => ?_)
     have HRw := Lh (hRw.on hb4)
     have HRr := Lh ((hRr.on hb3).on hb4)
     have HRp := Lh (((hRp.on hb2).on hb3).on hb4)
     have HRb := Lh hRb
     have hlt := (hRp.on hb2).lt
    case' aprb =>
     refine mk_rw hIb hn fun V3 gb hgb hb3 hRb => ?_
     have HB3 := Lh (b9 HB2.o hb3)
     refine hK3.out _ _ (HSo.o _ HB3.o) (fun _ => ?_)
     refine rw1 2 fun K4 hK4 => ?_
     refine ⟨?_⟩
     go_simp
     go_at_call 55
     refine (HCw.o _ HB3.o).mono ?_
     rintro e V4 ⟨gw, kw, rfl, hgw, hRw, hb4⟩
     have HB4 := Lh (b9 HB3.o hb4)
     refine hK4.out _ _ (HSo.o _ HB4.o) (fun _ => ?_)
     have HRw := Lh hRw
     have HRr := Lh ((hRr.on hb3).on hb4)
     have HRp := Lh (((hRp.on hb2).on hb3).on hb4)
     have HRb := Lh (hRb.on hb4)
     have hlt := ((hRp.on hb2).on hb3).lt
   case' apb =>
    refine mk_rw hIb hn fun V2 gb hgb hb2 hRb => ?_
    have HB2 := Lh (b9 HB1.o hb2)
    refine hK2.out _ _ (HSo.o _ HB2.o) (fun _ => ?_)
    refine rw2 2 4 (fun K3 hK3 => ?apbw) (fun K3 hK3 => ?apbr)
    case' apbw =>
     refine ⟨?_⟩
     go_simp
     go_at_call 55
     refine (HCw.o _ HB2.o).mono ?_
     rintro e V3 ⟨gw, kw, rfl, hgw, hRw, hb3⟩
     have HB3 := Lh (b9 HB2.o hb3)
     refine hK3.out _ _ (HSo.o _ HB3.o) (fun _ => ?_)
     refine rw1 4 fun K4 hK4 => ?_
     refine mk_rw hIr hn fun V4 gr hgr hb4 hRr => ?_
     have HB4 := Lh (b9 HB3.o hb4)
     refine hK4.out _ _ (HSo.o _ HB4.o) (fun _ => ?_)
     have HRw := Lh (hRw.on hb4)
     have HRr := Lh hRr
     have HRp := Lh (((hRp.on hb2).on hb3).on hb4)
     have HRb := Lh ((hRb.on hb3).on hb4)
     have hlt := (hRp.on hb2).lt
    case' apbr =>
     refine mk_rw hIr hn fun V3 gr hgr hb3 hRr => ?_
     have HB3 := Lh (b9 HB2.o hb3)
     refine hK3.out _ _ (HSo.o _ HB3.o) (fun _ => ?_)
     refine rw1 2 fun K4 hK4 => ?_
     refine ⟨?_⟩
     go_simp
     go_at_call 55
     refine (HCw.o _ HB3.o).mono ?_
     rintro e V4 ⟨gw, kw, rfl, hgw, hRw, hb4⟩
     have HB4 := Lh (b9 HB3.o hb4)
     refine hK4.out _ _ (HSo.o _ HB4.o) (fun _ => ?_)
     have HRw := Lh hRw
     have HRr := Lh (hRr.on hb4)
     have HRp := Lh (((hRp.on hb2).on hb3).on hb4)
     have HRb := Lh ((hRb.on hb3).on hb4)
     have hlt := ((hRp.on hb2).on hb3).lt
  case' ab =>
   refine mk_rw hIb hn fun V1 gb hgb hb1 hRb => ?_
   have HB1 := Lh (b9 HB0.o hb1)
   refine hK1.out _ _ (HSo.o _ HB1.o) (fun _ => ?_)
   refine rw3 2 4 6 (fun K2 hK2 => ?abw) (fun K2 hK2 => ?abr) (fun K2 hK2 => ?abp)
   case' abw =>
    refine ⟨?_⟩
    go_simp
    go_at_call 55
    refine (HCw.o _ HB1.o).mono ?_
    rintro e V2 ⟨gw, kw, rfl, hgw, hRw, hb2⟩
    have HB2 := Lh (b9 HB1.o hb2)
    refine hK2.out _ _ (HSo.o _ HB2.o) (fun _ => ?_)
    refine rw2 4 6 (fun K3 hK3 => ?abwr) (fun K3 hK3 => ?abwp)
    case' abwr =>
     refine mk_rw hIr hn fun V3 gr hgr hb3 hRr => ?_
     have HB3 := Lh (b9 HB2.o hb3)
     refine hK3.out _ _ (HSo.o _ HB3.o) (fun _ => ?_)
     refine rw1 6 fun K4 hK4 => ?_
     refine mk_rw hIp hn fun V4 gp hgp hb4 hRp => ?_
     have HB4 := Lh (b9 HB3.o hb4)
     refine hK4.out _ _ (HSo.o _ HB4.o) (fun _ => ?_)
     have HRw := Lh ((hRw.on hb3).on hb4)
     have HRr := Lh (hRr.on hb4)
     have HRp := Lh hRp
     have HRb := Lh (((hRb.on hb2).on hb3).on hb4)
     have hlt := (hRw.on hb3).lt
    case' abwp =>
     refine mk_rw hIp hn fun V3 gp hgp hb3 hRp => ?_
     have HB3 := Lh (b9 HB2.o hb3)
     refine hK3.out _ _ (HSo.o _ HB3.o) (fun _ => ?_)
     refine rw1 4 fun K4 hK4 => ?_
     refine mk_rw hIr hn fun V4 gr hgr hb4 hRr => ?_
     have HB4 := Lh (b9 HB3.o hb4)
     refine hK4.out _ _ (HSo.o _ HB4.o) (fun _ => ?_)
     have HRw := Lh ((hRw.on hb3).on hb4)
     have HRr := Lh hRr
     have HRp := Lh (hRp.on hb4)
     have HRb := Lh (((hRb.on hb2).on hb3).on hb4)
     have hlt := hRw.lt
   case' abr =>
    refine mk_rw hIr hn fun V2 gr hgr hb2 hRr => ?_
    have HB2 := Lh (b9 HB1.o hb2)
    refine hK2.out _ _ (HSo.o _ HB2.o) (fun _ => ?_)
    refine rw2 2 6 (fun K3 hK3 => ?abrw) (fun K3 hK3 => ?abrp)
    case' abrw =>
     refine ⟨?_⟩
     go_simp
     go_at_call 55
     refine (HCw.o _ HB2.o).mono ?_
     rintro e V3 ⟨gw, kw, rfl, hgw, hRw, hb3⟩
     have HB3 := Lh (b9 HB2.o hb3)
     refine hK3.out _ _ (HSo.o _ HB3.o) (fun _ => ?_)
     refine rw1 6 fun K4 hK4 => ?_
     refine mk_rw hIp hn fun V4 gp hgp hb4 hRp => ?_
     have HB4 := Lh (b9 HB3.o hb4)
     refine hK4.out _ _ (HSo.o _ HB4.o) (fun _ => ?_)
     have HRw := Lh (hRw.on hb4)
     have HRr := Lh ((hRr.on hb3).on hb4)
     have HRp := Lh hRp
     have HRb := Lh (((hRb.on hb2).on hb3).on hb4)
     have hlt := hRw.lt
    case' abrp =>
     refine mk_rw hIp hn fun V3 gp hgp hb3 hRp => ?_
     have HB3 := Lh (b9 HB2.o hb3)
     refine hK3.out _ _ (HSo.o _ HB3.o) (fun _ => ?_)
     refine rw1 2 fun K4 hK4 => ?_
     refine ⟨?_⟩
     go_simp
     go_at_call 55
     refine (HCw.o _ HB3.o).mono ?_
     rintro e V4 ⟨gw, kw, rfl, hgw, hRw, hb4⟩
     have HB4 := Lh (b9 HB3.o hb4)
     refine hK4.out _ _ (HSo.o _ HB4.o) (fun _ => ?_)
     have HRw := Lh hRw
     have HRr := Lh ((hRr.on hb3).on hb4)
     have HRp := Lh (hRp.on hb4)
     have HRb := Lh (((hRb.on hb2).on hb3).on hb4)
     have hlt := hRp.lt
   case' abp =>
    refine mk_rw hIp hn fun V2 gp hgp hb2 hRp => ?_
    have HB2 := Lh (b9 HB1.o hb2)
    refine hK2.out _ _ (HSo.o _ HB2.o) (fun _ => ?_)
    refine rw2 2 4 (fun K3 hK3 => ?abpw) (fun K3 hK3 => ?abpr)
    case' abpw =>
     refine ⟨?_⟩
     go_simp
     go_at_call 55
     refine (HCw.o _ HB2.o).mono ?_
     rintro e V3 ⟨gw, kw, rfl, hgw, hRw, hb3⟩
     have HB3 := Lh (b9 HB2.o hb3)
     refine hK3.out _ _ (HSo.o _ HB3.o) (fun _ => ?_)
     refine rw1 4 fun K4 hK4 => ?_
     refine mk_rw hIr hn fun V4 gr hgr hb4 hRr => ?_
     have HB4 := Lh (b9 HB3.o hb4)
     refine hK4.out _ _ (HSo.o _ HB4.o) (fun _ => ?_)
     have HRw := Lh (hRw.on hb4)
     have HRr := Lh hRr
     have HRp := Lh ((hRp.on hb3).on hb4)
     have HRb := Lh (((hRb.on hb2).on hb3).on hb4)
     have hlt := hRp.lt
    case' abpr =>
     refine mk_rw hIr hn fun V3 gr hgr hb3 hRr => ?_
     have HB3 := Lh (b9 HB2.o hb3)
     refine hK3.out _ _ (HSo.o _ HB3.o) (fun _ => ?_)
     refine rw1 2 fun K4 hK4 => ?_
     refine ⟨?_⟩
     go_simp
     go_at_call 55
     refine (HCw.o _ HB3.o).mono ?_
     rintro e V4 ⟨gw, kw, rfl, hgw, hRw, hb4⟩
     have HB4 := Lh (b9 HB3.o hb4)
     refine hK4.out _ _ (HSo.o _ HB4.o) (fun _ => ?_)
     have HRw := Lh hRw
     have HRr := Lh (hRr.on hb4)
     have HRp := Lh ((hRp.on hb3).on hb4)
     have HRb := Lh (((hRb.on hb2).on hb3).on hb4)
     have hlt := (hRp.on hb3).lt
  all_goals (
   have z0 := HB0.o.size
   have z1 := HB1.o.size
   have z2 := HB2.o.size
   have z3 := HB3.o.size
   clear hb1 hb2 hb3 hb4 hRw hRr hRp hRb
   have hS1 := HSo.o _ HB4.o
   refine tkF 9 (v := ?_) ?_ ?_
   rotate_left
   ·(intro W hSw; (try dsimp only at hSw); go_simp; try with_reducible rfl)
   try simp only [Act.put, List.setIfInBounds_toArray, List.set_cons_zero, List.set_cons_succ]
   refine rw1 10 fun K5 hK5 => ?_
   have hx := HZ1.o.below HB4.o (by omega)
   refine st_w _ _ _ rfl (w.heap.size + 1) #[.slice (some ⟨gw, 0, none⟩) l.wn kw, .slice (some ⟨gr, 0, none⟩) l.tn l.tn, .slice (some ⟨gp, 0, none⟩) l.tn l.tn, .slice (some ⟨gb, 0, none⟩) l.tn l.tn] rfl rfl 77 _ hx size_lst rfl (lst_one _ _ _ _ _ _ _ _ _ _ _ _) ?_
   refine hK5.out _ _ (HSt.o _ _ HB4.o) (fun hS2 => ?_)
   refine tkF 11 (v := ?_) ?_ ?_
   rotate_left
   ·(intro W hSw; (try dsimp only at hSw); go_simp; try with_reducible rfl)
   try simp only [Act.put, List.setIfInBounds_toArray, List.set_cons_zero, List.set_cons_succ]
   refine wpAnyH_done (by kernel_rfl) ?_ _
   have HE := Lh (beg_end HW1.o HB4.o (by omega) HRw.o HRr.o HRp.o HRb.o (by omega) ⟨by omega, by omega, by omega, by omega⟩)
   clear hS1 hS2
   (try simp only [Act.put, List.setIfInBounds_toArray, List.set_cons_zero, List.set_cons_succ])
   go_wp2_with fail
   go_meet
   exact ⟨V4, gw, kw, gr, gp, gb, rfl, rfl, Lh hx, HE⟩)
 case rest =>
 obtain ⟨V, gw, kw, gr, gp, gb, rfl, rfl, hx, HE⟩ := hcut
 have HR := Lh (setRow_heap V (w.heap.size + 1) _ #[.slice (some ⟨gw, 0, none⟩) l.wn kw, .slice (some ⟨gr, 0, none⟩) l.tn l.tn, .slice (some ⟨gp, 0, none⟩) l.tn l.tn, .slice (some ⟨gb, 0, none⟩) l.tn l.tn] _ _ hx.out)
 go_wp2_with fail
 refine bodyPost_ret_by (results_cell_row2 rfl _ _ (w.heap.size + 1) 77 _ (0, 0) _ rfl HR.o Tryz.underlying77 rfl size_lst) rfl ?_
 exact HE.o
end Go.Proofs.YtgjdgapfnfhklaaGreat
