/-
  tso.Begin.
-/
import Derived.Test.YtgbopmgeicokoaaCpd
import Derived.OwnWalk
namespace Go.Proofs.Ytgbopmgeicokoaa
open Go.RowKit
set_option linter.unusedVariables false
set_option linter.unusedSimpArgs false

theorem wp_make {P : Program} (w : World) {o : Oper} {a : Act} {K : Act → World → Prop} {Q : Exit → Act → World → Prop}
    (l c : Operand) (t : TypeId) (hop : o.op = Op.makeSlice t l c)
    (base : Nat) (e : TypeId) (i : TypeInfo) (z : Value) (size : Nat) (h1 : P.underlying t = some (.slice e)) (h2 : P.info? e = some i) (h3 : i.zero = some z) (h4 : i.size = size)
    (kl kc : IntKind) (L C : Int) (n : Nat) (hl : a.eval l = .int kl L) (hc : a.eval c = .int kc C) (hL : L = (n : Int)) (hC : C = (n : Int)) (b2 : i.bytes * n ≤ 281474976710656) (b3 : n ≤ maxLen) (b4 : base ≤ w.heap.size)
    (hK : ∀ w', w'.ownsRow base e size (.slice (some ⟨w.heap.size, 0, none⟩) n n) n (madeCells z.cells (n * size)).toList → w.grownBy w' none → K (a.put o.dst (.slice (some ⟨w.heap.size, 0, none⟩) n n)) w') :
    o.wp P a w K Q := by
  obtain ⟨w', hrun, r1, r2⟩ := run_make_full (P := P) w base t e i z size h1 h2 h3 h4 kl kc n b2 b3 b4
  subst hL
  subst hC
  unfold Oper.wp
  simp [execOp, hop, hl, hc, hrun, Result.andThen]
  exact hK w' r1 r2
def BegR (l : Lit) (w : World) (e : Ending) (w' : World) : Prop := ∃ h', e = .returned (.tuple #[stV h' l.tn l.wn, .int .i64 0]) ∧ NewS w.heap.size h' ∧ StAt w' h' l.tn l.wn (firstS l) ∧ Below w.heap.size w w'
def BegN (w : World) (e : Ending) (w' : World) : Prop := e = .returned (.tuple #[.agg #[.slice none 0 0, .slice none 0 0, .slice none 0 0, .slice none 0 0], .int .i64 190]) ∧ Below w.heap.size w w'
theorem made_int (n : Nat) : (madeCells (Value.int .i64 0).cells (n * 1)).toList = natsI (List.replicate n 0) := by
  show (madeCells #[Value.int .i64 0] (n * 1)).toList = _
  rw [madeCells_one, Nat.mul_one]
  simp [natsI]
theorem made_nil (n : Nat) : (madeCells (Value.slice none 0 0).cells (n * 1)).toList = List.replicate n (.slice none 0 0) := by
  show (madeCells #[Value.slice none 0 0] (n * 1)).toList = _
  rw [madeCells_one, Nat.mul_one]
theorem made_reg (n : Nat) (hn : n ≤ 4) : (madeCells (Value.agg #[.int .i64 0, .int .i64 0, .int .i64 0, .int .i64 0]).cells (n * 4)).toList = ints (List.replicate (n * 4) 0) := by
  obtain rfl | rfl | rfl | rfl | rfl : n = 0 ∨ n = 1 ∨ n = 2 ∨ n = 3 ∨ n = 4 := by omega
  all_goals kernel_rfl
theorem beg_end {l : Lit} {w w1 W : World} {gw kw gr gp gb : Nat} (hw : Below w.heap.size w w1) (hb : Below w1.heap.size w1 W) (hg : w.heap.size + 1 < w1.heap.size)
    (h1 : Rw W gw 3 1 l.wn kw (ints l.ws)) (h2 : Rw W gr 173 4 l.tn l.tn (ints (List.replicate (l.tn * 4) 0))) (h3 : Rw W gp 3 1 l.tn l.tn (natsI (List.replicate l.tn 0))) (h4 : Rw W gb 278 1 l.tn l.tn (List.replicate l.tn (.slice none 0 0)))
    (hne : gw ≠ gp) (ge : w1.heap.size ≤ gw ∧ w1.heap.size ≤ gr ∧ w1.heap.size ≤ gp ∧ w1.heap.size ≤ gb) :
    BegR l w (.returned (.tuple #[stV ⟨gw, kw, gr, l.tn, gp, l.tn, gb, l.tn⟩ l.tn l.wn, .int .i64 0])) (W.setRow (w.heap.size + 1) #[.slice (some ⟨gw, 0, none⟩) l.wn kw, .slice (some ⟨gr, 0, none⟩) l.tn l.tn, .slice (some ⟨gp, 0, none⟩) l.tn l.tn, .slice (some ⟨gb, 0, none⟩) l.tn l.tn]) := by
  have hne1 : gw ≠ gr := by
    obtain ⟨_, cs, c1, _⟩ := h2
    exact fun e => h1.ne c1 (by decide) e.symm
  have hne2 : gr ≠ gp := by
    obtain ⟨_, cs, c1, _⟩ := h3
    exact fun e => h2.ne c1 (by decide) e.symm
  have hb1 : gw ≠ gb := by
    obtain ⟨_, cs, c1, _⟩ := h4
    exact fun e => h1.ne c1 (by decide) e.symm
  have hb2 : gr ≠ gb := by
    obtain ⟨_, cs, c1, _⟩ := h4
    exact fun e => h2.ne c1 (by decide) e.symm
  have hb3 : gp ≠ gb := by
    obtain ⟨_, cs, c1, _⟩ := h4
    exact fun e => h3.ne c1 (by decide) e.symm
  have hs := hw.size
  exact ⟨⟨gw, kw, gr, l.tn, gp, l.tn, gb, l.tn⟩, rfl, ⟨Nat.le_trans hs ge.1, Nat.le_trans hs ge.2.1, Nat.le_trans hs ge.2.2.1, Nat.le_trans hs ge.2.2.2⟩, ⟨h1.kept (rowK (by omega)), h2.kept (rowK (by omega)), h3.kept (rowK (by omega)), h4.kept (rowK (by omega)), ⟨hne1, hne, hb1, hne2, hb2, hb3⟩⟩, rowB (hw.trans (hb.mono hs)) (by omega)⟩

set_option maxRecDepth 100000 in
set_option maxHeartbeats 8000000 in
theorem begin_no (l : Lit) (w : World) (h : LitAt w w.heap.size l) (hok : okLit l = false) :
    Calls Try.prog 89 #[litV l] w (BegN w) := by
  obtain ⟨w0, hw0⟩ : ∃ w0 : World, w0 = (w.alloc (.cells #[.slice l.wA l.wn l.wk, .slice l.tA l.tn l.tk] 101)).alloc (.cells #[.slice none 0 0, .slice none 0 0, .slice none 0 0, .slice none 0 0] 113) := ⟨_, rfl⟩
  have HB0 : Hid (Blk w0 w.heap.size 101 (litL l)) := by rw [hw0]; exact (Blk.new w 101 (litL l)).alloc _
  have HZ0 : Hid (Blk w0 (w.heap.size + 1) 113 [.slice none 0 0, .slice none 0 0, .slice none 0 0, .slice none 0 0]) := by
    rw [hw0]
    have h9 := Blk.new (w.alloc (.cells #[.slice l.wA l.wn l.wk, .slice l.tA l.tn l.tk] 101)) 113 [.slice none 0 0, .slice none 0 0, .slice none 0 0, .slice none 0 0]
    rw [World.size_alloc] at h9
    exact h9
  have HW0 : Hid (Below w.heap.size w w0) := by rw [hw0]; exact ((Below.refl _ _).alloc (Nat.le_refl _) _).alloc (by simp) _
  have HL := Lib.hid h
  have HWe := Lib.hid hw0
  have hz0 : w.heap.size + 1 < w0.heap.size := HZ0.out.lt
  clear h hw0
  go_enter Try.func89, Try.ntmps89
  go_upto_region 1 with fail
  rw [← HWe.out]
  clear HWe
  have q0 : w0.cell? ⟨w.heap.size, 0, none⟩ = some (.slice l.wA l.wn l.wk) := HB0.out.cell rfl
  have q1 : w0.cell? ⟨w.heap.size, 1, none⟩ = some (.slice l.tA l.tn l.tk) := HB0.out.cell rfl
  go_wp2_with fail
  refine (tcheck_any l w0 ((HL.out.keep HW0.out).up HW0.out.size)).mono ?_
  rintro e w1 ⟨rfl, hb1⟩
  have HW1 := Lib.hid (HW0.out.trans (hb1.mono HW0.out.size))
  have HB1 := Lib.hid (HB0.out.below hb1 HB0.out.lt)
  have HZ1 := Lib.hid (HZ0.out.below hb1 HZ0.out.lt)
  have hz1 := hb1.size
  clear hb1 q0 q1 HB0 HZ0 HW0
  rw [litErr_no hok]
  have b1 : ((190 : Int) != 0) = true := rfl
  go_upto_region 3 with fail
  go_wp2_with (refine wpList_store_row rfl _ _ _ rfl (w.heap.size + 1) #[.slice none 0 0, .slice none 0 0, .slice none 0 0, .slice none 0 0] rfl rfl 113 _ HZ1.out size_lst rfl (lst_one _ _ _ _ _ _ _ _ _ _ _ _) ?_)
  have HR := Lib.hid (setRow_heap w1 (w.heap.size + 1) _ (#[.slice none 0 0, .slice none 0 0, .slice none 0 0, .slice none 0 0]) _ _ HZ1.out)
  refine bodyPost_ret_by (results_cell_row2 rfl _ _ (w.heap.size + 1) 113 _ (0, 0) _ rfl HR.out Try.underlying113 rfl size_lst) rfl ?_
  exact ⟨rfl, rowB HW1.out (by omega)⟩

set_option maxRecDepth 100000 in
set_option maxHeartbeats 16000000 in
theorem begin_ok (l : Lit) (w : World) (h : LitAt w w.heap.size l) (hok : okLit l = true) :
    Calls Try.prog 89 #[litV l] w (BegR l w) := by
  obtain ⟨n1, n2, n3, n4⟩ := okLit_num hok
  have hlw := h.wlen
  obtain ⟨wb, wo, hwa, hwb, _⟩ := h.ws.2 (by omega)
  have HHw := Lib.hid hwa
  clear hwa
  obtain ⟨w0, hw0⟩ : ∃ w0 : World, w0 = (w.alloc (.cells #[.slice l.wA l.wn l.wk, .slice l.tA l.tn l.tk] 101)).alloc (.cells #[.slice none 0 0, .slice none 0 0, .slice none 0 0, .slice none 0 0] 113) := ⟨_, rfl⟩
  have HB0 : Hid (Blk w0 w.heap.size 101 (litL l)) := by rw [hw0]; exact (Blk.new w 101 (litL l)).alloc _
  have HZ0 : Hid (Blk w0 (w.heap.size + 1) 113 [.slice none 0 0, .slice none 0 0, .slice none 0 0, .slice none 0 0]) := by
    rw [hw0]
    have h9 := Blk.new (w.alloc (.cells #[.slice l.wA l.wn l.wk, .slice l.tA l.tn l.tk] 101)) 113 [.slice none 0 0, .slice none 0 0, .slice none 0 0, .slice none 0 0]
    rw [World.size_alloc] at h9
    exact h9
  have HW0 : Hid (Below w.heap.size w w0) := by rw [hw0]; exact ((Below.refl _ _).alloc (Nat.le_refl _) _).alloc (by simp) _
  have HL := Lib.hid h
  have HWe := Lib.hid hw0
  have hz0 : w.heap.size + 1 < w0.heap.size := HZ0.out.lt
  clear h hw0
  go_enter Try.func89, Try.ntmps89
  go_upto_region 1 with fail
  rw [← HWe.out]
  clear HWe
  have q0 : w0.cell? ⟨w.heap.size, 0, none⟩ = some (.slice l.wA l.wn l.wk) := HB0.out.cell rfl
  have q1 : w0.cell? ⟨w.heap.size, 1, none⟩ = some (.slice l.tA l.tn l.tk) := HB0.out.cell rfl
  go_wp2_with fail
  refine (tcheck_any l w0 ((HL.out.keep HW0.out).up HW0.out.size)).mono ?_
  rintro e w1 ⟨rfl, hb1⟩
  have HW1 := Lib.hid (HW0.out.trans (hb1.mono HW0.out.size))
  have HB1 := Lib.hid (HB0.out.below hb1 HB0.out.lt)
  have HZ1 := Lib.hid (HZ0.out.below hb1 HZ0.out.lt)
  have hz1 := hb1.size
  clear hb1 q0 q1 HB0 HZ0 HW0
  rw [litErr_ok hok]
  have b1 : ((0 : Int) != 0) = false := rfl
  have q1 : w1.cell? ⟨w.heap.size, 1, none⟩ = some (.slice l.tA l.tn l.tk) := HB1.out.cell rfl
  have HCw : Hid (∀ W, Below w1.heap.size w1 W → Calls Try.prog 121 #[.slice (some ⟨wb, wo, none⟩) l.wn l.wk] W (CloR 3 1 l.wn (ints l.ws) W)) := fun W hW => cloI_any wb wo l.wn l.wk _ W (by rw [← HHw.out]; exact (HL.out.ws.below (HW1.out.trans (hW.mono HW1.out.size))).up (Nat.le_trans HW1.out.size hW.size)) (ints_one' _) ⟨by omega, by omega⟩
  have HSo : Hid (∀ W, Below w1.heap.size w1 W → W.cell? ⟨w.heap.size, 0, none⟩ = some (.slice (some ⟨wb, wo, none⟩) l.wn l.wk)) := fun W hW => by rw [← HHw.out]; exact (HB1.out.below hW HB1.out.lt).cell rfl
  have HSt : Hid (∀ W cs, Below w1.heap.size w1 W → (W.setRow (w.heap.size + 1) cs).cell? ⟨w.heap.size, 0, none⟩ = some (.slice (some ⟨wb, wo, none⟩) l.wn l.wk)) := fun W cs hW => by rw [← HHw.out]; exact ((HB1.out.below hW HB1.out.lt).kept (rowK (by omega))).cell rfl
  clear HL
  obtain ⟨i1, hi1, hi1z, hi1s, hi1b⟩ := info_parts info_int1
  obtain ⟨i2, hi2, hi2z, hi2s, hi2b⟩ := info_parts info_reg4
  obtain ⟨i3, hi3, hi3z, hi3s, hi3b⟩ := info_parts info_pend
  go_upto_region 5 with fail
  clear q1
  refine wp_region_held_drew (S := fun W => W.cell? ⟨w.heap.size, 0, none⟩ = some (.slice (some ⟨wb, wo, none⟩) l.wn l.wk)) (by kernel_rfl) (HSo.out _ (Below.refl _ _).drew) (fun hS => ?_)
  refine wpAnyH_take (i := 0) (v := .pointer (some ⟨w.heap.size, 0, none⟩)) rfl (by kernel_rfl) (by kernel_rfl) (by kernel_rfl) (fun _ _ _ h => h) (Or.inl ⟨by rfl, ?_⟩) (by assumption) ?_
  · (intro W hSw; (try dsimp only at hSw); go_simp)
  show wpAnyH _ _ _ _ _ _ _ (Act.put _ (some 15) _) _
  simp only [Act.put, List.setIfInBounds_toArray, List.set_cons_zero, List.set_cons_succ]
  refine wpAnyH_take (i := 1) (v := .slice (some ⟨wb, wo, none⟩) l.wn l.wk) rfl (by kernel_rfl) (by kernel_rfl) (by kernel_rfl) (fun _ _ _ h => h) (Or.inl ⟨by rfl, ?_⟩) (by assumption) ?_
  · (intro W hSw; (try dsimp only at hSw); go_simp)
  show wpAnyH _ _ _ _ _ _ _ (Act.put _ (some 16) _) _
  simp only [Act.put, List.setIfInBounds_toArray, List.set_cons_zero, List.set_cons_succ]
  refine wpAnyH_take (i := 3) (v := .int .i64 l.tn) rfl (by kernel_rfl) (by kernel_rfl) (by kernel_rfl) (fun _ _ _ h => h) (Or.inl ⟨by rfl, ?_⟩) (by assumption) ?_
  · (intro W hSw; (try dsimp only at hSw); go_simp)
  show wpAnyH _ _ _ _ _ _ _ (Act.put _ (some 18) _) _
  simp only [Act.put, List.setIfInBounds_toArray, List.set_cons_zero, List.set_cons_succ]
  refine wpAnyH_take (i := 5) (v := .int .i64 l.tn) rfl (by kernel_rfl) (by kernel_rfl) (by kernel_rfl) (fun _ _ _ h => h) (Or.inl ⟨by rfl, ?_⟩) (by assumption) ?_
  · (intro W hSw; (try dsimp only at hSw); go_simp)
  show wpAnyH _ _ _ _ _ _ _ (Act.put _ (some 20) _) _
  simp only [Act.put, List.setIfInBounds_toArray, List.set_cons_zero, List.set_cons_succ]
  refine wpAnyH_take (i := 7) (v := .int .i64 l.tn) rfl (by kernel_rfl) (by kernel_rfl) (by kernel_rfl) (fun _ _ _ h => h) (Or.inl ⟨by rfl, ?_⟩) (by assumption) ?_
  · (intro W hSw; (try dsimp only at hSw); go_simp)
  show wpAnyH _ _ _ _ _ _ _ (Act.put _ (some 22) _) _
  simp only [Act.put, List.setIfInBounds_toArray, List.set_cons_zero, List.set_cons_succ]
  obtain ⟨V0, hV9, HB0', hb9⟩ : ∃ Z9, Z9 = w1.drew ∧ Hid (Below w1.heap.size w1 Z9) ∧ True := ⟨_, rfl, (Below.refl _ _).drew, trivial⟩
  rw [← hV9]
  clear hV9 hb9
  refine wpAnyH_ready (rs := [2, 4, 6, 8]) (by kernel_rfl) (by simp) (AllReadyH.cons rfl (fun K1 hK1 => ?_) (AllReadyH.cons rfl (fun K1 hK1 => ?_) (AllReadyH.cons rfl (fun K1 hK1 => ?_) (AllReadyH.cons rfl (fun K1 hK1 => ?_) (AllReadyH.nil)))))
  · rw [if_pos (by rfl)]
    go_simp
    go_at_call 121
    refine (HCw.out _ HB0'.out).mono ?_
    rintro e V1 ⟨gw, kw, rfl, hgw0, hR9, hb9⟩
    have HB1 := Lib.hid (Below.step9 HB0'.out hb9 (Nat.le_refl w1.heap.size))
    have HRw1 := Lib.hid hR9
    have hgw : w1.heap.size ≤ gw := Nat.le_trans HB0'.out.size hgw0
    clear hR9 hb9
    refine hK1.out _ _ (HSo.out _ HB1.out) (fun _ => ?_)
    refine wpAnyH_ready (rs := [4, 6, 8]) (by kernel_rfl) (by simp) (AllReadyH.cons rfl (fun K2 hK2 => ?_) (AllReadyH.cons rfl (fun K2 hK2 => ?_) (AllReadyH.cons rfl (fun K2 hK2 => ?_) (AllReadyH.nil))))
    · rw [if_pos (by rfl)]
      refine wp_make _ _ _ 110 rfl w1.heap.size 173 i2 (.agg #[.int .i64 0, .int .i64 0, .int .i64 0, .int .i64 0]) 4 Try.underlying110 hi2 hi2z hi2s .i64 .i64 _ _ l.tn rfl rfl rfl rfl (by rw [hi2b]; omega) (by simp only [maxLen]; omega) HB1.out.size ?_
      intro V2 hown9 hg9
      rw [made_reg _ n2] at hown9
      have hb9 : Below V1.heap.size V1 V2 := (Below.refl _ _).grown hg9 (Nat.le_refl _) (fun q hq => by cases hq)
      have HB2 := Lib.hid (Below.step9 HB1.out hb9 (Nat.le_refl w1.heap.size))
      obtain ⟨gr, hgre, hgr, hR9⟩ := Rw.of_own hown9 (by omega)
      injection hgre with hgre
      injection hgre with hgr0 _
      rw [hgr0]
      have HRr2 := Lib.hid hR9
      have HRw2 := Lib.hid (HRw1.out.on hb9)
      have hlw1 := HRw1.out.lt
      clear hR9 hb9
      refine hK2.out _ _ (HSo.out _ HB2.out) (fun _ => ?_)
      refine wpAnyH_ready (rs := [6, 8]) (by kernel_rfl) (by simp) (AllReadyH.cons rfl (fun K3 hK3 => ?_) (AllReadyH.cons rfl (fun K3 hK3 => ?_) (AllReadyH.nil)))
      · rw [if_pos (by rfl)]
        refine wp_make _ _ _ 30 rfl w1.heap.size 3 i1 (.int .i64 0) 1 Try.underlying30 hi1 hi1z hi1s .i64 .i64 _ _ l.tn rfl rfl rfl rfl (by rw [hi1b]; omega) (by simp only [maxLen]; omega) HB2.out.size ?_
        intro V3 hown9 hg9
        rw [made_int _] at hown9
        have hb9 : Below V2.heap.size V2 V3 := (Below.refl _ _).grown hg9 (Nat.le_refl _) (fun q hq => by cases hq)
        have HB3 := Lib.hid (Below.step9 HB2.out hb9 (Nat.le_refl w1.heap.size))
        obtain ⟨gp, hgpe, hgp, hR9⟩ := Rw.of_own hown9 (by omega)
        injection hgpe with hgpe
        injection hgpe with hgp0 _
        rw [hgp0]
        have HRp3 := Lib.hid hR9
        have HRw3 := Lib.hid (HRw2.out.on hb9)
        have hlw2 := HRw2.out.lt
        have HRr3 := Lib.hid (HRr2.out.on hb9)
        have hlr2 := HRr2.out.lt
        clear hR9 hb9
        refine hK3.out _ _ (HSo.out _ HB3.out) (fun _ => ?_)
        refine wpAnyH_ready (rs := [8]) (by kernel_rfl) (by simp) (AllReadyH.cons rfl (fun K4 hK4 => ?_) (AllReadyH.nil))
        · rw [if_pos (by rfl)]
          refine wp_make _ _ _ 111 rfl w1.heap.size 278 i3 (.slice none 0 0) 1 Try.underlying111 hi3 hi3z hi3s .i64 .i64 _ _ l.tn rfl rfl rfl rfl (by rw [hi3b]; omega) (by simp only [maxLen]; omega) HB3.out.size ?_
          intro V4 hown9 hg9
          rw [made_nil _] at hown9
          have hb9 : Below V3.heap.size V3 V4 := (Below.refl _ _).grown hg9 (Nat.le_refl _) (fun q hq => by cases hq)
          have HB4 := Lib.hid (Below.step9 HB3.out hb9 (Nat.le_refl w1.heap.size))
          obtain ⟨gb, hgbe, hgb, hR9⟩ := Rw.of_own hown9 (by omega)
          injection hgbe with hgbe
          injection hgbe with hgb0 _
          rw [hgb0]
          have HRb4 := Lib.hid hR9
          have HRw4 := Lib.hid (HRw3.out.on hb9)
          have hlw3 := HRw3.out.lt
          have HRr4 := Lib.hid (HRr3.out.on hb9)
          have hlr3 := HRr3.out.lt
          have HRp4 := Lib.hid (HRp3.out.on hb9)
          have hlp3 := HRp3.out.lt
          clear hR9 hb9
          refine hK4.out _ _ (HSo.out _ HB4.out) (fun _ => ?_)
          refine wpAnyH_take (i := 9) (v := .agg #[.slice (some ⟨gw, 0, none⟩) l.wn kw, .slice (some ⟨gr, 0, none⟩) l.tn l.tn, .slice (some ⟨gp, 0, none⟩) l.tn l.tn, .slice (some ⟨gb, 0, none⟩) l.tn l.tn]) rfl (by kernel_rfl) (by kernel_rfl) (by kernel_rfl) (fun _ _ _ h => h) (Or.inl ⟨by rfl, ?_⟩) (HSo.out _ HB4.out) ?_
          · (intro W hSw; (try dsimp only at hSw); go_simp)
          show wpAnyH _ _ _ _ _ _ _ (Act.put _ (some 24) _) _
          simp only [Act.put, List.setIfInBounds_toArray, List.set_cons_zero, List.set_cons_succ]
          refine wpAnyH_ready (rs := [10]) (by kernel_rfl) (by simp) (AllReadyH.cons rfl (fun K5 hK5 => ?_) (AllReadyH.nil))
          rw [if_pos (by rfl)]
          have hx := HZ1.out.below HB4.out (by omega)
          refine wp_store_row _ _ _ rfl (w.heap.size + 1) #[.slice (some ⟨gw, 0, none⟩) l.wn kw, .slice (some ⟨gr, 0, none⟩) l.tn l.tn, .slice (some ⟨gp, 0, none⟩) l.tn l.tn, .slice (some ⟨gb, 0, none⟩) l.tn l.tn] rfl rfl 113 _ hx size_lst rfl (lst_one _ _ _ _ _ _ _ _ _ _ _ _) ?_
          refine hK5.out _ _ (HSt.out _ _ HB4.out) (fun _ => ?_)
          refine wpAnyH_take (i := 11) (v := .int .i64 0) rfl (by kernel_rfl) (by kernel_rfl) (by kernel_rfl) (fun _ _ _ h => h) (Or.inl ⟨by rfl, ?_⟩) (HSt.out _ _ HB4.out) ?_
          · (intro W hSw; (try dsimp only at hSw); go_simp)
          show wpAnyH _ _ _ _ _ _ _ (Act.put _ (some 3) _) _
          simp only [Act.put, List.setIfInBounds_toArray, List.set_cons_zero, List.set_cons_succ]
          refine wpAnyH_done (by kernel_rfl) ?_ _
          have HR := Lib.hid (setRow_heap V4 (w.heap.size + 1) _ (#[.slice (some ⟨gw, 0, none⟩) l.wn kw, .slice (some ⟨gr, 0, none⟩) l.tn l.tn, .slice (some ⟨gp, 0, none⟩) l.tn l.tn, .slice (some ⟨gb, 0, none⟩) l.tn l.tn]) _ _ hx)
          have HE := Lib.hid (beg_end HW1.out HB4.out (by omega) HRw4.out HRr4.out HRp4.out HRb4.out (by omega) ⟨by omega, by omega, by omega, by omega⟩)
          go_wp2_with fail
          refine bodyPost_ret_by (results_cell_row2 rfl _ _ (w.heap.size + 1) 113 _ (0, 0) _ rfl HR.out Try.underlying113 rfl size_lst) rfl ?_
          exact HE.out
      · rw [if_pos (by rfl)]
        refine wp_make _ _ _ 111 rfl w1.heap.size 278 i3 (.slice none 0 0) 1 Try.underlying111 hi3 hi3z hi3s .i64 .i64 _ _ l.tn rfl rfl rfl rfl (by rw [hi3b]; omega) (by simp only [maxLen]; omega) HB2.out.size ?_
        intro V3 hown9 hg9
        rw [made_nil _] at hown9
        have hb9 : Below V2.heap.size V2 V3 := (Below.refl _ _).grown hg9 (Nat.le_refl _) (fun q hq => by cases hq)
        have HB3 := Lib.hid (Below.step9 HB2.out hb9 (Nat.le_refl w1.heap.size))
        obtain ⟨gb, hgbe, hgb, hR9⟩ := Rw.of_own hown9 (by omega)
        injection hgbe with hgbe
        injection hgbe with hgb0 _
        rw [hgb0]
        have HRb3 := Lib.hid hR9
        have HRw3 := Lib.hid (HRw2.out.on hb9)
        have hlw2 := HRw2.out.lt
        have HRr3 := Lib.hid (HRr2.out.on hb9)
        have hlr2 := HRr2.out.lt
        clear hR9 hb9
        refine hK3.out _ _ (HSo.out _ HB3.out) (fun _ => ?_)
        refine wpAnyH_ready (rs := [6]) (by kernel_rfl) (by simp) (AllReadyH.cons rfl (fun K4 hK4 => ?_) (AllReadyH.nil))
        · rw [if_pos (by rfl)]
          refine wp_make _ _ _ 30 rfl w1.heap.size 3 i1 (.int .i64 0) 1 Try.underlying30 hi1 hi1z hi1s .i64 .i64 _ _ l.tn rfl rfl rfl rfl (by rw [hi1b]; omega) (by simp only [maxLen]; omega) HB3.out.size ?_
          intro V4 hown9 hg9
          rw [made_int _] at hown9
          have hb9 : Below V3.heap.size V3 V4 := (Below.refl _ _).grown hg9 (Nat.le_refl _) (fun q hq => by cases hq)
          have HB4 := Lib.hid (Below.step9 HB3.out hb9 (Nat.le_refl w1.heap.size))
          obtain ⟨gp, hgpe, hgp, hR9⟩ := Rw.of_own hown9 (by omega)
          injection hgpe with hgpe
          injection hgpe with hgp0 _
          rw [hgp0]
          have HRp4 := Lib.hid hR9
          have HRw4 := Lib.hid (HRw3.out.on hb9)
          have hlw3 := HRw3.out.lt
          have HRr4 := Lib.hid (HRr3.out.on hb9)
          have hlr3 := HRr3.out.lt
          have HRb4 := Lib.hid (HRb3.out.on hb9)
          have hlb3 := HRb3.out.lt
          clear hR9 hb9
          refine hK4.out _ _ (HSo.out _ HB4.out) (fun _ => ?_)
          refine wpAnyH_take (i := 9) (v := .agg #[.slice (some ⟨gw, 0, none⟩) l.wn kw, .slice (some ⟨gr, 0, none⟩) l.tn l.tn, .slice (some ⟨gp, 0, none⟩) l.tn l.tn, .slice (some ⟨gb, 0, none⟩) l.tn l.tn]) rfl (by kernel_rfl) (by kernel_rfl) (by kernel_rfl) (fun _ _ _ h => h) (Or.inl ⟨by rfl, ?_⟩) (HSo.out _ HB4.out) ?_
          · (intro W hSw; (try dsimp only at hSw); go_simp)
          show wpAnyH _ _ _ _ _ _ _ (Act.put _ (some 24) _) _
          simp only [Act.put, List.setIfInBounds_toArray, List.set_cons_zero, List.set_cons_succ]
          refine wpAnyH_ready (rs := [10]) (by kernel_rfl) (by simp) (AllReadyH.cons rfl (fun K5 hK5 => ?_) (AllReadyH.nil))
          rw [if_pos (by rfl)]
          have hx := HZ1.out.below HB4.out (by omega)
          refine wp_store_row _ _ _ rfl (w.heap.size + 1) #[.slice (some ⟨gw, 0, none⟩) l.wn kw, .slice (some ⟨gr, 0, none⟩) l.tn l.tn, .slice (some ⟨gp, 0, none⟩) l.tn l.tn, .slice (some ⟨gb, 0, none⟩) l.tn l.tn] rfl rfl 113 _ hx size_lst rfl (lst_one _ _ _ _ _ _ _ _ _ _ _ _) ?_
          refine hK5.out _ _ (HSt.out _ _ HB4.out) (fun _ => ?_)
          refine wpAnyH_take (i := 11) (v := .int .i64 0) rfl (by kernel_rfl) (by kernel_rfl) (by kernel_rfl) (fun _ _ _ h => h) (Or.inl ⟨by rfl, ?_⟩) (HSt.out _ _ HB4.out) ?_
          · (intro W hSw; (try dsimp only at hSw); go_simp)
          show wpAnyH _ _ _ _ _ _ _ (Act.put _ (some 3) _) _
          simp only [Act.put, List.setIfInBounds_toArray, List.set_cons_zero, List.set_cons_succ]
          refine wpAnyH_done (by kernel_rfl) ?_ _
          have HR := Lib.hid (setRow_heap V4 (w.heap.size + 1) _ (#[.slice (some ⟨gw, 0, none⟩) l.wn kw, .slice (some ⟨gr, 0, none⟩) l.tn l.tn, .slice (some ⟨gp, 0, none⟩) l.tn l.tn, .slice (some ⟨gb, 0, none⟩) l.tn l.tn]) _ _ hx)
          have HE := Lib.hid (beg_end HW1.out HB4.out (by omega) HRw4.out HRr4.out HRp4.out HRb4.out (by omega) ⟨by omega, by omega, by omega, by omega⟩)
          go_wp2_with fail
          refine bodyPost_ret_by (results_cell_row2 rfl _ _ (w.heap.size + 1) 113 _ (0, 0) _ rfl HR.out Try.underlying113 rfl size_lst) rfl ?_
          exact HE.out
    · rw [if_pos (by rfl)]
      refine wp_make _ _ _ 30 rfl w1.heap.size 3 i1 (.int .i64 0) 1 Try.underlying30 hi1 hi1z hi1s .i64 .i64 _ _ l.tn rfl rfl rfl rfl (by rw [hi1b]; omega) (by simp only [maxLen]; omega) HB1.out.size ?_
      intro V2 hown9 hg9
      rw [made_int _] at hown9
      have hb9 : Below V1.heap.size V1 V2 := (Below.refl _ _).grown hg9 (Nat.le_refl _) (fun q hq => by cases hq)
      have HB2 := Lib.hid (Below.step9 HB1.out hb9 (Nat.le_refl w1.heap.size))
      obtain ⟨gp, hgpe, hgp, hR9⟩ := Rw.of_own hown9 (by omega)
      injection hgpe with hgpe
      injection hgpe with hgp0 _
      rw [hgp0]
      have HRp2 := Lib.hid hR9
      have HRw2 := Lib.hid (HRw1.out.on hb9)
      have hlw1 := HRw1.out.lt
      clear hR9 hb9
      refine hK2.out _ _ (HSo.out _ HB2.out) (fun _ => ?_)
      refine wpAnyH_ready (rs := [4, 8]) (by kernel_rfl) (by simp) (AllReadyH.cons rfl (fun K3 hK3 => ?_) (AllReadyH.cons rfl (fun K3 hK3 => ?_) (AllReadyH.nil)))
      · rw [if_pos (by rfl)]
        refine wp_make _ _ _ 110 rfl w1.heap.size 173 i2 (.agg #[.int .i64 0, .int .i64 0, .int .i64 0, .int .i64 0]) 4 Try.underlying110 hi2 hi2z hi2s .i64 .i64 _ _ l.tn rfl rfl rfl rfl (by rw [hi2b]; omega) (by simp only [maxLen]; omega) HB2.out.size ?_
        intro V3 hown9 hg9
        rw [made_reg _ n2] at hown9
        have hb9 : Below V2.heap.size V2 V3 := (Below.refl _ _).grown hg9 (Nat.le_refl _) (fun q hq => by cases hq)
        have HB3 := Lib.hid (Below.step9 HB2.out hb9 (Nat.le_refl w1.heap.size))
        obtain ⟨gr, hgre, hgr, hR9⟩ := Rw.of_own hown9 (by omega)
        injection hgre with hgre
        injection hgre with hgr0 _
        rw [hgr0]
        have HRr3 := Lib.hid hR9
        have HRw3 := Lib.hid (HRw2.out.on hb9)
        have hlw2 := HRw2.out.lt
        have HRp3 := Lib.hid (HRp2.out.on hb9)
        have hlp2 := HRp2.out.lt
        clear hR9 hb9
        refine hK3.out _ _ (HSo.out _ HB3.out) (fun _ => ?_)
        refine wpAnyH_ready (rs := [8]) (by kernel_rfl) (by simp) (AllReadyH.cons rfl (fun K4 hK4 => ?_) (AllReadyH.nil))
        · rw [if_pos (by rfl)]
          refine wp_make _ _ _ 111 rfl w1.heap.size 278 i3 (.slice none 0 0) 1 Try.underlying111 hi3 hi3z hi3s .i64 .i64 _ _ l.tn rfl rfl rfl rfl (by rw [hi3b]; omega) (by simp only [maxLen]; omega) HB3.out.size ?_
          intro V4 hown9 hg9
          rw [made_nil _] at hown9
          have hb9 : Below V3.heap.size V3 V4 := (Below.refl _ _).grown hg9 (Nat.le_refl _) (fun q hq => by cases hq)
          have HB4 := Lib.hid (Below.step9 HB3.out hb9 (Nat.le_refl w1.heap.size))
          obtain ⟨gb, hgbe, hgb, hR9⟩ := Rw.of_own hown9 (by omega)
          injection hgbe with hgbe
          injection hgbe with hgb0 _
          rw [hgb0]
          have HRb4 := Lib.hid hR9
          have HRw4 := Lib.hid (HRw3.out.on hb9)
          have hlw3 := HRw3.out.lt
          have HRp4 := Lib.hid (HRp3.out.on hb9)
          have hlp3 := HRp3.out.lt
          have HRr4 := Lib.hid (HRr3.out.on hb9)
          have hlr3 := HRr3.out.lt
          clear hR9 hb9
          refine hK4.out _ _ (HSo.out _ HB4.out) (fun _ => ?_)
          refine wpAnyH_take (i := 9) (v := .agg #[.slice (some ⟨gw, 0, none⟩) l.wn kw, .slice (some ⟨gr, 0, none⟩) l.tn l.tn, .slice (some ⟨gp, 0, none⟩) l.tn l.tn, .slice (some ⟨gb, 0, none⟩) l.tn l.tn]) rfl (by kernel_rfl) (by kernel_rfl) (by kernel_rfl) (fun _ _ _ h => h) (Or.inl ⟨by rfl, ?_⟩) (HSo.out _ HB4.out) ?_
          · (intro W hSw; (try dsimp only at hSw); go_simp)
          show wpAnyH _ _ _ _ _ _ _ (Act.put _ (some 24) _) _
          simp only [Act.put, List.setIfInBounds_toArray, List.set_cons_zero, List.set_cons_succ]
          refine wpAnyH_ready (rs := [10]) (by kernel_rfl) (by simp) (AllReadyH.cons rfl (fun K5 hK5 => ?_) (AllReadyH.nil))
          rw [if_pos (by rfl)]
          have hx := HZ1.out.below HB4.out (by omega)
          refine wp_store_row _ _ _ rfl (w.heap.size + 1) #[.slice (some ⟨gw, 0, none⟩) l.wn kw, .slice (some ⟨gr, 0, none⟩) l.tn l.tn, .slice (some ⟨gp, 0, none⟩) l.tn l.tn, .slice (some ⟨gb, 0, none⟩) l.tn l.tn] rfl rfl 113 _ hx size_lst rfl (lst_one _ _ _ _ _ _ _ _ _ _ _ _) ?_
          refine hK5.out _ _ (HSt.out _ _ HB4.out) (fun _ => ?_)
          refine wpAnyH_take (i := 11) (v := .int .i64 0) rfl (by kernel_rfl) (by kernel_rfl) (by kernel_rfl) (fun _ _ _ h => h) (Or.inl ⟨by rfl, ?_⟩) (HSt.out _ _ HB4.out) ?_
          · (intro W hSw; (try dsimp only at hSw); go_simp)
          show wpAnyH _ _ _ _ _ _ _ (Act.put _ (some 3) _) _
          simp only [Act.put, List.setIfInBounds_toArray, List.set_cons_zero, List.set_cons_succ]
          refine wpAnyH_done (by kernel_rfl) ?_ _
          have HR := Lib.hid (setRow_heap V4 (w.heap.size + 1) _ (#[.slice (some ⟨gw, 0, none⟩) l.wn kw, .slice (some ⟨gr, 0, none⟩) l.tn l.tn, .slice (some ⟨gp, 0, none⟩) l.tn l.tn, .slice (some ⟨gb, 0, none⟩) l.tn l.tn]) _ _ hx)
          have HE := Lib.hid (beg_end HW1.out HB4.out (by omega) HRw4.out HRr4.out HRp4.out HRb4.out (by omega) ⟨by omega, by omega, by omega, by omega⟩)
          go_wp2_with fail
          refine bodyPost_ret_by (results_cell_row2 rfl _ _ (w.heap.size + 1) 113 _ (0, 0) _ rfl HR.out Try.underlying113 rfl size_lst) rfl ?_
          exact HE.out
      · rw [if_pos (by rfl)]
        refine wp_make _ _ _ 111 rfl w1.heap.size 278 i3 (.slice none 0 0) 1 Try.underlying111 hi3 hi3z hi3s .i64 .i64 _ _ l.tn rfl rfl rfl rfl (by rw [hi3b]; omega) (by simp only [maxLen]; omega) HB2.out.size ?_
        intro V3 hown9 hg9
        rw [made_nil _] at hown9
        have hb9 : Below V2.heap.size V2 V3 := (Below.refl _ _).grown hg9 (Nat.le_refl _) (fun q hq => by cases hq)
        have HB3 := Lib.hid (Below.step9 HB2.out hb9 (Nat.le_refl w1.heap.size))
        obtain ⟨gb, hgbe, hgb, hR9⟩ := Rw.of_own hown9 (by omega)
        injection hgbe with hgbe
        injection hgbe with hgb0 _
        rw [hgb0]
        have HRb3 := Lib.hid hR9
        have HRw3 := Lib.hid (HRw2.out.on hb9)
        have hlw2 := HRw2.out.lt
        have HRp3 := Lib.hid (HRp2.out.on hb9)
        have hlp2 := HRp2.out.lt
        clear hR9 hb9
        refine hK3.out _ _ (HSo.out _ HB3.out) (fun _ => ?_)
        refine wpAnyH_ready (rs := [4]) (by kernel_rfl) (by simp) (AllReadyH.cons rfl (fun K4 hK4 => ?_) (AllReadyH.nil))
        · rw [if_pos (by rfl)]
          refine wp_make _ _ _ 110 rfl w1.heap.size 173 i2 (.agg #[.int .i64 0, .int .i64 0, .int .i64 0, .int .i64 0]) 4 Try.underlying110 hi2 hi2z hi2s .i64 .i64 _ _ l.tn rfl rfl rfl rfl (by rw [hi2b]; omega) (by simp only [maxLen]; omega) HB3.out.size ?_
          intro V4 hown9 hg9
          rw [made_reg _ n2] at hown9
          have hb9 : Below V3.heap.size V3 V4 := (Below.refl _ _).grown hg9 (Nat.le_refl _) (fun q hq => by cases hq)
          have HB4 := Lib.hid (Below.step9 HB3.out hb9 (Nat.le_refl w1.heap.size))
          obtain ⟨gr, hgre, hgr, hR9⟩ := Rw.of_own hown9 (by omega)
          injection hgre with hgre
          injection hgre with hgr0 _
          rw [hgr0]
          have HRr4 := Lib.hid hR9
          have HRw4 := Lib.hid (HRw3.out.on hb9)
          have hlw3 := HRw3.out.lt
          have HRp4 := Lib.hid (HRp3.out.on hb9)
          have hlp3 := HRp3.out.lt
          have HRb4 := Lib.hid (HRb3.out.on hb9)
          have hlb3 := HRb3.out.lt
          clear hR9 hb9
          refine hK4.out _ _ (HSo.out _ HB4.out) (fun _ => ?_)
          refine wpAnyH_take (i := 9) (v := .agg #[.slice (some ⟨gw, 0, none⟩) l.wn kw, .slice (some ⟨gr, 0, none⟩) l.tn l.tn, .slice (some ⟨gp, 0, none⟩) l.tn l.tn, .slice (some ⟨gb, 0, none⟩) l.tn l.tn]) rfl (by kernel_rfl) (by kernel_rfl) (by kernel_rfl) (fun _ _ _ h => h) (Or.inl ⟨by rfl, ?_⟩) (HSo.out _ HB4.out) ?_
          · (intro W hSw; (try dsimp only at hSw); go_simp)
          show wpAnyH _ _ _ _ _ _ _ (Act.put _ (some 24) _) _
          simp only [Act.put, List.setIfInBounds_toArray, List.set_cons_zero, List.set_cons_succ]
          refine wpAnyH_ready (rs := [10]) (by kernel_rfl) (by simp) (AllReadyH.cons rfl (fun K5 hK5 => ?_) (AllReadyH.nil))
          rw [if_pos (by rfl)]
          have hx := HZ1.out.below HB4.out (by omega)
          refine wp_store_row _ _ _ rfl (w.heap.size + 1) #[.slice (some ⟨gw, 0, none⟩) l.wn kw, .slice (some ⟨gr, 0, none⟩) l.tn l.tn, .slice (some ⟨gp, 0, none⟩) l.tn l.tn, .slice (some ⟨gb, 0, none⟩) l.tn l.tn] rfl rfl 113 _ hx size_lst rfl (lst_one _ _ _ _ _ _ _ _ _ _ _ _) ?_
          refine hK5.out _ _ (HSt.out _ _ HB4.out) (fun _ => ?_)
          refine wpAnyH_take (i := 11) (v := .int .i64 0) rfl (by kernel_rfl) (by kernel_rfl) (by kernel_rfl) (fun _ _ _ h => h) (Or.inl ⟨by rfl, ?_⟩) (HSt.out _ _ HB4.out) ?_
          · (intro W hSw; (try dsimp only at hSw); go_simp)
          show wpAnyH _ _ _ _ _ _ _ (Act.put _ (some 3) _) _
          simp only [Act.put, List.setIfInBounds_toArray, List.set_cons_zero, List.set_cons_succ]
          refine wpAnyH_done (by kernel_rfl) ?_ _
          have HR := Lib.hid (setRow_heap V4 (w.heap.size + 1) _ (#[.slice (some ⟨gw, 0, none⟩) l.wn kw, .slice (some ⟨gr, 0, none⟩) l.tn l.tn, .slice (some ⟨gp, 0, none⟩) l.tn l.tn, .slice (some ⟨gb, 0, none⟩) l.tn l.tn]) _ _ hx)
          have HE := Lib.hid (beg_end HW1.out HB4.out (by omega) HRw4.out HRr4.out HRp4.out HRb4.out (by omega) ⟨by omega, by omega, by omega, by omega⟩)
          go_wp2_with fail
          refine bodyPost_ret_by (results_cell_row2 rfl _ _ (w.heap.size + 1) 113 _ (0, 0) _ rfl HR.out Try.underlying113 rfl size_lst) rfl ?_
          exact HE.out
    · rw [if_pos (by rfl)]
      refine wp_make _ _ _ 111 rfl w1.heap.size 278 i3 (.slice none 0 0) 1 Try.underlying111 hi3 hi3z hi3s .i64 .i64 _ _ l.tn rfl rfl rfl rfl (by rw [hi3b]; omega) (by simp only [maxLen]; omega) HB1.out.size ?_
      intro V2 hown9 hg9
      rw [made_nil _] at hown9
      have hb9 : Below V1.heap.size V1 V2 := (Below.refl _ _).grown hg9 (Nat.le_refl _) (fun q hq => by cases hq)
      have HB2 := Lib.hid (Below.step9 HB1.out hb9 (Nat.le_refl w1.heap.size))
      obtain ⟨gb, hgbe, hgb, hR9⟩ := Rw.of_own hown9 (by omega)
      injection hgbe with hgbe
      injection hgbe with hgb0 _
      rw [hgb0]
      have HRb2 := Lib.hid hR9
      have HRw2 := Lib.hid (HRw1.out.on hb9)
      have hlw1 := HRw1.out.lt
      clear hR9 hb9
      refine hK2.out _ _ (HSo.out _ HB2.out) (fun _ => ?_)
      refine wpAnyH_ready (rs := [4, 6]) (by kernel_rfl) (by simp) (AllReadyH.cons rfl (fun K3 hK3 => ?_) (AllReadyH.cons rfl (fun K3 hK3 => ?_) (AllReadyH.nil)))
      · rw [if_pos (by rfl)]
        refine wp_make _ _ _ 110 rfl w1.heap.size 173 i2 (.agg #[.int .i64 0, .int .i64 0, .int .i64 0, .int .i64 0]) 4 Try.underlying110 hi2 hi2z hi2s .i64 .i64 _ _ l.tn rfl rfl rfl rfl (by rw [hi2b]; omega) (by simp only [maxLen]; omega) HB2.out.size ?_
        intro V3 hown9 hg9
        rw [made_reg _ n2] at hown9
        have hb9 : Below V2.heap.size V2 V3 := (Below.refl _ _).grown hg9 (Nat.le_refl _) (fun q hq => by cases hq)
        have HB3 := Lib.hid (Below.step9 HB2.out hb9 (Nat.le_refl w1.heap.size))
        obtain ⟨gr, hgre, hgr, hR9⟩ := Rw.of_own hown9 (by omega)
        injection hgre with hgre
        injection hgre with hgr0 _
        rw [hgr0]
        have HRr3 := Lib.hid hR9
        have HRw3 := Lib.hid (HRw2.out.on hb9)
        have hlw2 := HRw2.out.lt
        have HRb3 := Lib.hid (HRb2.out.on hb9)
        have hlb2 := HRb2.out.lt
        clear hR9 hb9
        refine hK3.out _ _ (HSo.out _ HB3.out) (fun _ => ?_)
        refine wpAnyH_ready (rs := [6]) (by kernel_rfl) (by simp) (AllReadyH.cons rfl (fun K4 hK4 => ?_) (AllReadyH.nil))
        · rw [if_pos (by rfl)]
          refine wp_make _ _ _ 30 rfl w1.heap.size 3 i1 (.int .i64 0) 1 Try.underlying30 hi1 hi1z hi1s .i64 .i64 _ _ l.tn rfl rfl rfl rfl (by rw [hi1b]; omega) (by simp only [maxLen]; omega) HB3.out.size ?_
          intro V4 hown9 hg9
          rw [made_int _] at hown9
          have hb9 : Below V3.heap.size V3 V4 := (Below.refl _ _).grown hg9 (Nat.le_refl _) (fun q hq => by cases hq)
          have HB4 := Lib.hid (Below.step9 HB3.out hb9 (Nat.le_refl w1.heap.size))
          obtain ⟨gp, hgpe, hgp, hR9⟩ := Rw.of_own hown9 (by omega)
          injection hgpe with hgpe
          injection hgpe with hgp0 _
          rw [hgp0]
          have HRp4 := Lib.hid hR9
          have HRw4 := Lib.hid (HRw3.out.on hb9)
          have hlw3 := HRw3.out.lt
          have HRb4 := Lib.hid (HRb3.out.on hb9)
          have hlb3 := HRb3.out.lt
          have HRr4 := Lib.hid (HRr3.out.on hb9)
          have hlr3 := HRr3.out.lt
          clear hR9 hb9
          refine hK4.out _ _ (HSo.out _ HB4.out) (fun _ => ?_)
          refine wpAnyH_take (i := 9) (v := .agg #[.slice (some ⟨gw, 0, none⟩) l.wn kw, .slice (some ⟨gr, 0, none⟩) l.tn l.tn, .slice (some ⟨gp, 0, none⟩) l.tn l.tn, .slice (some ⟨gb, 0, none⟩) l.tn l.tn]) rfl (by kernel_rfl) (by kernel_rfl) (by kernel_rfl) (fun _ _ _ h => h) (Or.inl ⟨by rfl, ?_⟩) (HSo.out _ HB4.out) ?_
          · (intro W hSw; (try dsimp only at hSw); go_simp)
          show wpAnyH _ _ _ _ _ _ _ (Act.put _ (some 24) _) _
          simp only [Act.put, List.setIfInBounds_toArray, List.set_cons_zero, List.set_cons_succ]
          refine wpAnyH_ready (rs := [10]) (by kernel_rfl) (by simp) (AllReadyH.cons rfl (fun K5 hK5 => ?_) (AllReadyH.nil))
          rw [if_pos (by rfl)]
          have hx := HZ1.out.below HB4.out (by omega)
          refine wp_store_row _ _ _ rfl (w.heap.size + 1) #[.slice (some ⟨gw, 0, none⟩) l.wn kw, .slice (some ⟨gr, 0, none⟩) l.tn l.tn, .slice (some ⟨gp, 0, none⟩) l.tn l.tn, .slice (some ⟨gb, 0, none⟩) l.tn l.tn] rfl rfl 113 _ hx size_lst rfl (lst_one _ _ _ _ _ _ _ _ _ _ _ _) ?_
          refine hK5.out _ _ (HSt.out _ _ HB4.out) (fun _ => ?_)
          refine wpAnyH_take (i := 11) (v := .int .i64 0) rfl (by kernel_rfl) (by kernel_rfl) (by kernel_rfl) (fun _ _ _ h => h) (Or.inl ⟨by rfl, ?_⟩) (HSt.out _ _ HB4.out) ?_
          · (intro W hSw; (try dsimp only at hSw); go_simp)
          show wpAnyH _ _ _ _ _ _ _ (Act.put _ (some 3) _) _
          simp only [Act.put, List.setIfInBounds_toArray, List.set_cons_zero, List.set_cons_succ]
          refine wpAnyH_done (by kernel_rfl) ?_ _
          have HR := Lib.hid (setRow_heap V4 (w.heap.size + 1) _ (#[.slice (some ⟨gw, 0, none⟩) l.wn kw, .slice (some ⟨gr, 0, none⟩) l.tn l.tn, .slice (some ⟨gp, 0, none⟩) l.tn l.tn, .slice (some ⟨gb, 0, none⟩) l.tn l.tn]) _ _ hx)
          have HE := Lib.hid (beg_end HW1.out HB4.out (by omega) HRw4.out HRr4.out HRp4.out HRb4.out (by omega) ⟨by omega, by omega, by omega, by omega⟩)
          go_wp2_with fail
          refine bodyPost_ret_by (results_cell_row2 rfl _ _ (w.heap.size + 1) 113 _ (0, 0) _ rfl HR.out Try.underlying113 rfl size_lst) rfl ?_
          exact HE.out
      · rw [if_pos (by rfl)]
        refine wp_make _ _ _ 30 rfl w1.heap.size 3 i1 (.int .i64 0) 1 Try.underlying30 hi1 hi1z hi1s .i64 .i64 _ _ l.tn rfl rfl rfl rfl (by rw [hi1b]; omega) (by simp only [maxLen]; omega) HB2.out.size ?_
        intro V3 hown9 hg9
        rw [made_int _] at hown9
        have hb9 : Below V2.heap.size V2 V3 := (Below.refl _ _).grown hg9 (Nat.le_refl _) (fun q hq => by cases hq)
        have HB3 := Lib.hid (Below.step9 HB2.out hb9 (Nat.le_refl w1.heap.size))
        obtain ⟨gp, hgpe, hgp, hR9⟩ := Rw.of_own hown9 (by omega)
        injection hgpe with hgpe
        injection hgpe with hgp0 _
        rw [hgp0]
        have HRp3 := Lib.hid hR9
        have HRw3 := Lib.hid (HRw2.out.on hb9)
        have hlw2 := HRw2.out.lt
        have HRb3 := Lib.hid (HRb2.out.on hb9)
        have hlb2 := HRb2.out.lt
        clear hR9 hb9
        refine hK3.out _ _ (HSo.out _ HB3.out) (fun _ => ?_)
        refine wpAnyH_ready (rs := [4]) (by kernel_rfl) (by simp) (AllReadyH.cons rfl (fun K4 hK4 => ?_) (AllReadyH.nil))
        · rw [if_pos (by rfl)]
          refine wp_make _ _ _ 110 rfl w1.heap.size 173 i2 (.agg #[.int .i64 0, .int .i64 0, .int .i64 0, .int .i64 0]) 4 Try.underlying110 hi2 hi2z hi2s .i64 .i64 _ _ l.tn rfl rfl rfl rfl (by rw [hi2b]; omega) (by simp only [maxLen]; omega) HB3.out.size ?_
          intro V4 hown9 hg9
          rw [made_reg _ n2] at hown9
          have hb9 : Below V3.heap.size V3 V4 := (Below.refl _ _).grown hg9 (Nat.le_refl _) (fun q hq => by cases hq)
          have HB4 := Lib.hid (Below.step9 HB3.out hb9 (Nat.le_refl w1.heap.size))
          obtain ⟨gr, hgre, hgr, hR9⟩ := Rw.of_own hown9 (by omega)
          injection hgre with hgre
          injection hgre with hgr0 _
          rw [hgr0]
          have HRr4 := Lib.hid hR9
          have HRw4 := Lib.hid (HRw3.out.on hb9)
          have hlw3 := HRw3.out.lt
          have HRb4 := Lib.hid (HRb3.out.on hb9)
          have hlb3 := HRb3.out.lt
          have HRp4 := Lib.hid (HRp3.out.on hb9)
          have hlp3 := HRp3.out.lt
          clear hR9 hb9
          refine hK4.out _ _ (HSo.out _ HB4.out) (fun _ => ?_)
          refine wpAnyH_take (i := 9) (v := .agg #[.slice (some ⟨gw, 0, none⟩) l.wn kw, .slice (some ⟨gr, 0, none⟩) l.tn l.tn, .slice (some ⟨gp, 0, none⟩) l.tn l.tn, .slice (some ⟨gb, 0, none⟩) l.tn l.tn]) rfl (by kernel_rfl) (by kernel_rfl) (by kernel_rfl) (fun _ _ _ h => h) (Or.inl ⟨by rfl, ?_⟩) (HSo.out _ HB4.out) ?_
          · (intro W hSw; (try dsimp only at hSw); go_simp)
          show wpAnyH _ _ _ _ _ _ _ (Act.put _ (some 24) _) _
          simp only [Act.put, List.setIfInBounds_toArray, List.set_cons_zero, List.set_cons_succ]
          refine wpAnyH_ready (rs := [10]) (by kernel_rfl) (by simp) (AllReadyH.cons rfl (fun K5 hK5 => ?_) (AllReadyH.nil))
          rw [if_pos (by rfl)]
          have hx := HZ1.out.below HB4.out (by omega)
          refine wp_store_row _ _ _ rfl (w.heap.size + 1) #[.slice (some ⟨gw, 0, none⟩) l.wn kw, .slice (some ⟨gr, 0, none⟩) l.tn l.tn, .slice (some ⟨gp, 0, none⟩) l.tn l.tn, .slice (some ⟨gb, 0, none⟩) l.tn l.tn] rfl rfl 113 _ hx size_lst rfl (lst_one _ _ _ _ _ _ _ _ _ _ _ _) ?_
          refine hK5.out _ _ (HSt.out _ _ HB4.out) (fun _ => ?_)
          refine wpAnyH_take (i := 11) (v := .int .i64 0) rfl (by kernel_rfl) (by kernel_rfl) (by kernel_rfl) (fun _ _ _ h => h) (Or.inl ⟨by rfl, ?_⟩) (HSt.out _ _ HB4.out) ?_
          · (intro W hSw; (try dsimp only at hSw); go_simp)
          show wpAnyH _ _ _ _ _ _ _ (Act.put _ (some 3) _) _
          simp only [Act.put, List.setIfInBounds_toArray, List.set_cons_zero, List.set_cons_succ]
          refine wpAnyH_done (by kernel_rfl) ?_ _
          have HR := Lib.hid (setRow_heap V4 (w.heap.size + 1) _ (#[.slice (some ⟨gw, 0, none⟩) l.wn kw, .slice (some ⟨gr, 0, none⟩) l.tn l.tn, .slice (some ⟨gp, 0, none⟩) l.tn l.tn, .slice (some ⟨gb, 0, none⟩) l.tn l.tn]) _ _ hx)
          have HE := Lib.hid (beg_end HW1.out HB4.out (by omega) HRw4.out HRr4.out HRp4.out HRb4.out (by omega) ⟨by omega, by omega, by omega, by omega⟩)
          go_wp2_with fail
          refine bodyPost_ret_by (results_cell_row2 rfl _ _ (w.heap.size + 1) 113 _ (0, 0) _ rfl HR.out Try.underlying113 rfl size_lst) rfl ?_
          exact HE.out
  · rw [if_pos (by rfl)]
    refine wp_make _ _ _ 110 rfl w1.heap.size 173 i2 (.agg #[.int .i64 0, .int .i64 0, .int .i64 0, .int .i64 0]) 4 Try.underlying110 hi2 hi2z hi2s .i64 .i64 _ _ l.tn rfl rfl rfl rfl (by rw [hi2b]; omega) (by simp only [maxLen]; omega) HB0'.out.size ?_
    intro V1 hown9 hg9
    rw [made_reg _ n2] at hown9
    have hb9 : Below V0.heap.size V0 V1 := (Below.refl _ _).grown hg9 (Nat.le_refl _) (fun q hq => by cases hq)
    have HB1 := Lib.hid (Below.step9 HB0'.out hb9 (Nat.le_refl w1.heap.size))
    obtain ⟨gr, hgre, hgr, hR9⟩ := Rw.of_own hown9 (by omega)
    injection hgre with hgre
    injection hgre with hgr0 _
    rw [hgr0]
    have HRr1 := Lib.hid hR9
    clear hR9 hb9
    refine hK1.out _ _ (HSo.out _ HB1.out) (fun _ => ?_)
    refine wpAnyH_ready (rs := [2, 6, 8]) (by kernel_rfl) (by simp) (AllReadyH.cons rfl (fun K2 hK2 => ?_) (AllReadyH.cons rfl (fun K2 hK2 => ?_) (AllReadyH.cons rfl (fun K2 hK2 => ?_) (AllReadyH.nil))))
    · rw [if_pos (by rfl)]
      go_simp
      go_at_call 121
      refine (HCw.out _ HB1.out).mono ?_
      rintro e V2 ⟨gw, kw, rfl, hgw0, hR9, hb9⟩
      have HB2 := Lib.hid (Below.step9 HB1.out hb9 (Nat.le_refl w1.heap.size))
      have HRw2 := Lib.hid hR9
      have hgw : w1.heap.size ≤ gw := Nat.le_trans HB1.out.size hgw0
      have HRr2 := Lib.hid (HRr1.out.on hb9)
      have hlr1 := HRr1.out.lt
      clear hR9 hb9
      refine hK2.out _ _ (HSo.out _ HB2.out) (fun _ => ?_)
      refine wpAnyH_ready (rs := [6, 8]) (by kernel_rfl) (by simp) (AllReadyH.cons rfl (fun K3 hK3 => ?_) (AllReadyH.cons rfl (fun K3 hK3 => ?_) (AllReadyH.nil)))
      · rw [if_pos (by rfl)]
        refine wp_make _ _ _ 30 rfl w1.heap.size 3 i1 (.int .i64 0) 1 Try.underlying30 hi1 hi1z hi1s .i64 .i64 _ _ l.tn rfl rfl rfl rfl (by rw [hi1b]; omega) (by simp only [maxLen]; omega) HB2.out.size ?_
        intro V3 hown9 hg9
        rw [made_int _] at hown9
        have hb9 : Below V2.heap.size V2 V3 := (Below.refl _ _).grown hg9 (Nat.le_refl _) (fun q hq => by cases hq)
        have HB3 := Lib.hid (Below.step9 HB2.out hb9 (Nat.le_refl w1.heap.size))
        obtain ⟨gp, hgpe, hgp, hR9⟩ := Rw.of_own hown9 (by omega)
        injection hgpe with hgpe
        injection hgpe with hgp0 _
        rw [hgp0]
        have HRp3 := Lib.hid hR9
        have HRr3 := Lib.hid (HRr2.out.on hb9)
        have hlr2 := HRr2.out.lt
        have HRw3 := Lib.hid (HRw2.out.on hb9)
        have hlw2 := HRw2.out.lt
        clear hR9 hb9
        refine hK3.out _ _ (HSo.out _ HB3.out) (fun _ => ?_)
        refine wpAnyH_ready (rs := [8]) (by kernel_rfl) (by simp) (AllReadyH.cons rfl (fun K4 hK4 => ?_) (AllReadyH.nil))
        · rw [if_pos (by rfl)]
          refine wp_make _ _ _ 111 rfl w1.heap.size 278 i3 (.slice none 0 0) 1 Try.underlying111 hi3 hi3z hi3s .i64 .i64 _ _ l.tn rfl rfl rfl rfl (by rw [hi3b]; omega) (by simp only [maxLen]; omega) HB3.out.size ?_
          intro V4 hown9 hg9
          rw [made_nil _] at hown9
          have hb9 : Below V3.heap.size V3 V4 := (Below.refl _ _).grown hg9 (Nat.le_refl _) (fun q hq => by cases hq)
          have HB4 := Lib.hid (Below.step9 HB3.out hb9 (Nat.le_refl w1.heap.size))
          obtain ⟨gb, hgbe, hgb, hR9⟩ := Rw.of_own hown9 (by omega)
          injection hgbe with hgbe
          injection hgbe with hgb0 _
          rw [hgb0]
          have HRb4 := Lib.hid hR9
          have HRr4 := Lib.hid (HRr3.out.on hb9)
          have hlr3 := HRr3.out.lt
          have HRw4 := Lib.hid (HRw3.out.on hb9)
          have hlw3 := HRw3.out.lt
          have HRp4 := Lib.hid (HRp3.out.on hb9)
          have hlp3 := HRp3.out.lt
          clear hR9 hb9
          refine hK4.out _ _ (HSo.out _ HB4.out) (fun _ => ?_)
          refine wpAnyH_take (i := 9) (v := .agg #[.slice (some ⟨gw, 0, none⟩) l.wn kw, .slice (some ⟨gr, 0, none⟩) l.tn l.tn, .slice (some ⟨gp, 0, none⟩) l.tn l.tn, .slice (some ⟨gb, 0, none⟩) l.tn l.tn]) rfl (by kernel_rfl) (by kernel_rfl) (by kernel_rfl) (fun _ _ _ h => h) (Or.inl ⟨by rfl, ?_⟩) (HSo.out _ HB4.out) ?_
          · (intro W hSw; (try dsimp only at hSw); go_simp)
          show wpAnyH _ _ _ _ _ _ _ (Act.put _ (some 24) _) _
          simp only [Act.put, List.setIfInBounds_toArray, List.set_cons_zero, List.set_cons_succ]
          refine wpAnyH_ready (rs := [10]) (by kernel_rfl) (by simp) (AllReadyH.cons rfl (fun K5 hK5 => ?_) (AllReadyH.nil))
          rw [if_pos (by rfl)]
          have hx := HZ1.out.below HB4.out (by omega)
          refine wp_store_row _ _ _ rfl (w.heap.size + 1) #[.slice (some ⟨gw, 0, none⟩) l.wn kw, .slice (some ⟨gr, 0, none⟩) l.tn l.tn, .slice (some ⟨gp, 0, none⟩) l.tn l.tn, .slice (some ⟨gb, 0, none⟩) l.tn l.tn] rfl rfl 113 _ hx size_lst rfl (lst_one _ _ _ _ _ _ _ _ _ _ _ _) ?_
          refine hK5.out _ _ (HSt.out _ _ HB4.out) (fun _ => ?_)
          refine wpAnyH_take (i := 11) (v := .int .i64 0) rfl (by kernel_rfl) (by kernel_rfl) (by kernel_rfl) (fun _ _ _ h => h) (Or.inl ⟨by rfl, ?_⟩) (HSt.out _ _ HB4.out) ?_
          · (intro W hSw; (try dsimp only at hSw); go_simp)
          show wpAnyH _ _ _ _ _ _ _ (Act.put _ (some 3) _) _
          simp only [Act.put, List.setIfInBounds_toArray, List.set_cons_zero, List.set_cons_succ]
          refine wpAnyH_done (by kernel_rfl) ?_ _
          have HR := Lib.hid (setRow_heap V4 (w.heap.size + 1) _ (#[.slice (some ⟨gw, 0, none⟩) l.wn kw, .slice (some ⟨gr, 0, none⟩) l.tn l.tn, .slice (some ⟨gp, 0, none⟩) l.tn l.tn, .slice (some ⟨gb, 0, none⟩) l.tn l.tn]) _ _ hx)
          have HE := Lib.hid (beg_end HW1.out HB4.out (by omega) HRw4.out HRr4.out HRp4.out HRb4.out (by omega) ⟨by omega, by omega, by omega, by omega⟩)
          go_wp2_with fail
          refine bodyPost_ret_by (results_cell_row2 rfl _ _ (w.heap.size + 1) 113 _ (0, 0) _ rfl HR.out Try.underlying113 rfl size_lst) rfl ?_
          exact HE.out
      · rw [if_pos (by rfl)]
        refine wp_make _ _ _ 111 rfl w1.heap.size 278 i3 (.slice none 0 0) 1 Try.underlying111 hi3 hi3z hi3s .i64 .i64 _ _ l.tn rfl rfl rfl rfl (by rw [hi3b]; omega) (by simp only [maxLen]; omega) HB2.out.size ?_
        intro V3 hown9 hg9
        rw [made_nil _] at hown9
        have hb9 : Below V2.heap.size V2 V3 := (Below.refl _ _).grown hg9 (Nat.le_refl _) (fun q hq => by cases hq)
        have HB3 := Lib.hid (Below.step9 HB2.out hb9 (Nat.le_refl w1.heap.size))
        obtain ⟨gb, hgbe, hgb, hR9⟩ := Rw.of_own hown9 (by omega)
        injection hgbe with hgbe
        injection hgbe with hgb0 _
        rw [hgb0]
        have HRb3 := Lib.hid hR9
        have HRr3 := Lib.hid (HRr2.out.on hb9)
        have hlr2 := HRr2.out.lt
        have HRw3 := Lib.hid (HRw2.out.on hb9)
        have hlw2 := HRw2.out.lt
        clear hR9 hb9
        refine hK3.out _ _ (HSo.out _ HB3.out) (fun _ => ?_)
        refine wpAnyH_ready (rs := [6]) (by kernel_rfl) (by simp) (AllReadyH.cons rfl (fun K4 hK4 => ?_) (AllReadyH.nil))
        · rw [if_pos (by rfl)]
          refine wp_make _ _ _ 30 rfl w1.heap.size 3 i1 (.int .i64 0) 1 Try.underlying30 hi1 hi1z hi1s .i64 .i64 _ _ l.tn rfl rfl rfl rfl (by rw [hi1b]; omega) (by simp only [maxLen]; omega) HB3.out.size ?_
          intro V4 hown9 hg9
          rw [made_int _] at hown9
          have hb9 : Below V3.heap.size V3 V4 := (Below.refl _ _).grown hg9 (Nat.le_refl _) (fun q hq => by cases hq)
          have HB4 := Lib.hid (Below.step9 HB3.out hb9 (Nat.le_refl w1.heap.size))
          obtain ⟨gp, hgpe, hgp, hR9⟩ := Rw.of_own hown9 (by omega)
          injection hgpe with hgpe
          injection hgpe with hgp0 _
          rw [hgp0]
          have HRp4 := Lib.hid hR9
          have HRr4 := Lib.hid (HRr3.out.on hb9)
          have hlr3 := HRr3.out.lt
          have HRw4 := Lib.hid (HRw3.out.on hb9)
          have hlw3 := HRw3.out.lt
          have HRb4 := Lib.hid (HRb3.out.on hb9)
          have hlb3 := HRb3.out.lt
          clear hR9 hb9
          refine hK4.out _ _ (HSo.out _ HB4.out) (fun _ => ?_)
          refine wpAnyH_take (i := 9) (v := .agg #[.slice (some ⟨gw, 0, none⟩) l.wn kw, .slice (some ⟨gr, 0, none⟩) l.tn l.tn, .slice (some ⟨gp, 0, none⟩) l.tn l.tn, .slice (some ⟨gb, 0, none⟩) l.tn l.tn]) rfl (by kernel_rfl) (by kernel_rfl) (by kernel_rfl) (fun _ _ _ h => h) (Or.inl ⟨by rfl, ?_⟩) (HSo.out _ HB4.out) ?_
          · (intro W hSw; (try dsimp only at hSw); go_simp)
          show wpAnyH _ _ _ _ _ _ _ (Act.put _ (some 24) _) _
          simp only [Act.put, List.setIfInBounds_toArray, List.set_cons_zero, List.set_cons_succ]
          refine wpAnyH_ready (rs := [10]) (by kernel_rfl) (by simp) (AllReadyH.cons rfl (fun K5 hK5 => ?_) (AllReadyH.nil))
          rw [if_pos (by rfl)]
          have hx := HZ1.out.below HB4.out (by omega)
          refine wp_store_row _ _ _ rfl (w.heap.size + 1) #[.slice (some ⟨gw, 0, none⟩) l.wn kw, .slice (some ⟨gr, 0, none⟩) l.tn l.tn, .slice (some ⟨gp, 0, none⟩) l.tn l.tn, .slice (some ⟨gb, 0, none⟩) l.tn l.tn] rfl rfl 113 _ hx size_lst rfl (lst_one _ _ _ _ _ _ _ _ _ _ _ _) ?_
          refine hK5.out _ _ (HSt.out _ _ HB4.out) (fun _ => ?_)
          refine wpAnyH_take (i := 11) (v := .int .i64 0) rfl (by kernel_rfl) (by kernel_rfl) (by kernel_rfl) (fun _ _ _ h => h) (Or.inl ⟨by rfl, ?_⟩) (HSt.out _ _ HB4.out) ?_
          · (intro W hSw; (try dsimp only at hSw); go_simp)
          show wpAnyH _ _ _ _ _ _ _ (Act.put _ (some 3) _) _
          simp only [Act.put, List.setIfInBounds_toArray, List.set_cons_zero, List.set_cons_succ]
          refine wpAnyH_done (by kernel_rfl) ?_ _
          have HR := Lib.hid (setRow_heap V4 (w.heap.size + 1) _ (#[.slice (some ⟨gw, 0, none⟩) l.wn kw, .slice (some ⟨gr, 0, none⟩) l.tn l.tn, .slice (some ⟨gp, 0, none⟩) l.tn l.tn, .slice (some ⟨gb, 0, none⟩) l.tn l.tn]) _ _ hx)
          have HE := Lib.hid (beg_end HW1.out HB4.out (by omega) HRw4.out HRr4.out HRp4.out HRb4.out (by omega) ⟨by omega, by omega, by omega, by omega⟩)
          go_wp2_with fail
          refine bodyPost_ret_by (results_cell_row2 rfl _ _ (w.heap.size + 1) 113 _ (0, 0) _ rfl HR.out Try.underlying113 rfl size_lst) rfl ?_
          exact HE.out
    · rw [if_pos (by rfl)]
      refine wp_make _ _ _ 30 rfl w1.heap.size 3 i1 (.int .i64 0) 1 Try.underlying30 hi1 hi1z hi1s .i64 .i64 _ _ l.tn rfl rfl rfl rfl (by rw [hi1b]; omega) (by simp only [maxLen]; omega) HB1.out.size ?_
      intro V2 hown9 hg9
      rw [made_int _] at hown9
      have hb9 : Below V1.heap.size V1 V2 := (Below.refl _ _).grown hg9 (Nat.le_refl _) (fun q hq => by cases hq)
      have HB2 := Lib.hid (Below.step9 HB1.out hb9 (Nat.le_refl w1.heap.size))
      obtain ⟨gp, hgpe, hgp, hR9⟩ := Rw.of_own hown9 (by omega)
      injection hgpe with hgpe
      injection hgpe with hgp0 _
      rw [hgp0]
      have HRp2 := Lib.hid hR9
      have HRr2 := Lib.hid (HRr1.out.on hb9)
      have hlr1 := HRr1.out.lt
      clear hR9 hb9
      refine hK2.out _ _ (HSo.out _ HB2.out) (fun _ => ?_)
      refine wpAnyH_ready (rs := [2, 8]) (by kernel_rfl) (by simp) (AllReadyH.cons rfl (fun K3 hK3 => ?_) (AllReadyH.cons rfl (fun K3 hK3 => ?_) (AllReadyH.nil)))
      · rw [if_pos (by rfl)]
        go_simp
        go_at_call 121
        refine (HCw.out _ HB2.out).mono ?_
        rintro e V3 ⟨gw, kw, rfl, hgw0, hR9, hb9⟩
        have HB3 := Lib.hid (Below.step9 HB2.out hb9 (Nat.le_refl w1.heap.size))
        have HRw3 := Lib.hid hR9
        have hgw : w1.heap.size ≤ gw := Nat.le_trans HB2.out.size hgw0
        have HRr3 := Lib.hid (HRr2.out.on hb9)
        have hlr2 := HRr2.out.lt
        have HRp3 := Lib.hid (HRp2.out.on hb9)
        have hlp2 := HRp2.out.lt
        clear hR9 hb9
        refine hK3.out _ _ (HSo.out _ HB3.out) (fun _ => ?_)
        refine wpAnyH_ready (rs := [8]) (by kernel_rfl) (by simp) (AllReadyH.cons rfl (fun K4 hK4 => ?_) (AllReadyH.nil))
        · rw [if_pos (by rfl)]
          refine wp_make _ _ _ 111 rfl w1.heap.size 278 i3 (.slice none 0 0) 1 Try.underlying111 hi3 hi3z hi3s .i64 .i64 _ _ l.tn rfl rfl rfl rfl (by rw [hi3b]; omega) (by simp only [maxLen]; omega) HB3.out.size ?_
          intro V4 hown9 hg9
          rw [made_nil _] at hown9
          have hb9 : Below V3.heap.size V3 V4 := (Below.refl _ _).grown hg9 (Nat.le_refl _) (fun q hq => by cases hq)
          have HB4 := Lib.hid (Below.step9 HB3.out hb9 (Nat.le_refl w1.heap.size))
          obtain ⟨gb, hgbe, hgb, hR9⟩ := Rw.of_own hown9 (by omega)
          injection hgbe with hgbe
          injection hgbe with hgb0 _
          rw [hgb0]
          have HRb4 := Lib.hid hR9
          have HRr4 := Lib.hid (HRr3.out.on hb9)
          have hlr3 := HRr3.out.lt
          have HRp4 := Lib.hid (HRp3.out.on hb9)
          have hlp3 := HRp3.out.lt
          have HRw4 := Lib.hid (HRw3.out.on hb9)
          have hlw3 := HRw3.out.lt
          clear hR9 hb9
          refine hK4.out _ _ (HSo.out _ HB4.out) (fun _ => ?_)
          refine wpAnyH_take (i := 9) (v := .agg #[.slice (some ⟨gw, 0, none⟩) l.wn kw, .slice (some ⟨gr, 0, none⟩) l.tn l.tn, .slice (some ⟨gp, 0, none⟩) l.tn l.tn, .slice (some ⟨gb, 0, none⟩) l.tn l.tn]) rfl (by kernel_rfl) (by kernel_rfl) (by kernel_rfl) (fun _ _ _ h => h) (Or.inl ⟨by rfl, ?_⟩) (HSo.out _ HB4.out) ?_
          · (intro W hSw; (try dsimp only at hSw); go_simp)
          show wpAnyH _ _ _ _ _ _ _ (Act.put _ (some 24) _) _
          simp only [Act.put, List.setIfInBounds_toArray, List.set_cons_zero, List.set_cons_succ]
          refine wpAnyH_ready (rs := [10]) (by kernel_rfl) (by simp) (AllReadyH.cons rfl (fun K5 hK5 => ?_) (AllReadyH.nil))
          rw [if_pos (by rfl)]
          have hx := HZ1.out.below HB4.out (by omega)
          refine wp_store_row _ _ _ rfl (w.heap.size + 1) #[.slice (some ⟨gw, 0, none⟩) l.wn kw, .slice (some ⟨gr, 0, none⟩) l.tn l.tn, .slice (some ⟨gp, 0, none⟩) l.tn l.tn, .slice (some ⟨gb, 0, none⟩) l.tn l.tn] rfl rfl 113 _ hx size_lst rfl (lst_one _ _ _ _ _ _ _ _ _ _ _ _) ?_
          refine hK5.out _ _ (HSt.out _ _ HB4.out) (fun _ => ?_)
          refine wpAnyH_take (i := 11) (v := .int .i64 0) rfl (by kernel_rfl) (by kernel_rfl) (by kernel_rfl) (fun _ _ _ h => h) (Or.inl ⟨by rfl, ?_⟩) (HSt.out _ _ HB4.out) ?_
          · (intro W hSw; (try dsimp only at hSw); go_simp)
          show wpAnyH _ _ _ _ _ _ _ (Act.put _ (some 3) _) _
          simp only [Act.put, List.setIfInBounds_toArray, List.set_cons_zero, List.set_cons_succ]
          refine wpAnyH_done (by kernel_rfl) ?_ _
          have HR := Lib.hid (setRow_heap V4 (w.heap.size + 1) _ (#[.slice (some ⟨gw, 0, none⟩) l.wn kw, .slice (some ⟨gr, 0, none⟩) l.tn l.tn, .slice (some ⟨gp, 0, none⟩) l.tn l.tn, .slice (some ⟨gb, 0, none⟩) l.tn l.tn]) _ _ hx)
          have HE := Lib.hid (beg_end HW1.out HB4.out (by omega) HRw4.out HRr4.out HRp4.out HRb4.out (by omega) ⟨by omega, by omega, by omega, by omega⟩)
          go_wp2_with fail
          refine bodyPost_ret_by (results_cell_row2 rfl _ _ (w.heap.size + 1) 113 _ (0, 0) _ rfl HR.out Try.underlying113 rfl size_lst) rfl ?_
          exact HE.out
      · rw [if_pos (by rfl)]
        refine wp_make _ _ _ 111 rfl w1.heap.size 278 i3 (.slice none 0 0) 1 Try.underlying111 hi3 hi3z hi3s .i64 .i64 _ _ l.tn rfl rfl rfl rfl (by rw [hi3b]; omega) (by simp only [maxLen]; omega) HB2.out.size ?_
        intro V3 hown9 hg9
        rw [made_nil _] at hown9
        have hb9 : Below V2.heap.size V2 V3 := (Below.refl _ _).grown hg9 (Nat.le_refl _) (fun q hq => by cases hq)
        have HB3 := Lib.hid (Below.step9 HB2.out hb9 (Nat.le_refl w1.heap.size))
        obtain ⟨gb, hgbe, hgb, hR9⟩ := Rw.of_own hown9 (by omega)
        injection hgbe with hgbe
        injection hgbe with hgb0 _
        rw [hgb0]
        have HRb3 := Lib.hid hR9
        have HRr3 := Lib.hid (HRr2.out.on hb9)
        have hlr2 := HRr2.out.lt
        have HRp3 := Lib.hid (HRp2.out.on hb9)
        have hlp2 := HRp2.out.lt
        clear hR9 hb9
        refine hK3.out _ _ (HSo.out _ HB3.out) (fun _ => ?_)
        refine wpAnyH_ready (rs := [2]) (by kernel_rfl) (by simp) (AllReadyH.cons rfl (fun K4 hK4 => ?_) (AllReadyH.nil))
        · rw [if_pos (by rfl)]
          go_simp
          go_at_call 121
          refine (HCw.out _ HB3.out).mono ?_
          rintro e V4 ⟨gw, kw, rfl, hgw0, hR9, hb9⟩
          have HB4 := Lib.hid (Below.step9 HB3.out hb9 (Nat.le_refl w1.heap.size))
          have HRw4 := Lib.hid hR9
          have hgw : w1.heap.size ≤ gw := Nat.le_trans HB3.out.size hgw0
          have HRr4 := Lib.hid (HRr3.out.on hb9)
          have hlr3 := HRr3.out.lt
          have HRp4 := Lib.hid (HRp3.out.on hb9)
          have hlp3 := HRp3.out.lt
          have HRb4 := Lib.hid (HRb3.out.on hb9)
          have hlb3 := HRb3.out.lt
          clear hR9 hb9
          refine hK4.out _ _ (HSo.out _ HB4.out) (fun _ => ?_)
          refine wpAnyH_take (i := 9) (v := .agg #[.slice (some ⟨gw, 0, none⟩) l.wn kw, .slice (some ⟨gr, 0, none⟩) l.tn l.tn, .slice (some ⟨gp, 0, none⟩) l.tn l.tn, .slice (some ⟨gb, 0, none⟩) l.tn l.tn]) rfl (by kernel_rfl) (by kernel_rfl) (by kernel_rfl) (fun _ _ _ h => h) (Or.inl ⟨by rfl, ?_⟩) (HSo.out _ HB4.out) ?_
          · (intro W hSw; (try dsimp only at hSw); go_simp)
          show wpAnyH _ _ _ _ _ _ _ (Act.put _ (some 24) _) _
          simp only [Act.put, List.setIfInBounds_toArray, List.set_cons_zero, List.set_cons_succ]
          refine wpAnyH_ready (rs := [10]) (by kernel_rfl) (by simp) (AllReadyH.cons rfl (fun K5 hK5 => ?_) (AllReadyH.nil))
          rw [if_pos (by rfl)]
          have hx := HZ1.out.below HB4.out (by omega)
          refine wp_store_row _ _ _ rfl (w.heap.size + 1) #[.slice (some ⟨gw, 0, none⟩) l.wn kw, .slice (some ⟨gr, 0, none⟩) l.tn l.tn, .slice (some ⟨gp, 0, none⟩) l.tn l.tn, .slice (some ⟨gb, 0, none⟩) l.tn l.tn] rfl rfl 113 _ hx size_lst rfl (lst_one _ _ _ _ _ _ _ _ _ _ _ _) ?_
          refine hK5.out _ _ (HSt.out _ _ HB4.out) (fun _ => ?_)
          refine wpAnyH_take (i := 11) (v := .int .i64 0) rfl (by kernel_rfl) (by kernel_rfl) (by kernel_rfl) (fun _ _ _ h => h) (Or.inl ⟨by rfl, ?_⟩) (HSt.out _ _ HB4.out) ?_
          · (intro W hSw; (try dsimp only at hSw); go_simp)
          show wpAnyH _ _ _ _ _ _ _ (Act.put _ (some 3) _) _
          simp only [Act.put, List.setIfInBounds_toArray, List.set_cons_zero, List.set_cons_succ]
          refine wpAnyH_done (by kernel_rfl) ?_ _
          have HR := Lib.hid (setRow_heap V4 (w.heap.size + 1) _ (#[.slice (some ⟨gw, 0, none⟩) l.wn kw, .slice (some ⟨gr, 0, none⟩) l.tn l.tn, .slice (some ⟨gp, 0, none⟩) l.tn l.tn, .slice (some ⟨gb, 0, none⟩) l.tn l.tn]) _ _ hx)
          have HE := Lib.hid (beg_end HW1.out HB4.out (by omega) HRw4.out HRr4.out HRp4.out HRb4.out (by omega) ⟨by omega, by omega, by omega, by omega⟩)
          go_wp2_with fail
          refine bodyPost_ret_by (results_cell_row2 rfl _ _ (w.heap.size + 1) 113 _ (0, 0) _ rfl HR.out Try.underlying113 rfl size_lst) rfl ?_
          exact HE.out
    · rw [if_pos (by rfl)]
      refine wp_make _ _ _ 111 rfl w1.heap.size 278 i3 (.slice none 0 0) 1 Try.underlying111 hi3 hi3z hi3s .i64 .i64 _ _ l.tn rfl rfl rfl rfl (by rw [hi3b]; omega) (by simp only [maxLen]; omega) HB1.out.size ?_
      intro V2 hown9 hg9
      rw [made_nil _] at hown9
      have hb9 : Below V1.heap.size V1 V2 := (Below.refl _ _).grown hg9 (Nat.le_refl _) (fun q hq => by cases hq)
      have HB2 := Lib.hid (Below.step9 HB1.out hb9 (Nat.le_refl w1.heap.size))
      obtain ⟨gb, hgbe, hgb, hR9⟩ := Rw.of_own hown9 (by omega)
      injection hgbe with hgbe
      injection hgbe with hgb0 _
      rw [hgb0]
      have HRb2 := Lib.hid hR9
      have HRr2 := Lib.hid (HRr1.out.on hb9)
      have hlr1 := HRr1.out.lt
      clear hR9 hb9
      refine hK2.out _ _ (HSo.out _ HB2.out) (fun _ => ?_)
      refine wpAnyH_ready (rs := [2, 6]) (by kernel_rfl) (by simp) (AllReadyH.cons rfl (fun K3 hK3 => ?_) (AllReadyH.cons rfl (fun K3 hK3 => ?_) (AllReadyH.nil)))
      · rw [if_pos (by rfl)]
        go_simp
        go_at_call 121
        refine (HCw.out _ HB2.out).mono ?_
        rintro e V3 ⟨gw, kw, rfl, hgw0, hR9, hb9⟩
        have HB3 := Lib.hid (Below.step9 HB2.out hb9 (Nat.le_refl w1.heap.size))
        have HRw3 := Lib.hid hR9
        have hgw : w1.heap.size ≤ gw := Nat.le_trans HB2.out.size hgw0
        have HRr3 := Lib.hid (HRr2.out.on hb9)
        have hlr2 := HRr2.out.lt
        have HRb3 := Lib.hid (HRb2.out.on hb9)
        have hlb2 := HRb2.out.lt
        clear hR9 hb9
        refine hK3.out _ _ (HSo.out _ HB3.out) (fun _ => ?_)
        refine wpAnyH_ready (rs := [6]) (by kernel_rfl) (by simp) (AllReadyH.cons rfl (fun K4 hK4 => ?_) (AllReadyH.nil))
        · rw [if_pos (by rfl)]
          refine wp_make _ _ _ 30 rfl w1.heap.size 3 i1 (.int .i64 0) 1 Try.underlying30 hi1 hi1z hi1s .i64 .i64 _ _ l.tn rfl rfl rfl rfl (by rw [hi1b]; omega) (by simp only [maxLen]; omega) HB3.out.size ?_
          intro V4 hown9 hg9
          rw [made_int _] at hown9
          have hb9 : Below V3.heap.size V3 V4 := (Below.refl _ _).grown hg9 (Nat.le_refl _) (fun q hq => by cases hq)
          have HB4 := Lib.hid (Below.step9 HB3.out hb9 (Nat.le_refl w1.heap.size))
          obtain ⟨gp, hgpe, hgp, hR9⟩ := Rw.of_own hown9 (by omega)
          injection hgpe with hgpe
          injection hgpe with hgp0 _
          rw [hgp0]
          have HRp4 := Lib.hid hR9
          have HRr4 := Lib.hid (HRr3.out.on hb9)
          have hlr3 := HRr3.out.lt
          have HRb4 := Lib.hid (HRb3.out.on hb9)
          have hlb3 := HRb3.out.lt
          have HRw4 := Lib.hid (HRw3.out.on hb9)
          have hlw3 := HRw3.out.lt
          clear hR9 hb9
          refine hK4.out _ _ (HSo.out _ HB4.out) (fun _ => ?_)
          refine wpAnyH_take (i := 9) (v := .agg #[.slice (some ⟨gw, 0, none⟩) l.wn kw, .slice (some ⟨gr, 0, none⟩) l.tn l.tn, .slice (some ⟨gp, 0, none⟩) l.tn l.tn, .slice (some ⟨gb, 0, none⟩) l.tn l.tn]) rfl (by kernel_rfl) (by kernel_rfl) (by kernel_rfl) (fun _ _ _ h => h) (Or.inl ⟨by rfl, ?_⟩) (HSo.out _ HB4.out) ?_
          · (intro W hSw; (try dsimp only at hSw); go_simp)
          show wpAnyH _ _ _ _ _ _ _ (Act.put _ (some 24) _) _
          simp only [Act.put, List.setIfInBounds_toArray, List.set_cons_zero, List.set_cons_succ]
          refine wpAnyH_ready (rs := [10]) (by kernel_rfl) (by simp) (AllReadyH.cons rfl (fun K5 hK5 => ?_) (AllReadyH.nil))
          rw [if_pos (by rfl)]
          have hx := HZ1.out.below HB4.out (by omega)
          refine wp_store_row _ _ _ rfl (w.heap.size + 1) #[.slice (some ⟨gw, 0, none⟩) l.wn kw, .slice (some ⟨gr, 0, none⟩) l.tn l.tn, .slice (some ⟨gp, 0, none⟩) l.tn l.tn, .slice (some ⟨gb, 0, none⟩) l.tn l.tn] rfl rfl 113 _ hx size_lst rfl (lst_one _ _ _ _ _ _ _ _ _ _ _ _) ?_
          refine hK5.out _ _ (HSt.out _ _ HB4.out) (fun _ => ?_)
          refine wpAnyH_take (i := 11) (v := .int .i64 0) rfl (by kernel_rfl) (by kernel_rfl) (by kernel_rfl) (fun _ _ _ h => h) (Or.inl ⟨by rfl, ?_⟩) (HSt.out _ _ HB4.out) ?_
          · (intro W hSw; (try dsimp only at hSw); go_simp)
          show wpAnyH _ _ _ _ _ _ _ (Act.put _ (some 3) _) _
          simp only [Act.put, List.setIfInBounds_toArray, List.set_cons_zero, List.set_cons_succ]
          refine wpAnyH_done (by kernel_rfl) ?_ _
          have HR := Lib.hid (setRow_heap V4 (w.heap.size + 1) _ (#[.slice (some ⟨gw, 0, none⟩) l.wn kw, .slice (some ⟨gr, 0, none⟩) l.tn l.tn, .slice (some ⟨gp, 0, none⟩) l.tn l.tn, .slice (some ⟨gb, 0, none⟩) l.tn l.tn]) _ _ hx)
          have HE := Lib.hid (beg_end HW1.out HB4.out (by omega) HRw4.out HRr4.out HRp4.out HRb4.out (by omega) ⟨by omega, by omega, by omega, by omega⟩)
          go_wp2_with fail
          refine bodyPost_ret_by (results_cell_row2 rfl _ _ (w.heap.size + 1) 113 _ (0, 0) _ rfl HR.out Try.underlying113 rfl size_lst) rfl ?_
          exact HE.out
      · rw [if_pos (by rfl)]
        refine wp_make _ _ _ 30 rfl w1.heap.size 3 i1 (.int .i64 0) 1 Try.underlying30 hi1 hi1z hi1s .i64 .i64 _ _ l.tn rfl rfl rfl rfl (by rw [hi1b]; omega) (by simp only [maxLen]; omega) HB2.out.size ?_
        intro V3 hown9 hg9
        rw [made_int _] at hown9
        have hb9 : Below V2.heap.size V2 V3 := (Below.refl _ _).grown hg9 (Nat.le_refl _) (fun q hq => by cases hq)
        have HB3 := Lib.hid (Below.step9 HB2.out hb9 (Nat.le_refl w1.heap.size))
        obtain ⟨gp, hgpe, hgp, hR9⟩ := Rw.of_own hown9 (by omega)
        injection hgpe with hgpe
        injection hgpe with hgp0 _
        rw [hgp0]
        have HRp3 := Lib.hid hR9
        have HRr3 := Lib.hid (HRr2.out.on hb9)
        have hlr2 := HRr2.out.lt
        have HRb3 := Lib.hid (HRb2.out.on hb9)
        have hlb2 := HRb2.out.lt
        clear hR9 hb9
        refine hK3.out _ _ (HSo.out _ HB3.out) (fun _ => ?_)
        refine wpAnyH_ready (rs := [2]) (by kernel_rfl) (by simp) (AllReadyH.cons rfl (fun K4 hK4 => ?_) (AllReadyH.nil))
        · rw [if_pos (by rfl)]
          go_simp
          go_at_call 121
          refine (HCw.out _ HB3.out).mono ?_
          rintro e V4 ⟨gw, kw, rfl, hgw0, hR9, hb9⟩
          have HB4 := Lib.hid (Below.step9 HB3.out hb9 (Nat.le_refl w1.heap.size))
          have HRw4 := Lib.hid hR9
          have hgw : w1.heap.size ≤ gw := Nat.le_trans HB3.out.size hgw0
          have HRr4 := Lib.hid (HRr3.out.on hb9)
          have hlr3 := HRr3.out.lt
          have HRb4 := Lib.hid (HRb3.out.on hb9)
          have hlb3 := HRb3.out.lt
          have HRp4 := Lib.hid (HRp3.out.on hb9)
          have hlp3 := HRp3.out.lt
          clear hR9 hb9
          refine hK4.out _ _ (HSo.out _ HB4.out) (fun _ => ?_)
          refine wpAnyH_take (i := 9) (v := .agg #[.slice (some ⟨gw, 0, none⟩) l.wn kw, .slice (some ⟨gr, 0, none⟩) l.tn l.tn, .slice (some ⟨gp, 0, none⟩) l.tn l.tn, .slice (some ⟨gb, 0, none⟩) l.tn l.tn]) rfl (by kernel_rfl) (by kernel_rfl) (by kernel_rfl) (fun _ _ _ h => h) (Or.inl ⟨by rfl, ?_⟩) (HSo.out _ HB4.out) ?_
          · (intro W hSw; (try dsimp only at hSw); go_simp)
          show wpAnyH _ _ _ _ _ _ _ (Act.put _ (some 24) _) _
          simp only [Act.put, List.setIfInBounds_toArray, List.set_cons_zero, List.set_cons_succ]
          refine wpAnyH_ready (rs := [10]) (by kernel_rfl) (by simp) (AllReadyH.cons rfl (fun K5 hK5 => ?_) (AllReadyH.nil))
          rw [if_pos (by rfl)]
          have hx := HZ1.out.below HB4.out (by omega)
          refine wp_store_row _ _ _ rfl (w.heap.size + 1) #[.slice (some ⟨gw, 0, none⟩) l.wn kw, .slice (some ⟨gr, 0, none⟩) l.tn l.tn, .slice (some ⟨gp, 0, none⟩) l.tn l.tn, .slice (some ⟨gb, 0, none⟩) l.tn l.tn] rfl rfl 113 _ hx size_lst rfl (lst_one _ _ _ _ _ _ _ _ _ _ _ _) ?_
          refine hK5.out _ _ (HSt.out _ _ HB4.out) (fun _ => ?_)
          refine wpAnyH_take (i := 11) (v := .int .i64 0) rfl (by kernel_rfl) (by kernel_rfl) (by kernel_rfl) (fun _ _ _ h => h) (Or.inl ⟨by rfl, ?_⟩) (HSt.out _ _ HB4.out) ?_
          · (intro W hSw; (try dsimp only at hSw); go_simp)
          show wpAnyH _ _ _ _ _ _ _ (Act.put _ (some 3) _) _
          simp only [Act.put, List.setIfInBounds_toArray, List.set_cons_zero, List.set_cons_succ]
          refine wpAnyH_done (by kernel_rfl) ?_ _
          have HR := Lib.hid (setRow_heap V4 (w.heap.size + 1) _ (#[.slice (some ⟨gw, 0, none⟩) l.wn kw, .slice (some ⟨gr, 0, none⟩) l.tn l.tn, .slice (some ⟨gp, 0, none⟩) l.tn l.tn, .slice (some ⟨gb, 0, none⟩) l.tn l.tn]) _ _ hx)
          have HE := Lib.hid (beg_end HW1.out HB4.out (by omega) HRw4.out HRr4.out HRp4.out HRb4.out (by omega) ⟨by omega, by omega, by omega, by omega⟩)
          go_wp2_with fail
          refine bodyPost_ret_by (results_cell_row2 rfl _ _ (w.heap.size + 1) 113 _ (0, 0) _ rfl HR.out Try.underlying113 rfl size_lst) rfl ?_
          exact HE.out
  · rw [if_pos (by rfl)]
    refine wp_make _ _ _ 30 rfl w1.heap.size 3 i1 (.int .i64 0) 1 Try.underlying30 hi1 hi1z hi1s .i64 .i64 _ _ l.tn rfl rfl rfl rfl (by rw [hi1b]; omega) (by simp only [maxLen]; omega) HB0'.out.size ?_
    intro V1 hown9 hg9
    rw [made_int _] at hown9
    have hb9 : Below V0.heap.size V0 V1 := (Below.refl _ _).grown hg9 (Nat.le_refl _) (fun q hq => by cases hq)
    have HB1 := Lib.hid (Below.step9 HB0'.out hb9 (Nat.le_refl w1.heap.size))
    obtain ⟨gp, hgpe, hgp, hR9⟩ := Rw.of_own hown9 (by omega)
    injection hgpe with hgpe
    injection hgpe with hgp0 _
    rw [hgp0]
    have HRp1 := Lib.hid hR9
    clear hR9 hb9
    refine hK1.out _ _ (HSo.out _ HB1.out) (fun _ => ?_)
    refine wpAnyH_ready (rs := [2, 4, 8]) (by kernel_rfl) (by simp) (AllReadyH.cons rfl (fun K2 hK2 => ?_) (AllReadyH.cons rfl (fun K2 hK2 => ?_) (AllReadyH.cons rfl (fun K2 hK2 => ?_) (AllReadyH.nil))))
    · rw [if_pos (by rfl)]
      go_simp
      go_at_call 121
      refine (HCw.out _ HB1.out).mono ?_
      rintro e V2 ⟨gw, kw, rfl, hgw0, hR9, hb9⟩
      have HB2 := Lib.hid (Below.step9 HB1.out hb9 (Nat.le_refl w1.heap.size))
      have HRw2 := Lib.hid hR9
      have hgw : w1.heap.size ≤ gw := Nat.le_trans HB1.out.size hgw0
      have HRp2 := Lib.hid (HRp1.out.on hb9)
      have hlp1 := HRp1.out.lt
      clear hR9 hb9
      refine hK2.out _ _ (HSo.out _ HB2.out) (fun _ => ?_)
      refine wpAnyH_ready (rs := [4, 8]) (by kernel_rfl) (by simp) (AllReadyH.cons rfl (fun K3 hK3 => ?_) (AllReadyH.cons rfl (fun K3 hK3 => ?_) (AllReadyH.nil)))
      · rw [if_pos (by rfl)]
        refine wp_make _ _ _ 110 rfl w1.heap.size 173 i2 (.agg #[.int .i64 0, .int .i64 0, .int .i64 0, .int .i64 0]) 4 Try.underlying110 hi2 hi2z hi2s .i64 .i64 _ _ l.tn rfl rfl rfl rfl (by rw [hi2b]; omega) (by simp only [maxLen]; omega) HB2.out.size ?_
        intro V3 hown9 hg9
        rw [made_reg _ n2] at hown9
        have hb9 : Below V2.heap.size V2 V3 := (Below.refl _ _).grown hg9 (Nat.le_refl _) (fun q hq => by cases hq)
        have HB3 := Lib.hid (Below.step9 HB2.out hb9 (Nat.le_refl w1.heap.size))
        obtain ⟨gr, hgre, hgr, hR9⟩ := Rw.of_own hown9 (by omega)
        injection hgre with hgre
        injection hgre with hgr0 _
        rw [hgr0]
        have HRr3 := Lib.hid hR9
        have HRp3 := Lib.hid (HRp2.out.on hb9)
        have hlp2 := HRp2.out.lt
        have HRw3 := Lib.hid (HRw2.out.on hb9)
        have hlw2 := HRw2.out.lt
        clear hR9 hb9
        refine hK3.out _ _ (HSo.out _ HB3.out) (fun _ => ?_)
        refine wpAnyH_ready (rs := [8]) (by kernel_rfl) (by simp) (AllReadyH.cons rfl (fun K4 hK4 => ?_) (AllReadyH.nil))
        · rw [if_pos (by rfl)]
          refine wp_make _ _ _ 111 rfl w1.heap.size 278 i3 (.slice none 0 0) 1 Try.underlying111 hi3 hi3z hi3s .i64 .i64 _ _ l.tn rfl rfl rfl rfl (by rw [hi3b]; omega) (by simp only [maxLen]; omega) HB3.out.size ?_
          intro V4 hown9 hg9
          rw [made_nil _] at hown9
          have hb9 : Below V3.heap.size V3 V4 := (Below.refl _ _).grown hg9 (Nat.le_refl _) (fun q hq => by cases hq)
          have HB4 := Lib.hid (Below.step9 HB3.out hb9 (Nat.le_refl w1.heap.size))
          obtain ⟨gb, hgbe, hgb, hR9⟩ := Rw.of_own hown9 (by omega)
          injection hgbe with hgbe
          injection hgbe with hgb0 _
          rw [hgb0]
          have HRb4 := Lib.hid hR9
          have HRp4 := Lib.hid (HRp3.out.on hb9)
          have hlp3 := HRp3.out.lt
          have HRw4 := Lib.hid (HRw3.out.on hb9)
          have hlw3 := HRw3.out.lt
          have HRr4 := Lib.hid (HRr3.out.on hb9)
          have hlr3 := HRr3.out.lt
          clear hR9 hb9
          refine hK4.out _ _ (HSo.out _ HB4.out) (fun _ => ?_)
          refine wpAnyH_take (i := 9) (v := .agg #[.slice (some ⟨gw, 0, none⟩) l.wn kw, .slice (some ⟨gr, 0, none⟩) l.tn l.tn, .slice (some ⟨gp, 0, none⟩) l.tn l.tn, .slice (some ⟨gb, 0, none⟩) l.tn l.tn]) rfl (by kernel_rfl) (by kernel_rfl) (by kernel_rfl) (fun _ _ _ h => h) (Or.inl ⟨by rfl, ?_⟩) (HSo.out _ HB4.out) ?_
          · (intro W hSw; (try dsimp only at hSw); go_simp)
          show wpAnyH _ _ _ _ _ _ _ (Act.put _ (some 24) _) _
          simp only [Act.put, List.setIfInBounds_toArray, List.set_cons_zero, List.set_cons_succ]
          refine wpAnyH_ready (rs := [10]) (by kernel_rfl) (by simp) (AllReadyH.cons rfl (fun K5 hK5 => ?_) (AllReadyH.nil))
          rw [if_pos (by rfl)]
          have hx := HZ1.out.below HB4.out (by omega)
          refine wp_store_row _ _ _ rfl (w.heap.size + 1) #[.slice (some ⟨gw, 0, none⟩) l.wn kw, .slice (some ⟨gr, 0, none⟩) l.tn l.tn, .slice (some ⟨gp, 0, none⟩) l.tn l.tn, .slice (some ⟨gb, 0, none⟩) l.tn l.tn] rfl rfl 113 _ hx size_lst rfl (lst_one _ _ _ _ _ _ _ _ _ _ _ _) ?_
          refine hK5.out _ _ (HSt.out _ _ HB4.out) (fun _ => ?_)
          refine wpAnyH_take (i := 11) (v := .int .i64 0) rfl (by kernel_rfl) (by kernel_rfl) (by kernel_rfl) (fun _ _ _ h => h) (Or.inl ⟨by rfl, ?_⟩) (HSt.out _ _ HB4.out) ?_
          · (intro W hSw; (try dsimp only at hSw); go_simp)
          show wpAnyH _ _ _ _ _ _ _ (Act.put _ (some 3) _) _
          simp only [Act.put, List.setIfInBounds_toArray, List.set_cons_zero, List.set_cons_succ]
          refine wpAnyH_done (by kernel_rfl) ?_ _
          have HR := Lib.hid (setRow_heap V4 (w.heap.size + 1) _ (#[.slice (some ⟨gw, 0, none⟩) l.wn kw, .slice (some ⟨gr, 0, none⟩) l.tn l.tn, .slice (some ⟨gp, 0, none⟩) l.tn l.tn, .slice (some ⟨gb, 0, none⟩) l.tn l.tn]) _ _ hx)
          have HE := Lib.hid (beg_end HW1.out HB4.out (by omega) HRw4.out HRr4.out HRp4.out HRb4.out (by omega) ⟨by omega, by omega, by omega, by omega⟩)
          go_wp2_with fail
          refine bodyPost_ret_by (results_cell_row2 rfl _ _ (w.heap.size + 1) 113 _ (0, 0) _ rfl HR.out Try.underlying113 rfl size_lst) rfl ?_
          exact HE.out
      · rw [if_pos (by rfl)]
        refine wp_make _ _ _ 111 rfl w1.heap.size 278 i3 (.slice none 0 0) 1 Try.underlying111 hi3 hi3z hi3s .i64 .i64 _ _ l.tn rfl rfl rfl rfl (by rw [hi3b]; omega) (by simp only [maxLen]; omega) HB2.out.size ?_
        intro V3 hown9 hg9
        rw [made_nil _] at hown9
        have hb9 : Below V2.heap.size V2 V3 := (Below.refl _ _).grown hg9 (Nat.le_refl _) (fun q hq => by cases hq)
        have HB3 := Lib.hid (Below.step9 HB2.out hb9 (Nat.le_refl w1.heap.size))
        obtain ⟨gb, hgbe, hgb, hR9⟩ := Rw.of_own hown9 (by omega)
        injection hgbe with hgbe
        injection hgbe with hgb0 _
        rw [hgb0]
        have HRb3 := Lib.hid hR9
        have HRp3 := Lib.hid (HRp2.out.on hb9)
        have hlp2 := HRp2.out.lt
        have HRw3 := Lib.hid (HRw2.out.on hb9)
        have hlw2 := HRw2.out.lt
        clear hR9 hb9
        refine hK3.out _ _ (HSo.out _ HB3.out) (fun _ => ?_)
        refine wpAnyH_ready (rs := [4]) (by kernel_rfl) (by simp) (AllReadyH.cons rfl (fun K4 hK4 => ?_) (AllReadyH.nil))
        · rw [if_pos (by rfl)]
          refine wp_make _ _ _ 110 rfl w1.heap.size 173 i2 (.agg #[.int .i64 0, .int .i64 0, .int .i64 0, .int .i64 0]) 4 Try.underlying110 hi2 hi2z hi2s .i64 .i64 _ _ l.tn rfl rfl rfl rfl (by rw [hi2b]; omega) (by simp only [maxLen]; omega) HB3.out.size ?_
          intro V4 hown9 hg9
          rw [made_reg _ n2] at hown9
          have hb9 : Below V3.heap.size V3 V4 := (Below.refl _ _).grown hg9 (Nat.le_refl _) (fun q hq => by cases hq)
          have HB4 := Lib.hid (Below.step9 HB3.out hb9 (Nat.le_refl w1.heap.size))
          obtain ⟨gr, hgre, hgr, hR9⟩ := Rw.of_own hown9 (by omega)
          injection hgre with hgre
          injection hgre with hgr0 _
          rw [hgr0]
          have HRr4 := Lib.hid hR9
          have HRp4 := Lib.hid (HRp3.out.on hb9)
          have hlp3 := HRp3.out.lt
          have HRw4 := Lib.hid (HRw3.out.on hb9)
          have hlw3 := HRw3.out.lt
          have HRb4 := Lib.hid (HRb3.out.on hb9)
          have hlb3 := HRb3.out.lt
          clear hR9 hb9
          refine hK4.out _ _ (HSo.out _ HB4.out) (fun _ => ?_)
          refine wpAnyH_take (i := 9) (v := .agg #[.slice (some ⟨gw, 0, none⟩) l.wn kw, .slice (some ⟨gr, 0, none⟩) l.tn l.tn, .slice (some ⟨gp, 0, none⟩) l.tn l.tn, .slice (some ⟨gb, 0, none⟩) l.tn l.tn]) rfl (by kernel_rfl) (by kernel_rfl) (by kernel_rfl) (fun _ _ _ h => h) (Or.inl ⟨by rfl, ?_⟩) (HSo.out _ HB4.out) ?_
          · (intro W hSw; (try dsimp only at hSw); go_simp)
          show wpAnyH _ _ _ _ _ _ _ (Act.put _ (some 24) _) _
          simp only [Act.put, List.setIfInBounds_toArray, List.set_cons_zero, List.set_cons_succ]
          refine wpAnyH_ready (rs := [10]) (by kernel_rfl) (by simp) (AllReadyH.cons rfl (fun K5 hK5 => ?_) (AllReadyH.nil))
          rw [if_pos (by rfl)]
          have hx := HZ1.out.below HB4.out (by omega)
          refine wp_store_row _ _ _ rfl (w.heap.size + 1) #[.slice (some ⟨gw, 0, none⟩) l.wn kw, .slice (some ⟨gr, 0, none⟩) l.tn l.tn, .slice (some ⟨gp, 0, none⟩) l.tn l.tn, .slice (some ⟨gb, 0, none⟩) l.tn l.tn] rfl rfl 113 _ hx size_lst rfl (lst_one _ _ _ _ _ _ _ _ _ _ _ _) ?_
          refine hK5.out _ _ (HSt.out _ _ HB4.out) (fun _ => ?_)
          refine wpAnyH_take (i := 11) (v := .int .i64 0) rfl (by kernel_rfl) (by kernel_rfl) (by kernel_rfl) (fun _ _ _ h => h) (Or.inl ⟨by rfl, ?_⟩) (HSt.out _ _ HB4.out) ?_
          · (intro W hSw; (try dsimp only at hSw); go_simp)
          show wpAnyH _ _ _ _ _ _ _ (Act.put _ (some 3) _) _
          simp only [Act.put, List.setIfInBounds_toArray, List.set_cons_zero, List.set_cons_succ]
          refine wpAnyH_done (by kernel_rfl) ?_ _
          have HR := Lib.hid (setRow_heap V4 (w.heap.size + 1) _ (#[.slice (some ⟨gw, 0, none⟩) l.wn kw, .slice (some ⟨gr, 0, none⟩) l.tn l.tn, .slice (some ⟨gp, 0, none⟩) l.tn l.tn, .slice (some ⟨gb, 0, none⟩) l.tn l.tn]) _ _ hx)
          have HE := Lib.hid (beg_end HW1.out HB4.out (by omega) HRw4.out HRr4.out HRp4.out HRb4.out (by omega) ⟨by omega, by omega, by omega, by omega⟩)
          go_wp2_with fail
          refine bodyPost_ret_by (results_cell_row2 rfl _ _ (w.heap.size + 1) 113 _ (0, 0) _ rfl HR.out Try.underlying113 rfl size_lst) rfl ?_
          exact HE.out
    · rw [if_pos (by rfl)]
      refine wp_make _ _ _ 110 rfl w1.heap.size 173 i2 (.agg #[.int .i64 0, .int .i64 0, .int .i64 0, .int .i64 0]) 4 Try.underlying110 hi2 hi2z hi2s .i64 .i64 _ _ l.tn rfl rfl rfl rfl (by rw [hi2b]; omega) (by simp only [maxLen]; omega) HB1.out.size ?_
      intro V2 hown9 hg9
      rw [made_reg _ n2] at hown9
      have hb9 : Below V1.heap.size V1 V2 := (Below.refl _ _).grown hg9 (Nat.le_refl _) (fun q hq => by cases hq)
      have HB2 := Lib.hid (Below.step9 HB1.out hb9 (Nat.le_refl w1.heap.size))
      obtain ⟨gr, hgre, hgr, hR9⟩ := Rw.of_own hown9 (by omega)
      injection hgre with hgre
      injection hgre with hgr0 _
      rw [hgr0]
      have HRr2 := Lib.hid hR9
      have HRp2 := Lib.hid (HRp1.out.on hb9)
      have hlp1 := HRp1.out.lt
      clear hR9 hb9
      refine hK2.out _ _ (HSo.out _ HB2.out) (fun _ => ?_)
      refine wpAnyH_ready (rs := [2, 8]) (by kernel_rfl) (by simp) (AllReadyH.cons rfl (fun K3 hK3 => ?_) (AllReadyH.cons rfl (fun K3 hK3 => ?_) (AllReadyH.nil)))
      · rw [if_pos (by rfl)]
        go_simp
        go_at_call 121
        refine (HCw.out _ HB2.out).mono ?_
        rintro e V3 ⟨gw, kw, rfl, hgw0, hR9, hb9⟩
        have HB3 := Lib.hid (Below.step9 HB2.out hb9 (Nat.le_refl w1.heap.size))
        have HRw3 := Lib.hid hR9
        have hgw : w1.heap.size ≤ gw := Nat.le_trans HB2.out.size hgw0
        have HRp3 := Lib.hid (HRp2.out.on hb9)
        have hlp2 := HRp2.out.lt
        have HRr3 := Lib.hid (HRr2.out.on hb9)
        have hlr2 := HRr2.out.lt
        clear hR9 hb9
        refine hK3.out _ _ (HSo.out _ HB3.out) (fun _ => ?_)
        refine wpAnyH_ready (rs := [8]) (by kernel_rfl) (by simp) (AllReadyH.cons rfl (fun K4 hK4 => ?_) (AllReadyH.nil))
        · rw [if_pos (by rfl)]
          refine wp_make _ _ _ 111 rfl w1.heap.size 278 i3 (.slice none 0 0) 1 Try.underlying111 hi3 hi3z hi3s .i64 .i64 _ _ l.tn rfl rfl rfl rfl (by rw [hi3b]; omega) (by simp only [maxLen]; omega) HB3.out.size ?_
          intro V4 hown9 hg9
          rw [made_nil _] at hown9
          have hb9 : Below V3.heap.size V3 V4 := (Below.refl _ _).grown hg9 (Nat.le_refl _) (fun q hq => by cases hq)
          have HB4 := Lib.hid (Below.step9 HB3.out hb9 (Nat.le_refl w1.heap.size))
          obtain ⟨gb, hgbe, hgb, hR9⟩ := Rw.of_own hown9 (by omega)
          injection hgbe with hgbe
          injection hgbe with hgb0 _
          rw [hgb0]
          have HRb4 := Lib.hid hR9
          have HRp4 := Lib.hid (HRp3.out.on hb9)
          have hlp3 := HRp3.out.lt
          have HRr4 := Lib.hid (HRr3.out.on hb9)
          have hlr3 := HRr3.out.lt
          have HRw4 := Lib.hid (HRw3.out.on hb9)
          have hlw3 := HRw3.out.lt
          clear hR9 hb9
          refine hK4.out _ _ (HSo.out _ HB4.out) (fun _ => ?_)
          refine wpAnyH_take (i := 9) (v := .agg #[.slice (some ⟨gw, 0, none⟩) l.wn kw, .slice (some ⟨gr, 0, none⟩) l.tn l.tn, .slice (some ⟨gp, 0, none⟩) l.tn l.tn, .slice (some ⟨gb, 0, none⟩) l.tn l.tn]) rfl (by kernel_rfl) (by kernel_rfl) (by kernel_rfl) (fun _ _ _ h => h) (Or.inl ⟨by rfl, ?_⟩) (HSo.out _ HB4.out) ?_
          · (intro W hSw; (try dsimp only at hSw); go_simp)
          show wpAnyH _ _ _ _ _ _ _ (Act.put _ (some 24) _) _
          simp only [Act.put, List.setIfInBounds_toArray, List.set_cons_zero, List.set_cons_succ]
          refine wpAnyH_ready (rs := [10]) (by kernel_rfl) (by simp) (AllReadyH.cons rfl (fun K5 hK5 => ?_) (AllReadyH.nil))
          rw [if_pos (by rfl)]
          have hx := HZ1.out.below HB4.out (by omega)
          refine wp_store_row _ _ _ rfl (w.heap.size + 1) #[.slice (some ⟨gw, 0, none⟩) l.wn kw, .slice (some ⟨gr, 0, none⟩) l.tn l.tn, .slice (some ⟨gp, 0, none⟩) l.tn l.tn, .slice (some ⟨gb, 0, none⟩) l.tn l.tn] rfl rfl 113 _ hx size_lst rfl (lst_one _ _ _ _ _ _ _ _ _ _ _ _) ?_
          refine hK5.out _ _ (HSt.out _ _ HB4.out) (fun _ => ?_)
          refine wpAnyH_take (i := 11) (v := .int .i64 0) rfl (by kernel_rfl) (by kernel_rfl) (by kernel_rfl) (fun _ _ _ h => h) (Or.inl ⟨by rfl, ?_⟩) (HSt.out _ _ HB4.out) ?_
          · (intro W hSw; (try dsimp only at hSw); go_simp)
          show wpAnyH _ _ _ _ _ _ _ (Act.put _ (some 3) _) _
          simp only [Act.put, List.setIfInBounds_toArray, List.set_cons_zero, List.set_cons_succ]
          refine wpAnyH_done (by kernel_rfl) ?_ _
          have HR := Lib.hid (setRow_heap V4 (w.heap.size + 1) _ (#[.slice (some ⟨gw, 0, none⟩) l.wn kw, .slice (some ⟨gr, 0, none⟩) l.tn l.tn, .slice (some ⟨gp, 0, none⟩) l.tn l.tn, .slice (some ⟨gb, 0, none⟩) l.tn l.tn]) _ _ hx)
          have HE := Lib.hid (beg_end HW1.out HB4.out (by omega) HRw4.out HRr4.out HRp4.out HRb4.out (by omega) ⟨by omega, by omega, by omega, by omega⟩)
          go_wp2_with fail
          refine bodyPost_ret_by (results_cell_row2 rfl _ _ (w.heap.size + 1) 113 _ (0, 0) _ rfl HR.out Try.underlying113 rfl size_lst) rfl ?_
          exact HE.out
      · rw [if_pos (by rfl)]
        refine wp_make _ _ _ 111 rfl w1.heap.size 278 i3 (.slice none 0 0) 1 Try.underlying111 hi3 hi3z hi3s .i64 .i64 _ _ l.tn rfl rfl rfl rfl (by rw [hi3b]; omega) (by simp only [maxLen]; omega) HB2.out.size ?_
        intro V3 hown9 hg9
        rw [made_nil _] at hown9
        have hb9 : Below V2.heap.size V2 V3 := (Below.refl _ _).grown hg9 (Nat.le_refl _) (fun q hq => by cases hq)
        have HB3 := Lib.hid (Below.step9 HB2.out hb9 (Nat.le_refl w1.heap.size))
        obtain ⟨gb, hgbe, hgb, hR9⟩ := Rw.of_own hown9 (by omega)
        injection hgbe with hgbe
        injection hgbe with hgb0 _
        rw [hgb0]
        have HRb3 := Lib.hid hR9
        have HRp3 := Lib.hid (HRp2.out.on hb9)
        have hlp2 := HRp2.out.lt
        have HRr3 := Lib.hid (HRr2.out.on hb9)
        have hlr2 := HRr2.out.lt
        clear hR9 hb9
        refine hK3.out _ _ (HSo.out _ HB3.out) (fun _ => ?_)
        refine wpAnyH_ready (rs := [2]) (by kernel_rfl) (by simp) (AllReadyH.cons rfl (fun K4 hK4 => ?_) (AllReadyH.nil))
        · rw [if_pos (by rfl)]
          go_simp
          go_at_call 121
          refine (HCw.out _ HB3.out).mono ?_
          rintro e V4 ⟨gw, kw, rfl, hgw0, hR9, hb9⟩
          have HB4 := Lib.hid (Below.step9 HB3.out hb9 (Nat.le_refl w1.heap.size))
          have HRw4 := Lib.hid hR9
          have hgw : w1.heap.size ≤ gw := Nat.le_trans HB3.out.size hgw0
          have HRp4 := Lib.hid (HRp3.out.on hb9)
          have hlp3 := HRp3.out.lt
          have HRr4 := Lib.hid (HRr3.out.on hb9)
          have hlr3 := HRr3.out.lt
          have HRb4 := Lib.hid (HRb3.out.on hb9)
          have hlb3 := HRb3.out.lt
          clear hR9 hb9
          refine hK4.out _ _ (HSo.out _ HB4.out) (fun _ => ?_)
          refine wpAnyH_take (i := 9) (v := .agg #[.slice (some ⟨gw, 0, none⟩) l.wn kw, .slice (some ⟨gr, 0, none⟩) l.tn l.tn, .slice (some ⟨gp, 0, none⟩) l.tn l.tn, .slice (some ⟨gb, 0, none⟩) l.tn l.tn]) rfl (by kernel_rfl) (by kernel_rfl) (by kernel_rfl) (fun _ _ _ h => h) (Or.inl ⟨by rfl, ?_⟩) (HSo.out _ HB4.out) ?_
          · (intro W hSw; (try dsimp only at hSw); go_simp)
          show wpAnyH _ _ _ _ _ _ _ (Act.put _ (some 24) _) _
          simp only [Act.put, List.setIfInBounds_toArray, List.set_cons_zero, List.set_cons_succ]
          refine wpAnyH_ready (rs := [10]) (by kernel_rfl) (by simp) (AllReadyH.cons rfl (fun K5 hK5 => ?_) (AllReadyH.nil))
          rw [if_pos (by rfl)]
          have hx := HZ1.out.below HB4.out (by omega)
          refine wp_store_row _ _ _ rfl (w.heap.size + 1) #[.slice (some ⟨gw, 0, none⟩) l.wn kw, .slice (some ⟨gr, 0, none⟩) l.tn l.tn, .slice (some ⟨gp, 0, none⟩) l.tn l.tn, .slice (some ⟨gb, 0, none⟩) l.tn l.tn] rfl rfl 113 _ hx size_lst rfl (lst_one _ _ _ _ _ _ _ _ _ _ _ _) ?_
          refine hK5.out _ _ (HSt.out _ _ HB4.out) (fun _ => ?_)
          refine wpAnyH_take (i := 11) (v := .int .i64 0) rfl (by kernel_rfl) (by kernel_rfl) (by kernel_rfl) (fun _ _ _ h => h) (Or.inl ⟨by rfl, ?_⟩) (HSt.out _ _ HB4.out) ?_
          · (intro W hSw; (try dsimp only at hSw); go_simp)
          show wpAnyH _ _ _ _ _ _ _ (Act.put _ (some 3) _) _
          simp only [Act.put, List.setIfInBounds_toArray, List.set_cons_zero, List.set_cons_succ]
          refine wpAnyH_done (by kernel_rfl) ?_ _
          have HR := Lib.hid (setRow_heap V4 (w.heap.size + 1) _ (#[.slice (some ⟨gw, 0, none⟩) l.wn kw, .slice (some ⟨gr, 0, none⟩) l.tn l.tn, .slice (some ⟨gp, 0, none⟩) l.tn l.tn, .slice (some ⟨gb, 0, none⟩) l.tn l.tn]) _ _ hx)
          have HE := Lib.hid (beg_end HW1.out HB4.out (by omega) HRw4.out HRr4.out HRp4.out HRb4.out (by omega) ⟨by omega, by omega, by omega, by omega⟩)
          go_wp2_with fail
          refine bodyPost_ret_by (results_cell_row2 rfl _ _ (w.heap.size + 1) 113 _ (0, 0) _ rfl HR.out Try.underlying113 rfl size_lst) rfl ?_
          exact HE.out
    · rw [if_pos (by rfl)]
      refine wp_make _ _ _ 111 rfl w1.heap.size 278 i3 (.slice none 0 0) 1 Try.underlying111 hi3 hi3z hi3s .i64 .i64 _ _ l.tn rfl rfl rfl rfl (by rw [hi3b]; omega) (by simp only [maxLen]; omega) HB1.out.size ?_
      intro V2 hown9 hg9
      rw [made_nil _] at hown9
      have hb9 : Below V1.heap.size V1 V2 := (Below.refl _ _).grown hg9 (Nat.le_refl _) (fun q hq => by cases hq)
      have HB2 := Lib.hid (Below.step9 HB1.out hb9 (Nat.le_refl w1.heap.size))
      obtain ⟨gb, hgbe, hgb, hR9⟩ := Rw.of_own hown9 (by omega)
      injection hgbe with hgbe
      injection hgbe with hgb0 _
      rw [hgb0]
      have HRb2 := Lib.hid hR9
      have HRp2 := Lib.hid (HRp1.out.on hb9)
      have hlp1 := HRp1.out.lt
      clear hR9 hb9
      refine hK2.out _ _ (HSo.out _ HB2.out) (fun _ => ?_)
      refine wpAnyH_ready (rs := [2, 4]) (by kernel_rfl) (by simp) (AllReadyH.cons rfl (fun K3 hK3 => ?_) (AllReadyH.cons rfl (fun K3 hK3 => ?_) (AllReadyH.nil)))
      · rw [if_pos (by rfl)]
        go_simp
        go_at_call 121
        refine (HCw.out _ HB2.out).mono ?_
        rintro e V3 ⟨gw, kw, rfl, hgw0, hR9, hb9⟩
        have HB3 := Lib.hid (Below.step9 HB2.out hb9 (Nat.le_refl w1.heap.size))
        have HRw3 := Lib.hid hR9
        have hgw : w1.heap.size ≤ gw := Nat.le_trans HB2.out.size hgw0
        have HRp3 := Lib.hid (HRp2.out.on hb9)
        have hlp2 := HRp2.out.lt
        have HRb3 := Lib.hid (HRb2.out.on hb9)
        have hlb2 := HRb2.out.lt
        clear hR9 hb9
        refine hK3.out _ _ (HSo.out _ HB3.out) (fun _ => ?_)
        refine wpAnyH_ready (rs := [4]) (by kernel_rfl) (by simp) (AllReadyH.cons rfl (fun K4 hK4 => ?_) (AllReadyH.nil))
        · rw [if_pos (by rfl)]
          refine wp_make _ _ _ 110 rfl w1.heap.size 173 i2 (.agg #[.int .i64 0, .int .i64 0, .int .i64 0, .int .i64 0]) 4 Try.underlying110 hi2 hi2z hi2s .i64 .i64 _ _ l.tn rfl rfl rfl rfl (by rw [hi2b]; omega) (by simp only [maxLen]; omega) HB3.out.size ?_
          intro V4 hown9 hg9
          rw [made_reg _ n2] at hown9
          have hb9 : Below V3.heap.size V3 V4 := (Below.refl _ _).grown hg9 (Nat.le_refl _) (fun q hq => by cases hq)
          have HB4 := Lib.hid (Below.step9 HB3.out hb9 (Nat.le_refl w1.heap.size))
          obtain ⟨gr, hgre, hgr, hR9⟩ := Rw.of_own hown9 (by omega)
          injection hgre with hgre
          injection hgre with hgr0 _
          rw [hgr0]
          have HRr4 := Lib.hid hR9
          have HRp4 := Lib.hid (HRp3.out.on hb9)
          have hlp3 := HRp3.out.lt
          have HRb4 := Lib.hid (HRb3.out.on hb9)
          have hlb3 := HRb3.out.lt
          have HRw4 := Lib.hid (HRw3.out.on hb9)
          have hlw3 := HRw3.out.lt
          clear hR9 hb9
          refine hK4.out _ _ (HSo.out _ HB4.out) (fun _ => ?_)
          refine wpAnyH_take (i := 9) (v := .agg #[.slice (some ⟨gw, 0, none⟩) l.wn kw, .slice (some ⟨gr, 0, none⟩) l.tn l.tn, .slice (some ⟨gp, 0, none⟩) l.tn l.tn, .slice (some ⟨gb, 0, none⟩) l.tn l.tn]) rfl (by kernel_rfl) (by kernel_rfl) (by kernel_rfl) (fun _ _ _ h => h) (Or.inl ⟨by rfl, ?_⟩) (HSo.out _ HB4.out) ?_
          · (intro W hSw; (try dsimp only at hSw); go_simp)
          show wpAnyH _ _ _ _ _ _ _ (Act.put _ (some 24) _) _
          simp only [Act.put, List.setIfInBounds_toArray, List.set_cons_zero, List.set_cons_succ]
          refine wpAnyH_ready (rs := [10]) (by kernel_rfl) (by simp) (AllReadyH.cons rfl (fun K5 hK5 => ?_) (AllReadyH.nil))
          rw [if_pos (by rfl)]
          have hx := HZ1.out.below HB4.out (by omega)
          refine wp_store_row _ _ _ rfl (w.heap.size + 1) #[.slice (some ⟨gw, 0, none⟩) l.wn kw, .slice (some ⟨gr, 0, none⟩) l.tn l.tn, .slice (some ⟨gp, 0, none⟩) l.tn l.tn, .slice (some ⟨gb, 0, none⟩) l.tn l.tn] rfl rfl 113 _ hx size_lst rfl (lst_one _ _ _ _ _ _ _ _ _ _ _ _) ?_
          refine hK5.out _ _ (HSt.out _ _ HB4.out) (fun _ => ?_)
          refine wpAnyH_take (i := 11) (v := .int .i64 0) rfl (by kernel_rfl) (by kernel_rfl) (by kernel_rfl) (fun _ _ _ h => h) (Or.inl ⟨by rfl, ?_⟩) (HSt.out _ _ HB4.out) ?_
          · (intro W hSw; (try dsimp only at hSw); go_simp)
          show wpAnyH _ _ _ _ _ _ _ (Act.put _ (some 3) _) _
          simp only [Act.put, List.setIfInBounds_toArray, List.set_cons_zero, List.set_cons_succ]
          refine wpAnyH_done (by kernel_rfl) ?_ _
          have HR := Lib.hid (setRow_heap V4 (w.heap.size + 1) _ (#[.slice (some ⟨gw, 0, none⟩) l.wn kw, .slice (some ⟨gr, 0, none⟩) l.tn l.tn, .slice (some ⟨gp, 0, none⟩) l.tn l.tn, .slice (some ⟨gb, 0, none⟩) l.tn l.tn]) _ _ hx)
          have HE := Lib.hid (beg_end HW1.out HB4.out (by omega) HRw4.out HRr4.out HRp4.out HRb4.out (by omega) ⟨by omega, by omega, by omega, by omega⟩)
          go_wp2_with fail
          refine bodyPost_ret_by (results_cell_row2 rfl _ _ (w.heap.size + 1) 113 _ (0, 0) _ rfl HR.out Try.underlying113 rfl size_lst) rfl ?_
          exact HE.out
      · rw [if_pos (by rfl)]
        refine wp_make _ _ _ 110 rfl w1.heap.size 173 i2 (.agg #[.int .i64 0, .int .i64 0, .int .i64 0, .int .i64 0]) 4 Try.underlying110 hi2 hi2z hi2s .i64 .i64 _ _ l.tn rfl rfl rfl rfl (by rw [hi2b]; omega) (by simp only [maxLen]; omega) HB2.out.size ?_
        intro V3 hown9 hg9
        rw [made_reg _ n2] at hown9
        have hb9 : Below V2.heap.size V2 V3 := (Below.refl _ _).grown hg9 (Nat.le_refl _) (fun q hq => by cases hq)
        have HB3 := Lib.hid (Below.step9 HB2.out hb9 (Nat.le_refl w1.heap.size))
        obtain ⟨gr, hgre, hgr, hR9⟩ := Rw.of_own hown9 (by omega)
        injection hgre with hgre
        injection hgre with hgr0 _
        rw [hgr0]
        have HRr3 := Lib.hid hR9
        have HRp3 := Lib.hid (HRp2.out.on hb9)
        have hlp2 := HRp2.out.lt
        have HRb3 := Lib.hid (HRb2.out.on hb9)
        have hlb2 := HRb2.out.lt
        clear hR9 hb9
        refine hK3.out _ _ (HSo.out _ HB3.out) (fun _ => ?_)
        refine wpAnyH_ready (rs := [2]) (by kernel_rfl) (by simp) (AllReadyH.cons rfl (fun K4 hK4 => ?_) (AllReadyH.nil))
        · rw [if_pos (by rfl)]
          go_simp
          go_at_call 121
          refine (HCw.out _ HB3.out).mono ?_
          rintro e V4 ⟨gw, kw, rfl, hgw0, hR9, hb9⟩
          have HB4 := Lib.hid (Below.step9 HB3.out hb9 (Nat.le_refl w1.heap.size))
          have HRw4 := Lib.hid hR9
          have hgw : w1.heap.size ≤ gw := Nat.le_trans HB3.out.size hgw0
          have HRp4 := Lib.hid (HRp3.out.on hb9)
          have hlp3 := HRp3.out.lt
          have HRb4 := Lib.hid (HRb3.out.on hb9)
          have hlb3 := HRb3.out.lt
          have HRr4 := Lib.hid (HRr3.out.on hb9)
          have hlr3 := HRr3.out.lt
          clear hR9 hb9
          refine hK4.out _ _ (HSo.out _ HB4.out) (fun _ => ?_)
          refine wpAnyH_take (i := 9) (v := .agg #[.slice (some ⟨gw, 0, none⟩) l.wn kw, .slice (some ⟨gr, 0, none⟩) l.tn l.tn, .slice (some ⟨gp, 0, none⟩) l.tn l.tn, .slice (some ⟨gb, 0, none⟩) l.tn l.tn]) rfl (by kernel_rfl) (by kernel_rfl) (by kernel_rfl) (fun _ _ _ h => h) (Or.inl ⟨by rfl, ?_⟩) (HSo.out _ HB4.out) ?_
          · (intro W hSw; (try dsimp only at hSw); go_simp)
          show wpAnyH _ _ _ _ _ _ _ (Act.put _ (some 24) _) _
          simp only [Act.put, List.setIfInBounds_toArray, List.set_cons_zero, List.set_cons_succ]
          refine wpAnyH_ready (rs := [10]) (by kernel_rfl) (by simp) (AllReadyH.cons rfl (fun K5 hK5 => ?_) (AllReadyH.nil))
          rw [if_pos (by rfl)]
          have hx := HZ1.out.below HB4.out (by omega)
          refine wp_store_row _ _ _ rfl (w.heap.size + 1) #[.slice (some ⟨gw, 0, none⟩) l.wn kw, .slice (some ⟨gr, 0, none⟩) l.tn l.tn, .slice (some ⟨gp, 0, none⟩) l.tn l.tn, .slice (some ⟨gb, 0, none⟩) l.tn l.tn] rfl rfl 113 _ hx size_lst rfl (lst_one _ _ _ _ _ _ _ _ _ _ _ _) ?_
          refine hK5.out _ _ (HSt.out _ _ HB4.out) (fun _ => ?_)
          refine wpAnyH_take (i := 11) (v := .int .i64 0) rfl (by kernel_rfl) (by kernel_rfl) (by kernel_rfl) (fun _ _ _ h => h) (Or.inl ⟨by rfl, ?_⟩) (HSt.out _ _ HB4.out) ?_
          · (intro W hSw; (try dsimp only at hSw); go_simp)
          show wpAnyH _ _ _ _ _ _ _ (Act.put _ (some 3) _) _
          simp only [Act.put, List.setIfInBounds_toArray, List.set_cons_zero, List.set_cons_succ]
          refine wpAnyH_done (by kernel_rfl) ?_ _
          have HR := Lib.hid (setRow_heap V4 (w.heap.size + 1) _ (#[.slice (some ⟨gw, 0, none⟩) l.wn kw, .slice (some ⟨gr, 0, none⟩) l.tn l.tn, .slice (some ⟨gp, 0, none⟩) l.tn l.tn, .slice (some ⟨gb, 0, none⟩) l.tn l.tn]) _ _ hx)
          have HE := Lib.hid (beg_end HW1.out HB4.out (by omega) HRw4.out HRr4.out HRp4.out HRb4.out (by omega) ⟨by omega, by omega, by omega, by omega⟩)
          go_wp2_with fail
          refine bodyPost_ret_by (results_cell_row2 rfl _ _ (w.heap.size + 1) 113 _ (0, 0) _ rfl HR.out Try.underlying113 rfl size_lst) rfl ?_
          exact HE.out
  · rw [if_pos (by rfl)]
    refine wp_make _ _ _ 111 rfl w1.heap.size 278 i3 (.slice none 0 0) 1 Try.underlying111 hi3 hi3z hi3s .i64 .i64 _ _ l.tn rfl rfl rfl rfl (by rw [hi3b]; omega) (by simp only [maxLen]; omega) HB0'.out.size ?_
    intro V1 hown9 hg9
    rw [made_nil _] at hown9
    have hb9 : Below V0.heap.size V0 V1 := (Below.refl _ _).grown hg9 (Nat.le_refl _) (fun q hq => by cases hq)
    have HB1 := Lib.hid (Below.step9 HB0'.out hb9 (Nat.le_refl w1.heap.size))
    obtain ⟨gb, hgbe, hgb, hR9⟩ := Rw.of_own hown9 (by omega)
    injection hgbe with hgbe
    injection hgbe with hgb0 _
    rw [hgb0]
    have HRb1 := Lib.hid hR9
    clear hR9 hb9
    refine hK1.out _ _ (HSo.out _ HB1.out) (fun _ => ?_)
    refine wpAnyH_ready (rs := [2, 4, 6]) (by kernel_rfl) (by simp) (AllReadyH.cons rfl (fun K2 hK2 => ?_) (AllReadyH.cons rfl (fun K2 hK2 => ?_) (AllReadyH.cons rfl (fun K2 hK2 => ?_) (AllReadyH.nil))))
    · rw [if_pos (by rfl)]
      go_simp
      go_at_call 121
      refine (HCw.out _ HB1.out).mono ?_
      rintro e V2 ⟨gw, kw, rfl, hgw0, hR9, hb9⟩
      have HB2 := Lib.hid (Below.step9 HB1.out hb9 (Nat.le_refl w1.heap.size))
      have HRw2 := Lib.hid hR9
      have hgw : w1.heap.size ≤ gw := Nat.le_trans HB1.out.size hgw0
      have HRb2 := Lib.hid (HRb1.out.on hb9)
      have hlb1 := HRb1.out.lt
      clear hR9 hb9
      refine hK2.out _ _ (HSo.out _ HB2.out) (fun _ => ?_)
      refine wpAnyH_ready (rs := [4, 6]) (by kernel_rfl) (by simp) (AllReadyH.cons rfl (fun K3 hK3 => ?_) (AllReadyH.cons rfl (fun K3 hK3 => ?_) (AllReadyH.nil)))
      · rw [if_pos (by rfl)]
        refine wp_make _ _ _ 110 rfl w1.heap.size 173 i2 (.agg #[.int .i64 0, .int .i64 0, .int .i64 0, .int .i64 0]) 4 Try.underlying110 hi2 hi2z hi2s .i64 .i64 _ _ l.tn rfl rfl rfl rfl (by rw [hi2b]; omega) (by simp only [maxLen]; omega) HB2.out.size ?_
        intro V3 hown9 hg9
        rw [made_reg _ n2] at hown9
        have hb9 : Below V2.heap.size V2 V3 := (Below.refl _ _).grown hg9 (Nat.le_refl _) (fun q hq => by cases hq)
        have HB3 := Lib.hid (Below.step9 HB2.out hb9 (Nat.le_refl w1.heap.size))
        obtain ⟨gr, hgre, hgr, hR9⟩ := Rw.of_own hown9 (by omega)
        injection hgre with hgre
        injection hgre with hgr0 _
        rw [hgr0]
        have HRr3 := Lib.hid hR9
        have HRb3 := Lib.hid (HRb2.out.on hb9)
        have hlb2 := HRb2.out.lt
        have HRw3 := Lib.hid (HRw2.out.on hb9)
        have hlw2 := HRw2.out.lt
        clear hR9 hb9
        refine hK3.out _ _ (HSo.out _ HB3.out) (fun _ => ?_)
        refine wpAnyH_ready (rs := [6]) (by kernel_rfl) (by simp) (AllReadyH.cons rfl (fun K4 hK4 => ?_) (AllReadyH.nil))
        · rw [if_pos (by rfl)]
          refine wp_make _ _ _ 30 rfl w1.heap.size 3 i1 (.int .i64 0) 1 Try.underlying30 hi1 hi1z hi1s .i64 .i64 _ _ l.tn rfl rfl rfl rfl (by rw [hi1b]; omega) (by simp only [maxLen]; omega) HB3.out.size ?_
          intro V4 hown9 hg9
          rw [made_int _] at hown9
          have hb9 : Below V3.heap.size V3 V4 := (Below.refl _ _).grown hg9 (Nat.le_refl _) (fun q hq => by cases hq)
          have HB4 := Lib.hid (Below.step9 HB3.out hb9 (Nat.le_refl w1.heap.size))
          obtain ⟨gp, hgpe, hgp, hR9⟩ := Rw.of_own hown9 (by omega)
          injection hgpe with hgpe
          injection hgpe with hgp0 _
          rw [hgp0]
          have HRp4 := Lib.hid hR9
          have HRb4 := Lib.hid (HRb3.out.on hb9)
          have hlb3 := HRb3.out.lt
          have HRw4 := Lib.hid (HRw3.out.on hb9)
          have hlw3 := HRw3.out.lt
          have HRr4 := Lib.hid (HRr3.out.on hb9)
          have hlr3 := HRr3.out.lt
          clear hR9 hb9
          refine hK4.out _ _ (HSo.out _ HB4.out) (fun _ => ?_)
          refine wpAnyH_take (i := 9) (v := .agg #[.slice (some ⟨gw, 0, none⟩) l.wn kw, .slice (some ⟨gr, 0, none⟩) l.tn l.tn, .slice (some ⟨gp, 0, none⟩) l.tn l.tn, .slice (some ⟨gb, 0, none⟩) l.tn l.tn]) rfl (by kernel_rfl) (by kernel_rfl) (by kernel_rfl) (fun _ _ _ h => h) (Or.inl ⟨by rfl, ?_⟩) (HSo.out _ HB4.out) ?_
          · (intro W hSw; (try dsimp only at hSw); go_simp)
          show wpAnyH _ _ _ _ _ _ _ (Act.put _ (some 24) _) _
          simp only [Act.put, List.setIfInBounds_toArray, List.set_cons_zero, List.set_cons_succ]
          refine wpAnyH_ready (rs := [10]) (by kernel_rfl) (by simp) (AllReadyH.cons rfl (fun K5 hK5 => ?_) (AllReadyH.nil))
          rw [if_pos (by rfl)]
          have hx := HZ1.out.below HB4.out (by omega)
          refine wp_store_row _ _ _ rfl (w.heap.size + 1) #[.slice (some ⟨gw, 0, none⟩) l.wn kw, .slice (some ⟨gr, 0, none⟩) l.tn l.tn, .slice (some ⟨gp, 0, none⟩) l.tn l.tn, .slice (some ⟨gb, 0, none⟩) l.tn l.tn] rfl rfl 113 _ hx size_lst rfl (lst_one _ _ _ _ _ _ _ _ _ _ _ _) ?_
          refine hK5.out _ _ (HSt.out _ _ HB4.out) (fun _ => ?_)
          refine wpAnyH_take (i := 11) (v := .int .i64 0) rfl (by kernel_rfl) (by kernel_rfl) (by kernel_rfl) (fun _ _ _ h => h) (Or.inl ⟨by rfl, ?_⟩) (HSt.out _ _ HB4.out) ?_
          · (intro W hSw; (try dsimp only at hSw); go_simp)
          show wpAnyH _ _ _ _ _ _ _ (Act.put _ (some 3) _) _
          simp only [Act.put, List.setIfInBounds_toArray, List.set_cons_zero, List.set_cons_succ]
          refine wpAnyH_done (by kernel_rfl) ?_ _
          have HR := Lib.hid (setRow_heap V4 (w.heap.size + 1) _ (#[.slice (some ⟨gw, 0, none⟩) l.wn kw, .slice (some ⟨gr, 0, none⟩) l.tn l.tn, .slice (some ⟨gp, 0, none⟩) l.tn l.tn, .slice (some ⟨gb, 0, none⟩) l.tn l.tn]) _ _ hx)
          have HE := Lib.hid (beg_end HW1.out HB4.out (by omega) HRw4.out HRr4.out HRp4.out HRb4.out (by omega) ⟨by omega, by omega, by omega, by omega⟩)
          go_wp2_with fail
          refine bodyPost_ret_by (results_cell_row2 rfl _ _ (w.heap.size + 1) 113 _ (0, 0) _ rfl HR.out Try.underlying113 rfl size_lst) rfl ?_
          exact HE.out
      · rw [if_pos (by rfl)]
        refine wp_make _ _ _ 30 rfl w1.heap.size 3 i1 (.int .i64 0) 1 Try.underlying30 hi1 hi1z hi1s .i64 .i64 _ _ l.tn rfl rfl rfl rfl (by rw [hi1b]; omega) (by simp only [maxLen]; omega) HB2.out.size ?_
        intro V3 hown9 hg9
        rw [made_int _] at hown9
        have hb9 : Below V2.heap.size V2 V3 := (Below.refl _ _).grown hg9 (Nat.le_refl _) (fun q hq => by cases hq)
        have HB3 := Lib.hid (Below.step9 HB2.out hb9 (Nat.le_refl w1.heap.size))
        obtain ⟨gp, hgpe, hgp, hR9⟩ := Rw.of_own hown9 (by omega)
        injection hgpe with hgpe
        injection hgpe with hgp0 _
        rw [hgp0]
        have HRp3 := Lib.hid hR9
        have HRb3 := Lib.hid (HRb2.out.on hb9)
        have hlb2 := HRb2.out.lt
        have HRw3 := Lib.hid (HRw2.out.on hb9)
        have hlw2 := HRw2.out.lt
        clear hR9 hb9
        refine hK3.out _ _ (HSo.out _ HB3.out) (fun _ => ?_)
        refine wpAnyH_ready (rs := [4]) (by kernel_rfl) (by simp) (AllReadyH.cons rfl (fun K4 hK4 => ?_) (AllReadyH.nil))
        · rw [if_pos (by rfl)]
          refine wp_make _ _ _ 110 rfl w1.heap.size 173 i2 (.agg #[.int .i64 0, .int .i64 0, .int .i64 0, .int .i64 0]) 4 Try.underlying110 hi2 hi2z hi2s .i64 .i64 _ _ l.tn rfl rfl rfl rfl (by rw [hi2b]; omega) (by simp only [maxLen]; omega) HB3.out.size ?_
          intro V4 hown9 hg9
          rw [made_reg _ n2] at hown9
          have hb9 : Below V3.heap.size V3 V4 := (Below.refl _ _).grown hg9 (Nat.le_refl _) (fun q hq => by cases hq)
          have HB4 := Lib.hid (Below.step9 HB3.out hb9 (Nat.le_refl w1.heap.size))
          obtain ⟨gr, hgre, hgr, hR9⟩ := Rw.of_own hown9 (by omega)
          injection hgre with hgre
          injection hgre with hgr0 _
          rw [hgr0]
          have HRr4 := Lib.hid hR9
          have HRb4 := Lib.hid (HRb3.out.on hb9)
          have hlb3 := HRb3.out.lt
          have HRw4 := Lib.hid (HRw3.out.on hb9)
          have hlw3 := HRw3.out.lt
          have HRp4 := Lib.hid (HRp3.out.on hb9)
          have hlp3 := HRp3.out.lt
          clear hR9 hb9
          refine hK4.out _ _ (HSo.out _ HB4.out) (fun _ => ?_)
          refine wpAnyH_take (i := 9) (v := .agg #[.slice (some ⟨gw, 0, none⟩) l.wn kw, .slice (some ⟨gr, 0, none⟩) l.tn l.tn, .slice (some ⟨gp, 0, none⟩) l.tn l.tn, .slice (some ⟨gb, 0, none⟩) l.tn l.tn]) rfl (by kernel_rfl) (by kernel_rfl) (by kernel_rfl) (fun _ _ _ h => h) (Or.inl ⟨by rfl, ?_⟩) (HSo.out _ HB4.out) ?_
          · (intro W hSw; (try dsimp only at hSw); go_simp)
          show wpAnyH _ _ _ _ _ _ _ (Act.put _ (some 24) _) _
          simp only [Act.put, List.setIfInBounds_toArray, List.set_cons_zero, List.set_cons_succ]
          refine wpAnyH_ready (rs := [10]) (by kernel_rfl) (by simp) (AllReadyH.cons rfl (fun K5 hK5 => ?_) (AllReadyH.nil))
          rw [if_pos (by rfl)]
          have hx := HZ1.out.below HB4.out (by omega)
          refine wp_store_row _ _ _ rfl (w.heap.size + 1) #[.slice (some ⟨gw, 0, none⟩) l.wn kw, .slice (some ⟨gr, 0, none⟩) l.tn l.tn, .slice (some ⟨gp, 0, none⟩) l.tn l.tn, .slice (some ⟨gb, 0, none⟩) l.tn l.tn] rfl rfl 113 _ hx size_lst rfl (lst_one _ _ _ _ _ _ _ _ _ _ _ _) ?_
          refine hK5.out _ _ (HSt.out _ _ HB4.out) (fun _ => ?_)
          refine wpAnyH_take (i := 11) (v := .int .i64 0) rfl (by kernel_rfl) (by kernel_rfl) (by kernel_rfl) (fun _ _ _ h => h) (Or.inl ⟨by rfl, ?_⟩) (HSt.out _ _ HB4.out) ?_
          · (intro W hSw; (try dsimp only at hSw); go_simp)
          show wpAnyH _ _ _ _ _ _ _ (Act.put _ (some 3) _) _
          simp only [Act.put, List.setIfInBounds_toArray, List.set_cons_zero, List.set_cons_succ]
          refine wpAnyH_done (by kernel_rfl) ?_ _
          have HR := Lib.hid (setRow_heap V4 (w.heap.size + 1) _ (#[.slice (some ⟨gw, 0, none⟩) l.wn kw, .slice (some ⟨gr, 0, none⟩) l.tn l.tn, .slice (some ⟨gp, 0, none⟩) l.tn l.tn, .slice (some ⟨gb, 0, none⟩) l.tn l.tn]) _ _ hx)
          have HE := Lib.hid (beg_end HW1.out HB4.out (by omega) HRw4.out HRr4.out HRp4.out HRb4.out (by omega) ⟨by omega, by omega, by omega, by omega⟩)
          go_wp2_with fail
          refine bodyPost_ret_by (results_cell_row2 rfl _ _ (w.heap.size + 1) 113 _ (0, 0) _ rfl HR.out Try.underlying113 rfl size_lst) rfl ?_
          exact HE.out
    · rw [if_pos (by rfl)]
      refine wp_make _ _ _ 110 rfl w1.heap.size 173 i2 (.agg #[.int .i64 0, .int .i64 0, .int .i64 0, .int .i64 0]) 4 Try.underlying110 hi2 hi2z hi2s .i64 .i64 _ _ l.tn rfl rfl rfl rfl (by rw [hi2b]; omega) (by simp only [maxLen]; omega) HB1.out.size ?_
      intro V2 hown9 hg9
      rw [made_reg _ n2] at hown9
      have hb9 : Below V1.heap.size V1 V2 := (Below.refl _ _).grown hg9 (Nat.le_refl _) (fun q hq => by cases hq)
      have HB2 := Lib.hid (Below.step9 HB1.out hb9 (Nat.le_refl w1.heap.size))
      obtain ⟨gr, hgre, hgr, hR9⟩ := Rw.of_own hown9 (by omega)
      injection hgre with hgre
      injection hgre with hgr0 _
      rw [hgr0]
      have HRr2 := Lib.hid hR9
      have HRb2 := Lib.hid (HRb1.out.on hb9)
      have hlb1 := HRb1.out.lt
      clear hR9 hb9
      refine hK2.out _ _ (HSo.out _ HB2.out) (fun _ => ?_)
      refine wpAnyH_ready (rs := [2, 6]) (by kernel_rfl) (by simp) (AllReadyH.cons rfl (fun K3 hK3 => ?_) (AllReadyH.cons rfl (fun K3 hK3 => ?_) (AllReadyH.nil)))
      · rw [if_pos (by rfl)]
        go_simp
        go_at_call 121
        refine (HCw.out _ HB2.out).mono ?_
        rintro e V3 ⟨gw, kw, rfl, hgw0, hR9, hb9⟩
        have HB3 := Lib.hid (Below.step9 HB2.out hb9 (Nat.le_refl w1.heap.size))
        have HRw3 := Lib.hid hR9
        have hgw : w1.heap.size ≤ gw := Nat.le_trans HB2.out.size hgw0
        have HRb3 := Lib.hid (HRb2.out.on hb9)
        have hlb2 := HRb2.out.lt
        have HRr3 := Lib.hid (HRr2.out.on hb9)
        have hlr2 := HRr2.out.lt
        clear hR9 hb9
        refine hK3.out _ _ (HSo.out _ HB3.out) (fun _ => ?_)
        refine wpAnyH_ready (rs := [6]) (by kernel_rfl) (by simp) (AllReadyH.cons rfl (fun K4 hK4 => ?_) (AllReadyH.nil))
        · rw [if_pos (by rfl)]
          refine wp_make _ _ _ 30 rfl w1.heap.size 3 i1 (.int .i64 0) 1 Try.underlying30 hi1 hi1z hi1s .i64 .i64 _ _ l.tn rfl rfl rfl rfl (by rw [hi1b]; omega) (by simp only [maxLen]; omega) HB3.out.size ?_
          intro V4 hown9 hg9
          rw [made_int _] at hown9
          have hb9 : Below V3.heap.size V3 V4 := (Below.refl _ _).grown hg9 (Nat.le_refl _) (fun q hq => by cases hq)
          have HB4 := Lib.hid (Below.step9 HB3.out hb9 (Nat.le_refl w1.heap.size))
          obtain ⟨gp, hgpe, hgp, hR9⟩ := Rw.of_own hown9 (by omega)
          injection hgpe with hgpe
          injection hgpe with hgp0 _
          rw [hgp0]
          have HRp4 := Lib.hid hR9
          have HRb4 := Lib.hid (HRb3.out.on hb9)
          have hlb3 := HRb3.out.lt
          have HRr4 := Lib.hid (HRr3.out.on hb9)
          have hlr3 := HRr3.out.lt
          have HRw4 := Lib.hid (HRw3.out.on hb9)
          have hlw3 := HRw3.out.lt
          clear hR9 hb9
          refine hK4.out _ _ (HSo.out _ HB4.out) (fun _ => ?_)
          refine wpAnyH_take (i := 9) (v := .agg #[.slice (some ⟨gw, 0, none⟩) l.wn kw, .slice (some ⟨gr, 0, none⟩) l.tn l.tn, .slice (some ⟨gp, 0, none⟩) l.tn l.tn, .slice (some ⟨gb, 0, none⟩) l.tn l.tn]) rfl (by kernel_rfl) (by kernel_rfl) (by kernel_rfl) (fun _ _ _ h => h) (Or.inl ⟨by rfl, ?_⟩) (HSo.out _ HB4.out) ?_
          · (intro W hSw; (try dsimp only at hSw); go_simp)
          show wpAnyH _ _ _ _ _ _ _ (Act.put _ (some 24) _) _
          simp only [Act.put, List.setIfInBounds_toArray, List.set_cons_zero, List.set_cons_succ]
          refine wpAnyH_ready (rs := [10]) (by kernel_rfl) (by simp) (AllReadyH.cons rfl (fun K5 hK5 => ?_) (AllReadyH.nil))
          rw [if_pos (by rfl)]
          have hx := HZ1.out.below HB4.out (by omega)
          refine wp_store_row _ _ _ rfl (w.heap.size + 1) #[.slice (some ⟨gw, 0, none⟩) l.wn kw, .slice (some ⟨gr, 0, none⟩) l.tn l.tn, .slice (some ⟨gp, 0, none⟩) l.tn l.tn, .slice (some ⟨gb, 0, none⟩) l.tn l.tn] rfl rfl 113 _ hx size_lst rfl (lst_one _ _ _ _ _ _ _ _ _ _ _ _) ?_
          refine hK5.out _ _ (HSt.out _ _ HB4.out) (fun _ => ?_)
          refine wpAnyH_take (i := 11) (v := .int .i64 0) rfl (by kernel_rfl) (by kernel_rfl) (by kernel_rfl) (fun _ _ _ h => h) (Or.inl ⟨by rfl, ?_⟩) (HSt.out _ _ HB4.out) ?_
          · (intro W hSw; (try dsimp only at hSw); go_simp)
          show wpAnyH _ _ _ _ _ _ _ (Act.put _ (some 3) _) _
          simp only [Act.put, List.setIfInBounds_toArray, List.set_cons_zero, List.set_cons_succ]
          refine wpAnyH_done (by kernel_rfl) ?_ _
          have HR := Lib.hid (setRow_heap V4 (w.heap.size + 1) _ (#[.slice (some ⟨gw, 0, none⟩) l.wn kw, .slice (some ⟨gr, 0, none⟩) l.tn l.tn, .slice (some ⟨gp, 0, none⟩) l.tn l.tn, .slice (some ⟨gb, 0, none⟩) l.tn l.tn]) _ _ hx)
          have HE := Lib.hid (beg_end HW1.out HB4.out (by omega) HRw4.out HRr4.out HRp4.out HRb4.out (by omega) ⟨by omega, by omega, by omega, by omega⟩)
          go_wp2_with fail
          refine bodyPost_ret_by (results_cell_row2 rfl _ _ (w.heap.size + 1) 113 _ (0, 0) _ rfl HR.out Try.underlying113 rfl size_lst) rfl ?_
          exact HE.out
      · rw [if_pos (by rfl)]
        refine wp_make _ _ _ 30 rfl w1.heap.size 3 i1 (.int .i64 0) 1 Try.underlying30 hi1 hi1z hi1s .i64 .i64 _ _ l.tn rfl rfl rfl rfl (by rw [hi1b]; omega) (by simp only [maxLen]; omega) HB2.out.size ?_
        intro V3 hown9 hg9
        rw [made_int _] at hown9
        have hb9 : Below V2.heap.size V2 V3 := (Below.refl _ _).grown hg9 (Nat.le_refl _) (fun q hq => by cases hq)
        have HB3 := Lib.hid (Below.step9 HB2.out hb9 (Nat.le_refl w1.heap.size))
        obtain ⟨gp, hgpe, hgp, hR9⟩ := Rw.of_own hown9 (by omega)
        injection hgpe with hgpe
        injection hgpe with hgp0 _
        rw [hgp0]
        have HRp3 := Lib.hid hR9
        have HRb3 := Lib.hid (HRb2.out.on hb9)
        have hlb2 := HRb2.out.lt
        have HRr3 := Lib.hid (HRr2.out.on hb9)
        have hlr2 := HRr2.out.lt
        clear hR9 hb9
        refine hK3.out _ _ (HSo.out _ HB3.out) (fun _ => ?_)
        refine wpAnyH_ready (rs := [2]) (by kernel_rfl) (by simp) (AllReadyH.cons rfl (fun K4 hK4 => ?_) (AllReadyH.nil))
        · rw [if_pos (by rfl)]
          go_simp
          go_at_call 121
          refine (HCw.out _ HB3.out).mono ?_
          rintro e V4 ⟨gw, kw, rfl, hgw0, hR9, hb9⟩
          have HB4 := Lib.hid (Below.step9 HB3.out hb9 (Nat.le_refl w1.heap.size))
          have HRw4 := Lib.hid hR9
          have hgw : w1.heap.size ≤ gw := Nat.le_trans HB3.out.size hgw0
          have HRb4 := Lib.hid (HRb3.out.on hb9)
          have hlb3 := HRb3.out.lt
          have HRr4 := Lib.hid (HRr3.out.on hb9)
          have hlr3 := HRr3.out.lt
          have HRp4 := Lib.hid (HRp3.out.on hb9)
          have hlp3 := HRp3.out.lt
          clear hR9 hb9
          refine hK4.out _ _ (HSo.out _ HB4.out) (fun _ => ?_)
          refine wpAnyH_take (i := 9) (v := .agg #[.slice (some ⟨gw, 0, none⟩) l.wn kw, .slice (some ⟨gr, 0, none⟩) l.tn l.tn, .slice (some ⟨gp, 0, none⟩) l.tn l.tn, .slice (some ⟨gb, 0, none⟩) l.tn l.tn]) rfl (by kernel_rfl) (by kernel_rfl) (by kernel_rfl) (fun _ _ _ h => h) (Or.inl ⟨by rfl, ?_⟩) (HSo.out _ HB4.out) ?_
          · (intro W hSw; (try dsimp only at hSw); go_simp)
          show wpAnyH _ _ _ _ _ _ _ (Act.put _ (some 24) _) _
          simp only [Act.put, List.setIfInBounds_toArray, List.set_cons_zero, List.set_cons_succ]
          refine wpAnyH_ready (rs := [10]) (by kernel_rfl) (by simp) (AllReadyH.cons rfl (fun K5 hK5 => ?_) (AllReadyH.nil))
          rw [if_pos (by rfl)]
          have hx := HZ1.out.below HB4.out (by omega)
          refine wp_store_row _ _ _ rfl (w.heap.size + 1) #[.slice (some ⟨gw, 0, none⟩) l.wn kw, .slice (some ⟨gr, 0, none⟩) l.tn l.tn, .slice (some ⟨gp, 0, none⟩) l.tn l.tn, .slice (some ⟨gb, 0, none⟩) l.tn l.tn] rfl rfl 113 _ hx size_lst rfl (lst_one _ _ _ _ _ _ _ _ _ _ _ _) ?_
          refine hK5.out _ _ (HSt.out _ _ HB4.out) (fun _ => ?_)
          refine wpAnyH_take (i := 11) (v := .int .i64 0) rfl (by kernel_rfl) (by kernel_rfl) (by kernel_rfl) (fun _ _ _ h => h) (Or.inl ⟨by rfl, ?_⟩) (HSt.out _ _ HB4.out) ?_
          · (intro W hSw; (try dsimp only at hSw); go_simp)
          show wpAnyH _ _ _ _ _ _ _ (Act.put _ (some 3) _) _
          simp only [Act.put, List.setIfInBounds_toArray, List.set_cons_zero, List.set_cons_succ]
          refine wpAnyH_done (by kernel_rfl) ?_ _
          have HR := Lib.hid (setRow_heap V4 (w.heap.size + 1) _ (#[.slice (some ⟨gw, 0, none⟩) l.wn kw, .slice (some ⟨gr, 0, none⟩) l.tn l.tn, .slice (some ⟨gp, 0, none⟩) l.tn l.tn, .slice (some ⟨gb, 0, none⟩) l.tn l.tn]) _ _ hx)
          have HE := Lib.hid (beg_end HW1.out HB4.out (by omega) HRw4.out HRr4.out HRp4.out HRb4.out (by omega) ⟨by omega, by omega, by omega, by omega⟩)
          go_wp2_with fail
          refine bodyPost_ret_by (results_cell_row2 rfl _ _ (w.heap.size + 1) 113 _ (0, 0) _ rfl HR.out Try.underlying113 rfl size_lst) rfl ?_
          exact HE.out
    · rw [if_pos (by rfl)]
      refine wp_make _ _ _ 30 rfl w1.heap.size 3 i1 (.int .i64 0) 1 Try.underlying30 hi1 hi1z hi1s .i64 .i64 _ _ l.tn rfl rfl rfl rfl (by rw [hi1b]; omega) (by simp only [maxLen]; omega) HB1.out.size ?_
      intro V2 hown9 hg9
      rw [made_int _] at hown9
      have hb9 : Below V1.heap.size V1 V2 := (Below.refl _ _).grown hg9 (Nat.le_refl _) (fun q hq => by cases hq)
      have HB2 := Lib.hid (Below.step9 HB1.out hb9 (Nat.le_refl w1.heap.size))
      obtain ⟨gp, hgpe, hgp, hR9⟩ := Rw.of_own hown9 (by omega)
      injection hgpe with hgpe
      injection hgpe with hgp0 _
      rw [hgp0]
      have HRp2 := Lib.hid hR9
      have HRb2 := Lib.hid (HRb1.out.on hb9)
      have hlb1 := HRb1.out.lt
      clear hR9 hb9
      refine hK2.out _ _ (HSo.out _ HB2.out) (fun _ => ?_)
      refine wpAnyH_ready (rs := [2, 4]) (by kernel_rfl) (by simp) (AllReadyH.cons rfl (fun K3 hK3 => ?_) (AllReadyH.cons rfl (fun K3 hK3 => ?_) (AllReadyH.nil)))
      · rw [if_pos (by rfl)]
        go_simp
        go_at_call 121
        refine (HCw.out _ HB2.out).mono ?_
        rintro e V3 ⟨gw, kw, rfl, hgw0, hR9, hb9⟩
        have HB3 := Lib.hid (Below.step9 HB2.out hb9 (Nat.le_refl w1.heap.size))
        have HRw3 := Lib.hid hR9
        have hgw : w1.heap.size ≤ gw := Nat.le_trans HB2.out.size hgw0
        have HRb3 := Lib.hid (HRb2.out.on hb9)
        have hlb2 := HRb2.out.lt
        have HRp3 := Lib.hid (HRp2.out.on hb9)
        have hlp2 := HRp2.out.lt
        clear hR9 hb9
        refine hK3.out _ _ (HSo.out _ HB3.out) (fun _ => ?_)
        refine wpAnyH_ready (rs := [4]) (by kernel_rfl) (by simp) (AllReadyH.cons rfl (fun K4 hK4 => ?_) (AllReadyH.nil))
        · rw [if_pos (by rfl)]
          refine wp_make _ _ _ 110 rfl w1.heap.size 173 i2 (.agg #[.int .i64 0, .int .i64 0, .int .i64 0, .int .i64 0]) 4 Try.underlying110 hi2 hi2z hi2s .i64 .i64 _ _ l.tn rfl rfl rfl rfl (by rw [hi2b]; omega) (by simp only [maxLen]; omega) HB3.out.size ?_
          intro V4 hown9 hg9
          rw [made_reg _ n2] at hown9
          have hb9 : Below V3.heap.size V3 V4 := (Below.refl _ _).grown hg9 (Nat.le_refl _) (fun q hq => by cases hq)
          have HB4 := Lib.hid (Below.step9 HB3.out hb9 (Nat.le_refl w1.heap.size))
          obtain ⟨gr, hgre, hgr, hR9⟩ := Rw.of_own hown9 (by omega)
          injection hgre with hgre
          injection hgre with hgr0 _
          rw [hgr0]
          have HRr4 := Lib.hid hR9
          have HRb4 := Lib.hid (HRb3.out.on hb9)
          have hlb3 := HRb3.out.lt
          have HRp4 := Lib.hid (HRp3.out.on hb9)
          have hlp3 := HRp3.out.lt
          have HRw4 := Lib.hid (HRw3.out.on hb9)
          have hlw3 := HRw3.out.lt
          clear hR9 hb9
          refine hK4.out _ _ (HSo.out _ HB4.out) (fun _ => ?_)
          refine wpAnyH_take (i := 9) (v := .agg #[.slice (some ⟨gw, 0, none⟩) l.wn kw, .slice (some ⟨gr, 0, none⟩) l.tn l.tn, .slice (some ⟨gp, 0, none⟩) l.tn l.tn, .slice (some ⟨gb, 0, none⟩) l.tn l.tn]) rfl (by kernel_rfl) (by kernel_rfl) (by kernel_rfl) (fun _ _ _ h => h) (Or.inl ⟨by rfl, ?_⟩) (HSo.out _ HB4.out) ?_
          · (intro W hSw; (try dsimp only at hSw); go_simp)
          show wpAnyH _ _ _ _ _ _ _ (Act.put _ (some 24) _) _
          simp only [Act.put, List.setIfInBounds_toArray, List.set_cons_zero, List.set_cons_succ]
          refine wpAnyH_ready (rs := [10]) (by kernel_rfl) (by simp) (AllReadyH.cons rfl (fun K5 hK5 => ?_) (AllReadyH.nil))
          rw [if_pos (by rfl)]
          have hx := HZ1.out.below HB4.out (by omega)
          refine wp_store_row _ _ _ rfl (w.heap.size + 1) #[.slice (some ⟨gw, 0, none⟩) l.wn kw, .slice (some ⟨gr, 0, none⟩) l.tn l.tn, .slice (some ⟨gp, 0, none⟩) l.tn l.tn, .slice (some ⟨gb, 0, none⟩) l.tn l.tn] rfl rfl 113 _ hx size_lst rfl (lst_one _ _ _ _ _ _ _ _ _ _ _ _) ?_
          refine hK5.out _ _ (HSt.out _ _ HB4.out) (fun _ => ?_)
          refine wpAnyH_take (i := 11) (v := .int .i64 0) rfl (by kernel_rfl) (by kernel_rfl) (by kernel_rfl) (fun _ _ _ h => h) (Or.inl ⟨by rfl, ?_⟩) (HSt.out _ _ HB4.out) ?_
          · (intro W hSw; (try dsimp only at hSw); go_simp)
          show wpAnyH _ _ _ _ _ _ _ (Act.put _ (some 3) _) _
          simp only [Act.put, List.setIfInBounds_toArray, List.set_cons_zero, List.set_cons_succ]
          refine wpAnyH_done (by kernel_rfl) ?_ _
          have HR := Lib.hid (setRow_heap V4 (w.heap.size + 1) _ (#[.slice (some ⟨gw, 0, none⟩) l.wn kw, .slice (some ⟨gr, 0, none⟩) l.tn l.tn, .slice (some ⟨gp, 0, none⟩) l.tn l.tn, .slice (some ⟨gb, 0, none⟩) l.tn l.tn]) _ _ hx)
          have HE := Lib.hid (beg_end HW1.out HB4.out (by omega) HRw4.out HRr4.out HRp4.out HRb4.out (by omega) ⟨by omega, by omega, by omega, by omega⟩)
          go_wp2_with fail
          refine bodyPost_ret_by (results_cell_row2 rfl _ _ (w.heap.size + 1) 113 _ (0, 0) _ rfl HR.out Try.underlying113 rfl size_lst) rfl ?_
          exact HE.out
      · rw [if_pos (by rfl)]
        refine wp_make _ _ _ 110 rfl w1.heap.size 173 i2 (.agg #[.int .i64 0, .int .i64 0, .int .i64 0, .int .i64 0]) 4 Try.underlying110 hi2 hi2z hi2s .i64 .i64 _ _ l.tn rfl rfl rfl rfl (by rw [hi2b]; omega) (by simp only [maxLen]; omega) HB2.out.size ?_
        intro V3 hown9 hg9
        rw [made_reg _ n2] at hown9
        have hb9 : Below V2.heap.size V2 V3 := (Below.refl _ _).grown hg9 (Nat.le_refl _) (fun q hq => by cases hq)
        have HB3 := Lib.hid (Below.step9 HB2.out hb9 (Nat.le_refl w1.heap.size))
        obtain ⟨gr, hgre, hgr, hR9⟩ := Rw.of_own hown9 (by omega)
        injection hgre with hgre
        injection hgre with hgr0 _
        rw [hgr0]
        have HRr3 := Lib.hid hR9
        have HRb3 := Lib.hid (HRb2.out.on hb9)
        have hlb2 := HRb2.out.lt
        have HRp3 := Lib.hid (HRp2.out.on hb9)
        have hlp2 := HRp2.out.lt
        clear hR9 hb9
        refine hK3.out _ _ (HSo.out _ HB3.out) (fun _ => ?_)
        refine wpAnyH_ready (rs := [2]) (by kernel_rfl) (by simp) (AllReadyH.cons rfl (fun K4 hK4 => ?_) (AllReadyH.nil))
        · rw [if_pos (by rfl)]
          go_simp
          go_at_call 121
          refine (HCw.out _ HB3.out).mono ?_
          rintro e V4 ⟨gw, kw, rfl, hgw0, hR9, hb9⟩
          have HB4 := Lib.hid (Below.step9 HB3.out hb9 (Nat.le_refl w1.heap.size))
          have HRw4 := Lib.hid hR9
          have hgw : w1.heap.size ≤ gw := Nat.le_trans HB3.out.size hgw0
          have HRb4 := Lib.hid (HRb3.out.on hb9)
          have hlb3 := HRb3.out.lt
          have HRp4 := Lib.hid (HRp3.out.on hb9)
          have hlp3 := HRp3.out.lt
          have HRr4 := Lib.hid (HRr3.out.on hb9)
          have hlr3 := HRr3.out.lt
          clear hR9 hb9
          refine hK4.out _ _ (HSo.out _ HB4.out) (fun _ => ?_)
          refine wpAnyH_take (i := 9) (v := .agg #[.slice (some ⟨gw, 0, none⟩) l.wn kw, .slice (some ⟨gr, 0, none⟩) l.tn l.tn, .slice (some ⟨gp, 0, none⟩) l.tn l.tn, .slice (some ⟨gb, 0, none⟩) l.tn l.tn]) rfl (by kernel_rfl) (by kernel_rfl) (by kernel_rfl) (fun _ _ _ h => h) (Or.inl ⟨by rfl, ?_⟩) (HSo.out _ HB4.out) ?_
          · (intro W hSw; (try dsimp only at hSw); go_simp)
          show wpAnyH _ _ _ _ _ _ _ (Act.put _ (some 24) _) _
          simp only [Act.put, List.setIfInBounds_toArray, List.set_cons_zero, List.set_cons_succ]
          refine wpAnyH_ready (rs := [10]) (by kernel_rfl) (by simp) (AllReadyH.cons rfl (fun K5 hK5 => ?_) (AllReadyH.nil))
          rw [if_pos (by rfl)]
          have hx := HZ1.out.below HB4.out (by omega)
          refine wp_store_row _ _ _ rfl (w.heap.size + 1) #[.slice (some ⟨gw, 0, none⟩) l.wn kw, .slice (some ⟨gr, 0, none⟩) l.tn l.tn, .slice (some ⟨gp, 0, none⟩) l.tn l.tn, .slice (some ⟨gb, 0, none⟩) l.tn l.tn] rfl rfl 113 _ hx size_lst rfl (lst_one _ _ _ _ _ _ _ _ _ _ _ _) ?_
          refine hK5.out _ _ (HSt.out _ _ HB4.out) (fun _ => ?_)
          refine wpAnyH_take (i := 11) (v := .int .i64 0) rfl (by kernel_rfl) (by kernel_rfl) (by kernel_rfl) (fun _ _ _ h => h) (Or.inl ⟨by rfl, ?_⟩) (HSt.out _ _ HB4.out) ?_
          · (intro W hSw; (try dsimp only at hSw); go_simp)
          show wpAnyH _ _ _ _ _ _ _ (Act.put _ (some 3) _) _
          simp only [Act.put, List.setIfInBounds_toArray, List.set_cons_zero, List.set_cons_succ]
          refine wpAnyH_done (by kernel_rfl) ?_ _
          have HR := Lib.hid (setRow_heap V4 (w.heap.size + 1) _ (#[.slice (some ⟨gw, 0, none⟩) l.wn kw, .slice (some ⟨gr, 0, none⟩) l.tn l.tn, .slice (some ⟨gp, 0, none⟩) l.tn l.tn, .slice (some ⟨gb, 0, none⟩) l.tn l.tn]) _ _ hx)
          have HE := Lib.hid (beg_end HW1.out HB4.out (by omega) HRw4.out HRr4.out HRp4.out HRb4.out (by omega) ⟨by omega, by omega, by omega, by omega⟩)
          go_wp2_with fail
          refine bodyPost_ret_by (results_cell_row2 rfl _ _ (w.heap.size + 1) 113 _ (0, 0) _ rfl HR.out Try.underlying113 rfl size_lst) rfl ?_
          exact HE.out
end Go.Proofs.Ytgbopmgeicokoaa
