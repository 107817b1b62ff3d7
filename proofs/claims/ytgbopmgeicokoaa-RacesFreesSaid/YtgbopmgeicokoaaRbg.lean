/-
  reclaimref19.Begin.
-/
import Derived.Test.YtgbopmgeicokoaaBeg
namespace Go.Proofs.Ytgbopmgeicokoaa
open Go.RowKit
set_option linter.unusedVariables false
set_option linter.unusedSimpArgs false

theorem rbeg_end {l : Lit} {w w1 W : World} {gw kw gr gp gb : Nat} (hw : Below w.heap.size w w1) (hb : Below w1.heap.size w1 W) (hg : w.heap.size + 1 < w1.heap.size)
    (h1 : Rw W gw 3 1 l.wn kw (ints l.ws)) (h2 : Rw W gr 173 4 l.tn l.tn (ints (List.replicate (l.tn * 4) 0))) (h3 : Rw W gp 3 1 l.tn l.tn (natsI (List.replicate l.tn 0))) (h4 : Rw W gb 278 1 l.tn l.tn (List.replicate l.tn (.slice none 0 0)))
    (hne : gw ≠ gp) (ge : w.heap.size + 2 ≤ gw ∧ w1.heap.size ≤ gr ∧ w1.heap.size ≤ gp ∧ w1.heap.size ≤ gb) :
    CpdR l.tn l.wn (firstS l) w (.returned (stV ⟨gw, kw, gr, l.tn, gp, l.tn, gb, l.tn⟩ l.tn l.wn)) (W.setRow (w.heap.size + 1) #[.slice (some ⟨gw, 0, none⟩) l.wn kw, .slice (some ⟨gr, 0, none⟩) l.tn l.tn, .slice (some ⟨gp, 0, none⟩) l.tn l.tn, .slice (some ⟨gb, 0, none⟩) l.tn l.tn]) := by
  have hne1 : gw ≠ gr := by
    obtain ⟨_, cs, c1, _⟩ := h2
    exact fun e => h1.ne c1 (by decide) e.symm
  have hne2 : gr ≠ gp := by
    obtain ⟨_, cs, c1, _⟩ := h3
    exact fun e => h2.ne c1 (by decide) e.symm
  have hb1 : gw ≠ gb := by
    obtain ⟨_, cs, c1, _⟩ := h4
    exact fun e => h1.ne c1 (by decide) e.symm
  have hb2 : gr ≠ gb := by
    obtain ⟨_, cs, c1, _⟩ := h4
    exact fun e => h2.ne c1 (by decide) e.symm
  have hb3 : gp ≠ gb := by
    obtain ⟨_, cs, c1, _⟩ := h4
    exact fun e => h3.ne c1 (by decide) e.symm
  have hs := hw.size
  exact ⟨⟨gw, kw, gr, l.tn, gp, l.tn, gb, l.tn⟩, rfl, ⟨by dsimp only; omega, Nat.le_trans hs ge.2.1, Nat.le_trans hs ge.2.2.1, Nat.le_trans hs ge.2.2.2⟩, ⟨h1.kept (rowK (by omega)), h2.kept (rowK (by omega)), h3.kept (rowK (by omega)), h4.kept (rowK (by omega)), ⟨hne1, hne, hb1, hne2, hb2, hb3⟩⟩, rowB (hw.trans (hb.mono hs)) (by omega)⟩

set_option maxRecDepth 100000 in
set_option maxHeartbeats 16000000 in
theorem rbegin_ok (l : Lit) (w : World) (h : LitAt w w.heap.size l) (hok : okLit l = true) :
    Calls Try.prog 123 #[litV l] w (CpdR l.tn l.wn (firstS l) w) := by
  obtain ⟨n1, n2, n3, n4⟩ := okLit_num hok
  obtain ⟨w0, hw0⟩ : ∃ w0 : World, w0 = (w.alloc (.cells #[.slice l.wA l.wn l.wk, .slice l.tA l.tn l.tk] 101)).alloc (.cells #[.slice none 0 0, .slice none 0 0, .slice none 0 0, .slice none 0 0] 113) := ⟨_, rfl⟩
  have HB0 : Hid (Blk w0 w.heap.size 101 (litL l)) := by rw [hw0]; exact (Blk.new w 101 (litL l)).alloc _
  have HZ0 : Hid (Blk w0 (w.heap.size + 1) 113 [.slice none 0 0, .slice none 0 0, .slice none 0 0, .slice none 0 0]) := by
    rw [hw0]
    have h9 := Blk.new (w.alloc (.cells #[.slice l.wA l.wn l.wk, .slice l.tA l.tn l.tk] 101)) 113 [.slice none 0 0, .slice none 0 0, .slice none 0 0, .slice none 0 0]
    rw [World.size_alloc] at h9
    exact h9
  have HW0 : Hid (Below w.heap.size w w0) := by rw [hw0]; exact ((Below.refl _ _).alloc (Nat.le_refl _) _).alloc (by simp) _
  have HL := Lib.hid h
  have HWe := Lib.hid hw0
  have hz0 : w.heap.size + 1 < w0.heap.size := HZ0.out.lt
  clear h hw0
  obtain ⟨i1, hi1, hi1z, hi1s, hi1b⟩ := info_parts info_int1
  obtain ⟨i2, hi2, hi2z, hi2s, hi2b⟩ := info_parts info_reg4
  obtain ⟨i3, hi3, hi3z, hi3s, hi3b⟩ := info_parts info_pend
  go_enter Try.func123, Try.ntmps123
  go_upto_region 1 with fail
  rw [← HWe.out]
  clear HWe
  have q0 : w0.cell? ⟨w.heap.size, 0, none⟩ = some (.slice l.wA l.wn l.wk) := HB0.out.cell rfl
  have q1 : w0.cell? ⟨w.heap.size, 1, none⟩ = some (.slice l.tA l.tn l.tk) := HB0.out.cell rfl
  have hws := ((HL.out.keep HW0.out).ws.up HW0.out.size)
  go_upto_region 3 with fail
  go_upto_region 4 with (at_builtin; go_must (refine wpList_app0 _ rfl _ _ 30 rfl w0.heap.size 3 i1 (.int .i64 0) 1 8 Try.underlying30 hi1 hi1z hi1s hi1b rfl (by decide) _ rfl (World.ownsRow_nil _ _ _ _) _ l.wA l.wn l.wk (ints l.ws) rfl hws (ints_one' _) (by simp only [maxLen]; omega) (by omega) (Nat.le_refl _) ?_; intro A1 kw w1 hown1 hb1 hfr1 hk1 hk2))
  obtain ⟨gw, hgw, hgwB, hRw⟩ := Rw.of_own hown1 (by omega)
  subst hgw
  have HRw := Lib.hid hRw
  have HW1 := Lib.hid (HW0.out.trans (hb1.mono HW0.out.size))
  have HZ1 := Lib.hid (HZ0.out.below hb1 HZ0.out.lt)
  have hz1 := hb1.size
  have hgl := HRw.out.lt
  clear hRw hown1 hb1 hfr1 hws q0 q1
  refine wp_region_held_drew (S := fun _ => True) (by kernel_rfl) trivial (fun hS => ?_)
  refine wpAnyH_take (i := 0) (v := .slice (some ⟨gw, 0, none⟩) l.wn kw) rfl (by kernel_rfl) (by kernel_rfl) (by kernel_rfl) (fun _ _ _ h => h) (Or.inl ⟨by rfl, ?_⟩) (trivial) ?_
  · (intro W hSw; go_simp)
  show wpAnyH _ _ _ _ _ _ _ (Act.put _ (some 12) _) _
  simp only [Act.put, List.setIfInBounds_toArray, List.set_cons_zero, List.set_cons_succ]
  refine wpAnyH_take (i := 1) (v := .int .i64 l.tn) rfl (by kernel_rfl) (by kernel_rfl) (by kernel_rfl) (fun _ _ _ h => h) (Or.inl ⟨by rfl, ?_⟩) (trivial) ?_
  · (intro W hSw; go_simp)
  show wpAnyH _ _ _ _ _ _ _ (Act.put _ (some 13) _) _
  simp only [Act.put, List.setIfInBounds_toArray, List.set_cons_zero, List.set_cons_succ]
  refine wpAnyH_take (i := 3) (v := .int .i64 l.tn) rfl (by kernel_rfl) (by kernel_rfl) (by kernel_rfl) (fun _ _ _ h => h) (Or.inl ⟨by rfl, ?_⟩) (trivial) ?_
  · (intro W hSw; go_simp)
  show wpAnyH _ _ _ _ _ _ _ (Act.put _ (some 15) _) _
  simp only [Act.put, List.setIfInBounds_toArray, List.set_cons_zero, List.set_cons_succ]
  refine wpAnyH_take (i := 5) (v := .int .i64 l.tn) rfl (by kernel_rfl) (by kernel_rfl) (by kernel_rfl) (fun _ _ _ h => h) (Or.inl ⟨by rfl, ?_⟩) (trivial) ?_
  · (intro W hSw; go_simp)
  show wpAnyH _ _ _ _ _ _ _ (Act.put _ (some 17) _) _
  simp only [Act.put, List.setIfInBounds_toArray, List.set_cons_zero, List.set_cons_succ]
  obtain ⟨V0, hV9, HB0', hb9⟩ : ∃ Z9, Z9 = w1.drew ∧ Hid (Below w1.heap.size w1 Z9) ∧ True := ⟨_, rfl, (Below.refl _ _).drew, trivial⟩
  rw [← hV9]
  clear hV9 hb9
  refine wpAnyH_ready (rs := [2, 4, 6]) (by kernel_rfl) (by simp) (AllReadyH.cons rfl (fun K1 hK1 => ?_) (AllReadyH.cons rfl (fun K1 hK1 => ?_) (AllReadyH.cons rfl (fun K1 hK1 => ?_) (AllReadyH.nil))))
  · rw [if_pos (by rfl)]
    refine wp_make _ _ _ 110 rfl w1.heap.size 173 i2 (.agg #[.int .i64 0, .int .i64 0, .int .i64 0, .int .i64 0]) 4 Try.underlying110 hi2 hi2z hi2s .i64 .i64 _ _ l.tn rfl rfl rfl rfl (by rw [hi2b]; omega) (by simp only [maxLen]; omega) HB0'.out.size ?_
    intro V1 hown9 hg9
    rw [made_reg _ n2] at hown9
    have hb9 : Below V0.heap.size V0 V1 := (Below.refl _ _).grown hg9 (Nat.le_refl _) (fun q hq => by cases hq)
    have HB1 := Lib.hid (Below.step9 HB0'.out hb9 (Nat.le_refl w1.heap.size))
    obtain ⟨gr, hgre, hgr, hR9⟩ := Rw.of_own hown9 (by omega)
    injection hgre with hgre
    injection hgre with hgr0 _
    rw [hgr0]
    have HRr1 := Lib.hid hR9
    clear hR9 hb9
    refine hK1.out _ _ trivial (fun _ => ?_)
    refine wpAnyH_ready (rs := [4, 6]) (by kernel_rfl) (by simp) (AllReadyH.cons rfl (fun K2 hK2 => ?_) (AllReadyH.cons rfl (fun K2 hK2 => ?_) (AllReadyH.nil)))
    · rw [if_pos (by rfl)]
      refine wp_make _ _ _ 30 rfl w1.heap.size 3 i1 (.int .i64 0) 1 Try.underlying30 hi1 hi1z hi1s .i64 .i64 _ _ l.tn rfl rfl rfl rfl (by rw [hi1b]; omega) (by simp only [maxLen]; omega) HB1.out.size ?_
      intro V2 hown9 hg9
      rw [made_int _] at hown9
      have hb9 : Below V1.heap.size V1 V2 := (Below.refl _ _).grown hg9 (Nat.le_refl _) (fun q hq => by cases hq)
      have HB2 := Lib.hid (Below.step9 HB1.out hb9 (Nat.le_refl w1.heap.size))
      obtain ⟨gp, hgpe, hgp, hR9⟩ := Rw.of_own hown9 (by omega)
      injection hgpe with hgpe
      injection hgpe with hgp0 _
      rw [hgp0]
      have HRp2 := Lib.hid hR9
      have HRr2 := Lib.hid (HRr1.out.on hb9)
      have hlr1 := HRr1.out.lt
      clear hR9 hb9
      refine hK2.out _ _ trivial (fun _ => ?_)
      refine wpAnyH_ready (rs := [6]) (by kernel_rfl) (by simp) (AllReadyH.cons rfl (fun K3 hK3 => ?_) (AllReadyH.nil))
      · rw [if_pos (by rfl)]
        refine wp_make _ _ _ 111 rfl w1.heap.size 278 i3 (.slice none 0 0) 1 Try.underlying111 hi3 hi3z hi3s .i64 .i64 _ _ l.tn rfl rfl rfl rfl (by rw [hi3b]; omega) (by simp only [maxLen]; omega) HB2.out.size ?_
        intro V3 hown9 hg9
        rw [made_nil _] at hown9
        have hb9 : Below V2.heap.size V2 V3 := (Below.refl _ _).grown hg9 (Nat.le_refl _) (fun q hq => by cases hq)
        have HB3 := Lib.hid (Below.step9 HB2.out hb9 (Nat.le_refl w1.heap.size))
        obtain ⟨gb, hgbe, hgb, hR9⟩ := Rw.of_own hown9 (by omega)
        injection hgbe with hgbe
        injection hgbe with hgb0 _
        rw [hgb0]
        have HRb3 := Lib.hid hR9
        have HRr3 := Lib.hid (HRr2.out.on hb9)
        have hlr2 := HRr2.out.lt
        have HRp3 := Lib.hid (HRp2.out.on hb9)
        have hlp2 := HRp2.out.lt
        clear hR9 hb9
        refine hK3.out _ _ trivial (fun _ => ?_)
        refine wpAnyH_take (i := 7) (v := .agg #[.slice (some ⟨gw, 0, none⟩) l.wn kw, .slice (some ⟨gr, 0, none⟩) l.tn l.tn, .slice (some ⟨gp, 0, none⟩) l.tn l.tn, .slice (some ⟨gb, 0, none⟩) l.tn l.tn]) rfl (by kernel_rfl) (by kernel_rfl) (by kernel_rfl) (fun _ _ _ h => h) (Or.inl ⟨by rfl, ?_⟩) (trivial) ?_
        · (intro W hSw; go_simp)
        show wpAnyH _ _ _ _ _ _ _ (Act.put _ (some 19) _) _
        simp only [Act.put, List.setIfInBounds_toArray, List.set_cons_zero, List.set_cons_succ]
        refine wpAnyH_ready (rs := [8]) (by kernel_rfl) (by simp) (AllReadyH.cons rfl (fun K4 hK4 => ?_) (AllReadyH.nil))
        rw [if_pos (by rfl)]
        have hx := HZ1.out.below HB3.out (by omega)
        refine wp_store_row _ _ _ rfl (w.heap.size + 1) #[.slice (some ⟨gw, 0, none⟩) l.wn kw, .slice (some ⟨gr, 0, none⟩) l.tn l.tn, .slice (some ⟨gp, 0, none⟩) l.tn l.tn, .slice (some ⟨gb, 0, none⟩) l.tn l.tn] rfl rfl 113 _ hx size_lst rfl (lst_one _ _ _ _ _ _ _ _ _ _ _ _) ?_
        refine hK4.out _ _ trivial (fun _ => ?_)
        refine wpAnyH_done (by kernel_rfl) ?_ _
        have HR := Lib.hid (setRow_heap V3 (w.heap.size + 1) _ (#[.slice (some ⟨gw, 0, none⟩) l.wn kw, .slice (some ⟨gr, 0, none⟩) l.tn l.tn, .slice (some ⟨gp, 0, none⟩) l.tn l.tn, .slice (some ⟨gb, 0, none⟩) l.tn l.tn]) _ _ hx)
        have HE := Lib.hid (rbeg_end HW1.out HB3.out (by omega) (HRw.out.on HB3.out) HRr3.out HRp3.out HRb3.out (by omega) ⟨by omega, by omega, by omega, by omega⟩)
        go_wp2_with fail
        refine bodyPost_ret_by (results_cell_row rfl _ _ (w.heap.size + 1) 113 _ (0, 0) _ rfl HR.out Try.underlying113 rfl size_lst) rfl ?_
        exact HE.out
    · rw [if_pos (by rfl)]
      refine wp_make _ _ _ 111 rfl w1.heap.size 278 i3 (.slice none 0 0) 1 Try.underlying111 hi3 hi3z hi3s .i64 .i64 _ _ l.tn rfl rfl rfl rfl (by rw [hi3b]; omega) (by simp only [maxLen]; omega) HB1.out.size ?_
      intro V2 hown9 hg9
      rw [made_nil _] at hown9
      have hb9 : Below V1.heap.size V1 V2 := (Below.refl _ _).grown hg9 (Nat.le_refl _) (fun q hq => by cases hq)
      have HB2 := Lib.hid (Below.step9 HB1.out hb9 (Nat.le_refl w1.heap.size))
      obtain ⟨gb, hgbe, hgb, hR9⟩ := Rw.of_own hown9 (by omega)
      injection hgbe with hgbe
      injection hgbe with hgb0 _
      rw [hgb0]
      have HRb2 := Lib.hid hR9
      have HRr2 := Lib.hid (HRr1.out.on hb9)
      have hlr1 := HRr1.out.lt
      clear hR9 hb9
      refine hK2.out _ _ trivial (fun _ => ?_)
      refine wpAnyH_ready (rs := [4]) (by kernel_rfl) (by simp) (AllReadyH.cons rfl (fun K3 hK3 => ?_) (AllReadyH.nil))
      · rw [if_pos (by rfl)]
        refine wp_make _ _ _ 30 rfl w1.heap.size 3 i1 (.int .i64 0) 1 Try.underlying30 hi1 hi1z hi1s .i64 .i64 _ _ l.tn rfl rfl rfl rfl (by rw [hi1b]; omega) (by simp only [maxLen]; omega) HB2.out.size ?_
        intro V3 hown9 hg9
        rw [made_int _] at hown9
        have hb9 : Below V2.heap.size V2 V3 := (Below.refl _ _).grown hg9 (Nat.le_refl _) (fun q hq => by cases hq)
        have HB3 := Lib.hid (Below.step9 HB2.out hb9 (Nat.le_refl w1.heap.size))
        obtain ⟨gp, hgpe, hgp, hR9⟩ := Rw.of_own hown9 (by omega)
        injection hgpe with hgpe
        injection hgpe with hgp0 _
        rw [hgp0]
        have HRp3 := Lib.hid hR9
        have HRr3 := Lib.hid (HRr2.out.on hb9)
        have hlr2 := HRr2.out.lt
        have HRb3 := Lib.hid (HRb2.out.on hb9)
        have hlb2 := HRb2.out.lt
        clear hR9 hb9
        refine hK3.out _ _ trivial (fun _ => ?_)
        refine wpAnyH_take (i := 7) (v := .agg #[.slice (some ⟨gw, 0, none⟩) l.wn kw, .slice (some ⟨gr, 0, none⟩) l.tn l.tn, .slice (some ⟨gp, 0, none⟩) l.tn l.tn, .slice (some ⟨gb, 0, none⟩) l.tn l.tn]) rfl (by kernel_rfl) (by kernel_rfl) (by kernel_rfl) (fun _ _ _ h => h) (Or.inl ⟨by rfl, ?_⟩) (trivial) ?_
        · (intro W hSw; go_simp)
        show wpAnyH _ _ _ _ _ _ _ (Act.put _ (some 19) _) _
        simp only [Act.put, List.setIfInBounds_toArray, List.set_cons_zero, List.set_cons_succ]
        refine wpAnyH_ready (rs := [8]) (by kernel_rfl) (by simp) (AllReadyH.cons rfl (fun K4 hK4 => ?_) (AllReadyH.nil))
        rw [if_pos (by rfl)]
        have hx := HZ1.out.below HB3.out (by omega)
        refine wp_store_row _ _ _ rfl (w.heap.size + 1) #[.slice (some ⟨gw, 0, none⟩) l.wn kw, .slice (some ⟨gr, 0, none⟩) l.tn l.tn, .slice (some ⟨gp, 0, none⟩) l.tn l.tn, .slice (some ⟨gb, 0, none⟩) l.tn l.tn] rfl rfl 113 _ hx size_lst rfl (lst_one _ _ _ _ _ _ _ _ _ _ _ _) ?_
        refine hK4.out _ _ trivial (fun _ => ?_)
        refine wpAnyH_done (by kernel_rfl) ?_ _
        have HR := Lib.hid (setRow_heap V3 (w.heap.size + 1) _ (#[.slice (some ⟨gw, 0, none⟩) l.wn kw, .slice (some ⟨gr, 0, none⟩) l.tn l.tn, .slice (some ⟨gp, 0, none⟩) l.tn l.tn, .slice (some ⟨gb, 0, none⟩) l.tn l.tn]) _ _ hx)
        have HE := Lib.hid (rbeg_end HW1.out HB3.out (by omega) (HRw.out.on HB3.out) HRr3.out HRp3.out HRb3.out (by omega) ⟨by omega, by omega, by omega, by omega⟩)
        go_wp2_with fail
        refine bodyPost_ret_by (results_cell_row rfl _ _ (w.heap.size + 1) 113 _ (0, 0) _ rfl HR.out Try.underlying113 rfl size_lst) rfl ?_
        exact HE.out
  · rw [if_pos (by rfl)]
    refine wp_make _ _ _ 30 rfl w1.heap.size 3 i1 (.int .i64 0) 1 Try.underlying30 hi1 hi1z hi1s .i64 .i64 _ _ l.tn rfl rfl rfl rfl (by rw [hi1b]; omega) (by simp only [maxLen]; omega) HB0'.out.size ?_
    intro V1 hown9 hg9
    rw [made_int _] at hown9
    have hb9 : Below V0.heap.size V0 V1 := (Below.refl _ _).grown hg9 (Nat.le_refl _) (fun q hq => by cases hq)
    have HB1 := Lib.hid (Below.step9 HB0'.out hb9 (Nat.le_refl w1.heap.size))
    obtain ⟨gp, hgpe, hgp, hR9⟩ := Rw.of_own hown9 (by omega)
    injection hgpe with hgpe
    injection hgpe with hgp0 _
    rw [hgp0]
    have HRp1 := Lib.hid hR9
    clear hR9 hb9
    refine hK1.out _ _ trivial (fun _ => ?_)
    refine wpAnyH_ready (rs := [2, 6]) (by kernel_rfl) (by simp) (AllReadyH.cons rfl (fun K2 hK2 => ?_) (AllReadyH.cons rfl (fun K2 hK2 => ?_) (AllReadyH.nil)))
    · rw [if_pos (by rfl)]
      refine wp_make _ _ _ 110 rfl w1.heap.size 173 i2 (.agg #[.int .i64 0, .int .i64 0, .int .i64 0, .int .i64 0]) 4 Try.underlying110 hi2 hi2z hi2s .i64 .i64 _ _ l.tn rfl rfl rfl rfl (by rw [hi2b]; omega) (by simp only [maxLen]; omega) HB1.out.size ?_
      intro V2 hown9 hg9
      rw [made_reg _ n2] at hown9
      have hb9 : Below V1.heap.size V1 V2 := (Below.refl _ _).grown hg9 (Nat.le_refl _) (fun q hq => by cases hq)
      have HB2 := Lib.hid (Below.step9 HB1.out hb9 (Nat.le_refl w1.heap.size))
      obtain ⟨gr, hgre, hgr, hR9⟩ := Rw.of_own hown9 (by omega)
      injection hgre with hgre
      injection hgre with hgr0 _
      rw [hgr0]
      have HRr2 := Lib.hid hR9
      have HRp2 := Lib.hid (HRp1.out.on hb9)
      have hlp1 := HRp1.out.lt
      clear hR9 hb9
      refine hK2.out _ _ trivial (fun _ => ?_)
      refine wpAnyH_ready (rs := [6]) (by kernel_rfl) (by simp) (AllReadyH.cons rfl (fun K3 hK3 => ?_) (AllReadyH.nil))
      · rw [if_pos (by rfl)]
        refine wp_make _ _ _ 111 rfl w1.heap.size 278 i3 (.slice none 0 0) 1 Try.underlying111 hi3 hi3z hi3s .i64 .i64 _ _ l.tn rfl rfl rfl rfl (by rw [hi3b]; omega) (by simp only [maxLen]; omega) HB2.out.size ?_
        intro V3 hown9 hg9
        rw [made_nil _] at hown9
        have hb9 : Below V2.heap.size V2 V3 := (Below.refl _ _).grown hg9 (Nat.le_refl _) (fun q hq => by cases hq)
        have HB3 := Lib.hid (Below.step9 HB2.out hb9 (Nat.le_refl w1.heap.size))
        obtain ⟨gb, hgbe, hgb, hR9⟩ := Rw.of_own hown9 (by omega)
        injection hgbe with hgbe
        injection hgbe with hgb0 _
        rw [hgb0]
        have HRb3 := Lib.hid hR9
        have HRp3 := Lib.hid (HRp2.out.on hb9)
        have hlp2 := HRp2.out.lt
        have HRr3 := Lib.hid (HRr2.out.on hb9)
        have hlr2 := HRr2.out.lt
        clear hR9 hb9
        refine hK3.out _ _ trivial (fun _ => ?_)
        refine wpAnyH_take (i := 7) (v := .agg #[.slice (some ⟨gw, 0, none⟩) l.wn kw, .slice (some ⟨gr, 0, none⟩) l.tn l.tn, .slice (some ⟨gp, 0, none⟩) l.tn l.tn, .slice (some ⟨gb, 0, none⟩) l.tn l.tn]) rfl (by kernel_rfl) (by kernel_rfl) (by kernel_rfl) (fun _ _ _ h => h) (Or.inl ⟨by rfl, ?_⟩) (trivial) ?_
        · (intro W hSw; go_simp)
        show wpAnyH _ _ _ _ _ _ _ (Act.put _ (some 19) _) _
        simp only [Act.put, List.setIfInBounds_toArray, List.set_cons_zero, List.set_cons_succ]
        refine wpAnyH_ready (rs := [8]) (by kernel_rfl) (by simp) (AllReadyH.cons rfl (fun K4 hK4 => ?_) (AllReadyH.nil))
        rw [if_pos (by rfl)]
        have hx := HZ1.out.below HB3.out (by omega)
        refine wp_store_row _ _ _ rfl (w.heap.size + 1) #[.slice (some ⟨gw, 0, none⟩) l.wn kw, .slice (some ⟨gr, 0, none⟩) l.tn l.tn, .slice (some ⟨gp, 0, none⟩) l.tn l.tn, .slice (some ⟨gb, 0, none⟩) l.tn l.tn] rfl rfl 113 _ hx size_lst rfl (lst_one _ _ _ _ _ _ _ _ _ _ _ _) ?_
        refine hK4.out _ _ trivial (fun _ => ?_)
        refine wpAnyH_done (by kernel_rfl) ?_ _
        have HR := Lib.hid (setRow_heap V3 (w.heap.size + 1) _ (#[.slice (some ⟨gw, 0, none⟩) l.wn kw, .slice (some ⟨gr, 0, none⟩) l.tn l.tn, .slice (some ⟨gp, 0, none⟩) l.tn l.tn, .slice (some ⟨gb, 0, none⟩) l.tn l.tn]) _ _ hx)
        have HE := Lib.hid (rbeg_end HW1.out HB3.out (by omega) (HRw.out.on HB3.out) HRr3.out HRp3.out HRb3.out (by omega) ⟨by omega, by omega, by omega, by omega⟩)
        go_wp2_with fail
        refine bodyPost_ret_by (results_cell_row rfl _ _ (w.heap.size + 1) 113 _ (0, 0) _ rfl HR.out Try.underlying113 rfl size_lst) rfl ?_
        exact HE.out
    · rw [if_pos (by rfl)]
      refine wp_make _ _ _ 111 rfl w1.heap.size 278 i3 (.slice none 0 0) 1 Try.underlying111 hi3 hi3z hi3s .i64 .i64 _ _ l.tn rfl rfl rfl rfl (by rw [hi3b]; omega) (by simp only [maxLen]; omega) HB1.out.size ?_
      intro V2 hown9 hg9
      rw [made_nil _] at hown9
      have hb9 : Below V1.heap.size V1 V2 := (Below.refl _ _).grown hg9 (Nat.le_refl _) (fun q hq => by cases hq)
      have HB2 := Lib.hid (Below.step9 HB1.out hb9 (Nat.le_refl w1.heap.size))
      obtain ⟨gb, hgbe, hgb, hR9⟩ := Rw.of_own hown9 (by omega)
      injection hgbe with hgbe
      injection hgbe with hgb0 _
      rw [hgb0]
      have HRb2 := Lib.hid hR9
      have HRp2 := Lib.hid (HRp1.out.on hb9)
      have hlp1 := HRp1.out.lt
      clear hR9 hb9
      refine hK2.out _ _ trivial (fun _ => ?_)
      refine wpAnyH_ready (rs := [2]) (by kernel_rfl) (by simp) (AllReadyH.cons rfl (fun K3 hK3 => ?_) (AllReadyH.nil))
      · rw [if_pos (by rfl)]
        refine wp_make _ _ _ 110 rfl w1.heap.size 173 i2 (.agg #[.int .i64 0, .int .i64 0, .int .i64 0, .int .i64 0]) 4 Try.underlying110 hi2 hi2z hi2s .i64 .i64 _ _ l.tn rfl rfl rfl rfl (by rw [hi2b]; omega) (by simp only [maxLen]; omega) HB2.out.size ?_
        intro V3 hown9 hg9
        rw [made_reg _ n2] at hown9
        have hb9 : Below V2.heap.size V2 V3 := (Below.refl _ _).grown hg9 (Nat.le_refl _) (fun q hq => by cases hq)
        have HB3 := Lib.hid (Below.step9 HB2.out hb9 (Nat.le_refl w1.heap.size))
        obtain ⟨gr, hgre, hgr, hR9⟩ := Rw.of_own hown9 (by omega)
        injection hgre with hgre
        injection hgre with hgr0 _
        rw [hgr0]
        have HRr3 := Lib.hid hR9
        have HRp3 := Lib.hid (HRp2.out.on hb9)
        have hlp2 := HRp2.out.lt
        have HRb3 := Lib.hid (HRb2.out.on hb9)
        have hlb2 := HRb2.out.lt
        clear hR9 hb9
        refine hK3.out _ _ trivial (fun _ => ?_)
        refine wpAnyH_take (i := 7) (v := .agg #[.slice (some ⟨gw, 0, none⟩) l.wn kw, .slice (some ⟨gr, 0, none⟩) l.tn l.tn, .slice (some ⟨gp, 0, none⟩) l.tn l.tn, .slice (some ⟨gb, 0, none⟩) l.tn l.tn]) rfl (by kernel_rfl) (by kernel_rfl) (by kernel_rfl) (fun _ _ _ h => h) (Or.inl ⟨by rfl, ?_⟩) (trivial) ?_
        · (intro W hSw; go_simp)
        show wpAnyH _ _ _ _ _ _ _ (Act.put _ (some 19) _) _
        simp only [Act.put, List.setIfInBounds_toArray, List.set_cons_zero, List.set_cons_succ]
        refine wpAnyH_ready (rs := [8]) (by kernel_rfl) (by simp) (AllReadyH.cons rfl (fun K4 hK4 => ?_) (AllReadyH.nil))
        rw [if_pos (by rfl)]
        have hx := HZ1.out.below HB3.out (by omega)
        refine wp_store_row _ _ _ rfl (w.heap.size + 1) #[.slice (some ⟨gw, 0, none⟩) l.wn kw, .slice (some ⟨gr, 0, none⟩) l.tn l.tn, .slice (some ⟨gp, 0, none⟩) l.tn l.tn, .slice (some ⟨gb, 0, none⟩) l.tn l.tn] rfl rfl 113 _ hx size_lst rfl (lst_one _ _ _ _ _ _ _ _ _ _ _ _) ?_
        refine hK4.out _ _ trivial (fun _ => ?_)
        refine wpAnyH_done (by kernel_rfl) ?_ _
        have HR := Lib.hid (setRow_heap V3 (w.heap.size + 1) _ (#[.slice (some ⟨gw, 0, none⟩) l.wn kw, .slice (some ⟨gr, 0, none⟩) l.tn l.tn, .slice (some ⟨gp, 0, none⟩) l.tn l.tn, .slice (some ⟨gb, 0, none⟩) l.tn l.tn]) _ _ hx)
        have HE := Lib.hid (rbeg_end HW1.out HB3.out (by omega) (HRw.out.on HB3.out) HRr3.out HRp3.out HRb3.out (by omega) ⟨by omega, by omega, by omega, by omega⟩)
        go_wp2_with fail
        refine bodyPost_ret_by (results_cell_row rfl _ _ (w.heap.size + 1) 113 _ (0, 0) _ rfl HR.out Try.underlying113 rfl size_lst) rfl ?_
        exact HE.out
  · rw [if_pos (by rfl)]
    refine wp_make _ _ _ 111 rfl w1.heap.size 278 i3 (.slice none 0 0) 1 Try.underlying111 hi3 hi3z hi3s .i64 .i64 _ _ l.tn rfl rfl rfl rfl (by rw [hi3b]; omega) (by simp only [maxLen]; omega) HB0'.out.size ?_
    intro V1 hown9 hg9
    rw [made_nil _] at hown9
    have hb9 : Below V0.heap.size V0 V1 := (Below.refl _ _).grown hg9 (Nat.le_refl _) (fun q hq => by cases hq)
    have HB1 := Lib.hid (Below.step9 HB0'.out hb9 (Nat.le_refl w1.heap.size))
    obtain ⟨gb, hgbe, hgb, hR9⟩ := Rw.of_own hown9 (by omega)
    injection hgbe with hgbe
    injection hgbe with hgb0 _
    rw [hgb0]
    have HRb1 := Lib.hid hR9
    clear hR9 hb9
    refine hK1.out _ _ trivial (fun _ => ?_)
    refine wpAnyH_ready (rs := [2, 4]) (by kernel_rfl) (by simp) (AllReadyH.cons rfl (fun K2 hK2 => ?_) (AllReadyH.cons rfl (fun K2 hK2 => ?_) (AllReadyH.nil)))
    · rw [if_pos (by rfl)]
      refine wp_make _ _ _ 110 rfl w1.heap.size 173 i2 (.agg #[.int .i64 0, .int .i64 0, .int .i64 0, .int .i64 0]) 4 Try.underlying110 hi2 hi2z hi2s .i64 .i64 _ _ l.tn rfl rfl rfl rfl (by rw [hi2b]; omega) (by simp only [maxLen]; omega) HB1.out.size ?_
      intro V2 hown9 hg9
      rw [made_reg _ n2] at hown9
      have hb9 : Below V1.heap.size V1 V2 := (Below.refl _ _).grown hg9 (Nat.le_refl _) (fun q hq => by cases hq)
      have HB2 := Lib.hid (Below.step9 HB1.out hb9 (Nat.le_refl w1.heap.size))
      obtain ⟨gr, hgre, hgr, hR9⟩ := Rw.of_own hown9 (by omega)
      injection hgre with hgre
      injection hgre with hgr0 _
      rw [hgr0]
      have HRr2 := Lib.hid hR9
      have HRb2 := Lib.hid (HRb1.out.on hb9)
      have hlb1 := HRb1.out.lt
      clear hR9 hb9
      refine hK2.out _ _ trivial (fun _ => ?_)
      refine wpAnyH_ready (rs := [4]) (by kernel_rfl) (by simp) (AllReadyH.cons rfl (fun K3 hK3 => ?_) (AllReadyH.nil))
      · rw [if_pos (by rfl)]
        refine wp_make _ _ _ 30 rfl w1.heap.size 3 i1 (.int .i64 0) 1 Try.underlying30 hi1 hi1z hi1s .i64 .i64 _ _ l.tn rfl rfl rfl rfl (by rw [hi1b]; omega) (by simp only [maxLen]; omega) HB2.out.size ?_
        intro V3 hown9 hg9
        rw [made_int _] at hown9
        have hb9 : Below V2.heap.size V2 V3 := (Below.refl _ _).grown hg9 (Nat.le_refl _) (fun q hq => by cases hq)
        have HB3 := Lib.hid (Below.step9 HB2.out hb9 (Nat.le_refl w1.heap.size))
        obtain ⟨gp, hgpe, hgp, hR9⟩ := Rw.of_own hown9 (by omega)
        injection hgpe with hgpe
        injection hgpe with hgp0 _
        rw [hgp0]
        have HRp3 := Lib.hid hR9
        have HRb3 := Lib.hid (HRb2.out.on hb9)
        have hlb2 := HRb2.out.lt
        have HRr3 := Lib.hid (HRr2.out.on hb9)
        have hlr2 := HRr2.out.lt
        clear hR9 hb9
        refine hK3.out _ _ trivial (fun _ => ?_)
        refine wpAnyH_take (i := 7) (v := .agg #[.slice (some ⟨gw, 0, none⟩) l.wn kw, .slice (some ⟨gr, 0, none⟩) l.tn l.tn, .slice (some ⟨gp, 0, none⟩) l.tn l.tn, .slice (some ⟨gb, 0, none⟩) l.tn l.tn]) rfl (by kernel_rfl) (by kernel_rfl) (by kernel_rfl) (fun _ _ _ h => h) (Or.inl ⟨by rfl, ?_⟩) (trivial) ?_
        · (intro W hSw; go_simp)
        show wpAnyH _ _ _ _ _ _ _ (Act.put _ (some 19) _) _
        simp only [Act.put, List.setIfInBounds_toArray, List.set_cons_zero, List.set_cons_succ]
        refine wpAnyH_ready (rs := [8]) (by kernel_rfl) (by simp) (AllReadyH.cons rfl (fun K4 hK4 => ?_) (AllReadyH.nil))
        rw [if_pos (by rfl)]
        have hx := HZ1.out.below HB3.out (by omega)
        refine wp_store_row _ _ _ rfl (w.heap.size + 1) #[.slice (some ⟨gw, 0, none⟩) l.wn kw, .slice (some ⟨gr, 0, none⟩) l.tn l.tn, .slice (some ⟨gp, 0, none⟩) l.tn l.tn, .slice (some ⟨gb, 0, none⟩) l.tn l.tn] rfl rfl 113 _ hx size_lst rfl (lst_one _ _ _ _ _ _ _ _ _ _ _ _) ?_
        refine hK4.out _ _ trivial (fun _ => ?_)
        refine wpAnyH_done (by kernel_rfl) ?_ _
        have HR := Lib.hid (setRow_heap V3 (w.heap.size + 1) _ (#[.slice (some ⟨gw, 0, none⟩) l.wn kw, .slice (some ⟨gr, 0, none⟩) l.tn l.tn, .slice (some ⟨gp, 0, none⟩) l.tn l.tn, .slice (some ⟨gb, 0, none⟩) l.tn l.tn]) _ _ hx)
        have HE := Lib.hid (rbeg_end HW1.out HB3.out (by omega) (HRw.out.on HB3.out) HRr3.out HRp3.out HRb3.out (by omega) ⟨by omega, by omega, by omega, by omega⟩)
        go_wp2_with fail
        refine bodyPost_ret_by (results_cell_row rfl _ _ (w.heap.size + 1) 113 _ (0, 0) _ rfl HR.out Try.underlying113 rfl size_lst) rfl ?_
        exact HE.out
    · rw [if_pos (by rfl)]
      refine wp_make _ _ _ 30 rfl w1.heap.size 3 i1 (.int .i64 0) 1 Try.underlying30 hi1 hi1z hi1s .i64 .i64 _ _ l.tn rfl rfl rfl rfl (by rw [hi1b]; omega) (by simp only [maxLen]; omega) HB1.out.size ?_
      intro V2 hown9 hg9
      rw [made_int _] at hown9
      have hb9 : Below V1.heap.size V1 V2 := (Below.refl _ _).grown hg9 (Nat.le_refl _) (fun q hq => by cases hq)
      have HB2 := Lib.hid (Below.step9 HB1.out hb9 (Nat.le_refl w1.heap.size))
      obtain ⟨gp, hgpe, hgp, hR9⟩ := Rw.of_own hown9 (by omega)
      injection hgpe with hgpe
      injection hgpe with hgp0 _
      rw [hgp0]
      have HRp2 := Lib.hid hR9
      have HRb2 := Lib.hid (HRb1.out.on hb9)
      have hlb1 := HRb1.out.lt
      clear hR9 hb9
      refine hK2.out _ _ trivial (fun _ => ?_)
      refine wpAnyH_ready (rs := [2]) (by kernel_rfl) (by simp) (AllReadyH.cons rfl (fun K3 hK3 => ?_) (AllReadyH.nil))
      · rw [if_pos (by rfl)]
        refine wp_make _ _ _ 110 rfl w1.heap.size 173 i2 (.agg #[.int .i64 0, .int .i64 0, .int .i64 0, .int .i64 0]) 4 Try.underlying110 hi2 hi2z hi2s .i64 .i64 _ _ l.tn rfl rfl rfl rfl (by rw [hi2b]; omega) (by simp only [maxLen]; omega) HB2.out.size ?_
        intro V3 hown9 hg9
        rw [made_reg _ n2] at hown9
        have hb9 : Below V2.heap.size V2 V3 := (Below.refl _ _).grown hg9 (Nat.le_refl _) (fun q hq => by cases hq)
        have HB3 := Lib.hid (Below.step9 HB2.out hb9 (Nat.le_refl w1.heap.size))
        obtain ⟨gr, hgre, hgr, hR9⟩ := Rw.of_own hown9 (by omega)
        injection hgre with hgre
        injection hgre with hgr0 _
        rw [hgr0]
        have HRr3 := Lib.hid hR9
        have HRb3 := Lib.hid (HRb2.out.on hb9)
        have hlb2 := HRb2.out.lt
        have HRp3 := Lib.hid (HRp2.out.on hb9)
        have hlp2 := HRp2.out.lt
        clear hR9 hb9
        refine hK3.out _ _ trivial (fun _ => ?_)
        refine wpAnyH_take (i := 7) (v := .agg #[.slice (some ⟨gw, 0, none⟩) l.wn kw, .slice (some ⟨gr, 0, none⟩) l.tn l.tn, .slice (some ⟨gp, 0, none⟩) l.tn l.tn, .slice (some ⟨gb, 0, none⟩) l.tn l.tn]) rfl (by kernel_rfl) (by kernel_rfl) (by kernel_rfl) (fun _ _ _ h => h) (Or.inl ⟨by rfl, ?_⟩) (trivial) ?_
        · (intro W hSw; go_simp)
        show wpAnyH _ _ _ _ _ _ _ (Act.put _ (some 19) _) _
        simp only [Act.put, List.setIfInBounds_toArray, List.set_cons_zero, List.set_cons_succ]
        refine wpAnyH_ready (rs := [8]) (by kernel_rfl) (by simp) (AllReadyH.cons rfl (fun K4 hK4 => ?_) (AllReadyH.nil))
        rw [if_pos (by rfl)]
        have hx := HZ1.out.below HB3.out (by omega)
        refine wp_store_row _ _ _ rfl (w.heap.size + 1) #[.slice (some ⟨gw, 0, none⟩) l.wn kw, .slice (some ⟨gr, 0, none⟩) l.tn l.tn, .slice (some ⟨gp, 0, none⟩) l.tn l.tn, .slice (some ⟨gb, 0, none⟩) l.tn l.tn] rfl rfl 113 _ hx size_lst rfl (lst_one _ _ _ _ _ _ _ _ _ _ _ _) ?_
        refine hK4.out _ _ trivial (fun _ => ?_)
        refine wpAnyH_done (by kernel_rfl) ?_ _
        have HR := Lib.hid (setRow_heap V3 (w.heap.size + 1) _ (#[.slice (some ⟨gw, 0, none⟩) l.wn kw, .slice (some ⟨gr, 0, none⟩) l.tn l.tn, .slice (some ⟨gp, 0, none⟩) l.tn l.tn, .slice (some ⟨gb, 0, none⟩) l.tn l.tn]) _ _ hx)
        have HE := Lib.hid (rbeg_end HW1.out HB3.out (by omega) (HRw.out.on HB3.out) HRr3.out HRp3.out HRb3.out (by omega) ⟨by omega, by omega, by omega, by omega⟩)
        go_wp2_with fail
        refine bodyPost_ret_by (results_cell_row rfl _ _ (w.heap.size + 1) 113 _ (0, 0) _ rfl HR.out Try.underlying113 rfl size_lst) rfl ?_
        exact HE.out
end Go.Proofs.Ytgbopmgeicokoaa
