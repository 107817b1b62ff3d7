/-
  reclaimref27.Play.
-/
import Derived.Test.YtgbopmgeicokoaaRb27
import Derived.Test.YtgbopmgeicokoaaRt27
import Derived.Test.YtgbopmgeicokoaaPar
namespace Go.Proofs.Ytgbopmgeicokoaa
open Go.RowKit
set_option linter.unusedVariables false
set_option linter.unusedSimpArgs false

theorem playE_esN {l : Lit} {us : List Tn} {j : Nat} {u : Tn} (h : us[j]? = some u) : playE l us (j + 1) = esN l (playS l us j) u (playE l us j) := by
  unfold esN
  cases he : evOf l (playS l us j) u with
  | some e => rw [playE_some h he]; rfl
  | none => rw [playE_none h he]; simp
def RplR (l : Lit) (us : List Tn) (w : World) (e : Ending) (w' : World) : Prop := ∃ M, e = .returned (rsV M l.tn l.wn) ∧ RSB w' w.heap.size l.tn l.wn (playS l us us.length) (xAt (playE l us us.length)) (playE l us us.length) M ∧ Below w.heap.size w w'
structure PlI (l : Lit) (us : List Tn) (w w0 : World) (gs j : Nat) (M : RM) (W : World) : Prop where
  bel : Below w0.heap.size w0 W
  blk : Blk W gs 116 (rsL M l.tn l.wn)
  rsb : RSB W w0.heap.size l.tn l.wn (playS l us j) (xAt (playE l us j)) (playE l us j) M
/-- a turn, whether anything happens or not -/
theorem rt27_any (l : Lit) (w : World) (B gs : Nat) (S : LS) (es : List Ev) (M : RM) (u : Tn) (hl : LitAt w B l) (hBw : B ≤ w.heap.size) (hgs : B ≤ gs) (hb : Blk w gs 116 (rsL M l.tn l.wn)) (hr : RSB w B l.tn l.wn S (xAt es) es M) (hg : GoodS l S) (hok : okLit l = true) (hen : es.length ≤ 100000) :
    Calls Try.prog 94 #[litV l, .pointer (some ⟨gs, 0, none⟩), tnV u] w (Rt27R l B gs S es u w) := by
  cases hp : pickS l S u with
  | some x => exact rt27_yes l w B gs S es M u x hl hBw hgs hb hr hg hok hen hp
  | none =>
    refine (rt27_no l w B gs S es M u hl hBw hb hr hg hok hp).mono ?_
    rintro e w' ⟨rfl, hb9⟩
    obtain ⟨e1, e2⟩ := pick_ev_none hp
    refine ⟨by rw [hp]; rfl, hb9.mono hBw, M, hb.below hb9 hb.lt, ?_⟩
    rw [e1]
    have : esN l S u es = es := by unfold esN; rw [e2]; simp
    rw [this]
    exact hr.on hb9
set_option maxRecDepth 100000 in
set_option maxHeartbeats 16000000 in
theorem rplay_any (l : Lit) (A : Option Addr) (n k : Nat) (us : List Tn) (w : World) (h : LitAt w w.heap.size l) (hu : Sl w w.heap.size 3 A n (tnVals us)) (hok : okLit l = true) (hle : n ≤ 4096) :
    Calls Try.prog 46 #[litV l, .slice A n k] w (RplR l us w) := by
  have hul : us.length = n := by have := hu.1; rw [tnVals_len] at this; omega
  obtain ⟨w0, hw0⟩ : ∃ w0 : World, w0 = (w.alloc (.cells #[.slice l.wA l.wn l.wk, .slice l.tA l.tn l.tk] 101)).alloc (.cells #[.slice none 0 0, .slice none 0 0, .slice none 0 0, .slice none 0 0, .slice none 0 0, .slice none 0 0, .slice none 0 0] 116) := ⟨_, rfl⟩
  have HB0 : Hid (Blk w0 w.heap.size 101 (litL l)) := by rw [hw0]; exact (Blk.new w 101 (litL l)).alloc _
  have HZ0 : Hid (Blk w0 (w.heap.size + 1) 116 [.slice none 0 0, .slice none 0 0, .slice none 0 0, .slice none 0 0, .slice none 0 0, .slice none 0 0, .slice none 0 0]) := by
    rw [hw0]
    have h9 := Blk.new (w.alloc (.cells #[.slice l.wA l.wn l.wk, .slice l.tA l.tn l.tk] 101)) 116 [.slice none 0 0, .slice none 0 0, .slice none 0 0, .slice none 0 0, .slice none 0 0, .slice none 0 0, .slice none 0 0]
    rw [World.size_alloc] at h9
    exact h9
  have HW0 : Hid (Below w.heap.size w w0) := by rw [hw0]; exact ((Below.refl _ _).alloc (Nat.le_refl _) _).alloc (by simp) _
  have HL := Lib.hid h
  have HU := Lib.hid hu
  have HUl := Lib.hid hul
  have HGood : Hid (∀ j, GoodS l (playS l us j)) := playS_good h.wlen us
  have HWe := Lib.hid hw0
  have hz0 : w.heap.size + 1 < w0.heap.size := HZ0.out.lt
  clear h hw0 hu hul
  go_enter Try.func46, Try.ntmps46
  go_upto_region 1 with fail
  rw [← HWe.out]
  clear HWe
  have q0 : w0.cell? ⟨w.heap.size, 0, none⟩ = some (.slice l.wA l.wn l.wk) := HB0.out.cell rfl
  have q1 : w0.cell? ⟨w.heap.size, 1, none⟩ = some (.slice l.tA l.tn l.tk) := HB0.out.cell rfl
  go_wp2_with fail
  refine (rb27_any l w0 ((HL.out.keep HW0.out).up HW0.out.size) hok).mono ?_
  rintro e w1 ⟨M, rfl, hr1, hb1⟩
  have hx1 : Blk (w1.alloc (.cells #[.slice none 0 0, .slice none 0 0, .slice none 0 0, .slice none 0 0, .slice none 0 0, .slice none 0 0, .slice none 0 0] 116)) w1.heap.size 116 [.slice none 0 0, .slice none 0 0, .slice none 0 0, .slice none 0 0, .slice none 0 0, .slice none 0 0, .slice none 0 0] := Blk.new w1 116 [.slice none 0 0, .slice none 0 0, .slice none 0 0, .slice none 0 0, .slice none 0 0, .slice none 0 0, .slice none 0 0]
  obtain ⟨vA, vk, hvE, hvk1, hvk2⟩ := own_form hr1.ev
  have HvE : Hid (M.vE = .slice vA ([] : List Ev).length vk) := Lib.hid hvE
  unfold rsV
  rw [hvE]
  clear hvE
  go_upto_region 2 with (refine wpList_store_row rfl _ _ _ rfl w1.heap.size #[.slice (some ⟨M.h.gw, 0, none⟩) l.wn M.h.kw, .slice (some ⟨M.h.gr, 0, none⟩) l.tn M.h.kr, .slice (some ⟨M.h.gp, 0, none⟩) l.tn M.h.kp, .slice (some ⟨M.h.gb, 0, none⟩) l.tn M.h.kb, .slice (some ⟨M.gm, 0, none⟩) l.tn M.km, .slice (some ⟨M.gd, 0, none⟩) l.wn M.kd, .slice vA ([] : List Ev).length vk] rfl rfl 116 _ hx1 size_st7 rfl (st7_one _ _ _ _ _ _ _ _ _ _ _ _ _ _ _ _ _ _ _ _ _) ?_)
  (try simp only [Act.put])
  go_upto_region 2 with fail
  obtain ⟨gs, hgs⟩ : ∃ gs, gs = w1.heap.size := ⟨_, rfl⟩
  obtain ⟨w2, hw2, HI⟩ : ∃ Z9, Z9 = (w1.alloc (.cells #[.slice none 0 0, .slice none 0 0, .slice none 0 0, .slice none 0 0, .slice none 0 0, .slice none 0 0, .slice none 0 0] 116)).setRow w1.heap.size #[.slice (some ⟨M.h.gw, 0, none⟩) l.wn M.h.kw, .slice (some ⟨M.h.gr, 0, none⟩) l.tn M.h.kr, .slice (some ⟨M.h.gp, 0, none⟩) l.tn M.h.kp, .slice (some ⟨M.h.gb, 0, none⟩) l.tn M.h.kb, .slice (some ⟨M.gm, 0, none⟩) l.tn M.km, .slice (some ⟨M.gd, 0, none⟩) l.wn M.kd, .slice vA ([] : List Ev).length vk] ∧ Hid (PlI l us w w0 gs 0 M Z9) := by
    have hA : Below w1.heap.size w1 ((w1.alloc (.cells #[.slice none 0 0, .slice none 0 0, .slice none 0 0, .slice none 0 0, .slice none 0 0, .slice none 0 0, .slice none 0 0] 116)).setRow w1.heap.size #[.slice (some ⟨M.h.gw, 0, none⟩) l.wn M.h.kw, .slice (some ⟨M.h.gr, 0, none⟩) l.tn M.h.kr, .slice (some ⟨M.h.gp, 0, none⟩) l.tn M.h.kp, .slice (some ⟨M.h.gb, 0, none⟩) l.tn M.h.kb, .slice (some ⟨M.gm, 0, none⟩) l.tn M.km, .slice (some ⟨M.gd, 0, none⟩) l.wn M.kd, .slice vA ([] : List Ev).length vk]) := rowB ((Below.refl _ _).alloc (Nat.le_refl _) _) (Nat.le_refl _)
    refine ⟨_, rfl, ?_⟩
    rw [hgs]
    exact {
      bel := hb1.trans (hA.mono hb1.size)
      blk := by
        unfold rsL
        rw [HvE.out]
        exact setRow_heap _ _ _ #[.slice (some ⟨M.h.gw, 0, none⟩) l.wn M.h.kw, .slice (some ⟨M.h.gr, 0, none⟩) l.tn M.h.kr, .slice (some ⟨M.h.gp, 0, none⟩) l.tn M.h.kp, .slice (some ⟨M.h.gb, 0, none⟩) l.tn M.h.kb, .slice (some ⟨M.gm, 0, none⟩) l.tn M.km, .slice (some ⟨M.gd, 0, none⟩) l.wn M.kd, .slice vA ([] : List Ev).length vk] _ _ hx1
      rsb := hr1.on hA }
  have hgsB : w0.heap.size ≤ gs := by have := hb1.size; omega
  rw [← hw2, ← hgs]
  clear hw2 hgs hx1 hr1 hb1 q0 q1 HvE
  go_wp2_with fail
  go_loopg [6] n (fun gk i wr => ∃ (j : Nat) (M : RM), j + gk = n ∧ i = .int .i64 j ∧ Hid (PlI l us w w0 gs j M wr))
  case atStart => exact ⟨0, M, by omega, rfl, HI⟩
  case round =>
    clear HI
    obtain ⟨j, M, hj, rfl, HJ⟩ := hrel
    by_cases hlt : j < n
    · obtain ⟨u, hu⟩ := at_lt (show j < us.length by rw [HUl.out]; exact hlt)
      have HUe := Lib.hid hu
      have HBel : Hid (Below w.heap.size w wr) := HW0.out.trans (HJ.out.bel.mono HW0.out.size)
      obtain ⟨ub, uo, hua, hub, huc⟩ := (HU.out.below HBel.out).2 (by omega)
      have c0 := huc (j * 3) _ (tnVals_get hu 0 (by omega))
      have c1 := huc (j * 3 + 1) _ (tnVals_get hu 1 (by omega))
      have c2 := huc (j * 3 + 2) _ (tnVals_get hu 2 (by omega))
      rw [← Nat.add_assoc] at c1 c2
      subst hua
      have e1 : (j : Int) < n := by omega
      have e0 : (0 : Int) ≤ j := by omega
      have hLw := HB0.out.below HJ.out.bel HB0.out.lt
      have l0 : wr.cell? ⟨w.heap.size, 0, none⟩ = some (.slice l.wA l.wn l.wk) := hLw.cell rfl
      have l1 : wr.cell? ⟨w.heap.size, 1, none⟩ = some (.slice l.tA l.tn l.tk) := hLw.cell rfl
      have HSo : Hid (∀ W, Below w0.heap.size wr W → W.cell? ⟨w.heap.size, 0, none⟩ = some (.slice l.wA l.wn l.wk) ∧ W.cell? ⟨w.heap.size, 1, none⟩ = some (.slice l.tA l.tn l.tk) ∧ W.cell? ⟨ub, uo + j * 3, none⟩ = some (.int .i64 u.t) ∧ W.cell? ⟨ub, uo + j * 3 + 1, none⟩ = some (.bool u.out) ∧ W.cell? ⟨ub, uo + j * 3 + 2, none⟩ = some (.int .i64 u.a)) := fun W hW => by
        have hz1 : w.heap.size < w0.heap.size := by omega
        have hz2 : ub < w0.heap.size := by omega
        exact ⟨(hW.cell hz1).trans l0, (hW.cell hz1).trans l1, (hW.cell hz2).trans c0, (hW.cell hz2).trans c1, (hW.cell hz2).trans c2⟩
      have HEl : Hid ((playE l us j).length ≤ 100000) := by have := playE_len l us j; exact Lib.hid (by omega)
      have HT : Hid (∀ W, Below wr.heap.size wr W → Calls Try.prog 94 #[litV l, .pointer (some ⟨gs, 0, none⟩), tnV u] W (Rt27R l w0.heap.size gs (playS l us j) (playE l us j) u W)) := fun W hW =>
        rt27_any l W w0.heap.size gs (playS l us j) (playE l us j) M u ((HL.out.keep (HBel.out.trans (hW.mono HBel.out.size))).up HW0.out.size) (Nat.le_trans HJ.out.bel.size hW.size) hgsB (HJ.out.blk.below hW HJ.out.blk.lt) (HJ.out.rsb.on hW) (HGood.out j) hok HEl.out
      clear huc hu c0 c1 c2 hLw l0 l1
      go_upto_region 5 with fail
      go_region_held3 (fun W => W.cell? ⟨w.heap.size, 0, none⟩ = some (.slice l.wA l.wn l.wk) ∧ W.cell? ⟨w.heap.size, 1, none⟩ = some (.slice l.tA l.tn l.tk) ∧ W.cell? ⟨ub, uo + j * 3, none⟩ = some (.int .i64 u.t) ∧ W.cell? ⟨ub, uo + j * 3 + 1, none⟩ = some (.bool u.out) ∧ W.cell? ⟨ub, uo + j * 3 + 2, none⟩ = some (.int .i64 u.a)) (first | (refine HSo.out _ ?_; assumption) | (refine HSo.out _ ?_; exact (Below.refl _ _).drew)) ((go_at_call 94; refine (HT.out _ (Below.refl _ _).drew).mono ?_; rintro e w3 ⟨rfl, hb3, M', hg3, hr3⟩; have hb4 : Below w0.heap.size wr w3 := (Below.refl _ _).drew.trans hb3))
      have HN : Hid (PlI l us w w0 gs (j + 1) M' w3) := by
        refine ⟨HJ.out.bel.trans hb4, hg3, ?_⟩
        rw [playS_next HUe.out, playE_esN HUe.out]
        exact hr3
      clear hg3 hr3 hb3 hb4
      go_wp2_with fail
      go_roundg (gk - 1)
      case measure => omega
      case rel => exact ⟨j + 1, _, by omega, by go_num, HN⟩
    · obtain rfl : j = n := by omega
      have hT := HJ.out.blk
      have HZ9 := Lib.hid (HZ0.out.below HJ.out.bel HZ0.out.lt)
      obtain ⟨vA, vk, hvE, hvk1, hvk2⟩ := own_form HJ.out.rsb.ev
      have HvE : Hid (M.vE = .slice vA (playE l us j).length vk) := Lib.hid hvE
      unfold rsL at hT
      rw [hvE] at hT
      clear hvE
      go_upto_region 6 with fail
      refine wp_region_lit ?_
      refine wpList_load_row rfl _ _ rfl gs rfl 116 _ (0, 0) _ hT Try.underlying116 rfl size_st7 ?_
      refine wpList_store_row rfl _ _ _ rfl (w.heap.size + 1) _ rfl rfl _ _ HZ9.out size_st7 rfl (st7_one _ _ _ _ _ _ _ _ _ _ _ _ _ _ _ _ _ _ _ _ _) ?_
      have HR := Lib.hid (setRow_heap wr (w.heap.size + 1) _ (List.toArray (stL M.h l.tn l.wn ++ [Value.slice (some ⟨M.gm, 0, none⟩) l.tn M.km, Value.slice (some ⟨M.gd, 0, none⟩) l.wn M.kd, Value.slice vA (playE l us j).length vk])) _ _ HZ9.out)
      have HFin : Hid (RplR l us w (.returned (rsV M l.tn l.wn)) (wr.setRow (w.heap.size + 1) (List.toArray (stL M.h l.tn l.wn ++ [Value.slice (some ⟨M.gm, 0, none⟩) l.tn M.km, Value.slice (some ⟨M.gd, 0, none⟩) l.wn M.kd, Value.slice vA (playE l us j).length vk])))) := by
        refine ⟨M, rfl, ?_, rowB (HW0.out.trans (HJ.out.bel.mono HW0.out.size)) (by omega)⟩
        rw [HUl.out]
        exact (HJ.out.rsb.keepF (fun g _ hn => rowK (fun e => hn _ (e ▸ HZ9.out)))).low HW0.out.size
      go_wp2_with fail
      refine bodyPost_ret_by (results_cell_row rfl _ _ (w.heap.size + 1) 116 _ (0, 0) _ rfl HR.out Try.underlying116 rfl size_st7) rfl ?_
      have h9 := HFin.out
      unfold rsV at h9
      rw [HvE.out] at h9
      exact h9
end Go.Proofs.Ytgbopmgeicokoaa
