/-
  reclaimref25.Cells.
-/
import Derived.Test.YtgbopmgeicokoaaRefC0
import Derived.Test.YtgbopmgeicokoaaRefCk
namespace Go.Proofs.Ytgbopmgeicokoaa
open Go.RowKit

set_option maxRecDepth 100000 in
set_option maxHeartbeats 1000000 in
theorem rcells_any (c : Mul) (A : Option Addr) (n k : Nat) (S : Option Addr) (m l : Nat) (WA : Option Addr) (wn wk : Nat) (ws : List Nat) (w : World) (h : MulAt w w.heap.size A n k S m l c)
    (hws : Sl w w.heap.size 1 WA wn (nats ws)) (hwl : ∀ x ∈ ws, x < 18446744073709551616) :
    Calls Try.prog 18 #[mulV c A n k S m l, .slice WA wn wk] w (CellsP c ws w) := by
  have hn := h.n_eq
  have hwn : ws.length = wn := by have := hws.1; rw [nats_len] at this; omega
  by_cases hok : okB c = true
  case neg =>
    have hr : cellsR c ws = ([], 250) := by unfold cellsR; rw [if_neg hok]
    have Hr := Lib.hid hr
    have hok' : okB c = false := by simpa using hok
    have H2 := Lib.hid (words_e c A n k S m l w _ h ((Below.refl _ _).alloc (Nat.le_refl _) (.cells #[.int .i64 c.threads, .slice A n k, .slice S m l, .int .i64 c.uses] 33)))
    have Hok := Lib.hid hok'
    clear hr hok hok' hn hwn hwl hws h
    go_enter Try.func18, Try.ntmps18
    go_wp2_with (go_at_call 56; refine (rcheck_any c A n k S m l _ H2.out).mono ?_; rw [Hok.out]; rintro e w1 ⟨rfl, hb⟩)
    go_ret2
    exact CellsP.nil Hr.out (box_below _ _ hb)
  have hF := OkF.of hok
  have hn1 := hF.n1
  have hn2 := hF.n2
  rw [← hn] at hn1 hn2
  have hN := nwN_le hF
  have H2 := Lib.hid (words_e c A n k S m l w _ h ((Below.refl _ _).alloc (Nat.le_refl _) (.cells #[.int .i64 c.threads, .slice A n k, .slice S m l, .int .i64 c.uses] 33)))
  have Hok := Lib.hid hok
  have HF := Lib.hid hF
  by_cases hlen : wn = nwN c
  case neg =>
    have hr : cellsR c ws = ([], 251) := by unfold cellsR; rw [if_pos hok, if_neg (by omega)]
    have Hr := Lib.hid hr
    have hN2 := nwN_int hF
    have hne : ((wn : Int) != (n : Int) + c.threads + 2 * c.threads * c.uses) = true := by rw [bne_iff_ne, hn, ← hN2]; omega
    have f1 := hF.t1
    have f2 := hF.t2
    have f3 := hF.tu2.1
    have f4 := hF.tu2.2
    clear hr hok hF hN hn hwn hwl hws h hlen hN2
    go_enter Try.func18, Try.ntmps18
    go_wp2_with fail
    refine (rcheck_any c A n k S m l _ H2.out).mono ?_
    rw [Hok.out]
    rintro e w1 ⟨rfl, hb⟩
    have hz : w.heap.size < w1.heap.size := by have := hb.size; simp at this; omega
    have d0 : w1.cell? ⟨w.heap.size, 0, none⟩ = some (.int .i64 c.threads) := (hb.cell (by simp)).trans (by simp)
    have d1 : w1.cell? ⟨w.heap.size, 1, none⟩ = some (.slice A n k) := (hb.cell (by simp)).trans (by simp)
    have d3 : w1.cell? ⟨w.heap.size, 3, none⟩ = some (.int .i64 c.uses) := (hb.cell (by simp)).trans (by simp)
    have HBB := Lib.hid (box_below _ _ hb)
    clear hb
    go_wp2_with fail
    go_ret2
    exact CellsP.nil Hr.out HBB.out
  subst hlen
  obtain ⟨wb, wo, rfl, hwb, _⟩ := hws.2 (by omega)
  have hN2 := nwN_int hF
  have hne : (((nwN c : Nat) : Int) != (n : Int) + c.threads + 2 * c.threads * c.uses) = false := by rw [bne_eq_false_iff_eq, hn, ← hN2]
  have f1 := hF.t1
  have f2 := hF.t2
  have f3 := hF.tu2.1
  have f4 := hF.tu2.2
  have hr : cellsR c ws = (match cellsTo c ws n with | none => ([], 251) | some l => (l, 0)) := by unfold cellsR; rw [if_pos hok, if_pos hwn, hn]; cases cellsTo c ws c.cells.length <;> rfl
  have Hr := Lib.hid hr
  have HM := Lib.hid h
  have HW := Lib.hid hws
  have HL := Lib.hid hwl
  clear hr hok hF hN hn hwn hwl hws h hN2
  generalize hNg : nwN c = N at *
  have HNg := Lib.hid hNg
  clear hNg
  go_enter Try.func18, Try.ntmps18
  go_wp2_with fail
  refine (rcheck_any c A n k S m l _ H2.out).mono ?_
  rw [Hok.out]
  rintro e w1 ⟨rfl, hb⟩
  have hz : w.heap.size < w1.heap.size := by have := hb.size; simp at this; omega
  have d0 : w1.cell? ⟨w.heap.size, 0, none⟩ = some (.int .i64 c.threads) := (hb.cell (by simp)).trans (by simp)
  have d1 : w1.cell? ⟨w.heap.size, 1, none⟩ = some (.slice A n k) := (hb.cell (by simp)).trans (by simp)
  have d2 : w1.cell? ⟨w.heap.size, 2, none⟩ = some (.slice S m l) := (hb.cell (by simp)).trans (by simp)
  have d3 : w1.cell? ⟨w.heap.size, 3, none⟩ = some (.int .i64 c.uses) := (hb.cell (by simp)).trans (by simp)
  have hbw : Below w.heap.size w w1 := box_below _ _ hb
  clear H2
  go_wp2_with fail
  go_loopg [6, 7] n (fun g v i wr => ∃ (j : Nat) (lst : List Int), j + g = n ∧ i = .int .i64 j ∧ Below w1.heap.size w1 wr ∧ Hid (wr.ownsRow w1.heap.size 3 1 v j (ints lst)) ∧ Hid (cellsTo c ws j = some lst))
  case atStart => exact ⟨0, [], by omega, rfl, Below.refl _ _, World.ownsRow_nil _ _ _ _, rfl⟩
  case round =>
    obtain ⟨j, lst, hj, rfl, hbr, HO, hto⟩ := hrel
    have hbw2 : Below w.heap.size w wr := hbw.trans (hbr.mono (by omega))
    by_cases hlt : j < n
    · have b0 : wr.cell? ⟨w.heap.size, 0, none⟩ = some (.int .i64 c.threads) := (hbr.cell hz).trans d0
      have b1 : wr.cell? ⟨w.heap.size, 1, none⟩ = some (.slice A n k) := (hbr.cell hz).trans d1
      have b2 : wr.cell? ⟨w.heap.size, 2, none⟩ = some (.slice S m l) := (hbr.cell hz).trans d2
      have b3 : wr.cell? ⟨w.heap.size, 3, none⟩ = some (.int .i64 c.uses) := (hbr.cell hz).trans d3
      have HH : Hid (Calls Try.prog 57 #[mulV c A n k S m l, .slice (some ⟨wb, wo, none⟩) N wk, .int .i64 (j : Int)] wr (HeldR (heldF c ws j) wr)) := by
        have hc := rcell_any c A n k S m l wb wo wk ws wr (words_e c A n k S m l w wr HM.out hbw2) HF.out (by rw [HNg.out]; exact (HW.out.below hbw2).up hbw2.size) HL.out j hlt
        rw [HNg.out] at hc
        exact hc
      have hsr := hbr.size
      clear d0 d1 d2 d3
      cases hhf : heldF c ws j with
      | none =>
        have hto2 : cellsTo c ws n = none := cellsTo_none (j := j + 1) (by unfold cellsTo; rw [hto.out, hhf]) (by omega)
        have hr2 : cellsR c ws = ([], 251) := by rw [Hr.out, hto2]
        have Hr2 := Lib.hid hr2
        rw [hhf] at HH
        clear hto2 hr2 hhf
        go_wp2_with fail
        refine (Calls.mono HH.out ?_)
        rintro e w2 ⟨v, rfl, _, hb2⟩
        go_wp2_with fail
        go_ret2
        exact CellsP.nil Hr2.out (hbw2.trans (hb2.mono (by omega)))
      | some v =>
        have hto2 : cellsTo c ws (j + 1) = some (lst ++ [v]) := by
          show (match cellsTo c ws j with | none => none | some l => _) = _
          rw [hto.out]
          show (match heldF c ws j with | none => none | some v => _) = _
          rw [hhf]
        have Hto2 := Lib.hid hto2
        rw [hhf] at HH
        clear hto2 hhf
        obtain ⟨i0, hi0, hz0, hz1, hz2⟩ := info_parts info_int
        go_wp2_with fail
        refine (Calls.mono HH.out ?_)
        rintro e w2 ⟨v', rfl, hv', hb2⟩
        have hv2 : v' = v := hv' v rfl
        subst hv2
        have HO2 := Lib.hid (HO.out.below hb2)
        have hs2 := hb2.size
        have hn32 : j + 1 ≤ 32 := by omega
        go_wp2_with (at_builtin; go_must (refine wpList_append_own _ rfl _ _ 30 rfl w1.heap.size 3 i0 (.int .i64 0) 1 8 Try.underlying30 hi0 hz0 hz1 hz2 rfl (by decide) _ _ _ rfl (HO2.out.alloc _) ⟨w2.heap.size, 0, none⟩ 1 1 [.int .i64 v'] rfl rfl (cell_one_new _ _ _) (by intro u hu; simp at hu; subst hu; rfl) (by simp only [maxLen]; omega) (by omega) (by simp; omega) ?_); intro v3 w3 hown3 hg3 _)
        go_roundg (gk - 1)
        case measure => omega
        case rel =>
          refine ⟨j + 1, lst ++ [v'], by omega, by go_num, ?_, ?_, Hto2.out⟩
          · refine ((hbr.trans (hb2.mono (by omega))).alloc (by omega) _).grown hg3 (by simp; omega) (fun q hq => ?_)
            exact (HO.out.lt q hq).1
          · unfold ints at hown3 ⊢
            rw [List.map_append]
            exact hown3
    · obtain rfl : n = j := by omega
      have b1 : wr.cell? ⟨w.heap.size, 1, none⟩ = some (.slice A n k) := (hbr.cell hz).trans d1
      obtain ⟨A2, k2, rfl, hsl⟩ := own_sl HO.out
      have hll := cellsTo_len hto.out
      have hr2 : cellsR c ws = (lst, 0) := by rw [Hr.out, hto.out]
      have Hr2 := Lib.hid hr2
      have Hll := Lib.hid hll
      clear hr2 hll
      go_wp2_with fail
      go_ret2
      exact ⟨A2, k2, by rw [Hr2.out, Hll.out]; rfl, by rw [Hr2.out, Hll.out]; exact hsl, hbw2⟩
end Go.Proofs.Ytgbopmgeicokoaa
