/-
  word.At: the region of an address.
-/
import Derived.Test.YtgbopmgeicokoaaWMany
import Derived.Deep.RegionHeld3
import Derived.Deep.RegionWith
import Derived.Deep.DeepCutAuto
import Derived.Laws.Rows
import Derived.Laws.NewBlocks
import Derived.Laws.ResultCell
namespace Go.Proofs.Ytgbopmgeicokoaa
open Go.RowKit

/-- a struct out of its result cell, and a second result -/
theorem results_cell_row2 {P : Program} {fn : Func} {p u : Tmp} {ty : TypeId} (h : fn.results = #[.cell p ty, .tmp u]) (tmps : Array Value) (w : World) (g : Nat) (t : TypeId) (cs : Array Value) (fr : Nat × Nat) (d : TypeDesc)
    (hp : tmps.getD p undef = .pointer (some ⟨g, 0, none⟩)) (hg : w.heap[g]? = some (.cells cs t fr))
    (hu : P.underlying ty = some d) (hd : (match d with | .struct _ | .array _ _ => true | _ => false) = true) (hi : (P.info? ty).map (·.size) = some cs.size) :
    (results fn tmps).run P w = .ok (.tuple #[.agg cs, tmps.getD u undef]) w := by
  rw [results_cell_tmp h, hp]
  simp [asAddr, run_loadVar_row w g t ty cs fr d hg hu hd hi]

theorem size_place : (Try.prog.info? 264).map (·.size) = some 3 := by kernel_rfl
def AtR (c : Cfg) (a : Int) (w : World) (e : Ending) (w' : World) : Prop :=
  ∃ (r : Nat) (i k err : Int), e = .returned (.tuple #[.agg #[.int .i64 r, .int .i64 i, .int .i64 k], .int .i64 err]) ∧ Below w.heap.size w w' ∧
    ((err = 2 ∧ r = 0 ∧ ¬ (0 ≤ a ∧ a < sumF c 13)) ∨ (err = 0 ∧ 1 ≤ r ∧ r ≤ 13 ∧ sumF c (r - 1) ≤ a ∧ a < sumF c r))

set_option maxRecDepth 100000 in
set_option maxHeartbeats 8000000 in
theorem at_any (c : Cfg) (h : OkC c) (a : Int) (w : World) : Calls Try.prog 131 #[cfgV c, .int .i64 a] w (AtR c a w) := by
  obtain ⟨w0, hw0⟩ : ∃ w0 : World, w0 = (w.alloc (.cells #[.int .i64 c.threads, .int .i64 c.records, .int .i64 c.hazards, .int .i64 c.retire, .int .i64 c.cache, .int .i64 c.slots, .int .i64 c.buckets] 45)).alloc (.cells #[.int .i64 0, .int .i64 0, .int .i64 0] 264) := ⟨_, rfl⟩
  have hb0 : Below w.heap.size w w0 := by rw [hw0]; exact ((Below.refl _ _).alloc (Nat.le_refl _) _).alloc (by simp) _
  have h0 : Blk w0 w.heap.size 45 (cfgL c) := by rw [hw0]; exact (Blk.new w 45 _).alloc _
  have h1 : Blk w0 (w.heap.size + 1) 264 [.int .i64 0, .int .i64 0, .int .i64 0] := by
    rw [hw0]
    have := Blk.new (w.alloc (.cells (cfgL c).toArray 45)) 264 [.int .i64 0, .int .i64 0, .int .i64 0]
    rwa [World.size_alloc] at this
  have hz : w.heap.size + 2 = w0.heap.size := by rw [hw0]; simp
  have HA : Hid (∀ W, Below w0.heap.size w0 W → CfgAt c w.heap.size W) := fun W hB => cfgAt_of h0 hB
  have HW0 := Lib.hid hw0
  have H1 := Lib.hid h1
  have H13 := sumF_le h 13
  clear hw0 h0 h1
  obtain ⟨q0, q1, q2, q3, q4, q5, q6⟩ := HA.out w0 (Below.refl _ _)
  go_enter Try.func131, Try.ntmps131
  go_upto_region 1 with fail
  rw [← HW0.out]
  go_wp2_with fail
  refine (size_any c h _).mono ?_
  rintro e w1 ⟨rfl, hb1⟩
  have hz1 : w0.heap.size ≤ w1.heap.size := hb1.size
  clear q0 q1 q2 q3 q4 q5 q6
  have h1' := H1.out.below hb1 (by omega)
  have p0 := h1'.cell (i := 0) rfl
  have p1 := h1'.cell (i := 1) rfl
  have p2 := h1'.cell (i := 2) rfl
  have pf := h1'.frozen
  clear h1'
  by_cases hlo : 0 ≤ a
  case neg =>
    have e1 : decide (a < 0) = true := by simp; omega
    clear hlo
    go_wp2_with fail
    have h1' := H1.out.below hb1 (by omega)
    have hR := ((h1'.set_ 0 (.int .i64 0)).set_ 1 (.int .i64 0)).set_ 2 (.int .i64 0)
    have hbz := (((hb0.trans (hb1.mono (by omega))).setCell (p := ⟨w.heap.size + 1, 0, none⟩) (by dsimp only; omega) (.int .i64 0)).setCell (p := ⟨w.heap.size + 1, 1, none⟩) (by dsimp only; omega) (.int .i64 0)).setCell (p := ⟨w.heap.size + 1, 2, none⟩) (by dsimp only; omega) (.int .i64 0)
    refine bodyPost_ret_by (results_cell_row2 rfl _ _ (w.heap.size + 1) 264 _ (0, 0) _ rfl hR Try.underlying264 rfl size_place) rfl ?_
    refine ⟨0, 0, 0, 2, rfl, hbz, Or.inl ⟨rfl, rfl, ?_⟩⟩
    simp at e1
    omega
  by_cases hhi : a < sumF c 13
  case neg =>
    have e1 : decide (a < 0) = false := by simp; omega
    have e2 : decide (sumF c 13 ≤ a) = true := by simp; omega
    have HH := Lib.hid hhi
    clear hhi hlo
    go_wp2_with fail
    have h1' := H1.out.below hb1 (by omega)
    have hR := ((h1'.set_ 0 (.int .i64 0)).set_ 1 (.int .i64 0)).set_ 2 (.int .i64 0)
    have hbz := (((hb0.trans (hb1.mono (by omega))).setCell (p := ⟨w.heap.size + 1, 0, none⟩) (by dsimp only; omega) (.int .i64 0)).setCell (p := ⟨w.heap.size + 1, 1, none⟩) (by dsimp only; omega) (.int .i64 0)).setCell (p := ⟨w.heap.size + 1, 2, none⟩) (by dsimp only; omega) (.int .i64 0)
    refine bodyPost_ret_by (results_cell_row2 rfl _ _ (w.heap.size + 1) 264 _ (0, 0) _ rfl hR Try.underlying264 rfl size_place) rfl ?_
    exact ⟨0, 0, 0, 2, rfl, hbz, Or.inl ⟨rfl, rfl, fun hh => by have := HH.out; omega⟩⟩
  have e1 : decide (a < 0) = false := by simp; omega
  have e2 : decide (sumF c 13 ≤ a) = false := by simp; omega
  have HP := Lib.hid (⟨p0, p1, p2, pf⟩ : w1.cell? ⟨w.heap.size + 1, 0, none⟩ = some (.int .i64 0) ∧ w1.cell? ⟨w.heap.size + 1, 1, none⟩ = some (.int .i64 0) ∧ w1.cell? ⟨w.heap.size + 1, 2, none⟩ = some (.int .i64 0) ∧ ∀ i, w1.frozen? ⟨w.heap.size + 1, i, none⟩ = false)
  clear p0 p1 p2 pf
  go_wp2_with fail
  go_loopg [] 12 (fun g wr => ∃ r : Nat, 1 ≤ r ∧ r + g = 13 ∧ sumF c (r - 1) ≤ a ∧ Below w1.heap.size w1 wr ∧ Hid (Blk wr w1.heap.size 264 [.int .i64 r, .int .i64 (a - sumF c (r - 1)), .int .i64 0]))
  case atStart => exact ⟨1, by omega, by omega, by simpa [sumF] using hlo, (Below.refl _ _).alloc (Nat.le_refl _) _, Lib.hid (by simpa [sumF] using Blk.new w1 264 [.int .i64 1, .int .i64 a, .int .i64 0])⟩
  case round =>
    obtain ⟨r, hr1, hrg, hra, hbr, HB⟩ := hrel
    have hzr := hbr.size
    have hgl := HB.out.lt
    have hwg : w.heap.size < wr.heap.size := by omega
    have HS : Hid (∀ W, Below wr.heap.size wr W → Below wr.heap.size wr W ∧ CfgAt c w.heap.size W ∧ W.cell? ⟨w1.heap.size, 0, none⟩ = some (.int .i64 (r : Int)) ∧ W.cell? ⟨w1.heap.size, 1, none⟩ = some (.int .i64 (a - sumF c (r - 1)))) :=
      fun W hB => ⟨hB, HA.out W ((hb1.trans (hbr.mono hz1)).trans (hB.mono (by omega))), (HB.out.below hB hgl).cell rfl, (HB.out.below hB hgl).cell rfl⟩
    have hdec : decide (manyF c r ≤ a - sumF c (r - 1)) = decide (manyF c r ≤ a - sumF c (r - 1)) := rfl
    obtain ⟨d, hd⟩ : ∃ d, d = a - sumF c (r - 1) := ⟨_, rfl⟩
    rw [← hd] at HS HB
    have Hd := Lib.hid hd
    clear hdec hd
    go_upto_region 7 with fail
    go_cut [34] (fun s34 wc => s34 = .bool (decide (manyF c r ≤ d)) ∧ Below wr.heap.size wr wc)
    case first =>
      go_region_held3 (fun W => Below wr.heap.size wr W ∧ CfgAt c w.heap.size W ∧ W.cell? ⟨w1.heap.size, 0, none⟩ = some (.int .i64 (r : Int)) ∧ W.cell? ⟨w1.heap.size, 1, none⟩ = some (.int .i64 d))
        ((refine HS.out _ ?_; go_split_ands; first | assumption | exact (Below.refl _ _).drew | exact Below.trans ‹Below wr.heap.size wr _› (hb3.mono (‹Below wr.heap.size wr _›).size)))
        ((go_at_call 144; refine (wmany_any c h r _).mono ?_; rintro e w3 ⟨rfl, hb3⟩))
      all_goals (go_wp2_with fail; go_meet; go_split_ands; go_light)
      all_goals exact ⟨rfl, by assumption⟩
    case rest =>
      obtain ⟨rfl, hbc⟩ := hcut
      have hcz := hbc.size
      have hbw : Below w1.heap.size w1 wc := hbr.trans (hbc.mono (by omega))
      have HB2 := Lib.hid (HB.out.below hbc hgl)
      have f0 := HB2.out.cell (i := 0) rfl
      have f1 := HB2.out.cell (i := 1) rfl
      have f2 := HB2.out.cell (i := 2) rfl
      have ff := HB2.out.frozen
      have hgl2 := HB2.out.lt
      have HQ := Lib.hid (HA.out wc (hb1.trans (hbw.mono hz1)))
      clear HS
      by_cases hge : manyF c r ≤ d
      · have d1 : decide (manyF c r ≤ d) = true := by simpa using hge
        have hm := manyF_pos h r
        have hdb : 0 ≤ d ∧ d < 13 * 1024 := by
          have := Hd.out
          have h2 := (sumF_le h (r - 1)).1
          have h3 := H13
          omega
        have hwr : IntKind.i64.wrap (d - manyF c r) = d - manyF c r := IntWalk.i64_in _ (by omega)
        have hsum : sumF c r = sumF c (r - 1) + manyF c r := by
          obtain ⟨q, rfl⟩ : ∃ q, r = q + 1 := ⟨r - 1, by omega⟩
          rfl
        have hr13 : r < 13 := by
          rcases Nat.lt_or_ge r 13 with hlt | hge13
          · exact hlt
          · exfalso
            obtain rfl : r = 13 := by omega
            have := Hd.out
            omega
        have HSum := Lib.hid hsum
        have Hwr := Lib.hid hwr
        clear hm hsum hwr
        obtain ⟨q0, q1, q2, q3, q4, q5, q6⟩ := HQ.out
        go_upto_region 8 with fail
        go_cut [] (fun wd => Below w1.heap.size w1 wd ∧ Hid (Blk wd w1.heap.size 264 [.int .i64 (r : Int), .int .i64 (d - manyF c r), .int .i64 0]))
        case first =>
          go_region_with ((go_at_call 144; refine (wmany_any c h r _).mono ?_; rintro e w3 ⟨rfl, hb3⟩; have hz3 := hb3.size; have g0 := (hb3.cell hgl2).trans f0; have g1 := (hb3.cell hgl2).trans f1; have gf : w3.frozen? ⟨w1.heap.size, 1, none⟩ = false := (hb3.frozen hgl2).trans (ff 1); have hwr2 := Hwr.out))
          all_goals (go_wp2_with fail; go_meet; go_split_ands; go_light)
          all_goals (
            have hbc3 : Below wc.heap.size wc w3 := by first | exact hb3 | exact (Below.refl _ _).drew.trans hb3
            exact ⟨(hbw.trans (hbc3.mono (by omega))).setCell (p := ⟨w1.heap.size, 1, none⟩) (Nat.le_refl _) _, (HB2.out.below hbc3 hgl2).set_ 1 _⟩)
        case rest =>
          obtain ⟨hbd, HD⟩ := hcut
          clear f0 f1 f2 ff q0 q1 q2 q3 q4 q5 q6
          have k0 := HD.out.cell (i := 0) rfl
          have kf := HD.out.frozen 0
          have hw9 : IntKind.i64.wrap ((r : Int) + 1) = (r : Int) + 1 := IntWalk.i64_in _ (by omega)
          go_wp2_with fail
          go_roundg (gk - 1)
          case measure => omega
          case rel =>
            refine ⟨r + 1, by omega, by omega, ?_, hbd.setCell (Nat.le_refl _) _, ?_⟩
            · have := Hd.out
              have := HSum.out
              show sumF c r ≤ a
              omega
            · have hx : a - sumF c (r + 1 - 1) = d - manyF c r := by
                have := Hd.out
                have := HSum.out
                show a - sumF c r = _
                omega
              rw [hx]
              exact HD.out.set_ 0 _
      · have d1 : decide (manyF c r ≤ d) = false := by simpa using hge
        have hsum : sumF c r = sumF c (r - 1) + manyF c r := by
          obtain ⟨q, rfl⟩ : ∃ q, r = q + 1 := ⟨r - 1, by omega⟩
          rfl
        have hin : sumF c (r - 1) ≤ a ∧ a < sumF c r := by
          have := Hd.out
          omega
        have HIn := Lib.hid hin
        have hlt : d < manyF c r := by omega
        clear hsum hin
        by_cases h9 : r = 9
        · have e9 : ((r : Int) == 9) = true := by simp; omega
          have hhz : (c.hazards == 0) = false := by
            have := h.h1
            simp
            omega
          have hhn : ¬ c.hazards = 0 := by
            have := h.h1
            omega
          obtain ⟨q0, q1, q2, q3, q4, q5, q6⟩ := HQ.out
          go_upto_region 11 with fail
          go_region
          have HG : Blk ((wc.setCell ⟨w1.heap.size, 1, none⟩ (.int .i64 (wrap64 (d.tdiv c.hazards)))).setCell ⟨w1.heap.size, 2, none⟩ (.int .i64 (d.tmod c.hazards))).drew w1.heap.size 264 [.int .i64 r, .int .i64 (wrap64 (d.tdiv c.hazards)), .int .i64 (d.tmod c.hazards)] := (HB2.out.set_ 1 _).set_ 2 _
          have hbW : Below w1.heap.size w1 ((wc.setCell ⟨w1.heap.size, 1, none⟩ (.int .i64 (wrap64 (d.tdiv c.hazards)))).setCell ⟨w1.heap.size, 2, none⟩ (.int .i64 (d.tmod c.hazards))).drew := ((hbw.setCell (p := ⟨w1.heap.size, 1, none⟩) (Nat.le_refl _) _).setCell (p := ⟨w1.heap.size, 2, none⟩) (Nat.le_refl _) _).drew
          clear f0 f1 f2 ff q0 q1 q2 q3 q4 q5 q6
          generalize ((wc.setCell ⟨w1.heap.size, 1, none⟩ (.int .i64 (wrap64 (d.tdiv c.hazards)))).setCell ⟨w1.heap.size, 2, none⟩ (.int .i64 (d.tmod c.hazards))).drew = wF at HG hbW ⊢
          generalize wrap64 (d.tdiv c.hazards) = iv at HG
          generalize d.tmod c.hazards = kv at HG
          have F0 := HG.cell (i := 0) rfl
          have F1 := HG.cell (i := 1) rfl
          have F2 := HG.cell (i := 2) rfl
          have h1' := H1.out.below (hb1.trans (hbW.mono hz1)) (by omega)
          have p0 := h1'.cell (i := 0) rfl
          have p1 := h1'.cell (i := 1) rfl
          have p2 := h1'.cell (i := 2) rfl
          have pf := h1'.frozen
          have H1' := Lib.hid h1'
          have HG' := Lib.hid HG
          clear h1' HG
          go_wp2_with fail
          have hR := ((H1'.out.set_ 0 (.int .i64 9)).set_ 1 (.int .i64 iv)).set_ 2 (.int .i64 kv)
          have hbz := (((hb0.trans ((hb1.trans (hbW.mono hz1)).mono (by omega))).setCell (p := ⟨w.heap.size + 1, 0, none⟩) (by dsimp only; omega) (.int .i64 9)).setCell (p := ⟨w.heap.size + 1, 1, none⟩) (by dsimp only; omega) (.int .i64 iv)).setCell (p := ⟨w.heap.size + 1, 2, none⟩) (by dsimp only; omega) (.int .i64 kv)
          refine bodyPost_ret_by (results_cell_row2 rfl _ _ (w.heap.size + 1) 264 _ (0, 0) _ rfl hR Try.underlying264 rfl size_place) rfl ?_
          exact ⟨9, iv, kv, 0, rfl, hbz, Or.inr ⟨rfl, by omega, by omega, by rw [← h9]; exact HIn.out.1, by rw [← h9]; exact HIn.out.2⟩⟩
        · have e9 : ((r : Int) == 9) = false := by simp; omega
          have HG := HB2.out
          have hbW := hbw
          clear f0 f1 f2 ff
          have F0 := HG.cell (i := 0) rfl
          have F1 := HG.cell (i := 1) rfl
          have F2 := HG.cell (i := 2) rfl
          have h1' := H1.out.below (hb1.trans (hbW.mono hz1)) (by omega)
          have p0 := h1'.cell (i := 0) rfl
          have p1 := h1'.cell (i := 1) rfl
          have p2 := h1'.cell (i := 2) rfl
          have pf := h1'.frozen
          have H1' := Lib.hid h1'
          have HG' := Lib.hid HG
          clear h1' HG
          go_wp2_with fail
          have hR := ((H1'.out.set_ 0 (.int .i64 (r : Int))).set_ 1 (.int .i64 d)).set_ 2 (.int .i64 0)
          have hbz := (((hb0.trans ((hb1.trans (hbW.mono hz1)).mono (by omega))).setCell (p := ⟨w.heap.size + 1, 0, none⟩) (by dsimp only; omega) (.int .i64 (r : Int))).setCell (p := ⟨w.heap.size + 1, 1, none⟩) (by dsimp only; omega) (.int .i64 d)).setCell (p := ⟨w.heap.size + 1, 2, none⟩) (by dsimp only; omega) (.int .i64 0)
          refine bodyPost_ret_by (results_cell_row2 rfl _ _ (w.heap.size + 1) 264 _ (0, 0) _ rfl hR Try.underlying264 rfl size_place) rfl ?_
          exact ⟨r, d, 0, 0, rfl, hbz, Or.inr ⟨rfl, hr1, by omega, HIn.out.1, HIn.out.2⟩⟩
end Go.Proofs.Ytgbopmgeicokoaa
