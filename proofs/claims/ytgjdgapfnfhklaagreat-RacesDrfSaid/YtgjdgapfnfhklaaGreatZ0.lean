/-
api.Multi as plain data, and as it lies in memory. word.At: 
-/
import Derived.Test.YtgjdgapfnfhklaaGreatZ24
import Derived.Test.YtgjdgapfnfhklaaGreatZ25
import Derived.Deep.RegionHeld3
import Derived.Deep.RegionWith
import Derived.Deep.DeepCutAuto
import Derived.Laws.Rows
import Derived.Laws.NewBlocks
import Derived.Laws.ResultCell
import Derived.Test.YtgjdgapfnfhklaaGreatProg
set_option linter.unusedSimpArgs false
set_option linter.unusedVariables false
set_option maxRecDepth 100000
set_option maxHeartbeats 8000000
namespace Go.Proofs.YtgjdgapfnfhklaaGreat
open Go.RowKit
def ints (l : List Int) : List Value := l.map (Value.int .i64)
theorem ints_get {l : List Int} {k : Nat} {x : Int} (h : l[k]? = some x) : (ints l)[k]? = some (.int .i64 x) := by simp [ints, h]
theorem ints_len (l : List Int) : (ints l).length = l.length := by simp [ints]
abbrev hdV (h : Option Addr × Nat × Nat) : Value := .slice h.1 h.2.1 h.2.2
end Go.Proofs.YtgjdgapfnfhklaaGreat
namespace Go.Proofs.YtgjdgapfnfhklaaGreat
open Go.RowKit
theorem results_cell_row2 {P : Program} {fn : Func} {p u : Tmp} {ty : TypeId} (h : fn.results = #[.cell p ty, .tmp u]) (tmps : Array Value) (w : World) (g : Nat) (t : TypeId) (cs : Array Value) (fr : Nat × Nat) (d : TypeDesc)
  (hp : tmps.getD p undef = .pointer (some ⟨g, 0, none⟩)) (hg : w.heap[g]? = some (.cells cs t fr))
  (hu : P.underlying ty = some d) (hd : (match d with | .struct _ | .array _ _ => true | _ => false) = true) (hi : (P.info? ty).map (·.size) = some cs.size) :
  (results fn tmps).run P w = .ok (.tuple #[.agg cs, tmps.getD u undef]) w := by
 rw [results_cell_tmp h, hp]
 simp [asAddr, run_loadVar_row w g t ty cs fr d hg hu hd hi]
theorem size_place : (Tryz.prog.info? 175).map (·.size) = some 3 := by kernel_rfl
def AtR (c : Cfg) (a : Int) (w : World) (e : Ending) (w' : World) : Prop :=
 ∃ (r : Nat) (i k err : Int), e = .returned (.tuple #[.agg #[.int .i64 r, .int .i64 i, .int .i64 k], .int .i64 err]) /\ Below w.heap.size w w' /\
  ((err = 2 /\ r = 0 /\ ¬ (0 <= a /\ a < sumF c 13)) ∨ (err = 0 /\ 1 <= r /\ r <= 13 /\ sumF c (r - 1) <= a /\ a < sumF c r))
theorem at_any (c : Cfg) (h : OkC c) (a : Int) (w : World) : Calls Tryz.prog 68 #[cfgV c, .int .i64 a] w (AtR c a w) := by
 obtain ⟨w0, hw0⟩ : ∃ w0 : World, w0 = (w.alloc (.cells #[.int .i64 c.threads, .int .i64 c.records, .int .i64 c.hazards, .int .i64 c.retire, .int .i64 c.cache, .int .i64 c.slots, .int .i64 c.buckets] 44)).alloc (.cells #[.int .i64 0, .int .i64 0, .int .i64 0] 175) := ⟨_, rfl⟩
 have hb0 : Below w.heap.size w w0 := by rw [hw0]; exact ((Below.refl _ _).alloc (Nat.le_refl _) _).alloc (by simp) _
 have h0 : Blk w0 w.heap.size 44 (cfgL c) := by rw [hw0]; exact (Blk.new w 44 _).alloc _
 have h1 : Blk w0 (w.heap.size + 1) 175 [.int .i64 0, .int .i64 0, .int .i64 0] := by
  rw [hw0]
  have := Blk.new (w.alloc (.cells (cfgL c).toArray 44)) 175 [.int .i64 0, .int .i64 0, .int .i64 0]
  rwa [World.size_alloc] at this
 have hz : w.heap.size + 2 = w0.heap.size := by rw [hw0]; simp
 have HA : Hid (∀ W, Below w0.heap.size w0 W -> CfgAt c w.heap.size W) := fun W hB => cfgAt_of h0 hB
 have HW0 := Lh hw0
 have H1 := Lh h1
 have H13 := sumF_le h 13
 clear hw0 h0 h1
 obtain ⟨q0, q1, q2, q3, q4, q5, q6⟩ := HA.o w0 (Below.refl _ _)
 go_enter Tryz.func68, Tryz.ntmps68
 go_upto_region 1 with fail
 rw [<- HW0.o]
 go_wp2_with fail
 refine (size_any c h _).mono ?_
 rintro e w1 ⟨rfl, hb1⟩
 have hz1 : w0.heap.size <= w1.heap.size := hb1.size
 clear q0 q1 q2 q3 q4 q5 q6
 have h1' := H1.o.below hb1 (by omega)
 have p0 := h1'.cell (i := 0) rfl
 have p1 := h1'.cell (i := 1) rfl
 have p2 := h1'.cell (i := 2) rfl
 have pf := h1'.frozen
 clear h1'
 by_cases hlo : 0 <= a
 case neg =>
  have e1 : decide (a < 0) = true := by simp; omega
  clear hlo
  go_wp2_with fail
  have h1' := H1.o.below hb1 (by omega)
  have hR := ((h1'.set_ 0 (.int .i64 0)).set_ 1 (.int .i64 0)).set_ 2 (.int .i64 0)
  have hbz := (((hb0.trans (hb1.mono (by omega))).setCell (p := ⟨w.heap.size + 1, 0, none⟩) (by dsimp only; omega) (.int .i64 0)).setCell (p := ⟨w.heap.size + 1, 1, none⟩) (by dsimp only; omega) (.int .i64 0)).setCell (p := ⟨w.heap.size + 1, 2, none⟩) (by dsimp only; omega) (.int .i64 0)
  refine bodyPost_ret_by (results_cell_row2 rfl _ _ (w.heap.size + 1) 175 _ (0, 0) _ rfl hR Tryz.underlying175 rfl size_place) rfl ?_
  refine ⟨0, 0, 0, 2, rfl, hbz, Or.inl ⟨rfl, rfl, ?_⟩⟩
  simp at e1
  omega
 by_cases hhi : a < sumF c 13
 case neg =>
  have e1 : decide (a < 0) = false := by simp; omega
  have e2 : decide (sumF c 13 <= a) = true := by simp; omega
  have HH := Lh hhi
  clear hhi hlo
  go_wp2_with fail
  have h1' := H1.o.below hb1 (by omega)
  have hR := ((h1'.set_ 0 (.int .i64 0)).set_ 1 (.int .i64 0)).set_ 2 (.int .i64 0)
  have hbz := (((hb0.trans (hb1.mono (by omega))).setCell (p := ⟨w.heap.size + 1, 0, none⟩) (by dsimp only; omega) (.int .i64 0)).setCell (p := ⟨w.heap.size + 1, 1, none⟩) (by dsimp only; omega) (.int .i64 0)).setCell (p := ⟨w.heap.size + 1, 2, none⟩) (by dsimp only; omega) (.int .i64 0)
  refine bodyPost_ret_by (results_cell_row2 rfl _ _ (w.heap.size + 1) 175 _ (0, 0) _ rfl hR Tryz.underlying175 rfl size_place) rfl ?_
  exact ⟨0, 0, 0, 2, rfl, hbz, Or.inl ⟨rfl, rfl, fun hh => by have := HH.o; omega⟩⟩
 have e1 : decide (a < 0) = false := by simp; omega
 have e2 : decide (sumF c 13 <= a) = false := by simp; omega
 have HP := Lh (⟨p0, p1, p2, pf⟩ : w1.cell? ⟨w.heap.size + 1, 0, none⟩ = some (.int .i64 0) /\ w1.cell? ⟨w.heap.size + 1, 1, none⟩ = some (.int .i64 0) /\ w1.cell? ⟨w.heap.size + 1, 2, none⟩ = some (.int .i64 0) /\ ∀ i, w1.frozen? ⟨w.heap.size + 1, i, none⟩ = false)
 clear p0 p1 p2 pf
 go_wp2_with fail
 go_loopg [] 12 (fun g wr => ∃ r : Nat, 1 <= r /\ r + g = 13 /\ sumF c (r - 1) <= a /\ Below w1.heap.size w1 wr /\ Hid (Blk wr w1.heap.size 175 [.int .i64 r, .int .i64 (a - sumF c (r - 1)), .int .i64 0]))
 case atStart => exact ⟨1, by omega, by omega, by simpa [sumF] using hlo, (Below.refl _ _).alloc (Nat.le_refl _) _, Lh (by simpa [sumF] using Blk.new w1 175 [.int .i64 1, .int .i64 a, .int .i64 0])⟩
 case round =>
  obtain ⟨r, hr1, hrg, hra, hbr, HB⟩ := hrel
  have hzr := hbr.size
  have hgl := HB.o.lt
  have hwg : w.heap.size < wr.heap.size := by omega
  have HS : Hid (∀ W, Below wr.heap.size wr W -> Below wr.heap.size wr W /\ CfgAt c w.heap.size W /\ W.cell? ⟨w1.heap.size, 0, none⟩ = some (.int .i64 (r : Int)) /\ W.cell? ⟨w1.heap.size, 1, none⟩ = some (.int .i64 (a - sumF c (r - 1)))) :=
   fun W hB => ⟨hB, HA.o W ((hb1.trans (hbr.mono hz1)).trans (hB.mono (by omega))), (HB.o.below hB hgl).cell rfl, (HB.o.below hB hgl).cell rfl⟩
  have hdec : decide (manyF c r <= a - sumF c (r - 1)) = decide (manyF c r <= a - sumF c (r - 1)) := rfl
  obtain ⟨d, hd⟩ : ∃ d, d = a - sumF c (r - 1) := ⟨_, rfl⟩
  rw [<- hd] at HS HB
  have Hd := Lh hd
  clear hdec hd
  go_upto_region 7 with fail
  go_cut [34] (fun s34 wc => s34 = .bool (decide (manyF c r <= d)) /\ Below wr.heap.size wr wc)
  case first =>
   go_region_held3 (fun W => Below wr.heap.size wr W /\ CfgAt c w.heap.size W /\ W.cell? ⟨w1.heap.size, 0, none⟩ = some (.int .i64 (r : Int)) /\ W.cell? ⟨w1.heap.size, 1, none⟩ = some (.int .i64 d))
    ((refine HS.o _ ?_; go_split_ands; first | assumption | exact (Below.refl _ _).drew | exact Below.trans ‹Below wr.heap.size wr _› (hb3.mono (‹Below wr.heap.size wr _›).size)))
    ((go_at_call 98; refine (wmany_any c h r _).mono ?_; rintro e w3 ⟨rfl, hb3⟩))
   all_goals (go_wp2_with fail; go_meet; go_split_ands; go_light)
   all_goals exact ⟨rfl, by assumption⟩
  case rest =>
   obtain ⟨rfl, hbc⟩ := hcut
   have hcz := hbc.size
   have hbw : Below w1.heap.size w1 wc := hbr.trans (hbc.mono (by omega))
   have HB2 := Lh (HB.o.below hbc hgl)
   have f0 := HB2.o.cell (i := 0) rfl
   have f1 := HB2.o.cell (i := 1) rfl
   have f2 := HB2.o.cell (i := 2) rfl
   have ff := HB2.o.frozen
   have hgl2 := HB2.o.lt
   have HQ := Lh (HA.o wc (hb1.trans (hbw.mono hz1)))
   clear HS
   by_cases hge : manyF c r <= d
   ·have d1 : decide (manyF c r <= d) = true := by simpa using hge
    have hm := manyF_pos h r
    have hdb : 0 <= d /\ d < 13 * 1024 := by
     have := Hd.o
     have h2 := (sumF_le h (r - 1)).1
     have h3 := H13
     omega
    have hwr : IntKind.i64.wrap (d - manyF c r) = d - manyF c r := IntWalk.i64_in _ (by omega)
    have hsum : sumF c r = sumF c (r - 1) + manyF c r := by
     obtain ⟨q, rfl⟩ : ∃ q, r = q + 1 := ⟨r - 1, by omega⟩
     rfl
    have hr13 : r < 13 := by
     rcases Nat.lt_or_ge r 13 with hlt | hge13
     ·exact hlt
     ·exfalso
      obtain rfl : r = 13 := by omega
      have := Hd.o
      omega
    have HSum := Lh hsum
    have Hwr := Lh hwr
    clear hm hsum hwr
    obtain ⟨q0, q1, q2, q3, q4, q5, q6⟩ := HQ.o
    go_upto_region 8 with fail
    go_cut [] (fun wd => Below w1.heap.size w1 wd /\ Hid (Blk wd w1.heap.size 175 [.int .i64 (r : Int), .int .i64 (d - manyF c r), .int .i64 0]))
    case first =>
     go_region_with ((go_at_call 98; refine (wmany_any c h r _).mono ?_; rintro e w3 ⟨rfl, hb3⟩; have hz3 := hb3.size; have g0 := (hb3.cell hgl2).trans f0; have g1 := (hb3.cell hgl2).trans f1; have gf : w3.frozen? ⟨w1.heap.size, 1, none⟩ = false := (hb3.frozen hgl2).trans (ff 1); have hwr2 := Hwr.o))
     all_goals (go_wp2_with fail; go_meet; go_split_ands; go_light)
     all_goals (
      have hbc3 : Below wc.heap.size wc w3 := by first | exact hb3 | exact (Below.refl _ _).drew.trans hb3
      exact ⟨(hbw.trans (hbc3.mono (by omega))).setCell (p := ⟨w1.heap.size, 1, none⟩) (Nat.le_refl _) _, (HB2.o.below hbc3 hgl2).set_ 1 _⟩)
    case rest =>
     obtain ⟨hbd, HD⟩ := hcut
     clear f0 f1 f2 ff q0 q1 q2 q3 q4 q5 q6
     have k0 := HD.o.cell (i := 0) rfl
     have kf := HD.o.frozen 0
     have hw9 : IntKind.i64.wrap ((r : Int) + 1) = (r : Int) + 1 := IntWalk.i64_in _ (by omega)
     go_wp2_with fail
     go_roundg (gk - 1)
     case measure => omega
     case rel =>
      refine ⟨r + 1, by omega, by omega, ?_, hbd.setCell (Nat.le_refl _) _, ?_⟩
      ·have := Hd.o
       have := HSum.o
       show sumF c r <= a
       omega
      ·have hx : a - sumF c (r + 1 - 1) = d - manyF c r := by
        have := Hd.o
        have := HSum.o
        show a - sumF c r = _
        omega
       rw [hx]
       exact HD.o.set_ 0 _
   ·have d1 : decide (manyF c r <= d) = false := by simpa using hge
    have hsum : sumF c r = sumF c (r - 1) + manyF c r := by
     obtain ⟨q, rfl⟩ : ∃ q, r = q + 1 := ⟨r - 1, by omega⟩
     rfl
    have hin : sumF c (r - 1) <= a /\ a < sumF c r := by
     have := Hd.o
     omega
    have HIn := Lh hin
    have hlt : d < manyF c r := by omega
    clear hsum hin
    by_cases h9 : r = 9
    ·have e9 : ((r : Int) == 9) = true := by simp; omega
     have hhz : (c.hazards == 0) = false := by
      have := h.h1
      simp
      omega
     have hhn : ¬ c.hazards = 0 := by
      have := h.h1
      omega
     obtain ⟨q0, q1, q2, q3, q4, q5, q6⟩ := HQ.o
     go_upto_region 11 with fail
     go_region
     have HG : Blk ((wc.setCell ⟨w1.heap.size, 1, none⟩ (.int .i64 (wrap64 (d.tdiv c.hazards)))).setCell ⟨w1.heap.size, 2, none⟩ (.int .i64 (d.tmod c.hazards))).drew w1.heap.size 175 [.int .i64 r, .int .i64 (wrap64 (d.tdiv c.hazards)), .int .i64 (d.tmod c.hazards)] := (HB2.o.set_ 1 _).set_ 2 _
     have hbW : Below w1.heap.size w1 ((wc.setCell ⟨w1.heap.size, 1, none⟩ (.int .i64 (wrap64 (d.tdiv c.hazards)))).setCell ⟨w1.heap.size, 2, none⟩ (.int .i64 (d.tmod c.hazards))).drew := ((hbw.setCell (p := ⟨w1.heap.size, 1, none⟩) (Nat.le_refl _) _).setCell (p := ⟨w1.heap.size, 2, none⟩) (Nat.le_refl _) _).drew
     clear f0 f1 f2 ff q0 q1 q2 q3 q4 q5 q6
     generalize ((wc.setCell ⟨w1.heap.size, 1, none⟩ (.int .i64 (wrap64 (d.tdiv c.hazards)))).setCell ⟨w1.heap.size, 2, none⟩ (.int .i64 (d.tmod c.hazards))).drew = wF at HG hbW ⊢
     generalize wrap64 (d.tdiv c.hazards) = iv at HG
     generalize d.tmod c.hazards = kv at HG
     have F0 := HG.cell (i := 0) rfl
     have F1 := HG.cell (i := 1) rfl
     have F2 := HG.cell (i := 2) rfl
     have h1' := H1.o.below (hb1.trans (hbW.mono hz1)) (by omega)
     have p0 := h1'.cell (i := 0) rfl
     have p1 := h1'.cell (i := 1) rfl
     have p2 := h1'.cell (i := 2) rfl
     have pf := h1'.frozen
     have H1' := Lh h1'
     have HG' := Lh HG
     clear h1' HG
     go_wp2_with fail
     have hR := ((H1'.o.set_ 0 (.int .i64 9)).set_ 1 (.int .i64 iv)).set_ 2 (.int .i64 kv)
     have hbz := (((hb0.trans ((hb1.trans (hbW.mono hz1)).mono (by omega))).setCell (p := ⟨w.heap.size + 1, 0, none⟩) (by dsimp only; omega) (.int .i64 9)).setCell (p := ⟨w.heap.size + 1, 1, none⟩) (by dsimp only; omega) (.int .i64 iv)).setCell (p := ⟨w.heap.size + 1, 2, none⟩) (by dsimp only; omega) (.int .i64 kv)
     refine bodyPost_ret_by (results_cell_row2 rfl _ _ (w.heap.size + 1) 175 _ (0, 0) _ rfl hR Tryz.underlying175 rfl size_place) rfl ?_
     exact ⟨9, iv, kv, 0, rfl, hbz, Or.inr ⟨rfl, by omega, by omega, by rw [<- h9]; exact HIn.o.1, by rw [<- h9]; exact HIn.o.2⟩⟩
    ·have e9 : ((r : Int) == 9) = false := by simp; omega
     have HG := HB2.o
     have hbW := hbw
     clear f0 f1 f2 ff
     have F0 := HG.cell (i := 0) rfl
     have F1 := HG.cell (i := 1) rfl
     have F2 := HG.cell (i := 2) rfl
     have h1' := H1.o.below (hb1.trans (hbW.mono hz1)) (by omega)
     have p0 := h1'.cell (i := 0) rfl
     have p1 := h1'.cell (i := 1) rfl
     have p2 := h1'.cell (i := 2) rfl
     have pf := h1'.frozen
     have H1' := Lh h1'
     have HG' := Lh HG
     clear h1' HG
     go_wp2_with fail
     have hR := ((H1'.o.set_ 0 (.int .i64 (r : Int))).set_ 1 (.int .i64 d)).set_ 2 (.int .i64 0)
     have hbz := (((hb0.trans ((hb1.trans (hbW.mono hz1)).mono (by omega))).setCell (p := ⟨w.heap.size + 1, 0, none⟩) (by dsimp only; omega) (.int .i64 (r : Int))).setCell (p := ⟨w.heap.size + 1, 1, none⟩) (by dsimp only; omega) (.int .i64 d)).setCell (p := ⟨w.heap.size + 1, 2, none⟩) (by dsimp only; omega) (.int .i64 0)
     refine bodyPost_ret_by (results_cell_row2 rfl _ _ (w.heap.size + 1) 175 _ (0, 0) _ rfl hR Tryz.underlying175 rfl size_place) rfl ?_
     exact ⟨r, d, 0, 0, rfl, hbz, Or.inr ⟨rfl, hr1, by omega, HIn.o.1, HIn.o.2⟩⟩
end Go.Proofs.YtgjdgapfnfhklaaGreat
namespace Go.Proofs.YtgjdgapfnfhklaaGreat
open Go.RowKit
def BoolR (v : Bool) (w : World) (e : Ending) (w' : World) : Prop := e = .returned (.bool v) /\ Below w.heap.size w w'
theorem at_plain {c : Cfg} (h : OkC c) {a : Int} {r : Nat} (h1 : 1 <= r) (h2 : r <= 13) (h3 : sumF c (r - 1) <= a) (h4 : a < sumF c r) : plainB c a = (((r : Int) == 11) || ((r : Int) == 12)) := by
 have h12 := sumF_12 c
 unfold plainB
 rw [<- h12]
 rcases Nat.lt_or_ge r 11 with hlt | hge
 ·have := sumF_mono h (show r <= 10 by omega)
  have e1 : ((r : Int) == 11) = false := by simp; omega
  have e2 : ((r : Int) == 12) = false := by simp; omega
  have e3 : decide (sumF c 10 <= a) = false := by simp; omega
  rw [e1, e2, e3]
  rfl
 ·rcases Nat.lt_or_ge 12 r with hlt | hge2
  ·have := sumF_mono h (show 12 <= r - 1 by omega)
   have e1 : ((r : Int) == 11) = false := by simp; omega
   have e2 : ((r : Int) == 12) = false := by simp; omega
   have e3 : decide (a < sumF c 12) = false := by simp; omega
   rw [e1, e2, e3]
   simp
  ·have := sumF_mono h (show 10 <= r - 1 by omega)
   have := sumF_mono h (show r <= 12 by omega)
   have e3 : decide (a < sumF c 12) = true := by simp; omega
   have e4 : decide (sumF c 10 <= a) = true := by simp; omega
   rw [e3, e4]
   have : r = 11 ∨ r = 12 := by omega
   rcases this with rfl | rfl <;> rfl
theorem at_out {c : Cfg} (h : OkC c) {a : Int} (h4 : ¬ (0 <= a /\ a < sumF c 13)) : plainB c a = false := by
 have h12 := sumF_12 c
 have h10 := (sumF_le h 10).1
 have := sumF_mono h (show 12 <= 13 by omega)
 unfold plainB
 rw [<- h12]
 by_cases h0 : 0 <= a
 ·have e3 : decide (a < sumF c 12) = false := by simp; omega
  rw [e3]
  simp
 ·have e3 : decide (sumF c 10 <= a) = false := by simp; omega
  rw [e3]
  rfl
theorem plainWord_any (c : Cfg) (h : OkC c) (a : Int) (w : World) : Calls Tryz.prog 37 #[cfgV c, .int .i64 a] w (BoolR (plainB c a) w) := by
 obtain ⟨w0, hw0⟩ : ∃ w0 : World, w0 = w.alloc (.cells #[.int .i64 c.threads, .int .i64 c.records, .int .i64 c.hazards, .int .i64 c.retire, .int .i64 c.cache, .int .i64 c.slots, .int .i64 c.buckets] 44) := ⟨_, rfl⟩
 have hb0 : Below w.heap.size w w0 := by rw [hw0]; exact (Below.refl _ _).alloc (Nat.le_refl _) _
 have h0 : Blk w0 w.heap.size 44 (cfgL c) := by rw [hw0]; exact Blk.new w 44 _
 have hz : w.heap.size <= w0.heap.size := hb0.size
 obtain ⟨q0, q1, q2, q3, q4, q5, q6⟩ := cfgAt_of h0 (Below.refl _ _)
 have HW0 := Lh hw0
 clear hw0 h0
 go_enter Tryz.func37, Tryz.ntmps37
 go_upto_region 1 with fail
 rw [<- HW0.o]
 go_wp2_with fail
 refine (at_any c h a _).mono ?_
 rintro e w1 ⟨r, i, k, err, rfl, hb1, hh⟩
 have hz1 : w0.heap.size <= w1.heap.size := hb1.size
 have hbw := hb0.trans ((hb1.alloc hz1 (.cells #[.int .i64 r, .int .i64 i, .int .i64 k] 175)).mono hz)
 rcases hh with ⟨rfl, rfl, ho⟩ | ⟨rfl, h1, h2, h3, h4⟩
 ·have hp := Lh (at_out h ho)
  clear ho q0 q1 q2 q3 q4 q5 q6
  go_wp2_with fail
  go_ret
  exact ⟨by rw [hp.out]; rfl, hbw⟩
 ·have hp := Lh (at_plain h h1 h2 h3 h4)
  clear q0 q1 q2 q3 q4 q5 q6 h3 h4
  cases e1 : ((r : Int) == 11) with
  | true =>
   go_wp2_with fail
   go_ret
   exact ⟨by rw [hp.out, e1]; rfl, hbw⟩
  | false =>
   cases e2 : ((r : Int) == 12) with
   | true =>
    go_wp2_with fail
    go_ret
    exact ⟨by rw [hp.out, e1, e2]; rfl, hbw⟩
   | false =>
    go_wp2_with fail
    go_ret
    exact ⟨by rw [hp.out, e1, e2]; rfl, hbw⟩
end Go.Proofs.YtgjdgapfnfhklaaGreat
namespace Go.Proofs.YtgjdgapfnfhklaaGreat
open Go.RowKit
structure Acc where
 move : Int
 thread : Int
 kind : Int
 addr : Int
 old : Int
 new : Int
 saw : Int
abbrev accL (a : Acc) : List Value := [.int .i64 a.move, .int .i64 a.thread, .int .i64 a.kind, .int .i64 a.addr, .int .u64 a.old, .int .u64 a.new, .int .u64 a.saw]
abbrev accV (a : Acc) : Value := .agg #[.int .i64 a.move, .int .i64 a.thread, .int .i64 a.kind, .int .i64 a.addr, .int .u64 a.old, .int .u64 a.new, .int .u64 a.saw]
def accVals (l : List Acc) : List Value := l.flatMap accL
theorem accVals_len (l : List Acc) : (accVals l).length = l.length * 7 := by
 induction l with
 | nil => rfl
 | cons a l ih => simp only [accVals, List.flatMap_cons, List.length_append, List.length_cons, List.length_nil] at ih ⊢; omega
theorem accVals_get (l : List Acc) (k : Nat) (x : Acc) (h : l[k]? = some x) (j : Nat) (hj : j < 7) : (accVals l)[k * 7 + j]? = (accL x)[j]? := by
 induction l generalizing k with
 | nil => simp at h
 | cons a l ih =>
  cases k with
  | zero =>
   simp at h
   subst h
   show (accL a ++ accVals l)[0 * 7 + j]? = _
   rw [Nat.zero_mul, Nat.zero_add, List.getElem?_append_left (by simpa using hj)]
  | succ k =>
   have := ih k (by simpa using h)
   show (accL a ++ accVals l)[(k + 1) * 7 + j]? = _
   rw [List.getElem?_append_right (by simp; omega), <- this]
   congr 1
   simp
   omega
abbrev AccAt (x : Acc) (b o : Nat) (W : World) : Prop := W.cell? ⟨b, o, none⟩ = some (.int .i64 x.move) /\ W.cell? ⟨b, o + 1, none⟩ = some (.int .i64 x.thread) /\ W.cell? ⟨b, o + 2, none⟩ = some (.int .i64 x.kind) /\ W.cell? ⟨b, o + 3, none⟩ = some (.int .i64 x.addr) /\
 W.cell? ⟨b, o + 4, none⟩ = some (.int .u64 x.old) /\ W.cell? ⟨b, o + 5, none⟩ = some (.int .u64 x.new) /\ W.cell? ⟨b, o + 6, none⟩ = some (.int .u64 x.saw)
structure RunAt (w : World) (B : Nat) (A : Option Addr) (n k : Nat) (tr : List Acc) : Prop where
 trace : Sl w B 7 A n (accVals tr)
 nk : n <= k /\ k <= maxLen
theorem RunAt.len {w : World} {B n k : Nat} {A : Option Addr} {tr : List Acc} (h : RunAt w B A n k tr) : tr.length = n := by have := h.trace.1; rw [accVals_len] at this; omega
theorem RunAt.keep {w w' : World} {B n k : Nat} {A : Option Addr} {tr : List Acc} (h : RunAt w B A n k tr) (hb : Below B w w') : RunAt w' B A n k tr := ⟨h.trace.below hb, h.nk⟩
theorem RunAt.at_ {w : World} {B n k : Nat} {A : Option Addr} {tr : List Acc} (h : RunAt w B A n k tr) {j : Nat} {x : Acc} (hx : tr[j]? = some x) : ∃ b o, A = some ⟨b, o, none⟩ /\ b < B /\ AccAt x b (o + j * 7) w := by
 have hj : j < n := by rw [<- h.len]; exact (List.getElem?_eq_some_iff.1 hx).1
 obtain ⟨b, o, e, hb, hc⟩ := h.trace.2 (by omega)
 refine ⟨b, o, e, hb, ?_, ?_, ?_, ?_, ?_, ?_, ?_⟩
 ·exact hc (j * 7 + 0) _ (accVals_get tr j x hx 0 (by omega))
 ·rw [Nat.add_assoc]; exact hc (j * 7 + 1) _ (accVals_get tr j x hx 1 (by omega))
 ·rw [Nat.add_assoc]; exact hc (j * 7 + 2) _ (accVals_get tr j x hx 2 (by omega))
 ·rw [Nat.add_assoc]; exact hc (j * 7 + 3) _ (accVals_get tr j x hx 3 (by omega))
 ·rw [Nat.add_assoc]; exact hc (j * 7 + 4) _ (accVals_get tr j x hx 4 (by omega))
 ·rw [Nat.add_assoc]; exact hc (j * 7 + 5) _ (accVals_get tr j x hx 5 (by omega))
 ·rw [Nat.add_assoc]; exact hc (j * 7 + 6) _ (accVals_get tr j x hx 6 (by omega))
def wroteB (a : Acc) : Bool := (a.kind == 2) || ((a.kind == 3) && (a.saw == a.old))
def accB (c : Cfg) (a : Acc) : Bool := decide (0 <= a.thread) && (decide (a.thread < c.threads) && (decide (1 <= a.kind) && (decide (a.kind <= 3) && decide (0 <= a.addr))))
def runErr (c : Cfg) (tr : List Acc) : Int := if okC c then (if tr.all (accB c) then 0 else 270) else 1
abbrev Clk := Nat -> Int
def clkL (n : Nat) (f : Clk) : List Int := (List.range n).map f
def bump (f : Clk) (t : Nat) : Clk := fun k => if k = t then f k + 1 else f k
def maxC (f g : Clk) : Clk := fun k => if f k < g k then g k else f k
structure CS where
 th : Nat -> Clk
 wd : Int -> Option Clk
def CS.zero : CS := ⟨fun _ _ => 0, fun _ => none⟩
def mineC (c : Cfg) (s : CS) (a : Acc) : Clk :=
 if plainB c a.addr then bump (s.th a.thread.toNat) a.thread.toNat
 else if a.kind = 2 then bump (s.th a.thread.toNat) a.thread.toNat
 else match s.wd a.addr with
  | none => bump (s.th a.thread.toNat) a.thread.toNat
  | some g => maxC (bump (s.th a.thread.toNat) a.thread.toNat) g
def stepC (c : Cfg) (s : CS) (a : Acc) : CS :=
 ⟨fun t => if t = a.thread.toNat then mineC c s a else s.th t, fun w => if w = a.addr /\ plainB c a.addr = false /\ wroteB a = true then some (mineC c s a) else s.wd w⟩
def csAt (c : Cfg) (tr : List Acc) (j : Nat) : CS := (tr.take j).foldl (stepC c) CS.zero
theorem csAt_next {c : Cfg} {tr : List Acc} {j : Nat} {a : Acc} (h : tr[j]? = some a) : csAt c tr (j + 1) = stepC c (csAt c tr j) a := by
 unfold csAt
 rw [take_snoc h, List.foldl_append]
 rfl
def outC (c : Cfg) (tr : List Acc) (j : Nat) : Clk := match tr[j]? with | some a => mineC c (csAt c tr j) a | none => fun _ => 0
theorem outC_at {c : Cfg} {tr : List Acc} {j : Nat} {a : Acc} (h : tr[j]? = some a) : outC c tr j = mineC c (csAt c tr j) a := by unfold outC; rw [h]
def Bnd (n : Int) (s : CS) : Prop := (∀ t k, 0 <= s.th t k /\ s.th t k <= n) /\ ∀ w g, s.wd w = some g -> ∀ k, 0 <= g k /\ g k <= n
theorem Bnd.mine {n : Int} {s : CS} (h : Bnd n s) (c : Cfg) (a : Acc) (k : Nat) : 0 <= mineC c s a k /\ mineC c s a k <= n + 1 := by
 have hb : 0 <= bump (s.th a.thread.toNat) a.thread.toNat k /\ bump (s.th a.thread.toNat) a.thread.toNat k <= n + 1 := by
  have := h.1 a.thread.toNat k
  unfold bump
  split <;> omega
 unfold mineC
 split
 ·exact hb
 ·split
  ·exact hb
  ·cases hg : s.wd a.addr with
   | none => exact hb
   | some g =>
    have := h.2 _ g hg k
    show 0 <= (if _ < _ then _ else _) /\ (if _ < _ then _ else _) <= n + 1
    split <;> omega
theorem Bnd.step {n : Int} {s : CS} (h : Bnd n s) (c : Cfg) (a : Acc) : Bnd (n + 1) (stepC c s a) := by
 refine ⟨fun t k => ?_, fun w g hg k => ?_⟩
 ·show 0 <= (if t = a.thread.toNat then mineC c s a else s.th t) k /\ _
  show 0 <= (if t = a.thread.toNat then mineC c s a else s.th t) k /\ (if t = a.thread.toNat then mineC c s a else s.th t) k <= n + 1
  split
  ·exact h.mine c a k
  ·have := h.1 t k
   omega
 ·have hg' : (if w = a.addr /\ plainB c a.addr = false /\ wroteB a = true then some (mineC c s a) else s.wd w) = some g := hg
  split at hg'
  ·injection hg' with hg'
   subst hg'
   exact h.mine c a k
  ·have := h.2 w g hg' k
   omega
theorem bnd_at (c : Cfg) (tr : List Acc) (j : Nat) (hj : j <= tr.length) : Bnd j (csAt c tr j) := by
 induction j with
 | zero => exact ⟨fun t k => ⟨Int.le_refl _, Int.le_refl _⟩, fun w g hg => by cases hg⟩
 | succ j ih =>
  obtain ⟨a, ha⟩ := at_lt (show j < tr.length by omega)
  rw [csAt_next ha]
  have := (ih (by omega)).step c a
  exact_mod_cast this
end Go.Proofs.YtgjdgapfnfhklaaGreat
namespace Go.Proofs.YtgjdgapfnfhklaaGreat
open Go.RowKit
theorem wrote_any (a : Acc) (w : World) : Calls Tryz.prog 38 #[accV a] w (BoolR (wroteB a) w) := by
 have hw : wroteB a = ((a.kind == 2) || ((a.kind == 3) && (a.saw == a.old))) := rfl
 cases e1 : (a.kind == 2) with
 | true =>
  have HW := Lh (hw.trans (by rw [e1]; rfl) : wroteB a = true)
  clear hw
  go_enter Tryz.func38, Tryz.ntmps38
  go_wp2_with fail
  go_ret
  exact ⟨by rw [HW.o]; rfl, (Below.refl _ _).alloc (Nat.le_refl _) _⟩
 | false =>
  cases e2 : (a.kind == 3) with
  | false =>
   have HW := Lh (hw.trans (by rw [e1, e2]; rfl) : wroteB a = false)
   clear hw
   go_enter Tryz.func38, Tryz.ntmps38
   go_wp2_with fail
   go_ret
   exact ⟨by rw [HW.o]; rfl, (Below.refl _ _).alloc (Nat.le_refl _) _⟩
  | true =>
   cases e3 : (a.saw == a.old) with
   | true =>
    have HW := Lh (hw.trans (by rw [e1, e2, e3]; rfl) : wroteB a = true)
    clear hw
    go_enter Tryz.func38, Tryz.ntmps38
    go_wp2_with fail
    go_ret
    exact ⟨by rw [HW.o]; rfl, (Below.refl _ _).alloc (Nat.le_refl _) _⟩
   | false =>
    have HW := Lh (hw.trans (by rw [e1, e2, e3]; rfl) : wroteB a = false)
    clear hw
    go_enter Tryz.func38, Tryz.ntmps38
    go_wp2_with fail
    go_ret
    exact ⟨by rw [HW.o]; rfl, (Below.refl _ _).alloc (Nat.le_refl _) _⟩
theorem num27_any (x : Int) (w : World) : Calls Tryz.prog 10 #[.int .i64 x] w (fun e w' => e = .returned (.int .i64 x) /\ w' = w) := by
 go_enter Tryz.func10, Tryz.ntmps10
 go_wp2_with fail
 go_ret
 exact ⟨rfl, rfl⟩
end Go.Proofs.YtgjdgapfnfhklaaGreat
namespace Go.Proofs.YtgjdgapfnfhklaaGreat
open Go.RowKit
theorem alc (w : World) (os : List Obj) (k : Nat) {xs : List Value} {t : TypeId} (h : os[k]? = some (.cells xs.toArray t)) : Blk (os.foldl World.alloc w) (w.heap.size + k) t xs := by
 induction os generalizing w k with
 | nil => simp at h
 | cons o os ih =>
  cases k with
  | zero =>
   simp only [List.getElem?_cons_zero, Option.some.injEq] at h
   subst h
   have hb : ∀ (os : List Obj) (W : World), Blk W w.heap.size t xs -> Blk (os.foldl World.alloc W) w.heap.size t xs := by
    intro os
    induction os with
    | nil => exact fun _ h => h
    | cons o os ih => exact fun W h => ih _ (h.alloc o)
   exact hb os _ (Blk.new w t xs)
  | succ k =>
   have h9 := ih (w.alloc o) k (by simpa using h)
   rw [World.size_alloc] at h9
   rwa [show w.heap.size + (k + 1) = w.heap.size + 1 + k by omega]
end Go.Proofs.YtgjdgapfnfhklaaGreat
