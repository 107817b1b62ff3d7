/-
races.node.races: an event's races, by the numbers kept besi
-/
import Derived.Test.YtgjdgapfnfhklaaGreatZ25
import Derived.Test.YtgjdgapfnfhklaaGreatZ10
import Derived.Deep.RegionHeld3
set_option linter.unusedSimpArgs false
set_option linter.unusedVariables false
set_option maxRecDepth 100000
set_option maxHeartbeats 16000000
namespace Go.Proofs.YtgjdgapfnfhklaaGreat
open Go.RowKit
def lastU (la : Int -> Nat -> Nat -> Int) (e : Ev) (v : Int) : Int -> Nat -> Nat -> Int :=
 if e.k = 1 then setL la 0 e.a e.t v else if e.k = 2 then setL la 1 e.a e.t v else if e.wr = true then setL (setL la 2 e.a e.t v) 3 e.a e.t v else setL la 2 e.a e.t v
def NrcR (gn : Nat) (pre post : List Value) (x : TS) (la : Int -> Nat -> Nat -> Int) (e : Ev) (w : World) (en : Ending) (w' : World) : Prop :=
 en = .returned (.bool (foundB x la e 4)) /\ NB w' gn pre post (tickS x e) (lastU la e (tickM x e e.t)) /\ Fr (fun g => g = gn) w w'
theorem foundB_next {x : TS} {la : Int -> Nat -> Nat -> Int} {e : Ev} {t : Nat} {b : Bool} (h : foundB x la e t = b) : foundB x la e (t + 1) = (b || (!decide (t = e.t) && lateB x la e t)) := by rw [foundB, h]
theorem Fr.blk {F : Nat -> Prop} {W W' : World} {g : Nat} {t : TypeId} {cs : List Value} (h : Fr F W W') (hb : Blk W g t cs) (hg : ¬ F g) : Blk W' g t cs := hb.kept (h.block g hb.lt hg)
structure NrI (gn : Nat) (pre post : List Value) (y : TS) (la : Int -> Nat -> Nat -> Int) (t0 a : Nat) (kd : Int) (rw : Bool) (m : Clk) (w : World) (g5 : Nat) (W : World) : Prop where
 nb : NB W gn pre post y la
 e : Blk W w.heap.size 109 [.int .i64 t0, .int .i64 kd, .int .i64 a, .bool rw]
 n : Blk W g5 96 (ints (clkL 4 m))
 f : Fr (fun g => g = gn) w W
theorem NrI.on {gn : Nat} {pre post : List Value} {y : TS} {la : Int -> Nat -> Nat -> Int} {t0 a : Nat} {kd : Int} {rw : Bool} {m : Clk} {w : World} {g5 : Nat} {W W' : World} (h : NrI gn pre post y la t0 a kd rw m w g5 W) (hb : Below W.heap.size W W') : NrI gn pre post y la t0 a kd rw m w g5 W' :=
 ⟨h.nb.on hb, h.e.below hb h.e.lt, h.n.below hb h.n.lt, h.f.trans (Fr.of hb)⟩
theorem nraces_any (gn : Nat) (pre post : List Value) (x : TS) (la : Int -> Nat -> Nat -> Int) (t0 : Nat) (kd : Int) (a : Nat) (rw : Bool) (w : World) (hx : NB w gn pre post x la) (ht : t0 < 4) (ha : a < 6) (hwf : EvWf ⟨t0, kd, a, rw⟩) :
  Calls Tryz.prog 27 #[.pointer (some ⟨gn, 0, none⟩), .agg #[.int .i64 t0, .int .i64 kd, .int .i64 a, .bool rw]] w (NrcR gn pre post x la ⟨t0, kd, a, rw⟩ w) := by
 obtain ⟨w0, hw0⟩ : ∃ w0 : World, w0 = w.alloc (.cells #[.int .i64 t0, .int .i64 kd, .int .i64 a, .bool rw] 109) := ⟨_, rfl⟩
 have HE0 : Hid (Blk w0 w.heap.size 109 [.int .i64 t0, .int .i64 kd, .int .i64 a, .bool rw]) := by rw [hw0]; exact Blk.new w 109 [.int .i64 t0, .int .i64 kd, .int .i64 a, .bool rw]
 have hF0 : Below w.heap.size w w0 := by rw [hw0]; exact (Below.refl _ _).alloc (Nat.le_refl _) _
 have HN0 := Lh (hx.on hF0)
 have HF0 := Lh hF0
 have hgn := hx.b.lt
 have HWe := Lh hw0
 have HWf := Lh hwf
 have hz0 : w.heap.size < w0.heap.size := HE0.o.lt
 clear hx hw0 hF0 hwf
 have e0 : (0 : Int) <= t0 := by omega
 have e1 : (t0 : Int) < 4 := by omega
 have e2 : (0 : Int) <= a := by omega
 have e3 : (a : Int) < 6 := by omega
 go_enter Tryz.func27, Tryz.ntmps27
 go_upto_region 1 with fail
 rw [<- HWe.o]
 clear HWe
 obtain ⟨m, hm⟩ : ∃ m, m = tickM x ⟨t0, kd, a, rw⟩ := ⟨_, rfl⟩
 have HM := Lh hm
 clear hm
 go_cut [5] (fun s5 wc => ∃ g5, s5 = .pointer (some ⟨g5, 0, none⟩) /\ w.heap.size < g5 /\ Hid (NrI gn pre post (tickS x ⟨t0, kd, a, rw⟩) la t0 a kd rw m w g5 wc))
 case first =>
  refine wp_region_held_drew (S := fun W => Blk W w.heap.size 109 [.int .i64 t0, .int .i64 kd, .int .i64 a, .bool rw]) (by kernel_rfl) HE0.o (fun hS => ?_)
  iterate 4 (refine tkF 0 (v := ?_) ?_ ?_; rotate_left; · (intro W hSw; (try dsimp only at hSw); go_simp; try with_reducible rfl); try simp only [Act.put, List.setIfInBounds_toArray, List.set_cons_zero, List.set_cons_succ])
  refine tkF 4 (v := .agg #[.int .i64 t0, .int .i64 kd, .int .i64 a, .bool rw]) ?_ ?_
  ·(intro W hSw; (try dsimp only at hSw); have a0 := hSw.cell (i := 0) rfl; have a1 := hSw.cell (i := 1) rfl; have a2 := hSw.cell (i := 2) rfl; have a3 := hSw.cell (i := 3) rfl; go_simp)
  try simp only [Act.put, List.setIfInBounds_toArray, List.set_cons_zero, List.set_cons_succ]
  obtain ⟨V0, hV9, HNV0, HEV0, HFV0⟩ : ∃ Z9, Z9 = w0.drew /\ Hid (NB Z9 gn pre post x la) /\ Hid (Blk Z9 w.heap.size 109 [.int .i64 t0, .int .i64 kd, .int .i64 a, .bool rw]) /\ Hid (Fr (fun g => g = gn) w Z9) := ⟨_, rfl, HN0.o.on (Below.refl _ _).drew, HE0.o, (Fr.of HF0.o).drew⟩
  rw [<- hV9]
  clear hV9
  refine rd2 5 6 (fun K1 hK1 => ?gua) (fun K1 hK1 => ?gub)
  case' gua =>
   go_simp
   go_at_call 45
   refine (tickn_any gn pre (lastL la ++ post) x t0 kd a rw V0 (HNV0.o.tb) ht ha).mono ?_
   rintro e V1 ⟨rfl, hbV1, hfV1⟩
   have HNV1 : Hid (NB V1 gn pre post (tickS x ⟨t0, kd, a, rw⟩) la) := NB.of hbV1
   have HEV1 := Lh (hfV1.blk HEV0.o (fun h9 => by have h8 : w.heap.size = gn := h9; omega))
   have HFV1 : Hid (Fr (fun g => g = gn) w V1) := HFV0.o.trans hfV1
   have hzV1 := hfV1.size
   clear hbV1 hfV1
   refine hK1.out _ _ HEV1.o (fun hS1 => ?_)
   refine rd 6 fun K2 hK2 => ?_
   go_simp
   refine hK2.out _ _ (HEV1.o.alloc _) (fun hS2 => ?_)
   obtain ⟨g5, hg5⟩ : ∃ g5, g5 = V1.heap.size := ⟨_, rfl⟩
   obtain ⟨V2, hV2, HZV2, HNV2, HEV2, HFV2, hzV2⟩ : ∃ Z9, Z9 = V1.alloc (.cells #[.int .i64 0, .int .i64 0, .int .i64 0, .int .i64 0] 96) /\ Hid (Blk Z9 g5 96 [.int .i64 0, .int .i64 0, .int .i64 0, .int .i64 0]) /\ Hid (NB Z9 gn pre post (tickS x ⟨t0, kd, a, rw⟩) la) /\ Hid (Blk Z9 w.heap.size 109 [.int .i64 t0, .int .i64 kd, .int .i64 a, .bool rw]) /\ Hid (Fr (fun g => g = gn) w Z9) /\ V1.heap.size <= Z9.heap.size := ⟨_, rfl, by rw [hg5]; exact Blk.new _ _ _, HNV1.o.on ((Below.refl _ _).alloc (Nat.le_refl _) _), HEV1.o.alloc _, HFV1.o.alloc _, by simp⟩
   have hg5g : gn < g5 := by have := HNV1.o.b.lt; omega
   have hg5w : w.heap.size < g5 := by have := HEV1.o.lt; omega
   rw [<- hV2, <- hg5]
   clear hV2 hg5
  case' gub =>
   go_simp
   refine hK1.out _ _ (HEV0.o.alloc _) (fun hS1 => ?_)
   obtain ⟨g5, hg5⟩ : ∃ g5, g5 = V0.heap.size := ⟨_, rfl⟩
   obtain ⟨V1, hV1, HZV1, HNV1, HEV1, HFV1, hzV1⟩ : ∃ Z9, Z9 = V0.alloc (.cells #[.int .i64 0, .int .i64 0, .int .i64 0, .int .i64 0] 96) /\ Hid (Blk Z9 g5 96 [.int .i64 0, .int .i64 0, .int .i64 0, .int .i64 0]) /\ Hid (NB Z9 gn pre post x la) /\ Hid (Blk Z9 w.heap.size 109 [.int .i64 t0, .int .i64 kd, .int .i64 a, .bool rw]) /\ Hid (Fr (fun g => g = gn) w Z9) /\ V0.heap.size <= Z9.heap.size := ⟨_, rfl, by rw [hg5]; exact Blk.new _ _ _, HNV0.o.on ((Below.refl _ _).alloc (Nat.le_refl _) _), HEV0.o.alloc _, HFV0.o.alloc _, by simp⟩
   have hg5g : gn < g5 := by have := HNV0.o.b.lt; omega
   have hg5w : w.heap.size < g5 := by have := HEV0.o.lt; omega
   rw [<- hV1, <- hg5]
   clear hV1 hg5
   refine rd 5 fun K2 hK2 => ?_
   go_simp
   go_at_call 45
   refine (tickn_any gn pre (lastL la ++ post) x t0 kd a rw V1 (HNV1.o.tb) ht ha).mono ?_
   rintro e V2 ⟨rfl, hbV2, hfV2⟩
   have HNV2 : Hid (NB V2 gn pre post (tickS x ⟨t0, kd, a, rw⟩) la) := NB.of hbV2
   have HEV2 := Lh (hfV2.blk HEV1.o (fun h9 => by have h8 : w.heap.size = gn := h9; omega))
   have HFV2 : Hid (Fr (fun g => g = gn) w V2) := HFV1.o.trans hfV2
   have hzV2 := hfV2.size
   have HZV2 := Lh (hfV2.blk HZV1.o (fun h9 => by have h8 : g5 = gn := h9; omega))
   clear hbV2 hfV2
   refine hK2.out _ _ HEV2.o (fun hS2 => ?_)
  all_goals (
   refine rd 7 fun K3 hK3 => ?_
   refine wp_store_row _ _ _ rfl g5 #[.int .i64 (tickM x ⟨t0, kd, a, rw⟩ 0), .int .i64 (tickM x ⟨t0, kd, a, rw⟩ 1), .int .i64 (tickM x ⟨t0, kd, a, rw⟩ 2), .int .i64 (tickM x ⟨t0, kd, a, rw⟩ 3)] rfl rfl 96 _ HZV2.o size_ck rfl (ck_one _ _ _ _) ?_
   refine hK3.out _ _ (HEV2.o.kept (rowK (by omega))) (fun _ => ?_)
   refine wpAnyH_done (by kernel_rfl) ?_ _
   have HNx : Hid (NrI gn pre post (tickS x ⟨t0, kd, a, rw⟩) la t0 a kd rw m w g5 (V2.setRow g5 #[.int .i64 (tickM x ⟨t0, kd, a, rw⟩ 0), .int .i64 (tickM x ⟨t0, kd, a, rw⟩ 1), .int .i64 (tickM x ⟨t0, kd, a, rw⟩ 2), .int .i64 (tickM x ⟨t0, kd, a, rw⟩ 3)])) := by
    refine ⟨⟨HNV2.o.p, HNV2.o.b.kept (rowK (by omega))⟩, HEV2.o.kept (rowK (by omega)), ?_, ⟨HFV2.o.os, HFV2.o.tape, HFV2.o.output, by have := HFV2.o.size; simpa [World.setRow] using this, fun g hg hf => (rowK (by omega)).trans (HFV2.o.block g hg hf)⟩⟩
    rw [HM.o]
    exact setRow_heap V2 g5 _ #[.int .i64 (tickM x ⟨t0, kd, a, rw⟩ 0), .int .i64 (tickM x ⟨t0, kd, a, rw⟩ 1), .int .i64 (tickM x ⟨t0, kd, a, rw⟩ 2), .int .i64 (tickM x ⟨t0, kd, a, rw⟩ 3)] _ _ HZV2.o
   go_wp2_with fail
   go_meet
   exact ⟨g5, rfl, hg5w, HNx⟩)
 case rest =>
  obtain ⟨g5, rfl, hg5, HI⟩ := hcut
  clear HE0 HN0 HF0 hz0
  go_upto_region 4 with fail
  go_loopg [6, 18] 4 (fun gk v6 i wr => ∃ (t : Nat) (b : Bool), t + gk = 4 /\ i = .int .i64 t /\ v6 = .bool b /\ foundB x la ⟨t0, kd, a, rw⟩ t = b /\ Hid (NrI gn pre post (tickS x ⟨t0, kd, a, rw⟩) la t0 a kd rw m w g5 wr))
  case atStart => exact ⟨0, false, by omega, rfl, rfl, rfl, HI⟩
  case round =>
   clear HI
   obtain ⟨t, b, htk, rfl, rfl, hfb, HJ⟩ := hrel
   by_cases hlt : t < 4
   ·have f1 : (t : Int) < 4 := by omega
    have f0 : (0 : Int) <= t := by omega
    have HFb := Lh hfb
    clear hfb
    go_upto_region 6 with fail
    obtain ⟨g7, hg7⟩ : ∃ g7, g7 = wr.heap.size := ⟨_, rfl⟩
    obtain ⟨x1, hx1, H7, HJ1⟩ : ∃ Z9, Z9 = wr.alloc (.cells #[.int .i64 t] 3) /\ Hid (Blk Z9 g7 3 [.int .i64 t]) /\ Hid (NrI gn pre post (tickS x ⟨t0, kd, a, rw⟩) la t0 a kd rw m w g5 Z9) := ⟨_, rfl, by rw [hg7]; exact Blk.new _ _ _, HJ.o.on ((Below.refl _ _).alloc (Nat.le_refl _) _)⟩
    rw [<- hx1, <- hg7]
    clear hx1 hg7
    have c7 := H7.o.cell (i := 0) rfl
    have a0 := HJ1.o.e.cell (i := 0) rfl
    by_cases hte : t = t0
    ·have d1 : ((t : Int) == (t0 : Int)) = true := by simp; omega
     have d2 : (t : Int) = (t0 : Int) := by omega
     go_wp2_with fail
     go_roundg (gk - 1)
     case measure => omega
     case rel => exact ⟨t + 1, b, by omega, by go_num, rfl, by rw [foundB_next HFb.o]; simp [hte], HJ1⟩
    ·have d1 : ((t : Int) == (t0 : Int)) = false := by simp; omega
     have d2 : ¬ (t : Int) = (t0 : Int) := by omega
     go_upto_region 7 with fail
     have HSo : Hid (∀ W, Below x1.heap.size x1 W -> W.cell? ⟨w.heap.size, 2, none⟩ = some (.int .i64 a) /\ W.cell? ⟨g7, 0, none⟩ = some (.int .i64 t) /\ W.cell? ⟨gn, 70 + a * 16 + t * 4, none⟩ = some (.int .i64 (la (kdOf 0) a t)) /\ W.cell? ⟨gn, 70 + a * 16 + t * 4 + 1, none⟩ = some (.int .i64 (la (kdOf 1) a t)) /\ W.cell? ⟨gn, 70 + a * 16 + t * 4 + 2, none⟩ = some (.int .i64 (la (kdOf 2) a t)) /\ W.cell? ⟨gn, 70 + a * 16 + t * 4 + 3, none⟩ = some (.int .i64 (la (kdOf 3) a t))) := fun W hW => by
      have hn := HJ1.o.on hW
      exact ⟨hn.e.cell rfl, (H7.o.below hW H7.o.lt).cell rfl, hn.nb.lastq (by omega) ha hlt (by decide), hn.nb.lastq (by omega) ha hlt (by decide), hn.nb.lastq (by omega) ha hlt (by decide), hn.nb.lastq (by omega) ha hlt (by decide)⟩
     clear c7 a0 d1 d2
     refine wp_region_held_drew (S := fun W => W.cell? ⟨w.heap.size, 2, none⟩ = some (.int .i64 a) /\ W.cell? ⟨g7, 0, none⟩ = some (.int .i64 t) /\ W.cell? ⟨gn, 70 + a * 16 + t * 4, none⟩ = some (.int .i64 (la (kdOf 0) a t)) /\ W.cell? ⟨gn, 70 + a * 16 + t * 4 + 1, none⟩ = some (.int .i64 (la (kdOf 1) a t)) /\ W.cell? ⟨gn, 70 + a * 16 + t * 4 + 2, none⟩ = some (.int .i64 (la (kdOf 2) a t)) /\ W.cell? ⟨gn, 70 + a * 16 + t * 4 + 3, none⟩ = some (.int .i64 (la (kdOf 3) a t))) (by kernel_rfl) (HSo.o _ (Below.refl _ _).drew) (fun hS => ?_)
     iterate 10 (refine tkF 0 (v := ?_) ?_ ?_; rotate_left; · (intro W hSw; (try dsimp only at hSw); go_simp; try with_reducible rfl); try simp only [Act.put, List.setIfInBounds_toArray, List.set_cons_zero, List.set_cons_succ])
     obtain ⟨V0, hV9, HVb⟩ : ∃ Z9, Z9 = x1.drew /\ Hid (Below x1.heap.size x1 Z9) := ⟨_, rfl, (Below.refl _ _).drew⟩
     rw [<- hV9]
     clear hV9
     refine rd 10 fun K1 hK1 => ?_
     go_simp
     refine hK1.out _ _ (HSo.o _ (HVb.o.alloc HVb.o.size _)) (fun _ => ?_)
     refine rd 11 fun K2 hK2 => ?_
     have hx4 : Blk (V0.alloc (.cells #[.int .i64 0, .int .i64 0, .int .i64 0, .int .i64 0] 96)) V0.heap.size 96 [.int .i64 0, .int .i64 0, .int .i64 0, .int .i64 0] := Blk.new V0 96 [.int .i64 0, .int .i64 0, .int .i64 0, .int .i64 0]
     refine wp_store_row _ _ _ rfl V0.heap.size #[.int .i64 (la (kdOf 0) a t), .int .i64 (la (kdOf 1) a t), .int .i64 (la (kdOf 2) a t), .int .i64 (la (kdOf 3) a t)] rfl rfl 96 _ hx4 size_ck rfl (ck_one _ _ _ _) ?_
     have hb4 : Below x1.heap.size x1 ((V0.alloc (.cells #[.int .i64 0, .int .i64 0, .int .i64 0, .int .i64 0] 96)).setRow V0.heap.size #[.int .i64 (la (kdOf 0) a t), .int .i64 (la (kdOf 1) a t), .int .i64 (la (kdOf 2) a t), .int .i64 (la (kdOf 3) a t)]) := rowB (HVb.o.alloc HVb.o.size _) HVb.o.size
     refine hK2.out _ _ (HSo.o _ hb4) (fun _ => ?_)
     refine wpAnyH_done (by kernel_rfl) ?_ _
     obtain ⟨g8, hg8⟩ : ∃ g8, g8 = V0.heap.size := ⟨_, rfl⟩
     obtain ⟨x2, hx2, H8, H7b, HJ2⟩ : ∃ Z9, Z9 = (V0.alloc (.cells #[.int .i64 0, .int .i64 0, .int .i64 0, .int .i64 0] 96)).setRow V0.heap.size #[.int .i64 (la (kdOf 0) a t), .int .i64 (la (kdOf 1) a t), .int .i64 (la (kdOf 2) a t), .int .i64 (la (kdOf 3) a t)] /\ Hid (Blk Z9 g8 96 [.int .i64 (la (kdOf 0) a t), .int .i64 (la (kdOf 1) a t), .int .i64 (la (kdOf 2) a t), .int .i64 (la (kdOf 3) a t)]) /\ Hid (Blk Z9 g7 3 [.int .i64 t]) /\ Hid (NrI gn pre post (tickS x ⟨t0, kd, a, rw⟩) la t0 a kd rw m w g5 Z9) := ⟨_, rfl, by rw [hg8]; exact setRow_heap _ _ _ #[.int .i64 (la (kdOf 0) a t), .int .i64 (la (kdOf 1) a t), .int .i64 (la (kdOf 2) a t), .int .i64 (la (kdOf 3) a t)] _ _ hx4, H7.o.below hb4 H7.o.lt, HJ1.o.on hb4⟩
     rw [<- hx2, <- hg8]
     clear hx2 hg8 hx4 hb4 hS HSo HVb
     have HLate : Hid (∀ q : Nat, q < 4 -> ∀ W, Below x2.heap.size x2 W -> Calls Tryz.prog 57 #[.int .i64 q, .pointer (some ⟨g5, 0, none⟩), .pointer (some ⟨g7, 0, none⟩), .pointer (some ⟨g8, 0, none⟩)] W (BoolR (decide (m t < la (kdOf q) a t)) W)) := fun q hq W hW => by
      refine late_any W g5 g7 g8 q t (m t) (la (kdOf q) a t) ((HJ2.o.on hW).n.cell (clkV_get hlt)) ((H7b.o.below hW H7b.o.lt).cell rfl) ((H8.o.below hW H8.o.lt).cell ?_) hlt hq
      match q, hq with
      | 0, _ => rfl
      | 1, _ => rfl
      | 2, _ => rfl
      | 3, _ => rfl
     have hmf : ∀ fn first cap w, (Instr.makeFunc fn first cap).run Tryz.prog w = .ok (.func fn first cap) w := fun _ _ _ _ => rfl
     have k1 := HJ2.o.e.cell (i := 1) rfl
     have k3 := HJ2.o.e.cell (i := 3) rfl
     rcases HWf.o with ⟨hk, hr⟩ | ⟨hk, hr⟩ | hk
     ·have hk : kd = 1 := hk
      have hr : rw = false := hr
      subst hk hr
      have HLb : Hid (lateB x la ⟨t0, 1, a, false⟩ t = (decide (m t < la (kdOf 1) a t) || decide (m t < la (kdOf 3) a t))) := by
       unfold lateB
       dsimp only
       rw [<- HM.o]
       exact Lh rfl
      cases b
      case true =>
       have HBx2 : Hid (Below x2.heap.size x2 x2) := Below.refl _ _
       go_upto_region 10 with fail
       have HFin := Lh (HJ2.o.on HBx2.o)
       go_wp2_with fail
       go_roundg (gk - 1)
       case measure => omega
       case rel => exact ⟨t + 1, true, by omega, by go_num, rfl, by rw [foundB_next HFb.o]; rfl, HFin⟩
      case false =>
       have HBx2 : Hid (Below x2.heap.size x2 x2) := Below.refl _ _
       go_wp2_with fail
       refine (HLate.o 1 (by decide) _ HBx2.o).mono ?_
       rintro e y0 ⟨rfl, hb9⟩
       have HBy0 := Lh (HBx2.o.trans (hb9.mono HBx2.o.size))
       clear hb9
       cases hq1 : decide (m t < la (kdOf 1) a t) with
       | true =>
        have HFin := Lh (HJ2.o.on HBy0.o)
        go_wp2_with fail
        go_roundg (gk - 1)
        case measure => omega
        case rel => exact ⟨t + 1, true, by omega, by go_num, rfl, by rw [foundB_next HFb.o, HLb.o, hq1]; simp [hte], HFin⟩
       | false =>
        go_wp2_with fail
        refine (HLate.o 3 (by decide) _ HBy0.o).mono ?_
        rintro e y1 ⟨rfl, hb9⟩
        have HBy1 := Lh (HBy0.o.trans (hb9.mono HBy0.o.size))
        clear hb9
        cases hq3 : decide (m t < la (kdOf 3) a t) with
        | true =>
         have HFin := Lh (HJ2.o.on HBy1.o)
         go_wp2_with fail
         go_roundg (gk - 1)
         case measure => omega
         case rel => exact ⟨t + 1, true, by omega, by go_num, rfl, by rw [foundB_next HFb.o, HLb.o, hq3]; simp [hte], HFin⟩
        | false =>
         have HFin := Lh (HJ2.o.on HBy1.o)
         go_wp2_with fail
         go_roundg (gk - 1)
         case measure => omega
         case rel => exact ⟨t + 1, false, by omega, by go_num, rfl, by rw [foundB_next HFb.o, HLb.o]; simp [*], HFin⟩
     ·have hk : kd = 2 := hk
      have hr : rw = true := hr
      subst hk hr
      have HLb : Hid (lateB x la ⟨t0, 2, a, true⟩ t = (decide (m t < la (kdOf 0) a t) || decide (m t < la (kdOf 1) a t) || decide (m t < la (kdOf 2) a t))) := by
       unfold lateB
       dsimp only
       rw [<- HM.o]
       exact Lh rfl
      cases b
      case true =>
       have HBx2 : Hid (Below x2.heap.size x2 x2) := Below.refl _ _
       go_upto_region 10 with fail
       have HFin := Lh (HJ2.o.on HBx2.o)
       go_wp2_with fail
       go_roundg (gk - 1)
       case measure => omega
       case rel => exact ⟨t + 1, true, by omega, by go_num, rfl, by rw [foundB_next HFb.o]; rfl, HFin⟩
      case false =>
       have HBx2 : Hid (Below x2.heap.size x2 x2) := Below.refl _ _
       go_wp2_with fail
       refine (HLate.o 0 (by decide) _ HBx2.o).mono ?_
       rintro e y0 ⟨rfl, hb9⟩
       have HBy0 := Lh (HBx2.o.trans (hb9.mono HBx2.o.size))
       clear hb9
       cases hq0 : decide (m t < la (kdOf 0) a t) with
       | true =>
        have HFin := Lh (HJ2.o.on HBy0.o)
        go_wp2_with fail
        go_roundg (gk - 1)
        case measure => omega
        case rel => exact ⟨t + 1, true, by omega, by go_num, rfl, by rw [foundB_next HFb.o, HLb.o, hq0]; simp [hte], HFin⟩
       | false =>
        go_wp2_with fail
        refine (HLate.o 1 (by decide) _ HBy0.o).mono ?_
        rintro e y1 ⟨rfl, hb9⟩
        have HBy1 := Lh (HBy0.o.trans (hb9.mono HBy0.o.size))
        clear hb9
        cases hq1 : decide (m t < la (kdOf 1) a t) with
        | true =>
         have HFin := Lh (HJ2.o.on HBy1.o)
         go_wp2_with fail
         go_roundg (gk - 1)
         case measure => omega
         case rel => exact ⟨t + 1, true, by omega, by go_num, rfl, by rw [foundB_next HFb.o, HLb.o, hq1]; simp [hte], HFin⟩
        | false =>
         go_wp2_with fail
         refine (HLate.o 2 (by decide) _ HBy1.o).mono ?_
         rintro e y2 ⟨rfl, hb9⟩
         have HBy2 := Lh (HBy1.o.trans (hb9.mono HBy1.o.size))
         clear hb9
         cases hq2 : decide (m t < la (kdOf 2) a t) with
         | true =>
          have HFin := Lh (HJ2.o.on HBy2.o)
          go_wp2_with fail
          go_roundg (gk - 1)
          case measure => omega
          case rel => exact ⟨t + 1, true, by omega, by go_num, rfl, by rw [foundB_next HFb.o, HLb.o, hq2]; simp [hte], HFin⟩
         | false =>
          have HFin := Lh (HJ2.o.on HBy2.o)
          go_wp2_with fail
          go_roundg (gk - 1)
          case measure => omega
          case rel => exact ⟨t + 1, false, by omega, by go_num, rfl, by rw [foundB_next HFb.o, HLb.o]; simp [*], HFin⟩
     ·have hk : kd = 3 := hk
      subst hk
      cases rw
      case false =>
       have HLb : Hid (lateB x la ⟨t0, 3, a, false⟩ t = (decide (m t < la (kdOf 1) a t))) := by
        unfold lateB
        dsimp only
        rw [<- HM.o]
        exact Lh (by simp [kdOf])
       cases b
       case true =>
        have HBx2 : Hid (Below x2.heap.size x2 x2) := Below.refl _ _
        go_upto_region 10 with fail
        have HFin := Lh (HJ2.o.on HBx2.o)
        go_wp2_with fail
        go_roundg (gk - 1)
        case measure => omega
        case rel => exact ⟨t + 1, true, by omega, by go_num, rfl, by rw [foundB_next HFb.o]; rfl, HFin⟩
       case false =>
        have HBx2 : Hid (Below x2.heap.size x2 x2) := Below.refl _ _
        go_wp2_with fail
        refine (HLate.o 1 (by decide) _ HBx2.o).mono ?_
        rintro e y0 ⟨rfl, hb9⟩
        have HBy0 := Lh (HBx2.o.trans (hb9.mono HBx2.o.size))
        clear hb9
        cases hq1 : decide (m t < la (kdOf 1) a t) with
        | true =>
         have HFin := Lh (HJ2.o.on HBy0.o)
         go_wp2_with fail
         go_roundg (gk - 1)
         case measure => omega
         case rel => exact ⟨t + 1, true, by omega, by go_num, rfl, by rw [foundB_next HFb.o, HLb.o, hq1]; simp [hte], HFin⟩
        | false =>
         have k3y0 := (HJ2.o.on HBy0.o).e.cell (i := 3) rfl
         have HFin := Lh (HJ2.o.on HBy0.o)
         go_wp2_with fail
         go_roundg (gk - 1)
         case measure => omega
         case rel => exact ⟨t + 1, false, by omega, by go_num, rfl, by rw [foundB_next HFb.o, HLb.o]; simp [*], HFin⟩
      case true =>
       have HLb : Hid (lateB x la ⟨t0, 3, a, true⟩ t = (decide (m t < la (kdOf 1) a t) || decide (m t < la (kdOf 0) a t))) := by
        unfold lateB
        dsimp only
        rw [<- HM.o]
        exact Lh (by simp [kdOf])
       cases b
       case true =>
        have HBx2 : Hid (Below x2.heap.size x2 x2) := Below.refl _ _
        go_upto_region 10 with fail
        have HFin := Lh (HJ2.o.on HBx2.o)
        go_wp2_with fail
        go_roundg (gk - 1)
        case measure => omega
        case rel => exact ⟨t + 1, true, by omega, by go_num, rfl, by rw [foundB_next HFb.o]; rfl, HFin⟩
       case false =>
        have HBx2 : Hid (Below x2.heap.size x2 x2) := Below.refl _ _
        go_wp2_with fail
        refine (HLate.o 1 (by decide) _ HBx2.o).mono ?_
        rintro e y0 ⟨rfl, hb9⟩
        have HBy0 := Lh (HBx2.o.trans (hb9.mono HBx2.o.size))
        clear hb9
        cases hq1 : decide (m t < la (kdOf 1) a t) with
        | true =>
         have HFin := Lh (HJ2.o.on HBy0.o)
         go_wp2_with fail
         go_roundg (gk - 1)
         case measure => omega
         case rel => exact ⟨t + 1, true, by omega, by go_num, rfl, by rw [foundB_next HFb.o, HLb.o, hq1]; simp [hte], HFin⟩
        | false =>
         have k3y0 := (HJ2.o.on HBy0.o).e.cell (i := 3) rfl
         go_wp2_with fail
         refine (HLate.o 0 (by decide) _ HBy0.o).mono ?_
         rintro e y1 ⟨rfl, hb9⟩
         have HBy1 := Lh (HBy0.o.trans (hb9.mono HBy0.o.size))
         clear hb9
         cases hq0 : decide (m t < la (kdOf 0) a t) with
         | true =>
          have HFin := Lh (HJ2.o.on HBy1.o)
          go_wp2_with fail
          go_roundg (gk - 1)
          case measure => omega
          case rel => exact ⟨t + 1, true, by omega, by go_num, rfl, by rw [foundB_next HFb.o, HLb.o, hq0]; simp [hte], HFin⟩
         | false =>
          have k3y1 := (HJ2.o.on HBy1.o).e.cell (i := 3) rfl
          have HFin := Lh (HJ2.o.on HBy1.o)
          go_wp2_with fail
          go_roundg (gk - 1)
          case measure => omega
          case rel => exact ⟨t + 1, false, by omega, by go_num, rfl, by rw [foundB_next HFb.o, HLb.o]; simp [*], HFin⟩
   ·obtain rfl : t = 4 := by omega
    have HFo : Hid (foundB x la ⟨t0, kd, a, rw⟩ 4 = b) := Lh hfb
    clear hfb
    rcases HWf.o with ⟨hk, hr⟩ | ⟨hk, hr⟩ | hk
    ·have hk : kd = 1 := hk
     have hr : rw = false := hr
     subst hk hr
     have HJe : Hid (NrI gn pre post (tickS x ⟨t0, 1, a, false⟩) la t0 a 1 false m w g5 wr) := HJ
     have a0 := HJe.o.e.cell (i := 0) rfl
     have a2 := HJe.o.e.cell (i := 2) rfl
     go_upto_region 15 with fail
     go_quiet (fail)
     obtain ⟨z0, hz0, hbz⟩ : ∃ Z9, Z9 = wr.drewN nq /\ Below wr.heap.size wr Z9 := ⟨_, rfl, (Below.refl _ _).drewN _⟩
     rw [<- hz0]
     have HZ0 := Lh (HJe.o.on hbz)
     clear hz0 hbz a0 a2
     have a0 := HZ0.o.e.cell (i := 0) rfl
     have a1 := HZ0.o.e.cell (i := 1) rfl
     have a3 := HZ0.o.e.cell (i := 3) rfl
     have n0 : z0.cell? ⟨g5, t0, none⟩ = some (.int .i64 (m t0)) := HZ0.o.n.cell (clkV_get ht)
     have l0 : z0.cell? ⟨gn, 70 + a * 16 + t0 * 4, none⟩ = some (.int .i64 (la (kdOf 0) a t0)) := HZ0.o.nb.lastq (by omega) ha ht (by decide)
     have lf0 := HZ0.o.nb.b.frozen (70 + a * 16 + t0 * 4)
     have HNe : Hid (NB (z0.setCell ⟨gn, 70 + a * 16 + t0 * 4, none⟩ (.int .i64 (m t0))) gn pre post (tickS x ⟨t0, 1, a, false⟩) (setL (la) 0 a t0 (m t0))) := HZ0.o.nb.put (by omega) ha ht (by decide) _
     have HFe : Hid (Fr (fun g => g = gn) w (z0.setCell ⟨gn, 70 + a * 16 + t0 * 4, none⟩ (.int .i64 (m t0)))) := HZ0.o.f.setCell (p := ⟨gn, 70 + a * 16 + t0 * 4, none⟩) rfl _
     go_wp2_with fail
     go_ret
     refine ⟨by rw [HFo.o]; rfl, ?_, HFe.o⟩
     have h9 := HNe.o
     unfold lastU
     rw [<- HM.o]
     exact h9
    ·have hk : kd = 2 := hk
     have hr : rw = true := hr
     subst hk hr
     have HJe : Hid (NrI gn pre post (tickS x ⟨t0, 2, a, true⟩) la t0 a 2 true m w g5 wr) := HJ
     have a0 := HJe.o.e.cell (i := 0) rfl
     have a2 := HJe.o.e.cell (i := 2) rfl
     go_upto_region 15 with fail
     go_quiet (fail)
     obtain ⟨z0, hz0, hbz⟩ : ∃ Z9, Z9 = wr.drewN nq /\ Below wr.heap.size wr Z9 := ⟨_, rfl, (Below.refl _ _).drewN _⟩
     rw [<- hz0]
     have HZ0 := Lh (HJe.o.on hbz)
     clear hz0 hbz a0 a2
     have a0 := HZ0.o.e.cell (i := 0) rfl
     have a1 := HZ0.o.e.cell (i := 1) rfl
     have a3 := HZ0.o.e.cell (i := 3) rfl
     have n0 : z0.cell? ⟨g5, t0, none⟩ = some (.int .i64 (m t0)) := HZ0.o.n.cell (clkV_get ht)
     have l0 : z0.cell? ⟨gn, 70 + a * 16 + t0 * 4 + 1, none⟩ = some (.int .i64 (la (kdOf 1) a t0)) := HZ0.o.nb.lastq (by omega) ha ht (by decide)
     have lf0 := HZ0.o.nb.b.frozen (70 + a * 16 + t0 * 4 + 1)
     have HNe : Hid (NB (z0.setCell ⟨gn, 70 + a * 16 + t0 * 4 + 1, none⟩ (.int .i64 (m t0))) gn pre post (tickS x ⟨t0, 2, a, true⟩) (setL (la) 1 a t0 (m t0))) := HZ0.o.nb.put (by omega) ha ht (by decide) _
     have HFe : Hid (Fr (fun g => g = gn) w (z0.setCell ⟨gn, 70 + a * 16 + t0 * 4 + 1, none⟩ (.int .i64 (m t0)))) := HZ0.o.f.setCell (p := ⟨gn, 70 + a * 16 + t0 * 4 + 1, none⟩) rfl _
     go_wp2_with fail
     go_ret
     refine ⟨by rw [HFo.o]; rfl, ?_, HFe.o⟩
     have h9 := HNe.o
     unfold lastU
     rw [<- HM.o]
     exact h9
    ·have hk : kd = 3 := hk
     subst hk
     cases rw
     case false =>
      have HJe : Hid (NrI gn pre post (tickS x ⟨t0, 3, a, false⟩) la t0 a 3 false m w g5 wr) := HJ
      have a0 := HJe.o.e.cell (i := 0) rfl
      have a2 := HJe.o.e.cell (i := 2) rfl
      go_upto_region 15 with fail
      go_quiet (fail)
      obtain ⟨z0, hz0, hbz⟩ : ∃ Z9, Z9 = wr.drewN nq /\ Below wr.heap.size wr Z9 := ⟨_, rfl, (Below.refl _ _).drewN _⟩
      rw [<- hz0]
      have HZ0 := Lh (HJe.o.on hbz)
      clear hz0 hbz a0 a2
      have a0 := HZ0.o.e.cell (i := 0) rfl
      have a1 := HZ0.o.e.cell (i := 1) rfl
      have a3 := HZ0.o.e.cell (i := 3) rfl
      have n0 : z0.cell? ⟨g5, t0, none⟩ = some (.int .i64 (m t0)) := HZ0.o.n.cell (clkV_get ht)
      have l0 : z0.cell? ⟨gn, 70 + a * 16 + t0 * 4 + 2, none⟩ = some (.int .i64 (la (kdOf 2) a t0)) := HZ0.o.nb.lastq (by omega) ha ht (by decide)
      have lf0 := HZ0.o.nb.b.frozen (70 + a * 16 + t0 * 4 + 2)
      have HNe : Hid (NB (z0.setCell ⟨gn, 70 + a * 16 + t0 * 4 + 2, none⟩ (.int .i64 (m t0))) gn pre post (tickS x ⟨t0, 3, a, false⟩) (setL (la) 2 a t0 (m t0))) := HZ0.o.nb.put (by omega) ha ht (by decide) _
      have HFe : Hid (Fr (fun g => g = gn) w (z0.setCell ⟨gn, 70 + a * 16 + t0 * 4 + 2, none⟩ (.int .i64 (m t0)))) := HZ0.o.f.setCell (p := ⟨gn, 70 + a * 16 + t0 * 4 + 2, none⟩) rfl _
      go_wp2_with fail
      go_ret
      refine ⟨by rw [HFo.o]; rfl, ?_, HFe.o⟩
      have h9 := HNe.o
      unfold lastU
      rw [<- HM.o]
      exact h9
     case true =>
      have HJe : Hid (NrI gn pre post (tickS x ⟨t0, 3, a, true⟩) la t0 a 3 true m w g5 wr) := HJ
      have a0 := HJe.o.e.cell (i := 0) rfl
      have a2 := HJe.o.e.cell (i := 2) rfl
      go_upto_region 15 with fail
      go_quiet (fail)
      obtain ⟨z0, hz0, hbz⟩ : ∃ Z9, Z9 = wr.drewN nq /\ Below wr.heap.size wr Z9 := ⟨_, rfl, (Below.refl _ _).drewN _⟩
      rw [<- hz0]
      have HZ0 := Lh (HJe.o.on hbz)
      clear hz0 hbz a0 a2
      have a0 := HZ0.o.e.cell (i := 0) rfl
      have a1 := HZ0.o.e.cell (i := 1) rfl
      have a3 := HZ0.o.e.cell (i := 3) rfl
      have n0 : z0.cell? ⟨g5, t0, none⟩ = some (.int .i64 (m t0)) := HZ0.o.n.cell (clkV_get ht)
      have l0 : z0.cell? ⟨gn, 70 + a * 16 + t0 * 4 + 2, none⟩ = some (.int .i64 (la (kdOf 2) a t0)) := HZ0.o.nb.lastq (by omega) ha ht (by decide)
      have lf0 := HZ0.o.nb.b.frozen (70 + a * 16 + t0 * 4 + 2)
      go_upto_region 19 with fail
      obtain ⟨z1, hz1, HN1, HF1, HE1⟩ : ∃ Z9, Z9 = z0.setCell ⟨gn, 70 + a * 16 + t0 * 4 + 2, none⟩ (.int .i64 (m t0)) /\ Hid (NB Z9 gn pre post (tickS x ⟨t0, 3, a, true⟩) (setL la 2 a t0 (m t0))) /\ Hid (Fr (fun g => g = gn) w Z9) /\ Hid (Blk Z9 w.heap.size 109 [.int .i64 t0, .int .i64 3, .int .i64 a, .bool true]) := ⟨_, rfl, HZ0.o.nb.put (by omega) ha ht (by decide) _, HZ0.o.f.setCell (p := ⟨gn, 70 + a * 16 + t0 * 4 + 2, none⟩) rfl _, HZ0.o.e.far (by dsimp only; omega) _⟩
      rw [<- hz1]
      clear hz1 l0 lf0 a3
      have a3 := HE1.o.cell (i := 3) rfl
      have l1 : z1.cell? ⟨gn, 70 + a * 16 + t0 * 4 + 3, none⟩ = some (.int .i64 (setL la 2 a t0 (m t0) (kdOf 3) a t0)) := HN1.o.lastq (by omega) ha ht (by decide)
      have lf1 := HN1.o.b.frozen (70 + a * 16 + t0 * 4 + 3)
      have HNe : Hid (NB (z1.setCell ⟨gn, 70 + a * 16 + t0 * 4 + 3, none⟩ (.int .i64 (m t0))) gn pre post (tickS x ⟨t0, 3, a, true⟩) (setL (setL la 2 a t0 (m t0)) 3 a t0 (m t0))) := HN1.o.put (by omega) ha ht (by decide) _
      have HFe : Hid (Fr (fun g => g = gn) w (z1.setCell ⟨gn, 70 + a * 16 + t0 * 4 + 3, none⟩ (.int .i64 (m t0)))) := HF1.o.setCell (p := ⟨gn, 70 + a * 16 + t0 * 4 + 3, none⟩) rfl _
      go_wp2_with fail
      go_ret
      refine ⟨by rw [HFo.o]; rfl, ?_, HFe.o⟩
      have h9 := HNe.o
      unfold lastU
      rw [<- HM.o]
      exact h9
end Go.Proofs.YtgjdgapfnfhklaaGreat
