/-
races.times.tick: the clock of an event, where the clocks li
-/
import Derived.Test.YtgjdgapfnfhklaaGreatTick
set_option linter.unusedSimpArgs false
set_option linter.unusedVariables false
set_option maxRecDepth 100000
set_option maxHeartbeats 8000000
namespace Go.Proofs.YtgjdgapfnfhklaaGreat
open Go.RowKit
def TB (W : World) (gx : Nat) (pre post L : List Value) : Prop := pre.length = 30 /\ L.length = 40 /\ Blk W gx 105 (pre ++ (L ++ post))
section
variable {W W' : World} {gx : Nat} {pre post L : List Value}
theorem tL_len (x : TS) : (tL x).length = 40 := by simp [tL, ints]
theorem TB.lt (h : TB W gx pre post L) : gx < W.heap.size := h.2.2.lt
theorem TB.below {B : Nat} (h : TB W gx pre post L) (hb : Below B W W') (hg : gx < B) : TB W' gx pre post L := ⟨h.1, h.2.1, h.2.2.below hb hg⟩
theorem TB.frozen (h : TB W gx pre post L) (i : Nat) : W.frozen? ⟨gx, i, none⟩ = false := h.2.2.frozen i
theorem TB.kept (h : TB W gx pre post L) (hk : W'.heap[gx]? = W.heap[gx]?) : TB W' gx pre post L := ⟨h.1, h.2.1, h.2.2.kept hk⟩
theorem TB.cellq (h : TB W gx pre post L) {c q : Nat} {v : Value} (hq : q = 30 + c) (hv : L[c]? = some v) : W.cell? ⟨gx, q, none⟩ = some v := by
 subst hq
 refine h.2.2.cell ?_
 have hc := (List.getElem?_eq_some_iff.1 hv).1
 rw [List.getElem?_append_right (by rw [h.1]; omega), h.1, List.getElem?_append_left (by omega), show 30 + c - 30 = c by omega]
 exact hv
theorem TB.setq (h : TB W gx pre post L) (q c : Nat) (hq : q = 30 + c) (hc : c < 40) (v : Value) : TB (W.setCell ⟨gx, q, none⟩ v) gx pre post (L.set c v) := by
 subst hq
 refine ⟨h.1, by simp [h.2.1], ?_⟩
 have h1 := h.2.2.set_ (30 + c) v
 rw [List.set_append_right _ _ (by rw [h.1]; omega), h.1, show 30 + c - 30 = c by omega, List.set_append_left _ _ (by rw [h.2.1]; exact hc)] at h1
 exact h1
end
def TckN (gx : Nat) (pre post : List Value) (x : TS) (e : Ev) (w : World) (en : Ending) (w' : World) : Prop :=
 en = .returned (.agg #[.int .i64 (tickM x e 0), .int .i64 (tickM x e 1), .int .i64 (tickM x e 2), .int .i64 (tickM x e 3)]) /\ TB w' gx pre post (tL (tickS x e)) /\ Fr (fun g => g = gx) w w'
structure TkN (gx : Nat) (pre post : List Value) (x : TS) (t : Nat) (kd : Int) (a : Nat) (rw : Bool) (w : World) (b : Clk) (j : Nat) (W : World) : Prop where
 x : TB W gx pre post (tL (x.own t (fjC b (x.wd a) j)))
 e : Blk W w.heap.size 109 [.int .i64 t, .int .i64 kd, .int .i64 a, .bool rw]
 z : Blk W (w.heap.size + 1) 96 [.int .i64 0, .int .i64 0, .int .i64 0, .int .i64 0]
 f : Fr (fun g => g = gx) w W
theorem TkN.next {gx : Nat} {pre post : List Value} {x : TS} {t : Nat} {kd : Int} {a : Nat} {rw : Bool} {w : World} {b : Clk} {j : Nat} {W : World} (h : TkN gx pre post x t kd a rw w b j W) (ht : t < 4) (hj : j < 4) (hgx : gx < w.heap.size) {v : Int} (hv : v = maxC b (x.wd a) j) : TkN gx pre post x t kd a rw w b (j + 1) (W.setCell ⟨gx, 30 + t * 4 + j, none⟩ (.int .i64 v)).drew := by
 refine ⟨?_, h.e.far (by dsimp only; omega) _, h.z.far (by dsimp only; omega) _, (h.f.setCell (p := ⟨gx, 30 + t * 4 + j, none⟩) rfl _).drew⟩
 have h8 := h.x.setq (30 + t * 4 + j) (t * 4 + j) (by omega) (by omega) (.int .i64 v)
 rw [tL_own x _ ht hj] at h8
 have he : fjC b (x.wd a) (j + 1) = fun k => if k = j then v else fjC b (x.wd a) j k := by
  funext k
  unfold fjC
  by_cases hk : k = j
  ·subst hk
   rw [if_pos (by omega), if_pos rfl, hv]
  ·rw [if_neg hk]
   by_cases hl : k < j
   ·rw [if_pos (by omega), if_pos hl]
   ·rw [if_neg (by omega), if_neg hl]
 rw [he]
 exact h8
theorem tickn_any (gx : Nat) (pre post : List Value) (x : TS) (t : Nat) (kd : Int) (a : Nat) (rw : Bool) (w : World) (hx : TB w gx pre post (tL x)) (ht : t < 4) (ha : a < 6) :
  Calls Tryz.prog 45 #[.pointer (some ⟨gx, 30, none⟩), .agg #[.int .i64 t, .int .i64 kd, .int .i64 a, .bool rw]] w (TckN gx pre post x ⟨t, kd, a, rw⟩ w) := by
 obtain ⟨w0, hw0⟩ : ∃ w0 : World, w0 = (w.alloc (.cells #[.int .i64 t, .int .i64 kd, .int .i64 a, .bool rw] 109)).alloc (.cells #[.int .i64 0, .int .i64 0, .int .i64 0, .int .i64 0] 96) := ⟨_, rfl⟩
 have HE0 : Hid (Blk w0 w.heap.size 109 [.int .i64 t, .int .i64 kd, .int .i64 a, .bool rw]) := by rw [hw0]; exact (Blk.new w 109 [.int .i64 t, .int .i64 kd, .int .i64 a, .bool rw]).alloc _
 have HZ0 : Hid (Blk w0 (w.heap.size + 1) 96 [.int .i64 0, .int .i64 0, .int .i64 0, .int .i64 0]) := by
  rw [hw0]
  have h9 := Blk.new (w.alloc (.cells #[.int .i64 t, .int .i64 kd, .int .i64 a, .bool rw] 109)) 96 [.int .i64 0, .int .i64 0, .int .i64 0, .int .i64 0]
  rw [World.size_alloc] at h9
  exact h9
 have HF0 : Hid (Below w.heap.size w w0) := by rw [hw0]; exact ((Below.refl _ _).alloc (Nat.le_refl _) _).alloc (by simp) _
 have HX0 : Hid (TB w0 gx pre post (tL x)) := hx.below HF0.o hx.lt
 have hgx := hx.lt
 have HWe := Lh hw0
 have hz0 : w.heap.size + 1 < w0.heap.size := HZ0.o.lt
 clear hx hw0
 have e0 : (0 : Int) <= t := by omega
 have e1 : (t : Int) < 4 := by omega
 have e2 : (0 : Int) <= a := by omega
 have e3 : (a : Int) < 6 := by omega
 go_enter Tryz.func45, Tryz.ntmps45
 go_upto_region 1 with fail
 rw [<- HWe.o]
 clear HWe
 have c0 := HE0.o.cell (i := 0) rfl
 go_quiet (fail)
 obtain ⟨w1, hw1, hb1⟩ : ∃ Z9, Z9 = w0.drewN nq /\ Below w0.heap.size w0 Z9 := ⟨_, rfl, (Below.refl _ _).drewN _⟩
 rw [<- hw1]
 have HE1 := Lh (HE0.o.below hb1 HE0.o.lt)
 have HZ1 := Lh (HZ0.o.below hb1 HZ0.o.lt)
 have HX1 := Lh (HX0.o.below hb1 HX0.o.lt)
 have HF1 := Lh (Fr.of (F := fun g => g = gx) (HF0.o.trans (hb1.mono HF0.o.size)))
 clear hw1 hb1 c0 HE0 HZ0 HX0 HF0
 have c0 := HE1.o.cell (i := 0) rfl
 have x0 : w1.cell? ⟨gx, 30 + t * 4 + t, none⟩ = some (.int .i64 (x.m t t)) := HX1.o.cellq (by omega) (tL_m x ht ht)
 have xf := HX1.o.frozen (30 + t * 4 + t)
 go_upto_region 2 with fail
 go_still_tail 8, (by kernel_rfl)
 go_upto_region 3 with fail
 obtain ⟨b, hb⟩ : ∃ b, b = bumpW (x.m t) t := ⟨_, rfl⟩
 obtain ⟨w2, hw2, HX2, HE2, HZ2, HF2⟩ : ∃ Z9, Z9 = (w1.setCell ⟨gx, 30 + t * 4 + t, none⟩ (.int .i64 (wrap64 (x.m t t + 1)))).drew /\ Hid (TB Z9 gx pre post (tL (x.own t b))) /\ Hid (Blk Z9 w.heap.size 109 [.int .i64 t, .int .i64 kd, .int .i64 a, .bool rw]) /\ Hid (Blk Z9 (w.heap.size + 1) 96 [.int .i64 0, .int .i64 0, .int .i64 0, .int .i64 0]) /\ Hid (Fr (fun g => g = gx) w Z9) := by
  refine ⟨_, rfl, ?_, HE1.o.far (by dsimp only; omega) _, HZ1.o.far (by dsimp only; omega) _, (HF1.o.setCell (p := ⟨gx, 30 + t * 4 + t, none⟩) rfl _).drew⟩
  have h9 := HX1.o
  rw [<- own_self x t] at h9
  have h8 := h9.setq (30 + t * 4 + t) (t * 4 + t) (by omega) (by omega) (.int .i64 (wrap64 (x.m t t + 1)))
  rw [tL_own x _ ht ht] at h8
  have hbe : bumpW (x.m t) t = fun k => if k = t then wrap64 (x.m t t + 1) else x.m t k := by
   funext k
   unfold bumpW
   by_cases hk : k = t
   ·subst hk
    rw [if_pos rfl, if_pos rfl]
    exact w64 _
   ·rw [if_neg hk, if_neg hk]
  rw [hb, hbe]
  exact h8
 rw [<- hw2]
 have HBb := Lh hb
 clear hw2 hb c0 x0 xf HE1 HZ1 HX1 HF1
 have k1 := HE2.o.cell (i := 1) rfl
 by_cases h3 : kd = 3
 case neg =>
  have d1 : (kd == 3) = false := by simpa using h3
  have d2 : decide (kd = 3) = false := by simpa using h3
  have HM : Hid (tickM x ⟨t, kd, a, rw⟩ = b) := by
   unfold tickM
   rw [if_neg h3]
   exact HBb.o.symm
  have HS : Hid (tL (tickS x ⟨t, kd, a, rw⟩) = tL (x.own t b)) := tL_congr (fun i k _ _ => by
   unfold tickS TS.own
   dsimp only
   rw [<- HM.o]) (fun i k _ _ => by
   unfold tickS TS.own
   dsimp only
   rw [if_neg (fun h => h3 h.1)])
  clear h3
  have HX4 := HX2
  have HZ4 := HZ2
  have HF4 := HF2
  have v0 : w2.cell? ⟨gx, 30 + t * 4, none⟩ = some (.int .i64 (b 0)) := HX4.o.cellq (by omega) ((tL_m _ ht (i := 0) (by omega)).trans (by simp [TS.own]))
  have v1 : w2.cell? ⟨gx, 30 + t * 4 + 1, none⟩ = some (.int .i64 (b 1)) := HX4.o.cellq (by omega) ((tL_m _ ht (i := 1) (by omega)).trans (by simp [TS.own]))
  have v2 : w2.cell? ⟨gx, 30 + t * 4 + 2, none⟩ = some (.int .i64 (b 2)) := HX4.o.cellq (by omega) ((tL_m _ ht (i := 2) (by omega)).trans (by simp [TS.own]))
  have v3 : w2.cell? ⟨gx, 30 + t * 4 + 3, none⟩ = some (.int .i64 (b 3)) := HX4.o.cellq (by omega) ((tL_m _ ht (i := 3) (by omega)).trans (by simp [TS.own]))
  go_upto_region 11 with fail
  go_wp2_with (refine wpList_store_row rfl _ _ _ rfl (w.heap.size + 1) #[.int .i64 (b 0), .int .i64 (b 1), .int .i64 (b 2), .int .i64 (b 3)] rfl rfl 96 _ HZ4.o size_ck rfl (ck_one _ _ _ _) ?_)
  (try simp only [Act.put])
  go_wp2_with fail
  have HR := Lh (setRow_heap w2 (w.heap.size + 1) _ #[.int .i64 (b 0), .int .i64 (b 1), .int .i64 (b 2), .int .i64 (b 3)] _ _ HZ4.o)
  refine bodyPost_ret_by (results_cell_row rfl _ _ (w.heap.size + 1) 96 _ (0, 0) _ rfl HR.o Tryz.underlying96 rfl size_ck) rfl ?_
  refine ⟨by rw [HM.o], by rw [HS.o]; exact HX4.o.kept (rowK (by omega)), ⟨HF4.o.os, HF4.o.tape, HF4.o.output, by have := HF4.o.size; simpa [World.setRow] using this, fun g hg hf => (rowK (by omega)).trans (HF4.o.block g hg hf)⟩⟩
 subst h3
 have HM : Hid (tickM x ⟨t, 3, a, rw⟩ = maxC b (x.wd a)) := by
  unfold tickM
  rw [if_pos rfl, HBb.o]
  exact Lh rfl
 have k2 := HE2.o.cell (i := 2) rfl
 have y0 : w2.cell? ⟨gx, 46 + a * 4, none⟩ = some (.int .i64 (x.wd a 0)) := HX2.o.cellq (by omega) (tL_w _ ha (i := 0) (by omega))
 have y1 : w2.cell? ⟨gx, 46 + a * 4 + 1, none⟩ = some (.int .i64 (x.wd a 1)) := HX2.o.cellq (by omega) (tL_w _ ha (i := 1) (by omega))
 have y2 : w2.cell? ⟨gx, 46 + a * 4 + 2, none⟩ = some (.int .i64 (x.wd a 2)) := HX2.o.cellq (by omega) (tL_w _ ha (i := 2) (by omega))
 have y3 : w2.cell? ⟨gx, 46 + a * 4 + 3, none⟩ = some (.int .i64 (x.wd a 3)) := HX2.o.cellq (by omega) (tL_w _ ha (i := 3) (by omega))
 go_upto_region 4 with fail
 go_quiet (fail)
 obtain ⟨w3, hw3, hb3⟩ : ∃ Z9, Z9 = w2.drewN nq /\ Below w2.heap.size w2 Z9 := ⟨_, rfl, (Below.refl _ _).drewN _⟩
 rw [<- hw3]
 have HT3 : Hid (TkN gx pre post x t 3 a rw w b 0 w3) := by
  refine ⟨?_, HE2.o.below hb3 HE2.o.lt, HZ2.o.below hb3 HZ2.o.lt, HF2.o.trans (Fr.of hb3)⟩
  have h9 := HX2.o.below hb3 HX2.o.lt
  have he : fjC b (x.wd a) 0 = b := by funext k; unfold fjC; rw [if_neg (by omega)]
  rw [he]
  exact h9
 clear hw3 hb3 k1 k2 y0 y1 y2 y3 HX2 HE2 HZ2 HF2
 go_upto_region 5 with fail
 go_loopg [33] 4 (fun gk i wr => ∃ j : Nat, j + gk = 4 /\ i = .int .i64 j /\ Hid (TkN gx pre post x t 3 a rw w b j wr))
 case atStart => exact ⟨0, by omega, rfl, HT3⟩
 case round =>
  obtain ⟨j, hj, rfl, HT⟩ := hrel
  have hjj : j = 0 ∨ j = 1 ∨ j = 2 ∨ j = 3 ∨ j = 4 := by omega
  rcases hjj with rfl | hjj
  ·have o0 : wr.cell? ⟨gx, 30 + t * 4, none⟩ = some (.int .i64 (b 0)) := HT.o.x.cellq (by omega) ((tL_m _ ht (i := 0) (by omega)).trans (by simp [TS.own, fjC]))
   have of := HT.o.x.frozen (30 + t * 4)
   have d4 : decide ((0 : Int) < 4) = true := rfl
   have HSt : Hid (∀ v, v = maxC b (x.wd a) 0 -> TkN gx pre post x t 3 a rw w b 1 (wr.setCell ⟨gx, 30 + t * 4, none⟩ (.int .i64 v)).drew) := fun v hv => HT.o.next ht (by omega) hgx hv
   have hix := idx4_0 (x.wd a 0) (x.wd a 1) (x.wd a 2) (x.wd a 3)
   go_upto_region 7 with fail
   go_still_tail 10, (by kernel_rfl)
   go_wp2_with fail
   all_goals (
    go_roundg (gk - 1)
    case measure => omega
    case rel => exact ⟨1, by omega, by go_num, HSt.o _ (by unfold maxC; split <;> omega)⟩)
  rcases hjj with rfl | hjj
  ·have o0 : wr.cell? ⟨gx, 30 + t * 4 + 1, none⟩ = some (.int .i64 (b 1)) := HT.o.x.cellq (by omega) ((tL_m _ ht (i := 1) (by omega)).trans (by simp [TS.own, fjC]))
   have of := HT.o.x.frozen (30 + t * 4 + 1)
   have d4 : decide ((1 : Int) < 4) = true := rfl
   have HSt : Hid (∀ v, v = maxC b (x.wd a) 1 -> TkN gx pre post x t 3 a rw w b 2 (wr.setCell ⟨gx, 30 + t * 4 + 1, none⟩ (.int .i64 v)).drew) := fun v hv => HT.o.next ht (by omega) hgx hv
   have hix := idx4_1 (x.wd a 0) (x.wd a 1) (x.wd a 2) (x.wd a 3)
   go_upto_region 7 with fail
   go_still_tail 10, (by kernel_rfl)
   go_wp2_with fail
   all_goals (
    go_roundg (gk - 1)
    case measure => omega
    case rel => exact ⟨2, by omega, by go_num, HSt.o _ (by unfold maxC; split <;> omega)⟩)
  rcases hjj with rfl | hjj
  ·have o0 : wr.cell? ⟨gx, 30 + t * 4 + 2, none⟩ = some (.int .i64 (b 2)) := HT.o.x.cellq (by omega) ((tL_m _ ht (i := 2) (by omega)).trans (by simp [TS.own, fjC]))
   have of := HT.o.x.frozen (30 + t * 4 + 2)
   have d4 : decide ((2 : Int) < 4) = true := rfl
   have HSt : Hid (∀ v, v = maxC b (x.wd a) 2 -> TkN gx pre post x t 3 a rw w b 3 (wr.setCell ⟨gx, 30 + t * 4 + 2, none⟩ (.int .i64 v)).drew) := fun v hv => HT.o.next ht (by omega) hgx hv
   have hix := idx4_2 (x.wd a 0) (x.wd a 1) (x.wd a 2) (x.wd a 3)
   go_upto_region 7 with fail
   go_still_tail 10, (by kernel_rfl)
   go_wp2_with fail
   all_goals (
    go_roundg (gk - 1)
    case measure => omega
    case rel => exact ⟨3, by omega, by go_num, HSt.o _ (by unfold maxC; split <;> omega)⟩)
  rcases hjj with rfl | hjj
  ·have o0 : wr.cell? ⟨gx, 30 + t * 4 + 3, none⟩ = some (.int .i64 (b 3)) := HT.o.x.cellq (by omega) ((tL_m _ ht (i := 3) (by omega)).trans (by simp [TS.own, fjC]))
   have of := HT.o.x.frozen (30 + t * 4 + 3)
   have d4 : decide ((3 : Int) < 4) = true := rfl
   have HSt : Hid (∀ v, v = maxC b (x.wd a) 3 -> TkN gx pre post x t 3 a rw w b 4 (wr.setCell ⟨gx, 30 + t * 4 + 3, none⟩ (.int .i64 v)).drew) := fun v hv => HT.o.next ht (by omega) hgx hv
   have hix := idx4_3 (x.wd a 0) (x.wd a 1) (x.wd a 2) (x.wd a 3)
   go_upto_region 7 with fail
   go_still_tail 10, (by kernel_rfl)
   go_wp2_with fail
   all_goals (
    go_roundg (gk - 1)
    case measure => omega
    case rel => exact ⟨4, by omega, by go_num, HSt.o _ (by unfold maxC; split <;> omega)⟩)
  ·subst hjj
   have HE4 := Lh HT.o.e
   have d4 : decide ((4 : Int) < 4) = false := rfl
   have k3 := HE4.o.cell (i := 3) rfl
   have HF4' : Hid (tL (x.own t (fjC b (x.wd a) 4)) = tL (x.own t (maxC b (x.wd a)))) := tL_congr (fun i k hi hk => by
    unfold TS.own
    dsimp only
    split
    ·unfold fjC
     rw [if_pos hk]
    ·rfl) (fun _ _ _ _ => rfl)
   have HX4 : Hid (TB wr gx pre post (tL (x.own t (maxC b (x.wd a))))) := by
    have h9 := HT.o.x
    rw [HF4'.o] at h9
    exact h9
   have HZ4 := Lh HT.o.z
   have HF4 := Lh HT.o.f
   obtain ⟨m, hm⟩ : ∃ m, m = maxC b (x.wd a) := ⟨_, rfl⟩
   rw [<- hm] at HX4 HM
   have HMm := Lh hm
   clear HT HF4' hm
   cases rw with
   | false =>
    have HS : Hid (tL (tickS x ⟨t, 3, a, false⟩) = tL (x.own t m)) := tL_congr (fun i k _ _ => by
     unfold tickS TS.own
     dsimp only
     rw [HM.o]) (fun i k _ _ => by
     unfold tickS TS.own
     dsimp only
     rw [if_neg (fun h => by cases h.2.1)])
    have v0 : wr.cell? ⟨gx, 30 + t * 4, none⟩ = some (.int .i64 (m 0)) := HX4.o.cellq (by omega) ((tL_m _ ht (i := 0) (by omega)).trans (by simp [TS.own]))
    have v1 : wr.cell? ⟨gx, 30 + t * 4 + 1, none⟩ = some (.int .i64 (m 1)) := HX4.o.cellq (by omega) ((tL_m _ ht (i := 1) (by omega)).trans (by simp [TS.own]))
    have v2 : wr.cell? ⟨gx, 30 + t * 4 + 2, none⟩ = some (.int .i64 (m 2)) := HX4.o.cellq (by omega) ((tL_m _ ht (i := 2) (by omega)).trans (by simp [TS.own]))
    have v3 : wr.cell? ⟨gx, 30 + t * 4 + 3, none⟩ = some (.int .i64 (m 3)) := HX4.o.cellq (by omega) ((tL_m _ ht (i := 3) (by omega)).trans (by simp [TS.own]))
    go_upto_region 11 with fail
    go_wp2_with (refine wpList_store_row rfl _ _ _ rfl (w.heap.size + 1) #[.int .i64 (m 0), .int .i64 (m 1), .int .i64 (m 2), .int .i64 (m 3)] rfl rfl 96 _ HZ4.o size_ck rfl (ck_one _ _ _ _) ?_)
    (try simp only [Act.put])
    go_wp2_with fail
    have HR := Lh (setRow_heap wr (w.heap.size + 1) _ #[.int .i64 (m 0), .int .i64 (m 1), .int .i64 (m 2), .int .i64 (m 3)] _ _ HZ4.o)
    refine bodyPost_ret_by (results_cell_row rfl _ _ (w.heap.size + 1) 96 _ (0, 0) _ rfl HR.o Tryz.underlying96 rfl size_ck) rfl ?_
    refine ⟨by rw [HM.o], by rw [HS.o]; exact HX4.o.kept (rowK (by omega)), ⟨HF4.o.os, HF4.o.tape, HF4.o.output, by have := HF4.o.size; simpa [World.setRow] using this, fun g hg hf => (rowK (by omega)).trans (HF4.o.block g hg hf)⟩⟩
   | true =>
    have HS : Hid (tL (tickS x ⟨t, 3, a, true⟩) = tL ⟨(x.own t m).m, fun i => if i = a then m else (x.own t m).wd i⟩) := tL_congr (fun i k _ _ => by
     unfold tickS TS.own
     dsimp only
     rw [HM.o]) (fun i k _ _ => by
     unfold tickS TS.own
     dsimp only
     by_cases hi : i = a
     ·rw [if_pos ⟨rfl, rfl, hi⟩, if_pos hi, HM.o]
     ·rw [if_neg (fun h => hi h.2.2), if_neg hi])
    have k2 := HE4.o.cell (i := 2) rfl
    have v0 : wr.cell? ⟨gx, 30 + t * 4, none⟩ = some (.int .i64 (m 0)) := HX4.o.cellq (by omega) ((tL_m _ ht (i := 0) (by omega)).trans (by simp [TS.own]))
    have v1 : wr.cell? ⟨gx, 30 + t * 4 + 1, none⟩ = some (.int .i64 (m 1)) := HX4.o.cellq (by omega) ((tL_m _ ht (i := 1) (by omega)).trans (by simp [TS.own]))
    have v2 : wr.cell? ⟨gx, 30 + t * 4 + 2, none⟩ = some (.int .i64 (m 2)) := HX4.o.cellq (by omega) ((tL_m _ ht (i := 2) (by omega)).trans (by simp [TS.own]))
    have v3 : wr.cell? ⟨gx, 30 + t * 4 + 3, none⟩ = some (.int .i64 (m 3)) := HX4.o.cellq (by omega) ((tL_m _ ht (i := 3) (by omega)).trans (by simp [TS.own]))
    have y0 : wr.cell? ⟨gx, 46 + a * 4, none⟩ = some (.int .i64 (x.wd a 0)) := HX4.o.cellq (by omega) (tL_w _ ha (i := 0) (by omega))
    have y1 : wr.cell? ⟨gx, 46 + a * 4 + 1, none⟩ = some (.int .i64 (x.wd a 1)) := HX4.o.cellq (by omega) (tL_w _ ha (i := 1) (by omega))
    have y2 : wr.cell? ⟨gx, 46 + a * 4 + 2, none⟩ = some (.int .i64 (x.wd a 2)) := HX4.o.cellq (by omega) (tL_w _ ha (i := 2) (by omega))
    have y3 : wr.cell? ⟨gx, 46 + a * 4 + 3, none⟩ = some (.int .i64 (x.wd a 3)) := HX4.o.cellq (by omega) (tL_w _ ha (i := 3) (by omega))
    have z0 := HX4.o.frozen (46 + a * 4)
    have z1 := HX4.o.frozen (46 + a * 4 + 1)
    have z2 := HX4.o.frozen (46 + a * 4 + 2)
    have z3 := HX4.o.frozen (46 + a * 4 + 3)
    go_upto_region 10 with fail
    go_still_tail 8, (by kernel_rfl)
    go_upto_region 11 with fail
    obtain ⟨w5, hw5, HX5, HZ5, HF5⟩ : ∃ Z9, Z9 = ((((wr.setCell ⟨gx, 46 + a * 4, none⟩ (.int .i64 (m 0))).setCell ⟨gx, 46 + a * 4 + 1, none⟩ (.int .i64 (m 1))).setCell ⟨gx, 46 + a * 4 + 2, none⟩ (.int .i64 (m 2))).setCell ⟨gx, 46 + a * 4 + 3, none⟩ (.int .i64 (m 3))).drew /\ Hid (TB Z9 gx pre post (tL ⟨(x.own t m).m, fun i => if i = a then m else (x.own t m).wd i⟩)) /\ Hid (Blk Z9 (w.heap.size + 1) 96 [.int .i64 0, .int .i64 0, .int .i64 0, .int .i64 0]) /\ Hid (Fr (fun g => g = gx) w Z9) := by
     refine ⟨_, rfl, ?_, (((HZ4.o.far (by dsimp only; omega) _).far (by dsimp only; omega) _).far (by dsimp only; omega) _).far (by dsimp only; omega) _, ((((HF4.o.setCell (p := ⟨gx, 46 + a * 4, none⟩) rfl _).setCell (p := ⟨gx, 46 + a * 4 + 1, none⟩) rfl _).setCell (p := ⟨gx, 46 + a * 4 + 2, none⟩) rfl _).setCell (p := ⟨gx, 46 + a * 4 + 3, none⟩) rfl _).drew⟩
     have h9 := (((HX4.o.setq (46 + a * 4) (16 + a * 4) (by omega) (by omega) (.int .i64 (m 0))).setq (46 + a * 4 + 1) (16 + a * 4 + 1) (by omega) (by omega) (.int .i64 (m 1))).setq (46 + a * 4 + 2) (16 + a * 4 + 2) (by omega) (by omega) (.int .i64 (m 2))).setq (46 + a * 4 + 3) (16 + a * 4 + 3) (by omega) (by omega) (.int .i64 (m 3))
     rw [tL_word _ ha] at h9
     exact h9
    rw [<- hw5]
    clear hw5 y0 y1 y2 y3 z0 z1 z2 z3 v0 v1 v2 v3 k2 k3 HX4 HZ4 HF4
    have HX4 := HX5
    have HZ4 := HZ5
    have HF4 := HF5
    have v0 : w5.cell? ⟨gx, 30 + t * 4, none⟩ = some (.int .i64 (m 0)) := HX4.o.cellq (by omega) ((tL_m _ ht (i := 0) (by omega)).trans (by simp [TS.own]))
    have v1 : w5.cell? ⟨gx, 30 + t * 4 + 1, none⟩ = some (.int .i64 (m 1)) := HX4.o.cellq (by omega) ((tL_m _ ht (i := 1) (by omega)).trans (by simp [TS.own]))
    have v2 : w5.cell? ⟨gx, 30 + t * 4 + 2, none⟩ = some (.int .i64 (m 2)) := HX4.o.cellq (by omega) ((tL_m _ ht (i := 2) (by omega)).trans (by simp [TS.own]))
    have v3 : w5.cell? ⟨gx, 30 + t * 4 + 3, none⟩ = some (.int .i64 (m 3)) := HX4.o.cellq (by omega) ((tL_m _ ht (i := 3) (by omega)).trans (by simp [TS.own]))
    go_upto_region 11 with fail
    go_wp2_with (refine wpList_store_row rfl _ _ _ rfl (w.heap.size + 1) #[.int .i64 (m 0), .int .i64 (m 1), .int .i64 (m 2), .int .i64 (m 3)] rfl rfl 96 _ HZ4.o size_ck rfl (ck_one _ _ _ _) ?_)
    (try simp only [Act.put])
    go_wp2_with fail
    have HR := Lh (setRow_heap w5 (w.heap.size + 1) _ #[.int .i64 (m 0), .int .i64 (m 1), .int .i64 (m 2), .int .i64 (m 3)] _ _ HZ4.o)
    refine bodyPost_ret_by (results_cell_row rfl _ _ (w.heap.size + 1) 96 _ (0, 0) _ rfl HR.o Tryz.underlying96 rfl size_ck) rfl ?_
    refine ⟨by rw [HM.o], by rw [HS.o]; exact HX4.o.kept (rowK (by omega)), ⟨HF4.o.os, HF4.o.tape, HF4.o.output, by have := HF4.o.size; simpa [World.setRow] using this, fun g hg hf => (rowK (by omega)).trans (HF4.o.block g hg hf)⟩⟩
end Go.Proofs.YtgjdgapfnfhklaaGreat
