/-
races.times.tick: the clock of an event.
-/
import Derived.Test.YtgjdgapfnfhklaaGreatZ7
import Derived.Test.YtgjdgapfnfhklaaGreatQcp
import Derived.Test.YtgjdgapfnfhklaaGreatZ0
import Derived.BigQuiet
import Derived.StillTailTactics
import Derived.Deep.DeepCutAuto
set_option linter.unusedSimpArgs false
set_option linter.unusedVariables false
set_option maxRecDepth 100000
set_option maxHeartbeats 8000000
namespace Go.Proofs.YtgjdgapfnfhklaaGreat
open Go.RowKit
def tC (x : TS) (c : Nat) : Int := if c < 16 then x.m (c / 4) (c % 4) else x.wd ((c - 16) / 4) ((c - 16) % 4)
def tL (x : TS) : List Value := ints ((List.range 40).map (tC x))
theorem tL_congr {x y : TS} (h : ∀ t i, t < 4 -> i < 4 -> x.m t i = y.m t i) (h2 : ∀ a i, a < 6 -> i < 4 -> x.wd a i = y.wd a i) : tL x = tL y := by
 unfold tL
 congr 1
 refine List.map_congr_left fun c hc => ?_
 have hc := List.mem_range.1 hc
 unfold tC
 split
 ·exact h _ _ (by omega) (by omega)
 ·exact h2 _ _ (by omega) (by omega)
theorem tL_at (x : TS) {c : Nat} (h : c < 40) : (tL x)[c]? = some (.int .i64 (tC x c)) := by
 unfold tL
 exact ints_get (by simp [h])
theorem tC_m (x : TS) {t i : Nat} (ht : t < 4) (hi : i < 4) : tC x (t * 4 + i) = x.m t i := by
 unfold tC
 rw [if_pos (by omega), show (t * 4 + i) / 4 = t by omega, show (t * 4 + i) % 4 = i by omega]
theorem tC_w (x : TS) {a i : Nat} (hi : i < 4) : tC x (16 + (a * 4 + i)) = x.wd a i := by
 unfold tC
 rw [if_neg (by omega), show (16 + (a * 4 + i) - 16) / 4 = a by omega, show (16 + (a * 4 + i) - 16) % 4 = i by omega]
theorem tL_m (x : TS) {t i : Nat} (ht : t < 4) (hi : i < 4) : (tL x)[t * 4 + i]? = some (.int .i64 (x.m t i)) := by rw [tL_at x (by omega), tC_m x ht hi]
theorem tL_w (x : TS) {a i : Nat} (ha : a < 6) (hi : i < 4) : (tL x)[16 + (a * 4 + i)]? = some (.int .i64 (x.wd a i)) := by rw [tL_at x (by omega), tC_w x hi]
def TS.own (x : TS) (t : Nat) (f : Clk) : TS := ⟨fun i => if i = t then f else x.m i, x.wd⟩
theorem tL_set (x : TS) {c : Nat} (h : c < 40) (v : Int) : (tL x).set c (.int .i64 v) = ints ((List.range 40).map fun i => if i = c then v else tC x i) := by
 unfold tL
 rw [ints_set]
 congr 1
 apply List.ext_getElem?
 intro i
 by_cases hi : i < 40
 ·by_cases hc : i = c
  ·subst hc
   rw [List.getElem?_set_self (by simpa using hi)]
   simp [hi]
  ·rw [List.getElem?_set_ne (Ne.symm hc)]
   simp [hi, hc]
 ·rw [List.getElem?_eq_none (by simp; omega), List.getElem?_eq_none (by simp; omega)]
theorem tL_own (x : TS) {t i : Nat} (f : Clk) (ht : t < 4) (hi : i < 4) (v : Int) : (tL (x.own t f)).set (t * 4 + i) (.int .i64 v) = tL (x.own t (fun k => if k = i then v else f k)) := by
 rw [tL_set _ (by omega)]
 unfold tL
 congr 1
 refine List.map_congr_left fun c hc => ?_
 have hc := List.mem_range.1 hc
 by_cases h : c = t * 4 + i
 ·subst h
  rw [if_pos rfl, tC_m _ ht hi]
  simp [TS.own]
 ·rw [if_neg h]
  unfold tC TS.own
  by_cases h16 : c < 16
  ·rw [if_pos h16, if_pos h16]
   dsimp only
   by_cases h4 : c / 4 = t
   ·rw [if_pos h4, if_pos h4, if_neg (by omega)]
   ·rw [if_neg h4, if_neg h4]
  ·rw [if_neg h16, if_neg h16]
theorem own_own (x : TS) (t : Nat) (f g : Clk) : (x.own t f).own t g = x.own t g := by
 unfold TS.own
 congr 1
 funext i
 dsimp only
 split <;> rfl
theorem own_self (x : TS) (t : Nat) : x.own t (x.m t) = x := by
 unfold TS.own
 congr 1
 funext i
 split
 ·rename_i h; rw [h]
 ·rfl
theorem tL_word (x : TS) {a : Nat} (ha : a < 6) (f : Clk) : ((((tL x).set (16 + a * 4) (.int .i64 (f 0))).set (16 + a * 4 + 1) (.int .i64 (f 1))).set (16 + a * 4 + 2) (.int .i64 (f 2))).set (16 + a * 4 + 3) (.int .i64 (f 3)) = tL ⟨x.m, fun i => if i = a then f else x.wd i⟩ := by
 apply List.ext_getElem?
 intro c
 by_cases hc : c < 40
 ·rw [tL_at _ hc]
  by_cases h0 : c = 16 + a * 4
  ·subst h0
   rw [List.getElem?_set_ne (by omega), List.getElem?_set_ne (by omega), List.getElem?_set_ne (by omega), List.getElem?_set_self (by simp [tL, ints]; omega)]
   have := tC_w ⟨x.m, fun i => if i = a then f else x.wd i⟩ (a := a) (i := 0) (by omega)
   rw [show 16 + (a * 4 + 0) = 16 + a * 4 by omega] at this
   rw [this]
   simp
  by_cases h1 : c = 16 + a * 4 + 1
  ·subst h1
   rw [List.getElem?_set_ne (by omega), List.getElem?_set_ne (by omega), List.getElem?_set_self (by simp [tL, ints]; omega)]
   have := tC_w ⟨x.m, fun i => if i = a then f else x.wd i⟩ (a := a) (i := 1) (by omega)
   rw [show 16 + (a * 4 + 1) = 16 + a * 4 + 1 by omega] at this
   rw [this]
   simp
  by_cases h2 : c = 16 + a * 4 + 2
  ·subst h2
   rw [List.getElem?_set_ne (by omega), List.getElem?_set_self (by simp [tL, ints]; omega)]
   have := tC_w ⟨x.m, fun i => if i = a then f else x.wd i⟩ (a := a) (i := 2) (by omega)
   rw [show 16 + (a * 4 + 2) = 16 + a * 4 + 2 by omega] at this
   rw [this]
   simp
  by_cases h3 : c = 16 + a * 4 + 3
  ·subst h3
   rw [List.getElem?_set_self (by simp [tL, ints]; omega)]
   have := tC_w ⟨x.m, fun i => if i = a then f else x.wd i⟩ (a := a) (i := 3) (by omega)
   rw [show 16 + (a * 4 + 3) = 16 + a * 4 + 3 by omega] at this
   rw [this]
   simp
  rw [List.getElem?_set_ne (Ne.symm h3), List.getElem?_set_ne (Ne.symm h2), List.getElem?_set_ne (Ne.symm h1), List.getElem?_set_ne (Ne.symm h0), tL_at _ hc]
  congr 2
  unfold tC
  by_cases h16 : c < 16
  ·rw [if_pos h16, if_pos h16]
  ·rw [if_neg h16, if_neg h16]
   dsimp only
   rw [if_neg (by omega)]
 ·rw [List.getElem?_eq_none (by simp [tL, ints]; omega), List.getElem?_eq_none (by simp [tL, ints]; omega)]
theorem ck_one (a b c d : Int) : (#[.int .i64 a, .int .i64 b, .int .i64 c, .int .i64 d] : Array Value).all (·.oneCell') = true := by simp [Value.oneCell']
theorem size_ck : (Tryz.prog.info? 96).map (·.size) = some 4 := by kernel_rfl
def TckR (gx : Nat) (x : TS) (e : Ev) (w : World) (en : Ending) (w' : World) : Prop :=
 en = .returned (.agg #[.int .i64 (tickM x e 0), .int .i64 (tickM x e 1), .int .i64 (tickM x e 2), .int .i64 (tickM x e 3)]) /\ Blk w' gx 100 (tL (tickS x e)) /\ Fr (fun g => g = gx) w w'
theorem idx4_0 (a b c d : Int) (w : World) : (Instr.index 96 (.agg #[.int .i64 a, .int .i64 b, .int .i64 c, .int .i64 d]) (.int .i64 0)).run Tryz.prog w = .ok (.int .i64 a) w := by simp [Instr.index, asIntOf, part, go_sem]
theorem idx4_1 (a b c d : Int) (w : World) : (Instr.index 96 (.agg #[.int .i64 a, .int .i64 b, .int .i64 c, .int .i64 d]) (.int .i64 1)).run Tryz.prog w = .ok (.int .i64 b) w := by simp [Instr.index, asIntOf, part, go_sem]
theorem idx4_2 (a b c d : Int) (w : World) : (Instr.index 96 (.agg #[.int .i64 a, .int .i64 b, .int .i64 c, .int .i64 d]) (.int .i64 2)).run Tryz.prog w = .ok (.int .i64 c) w := by simp [Instr.index, asIntOf, part, go_sem]
theorem idx4_3 (a b c d : Int) (w : World) : (Instr.index 96 (.agg #[.int .i64 a, .int .i64 b, .int .i64 c, .int .i64 d]) (.int .i64 3)).run Tryz.prog w = .ok (.int .i64 d) w := by simp [Instr.index, asIntOf, part, go_sem]
theorem w64 (z : Int) : IntKind.i64.wrap z = wrap64 z := by simp only [wrap64, IntKind.wrap_i64]
def fjC (b g : Clk) (j : Nat) : Clk := fun k => if k < j then maxC b g k else b k
structure TkI (gx : Nat) (x : TS) (t : Nat) (kd : Int) (a : Nat) (rw : Bool) (w : World) (b : Clk) (j : Nat) (W : World) : Prop where
 x : Blk W gx 100 (tL (x.own t (fjC b (x.wd a) j)))
 e : Blk W w.heap.size 109 [.int .i64 t, .int .i64 kd, .int .i64 a, .bool rw]
 z : Blk W (w.heap.size + 1) 96 [.int .i64 0, .int .i64 0, .int .i64 0, .int .i64 0]
 f : Fr (fun g => g = gx) w W
theorem TkI.next {gx : Nat} {x : TS} {t : Nat} {kd : Int} {a : Nat} {rw : Bool} {w : World} {b : Clk} {j : Nat} {W : World} (h : TkI gx x t kd a rw w b j W) (ht : t < 4) (hj : j < 4) (hgx : gx < w.heap.size) {v : Int} (hv : v = maxC b (x.wd a) j) : TkI gx x t kd a rw w b (j + 1) (W.setCell ⟨gx, t * 4 + j, none⟩ (.int .i64 v)).drew := by
 refine ⟨?_, h.e.far (by dsimp only; omega) _, h.z.far (by dsimp only; omega) _, (h.f.setCell (p := ⟨gx, t * 4 + j, none⟩) rfl _).drew⟩
 have h8 := h.x.set_ (t * 4 + j) (.int .i64 v)
 rw [tL_own x _ ht hj] at h8
 have he : fjC b (x.wd a) (j + 1) = fun k => if k = j then v else fjC b (x.wd a) j k := by
  funext k
  unfold fjC
  by_cases hk : k = j
  ·subst hk
   rw [if_pos (by omega), if_pos rfl, hv]
  ·rw [if_neg hk]
   by_cases hl : k < j
   ·rw [if_pos (by omega), if_pos hl]
   ·rw [if_neg (by omega), if_neg hl]
 rw [he]
 exact h8
theorem tick_any (gx : Nat) (x : TS) (t : Nat) (kd : Int) (a : Nat) (rw : Bool) (w : World) (hx : Blk w gx 100 (tL x)) (ht : t < 4) (ha : a < 6) :
  Calls Tryz.prog 45 #[.pointer (some ⟨gx, 0, none⟩), .agg #[.int .i64 t, .int .i64 kd, .int .i64 a, .bool rw]] w (TckR gx x ⟨t, kd, a, rw⟩ w) := by
 obtain ⟨w0, hw0⟩ : ∃ w0 : World, w0 = (w.alloc (.cells #[.int .i64 t, .int .i64 kd, .int .i64 a, .bool rw] 109)).alloc (.cells #[.int .i64 0, .int .i64 0, .int .i64 0, .int .i64 0] 96) := ⟨_, rfl⟩
 have HE0 : Hid (Blk w0 w.heap.size 109 [.int .i64 t, .int .i64 kd, .int .i64 a, .bool rw]) := by rw [hw0]; exact (Blk.new w 109 [.int .i64 t, .int .i64 kd, .int .i64 a, .bool rw]).alloc _
 have HZ0 : Hid (Blk w0 (w.heap.size + 1) 96 [.int .i64 0, .int .i64 0, .int .i64 0, .int .i64 0]) := by
  rw [hw0]
  have h9 := Blk.new (w.alloc (.cells #[.int .i64 t, .int .i64 kd, .int .i64 a, .bool rw] 109)) 96 [.int .i64 0, .int .i64 0, .int .i64 0, .int .i64 0]
  rw [World.size_alloc] at h9
  exact h9
 have HF0 : Hid (Below w.heap.size w w0) := by rw [hw0]; exact ((Below.refl _ _).alloc (Nat.le_refl _) _).alloc (by simp) _
 have HX0 : Hid (Blk w0 gx 100 (tL x)) := hx.below HF0.o hx.lt
 have hgx := hx.lt
 have HWe := Lh hw0
 have hz0 : w.heap.size + 1 < w0.heap.size := HZ0.o.lt
 clear hx hw0
 have e0 : (0 : Int) <= t := by omega
 have e1 : (t : Int) < 4 := by omega
 have e2 : (0 : Int) <= a := by omega
 have e3 : (a : Int) < 6 := by omega
 go_enter Tryz.func45, Tryz.ntmps45
 go_upto_region 1 with fail
 rw [<- HWe.o]
 clear HWe
 have c0 := HE0.o.cell (i := 0) rfl
 go_quiet (fail)
 obtain ⟨w1, hw1, hb1⟩ : ∃ Z9, Z9 = w0.drewN nq /\ Below w0.heap.size w0 Z9 := ⟨_, rfl, (Below.refl _ _).drewN _⟩
 rw [<- hw1]
 have HE1 := Lh (HE0.o.below hb1 HE0.o.lt)
 have HZ1 := Lh (HZ0.o.below hb1 HZ0.o.lt)
 have HX1 := Lh (HX0.o.below hb1 HX0.o.lt)
 have HF1 := Lh (Fr.of (F := fun g => g = gx) (HF0.o.trans (hb1.mono HF0.o.size)))
 clear hw1 hb1 c0 HE0 HZ0 HX0 HF0
 have c0 := HE1.o.cell (i := 0) rfl
 have x0 : w1.cell? ⟨gx, t * 4 + t, none⟩ = some (.int .i64 (x.m t t)) := HX1.o.cell (tL_m x ht ht)
 have xf := HX1.o.frozen (t * 4 + t)
 go_upto_region 2 with fail
 go_still_tail 8, (by kernel_rfl)
 go_upto_region 3 with fail
 obtain ⟨b, hb⟩ : ∃ b, b = bumpW (x.m t) t := ⟨_, rfl⟩
 obtain ⟨w2, hw2, HX2, HE2, HZ2, HF2⟩ : ∃ Z9, Z9 = (w1.setCell ⟨gx, t * 4 + t, none⟩ (.int .i64 (wrap64 (x.m t t + 1)))).drew /\ Hid (Blk Z9 gx 100 (tL (x.own t b))) /\ Hid (Blk Z9 w.heap.size 109 [.int .i64 t, .int .i64 kd, .int .i64 a, .bool rw]) /\ Hid (Blk Z9 (w.heap.size + 1) 96 [.int .i64 0, .int .i64 0, .int .i64 0, .int .i64 0]) /\ Hid (Fr (fun g => g = gx) w Z9) := by
  refine ⟨_, rfl, ?_, HE1.o.far (by dsimp only; omega) _, HZ1.o.far (by dsimp only; omega) _, (HF1.o.setCell (p := ⟨gx, t * 4 + t, none⟩) rfl _).drew⟩
  have h9 := HX1.o
  rw [<- own_self x t] at h9
  have h8 := h9.set_ (t * 4 + t) (.int .i64 (wrap64 (x.m t t + 1)))
  rw [tL_own x _ ht ht] at h8
  have hbe : bumpW (x.m t) t = fun k => if k = t then wrap64 (x.m t t + 1) else x.m t k := by
   funext k
   unfold bumpW
   by_cases hk : k = t
   ·subst hk
    rw [if_pos rfl, if_pos rfl]
    exact w64 _
   ·rw [if_neg hk, if_neg hk]
  rw [hb, hbe]
  exact h8
 rw [<- hw2]
 have HBb := Lh hb
 clear hw2 hb c0 x0 xf HE1 HZ1 HX1 HF1
 have k1 := HE2.o.cell (i := 1) rfl
 by_cases h3 : kd = 3
 case neg =>
  have d1 : (kd == 3) = false := by simpa using h3
  have d2 : decide (kd = 3) = false := by simpa using h3
  have HM : Hid (tickM x ⟨t, kd, a, rw⟩ = b) := by
   unfold tickM
   rw [if_neg h3]
   exact HBb.o.symm
  have HS : Hid (tL (tickS x ⟨t, kd, a, rw⟩) = tL (x.own t b)) := tL_congr (fun i k _ _ => by
   unfold tickS TS.own
   dsimp only
   rw [<- HM.o]) (fun i k _ _ => by
   unfold tickS TS.own
   dsimp only
   rw [if_neg (fun h => h3 h.1)])
  clear h3
  have HX4 := HX2
  have HZ4 := HZ2
  have HF4 := HF2
  have v0 : w2.cell? ⟨gx, t * 4, none⟩ = some (.int .i64 (b 0)) := HX4.o.cell ((tL_m _ ht (i := 0) (by omega)).trans (by simp [TS.own]))
  have v1 : w2.cell? ⟨gx, t * 4 + 1, none⟩ = some (.int .i64 (b 1)) := HX4.o.cell ((tL_m _ ht (i := 1) (by omega)).trans (by simp [TS.own]))
  have v2 : w2.cell? ⟨gx, t * 4 + 2, none⟩ = some (.int .i64 (b 2)) := HX4.o.cell ((tL_m _ ht (i := 2) (by omega)).trans (by simp [TS.own]))
  have v3 : w2.cell? ⟨gx, t * 4 + 3, none⟩ = some (.int .i64 (b 3)) := HX4.o.cell ((tL_m _ ht (i := 3) (by omega)).trans (by simp [TS.own]))
  go_upto_region 11 with fail
  go_wp2_with (refine wpList_store_row rfl _ _ _ rfl (w.heap.size + 1) #[.int .i64 (b 0), .int .i64 (b 1), .int .i64 (b 2), .int .i64 (b 3)] rfl rfl 96 _ HZ4.o size_ck rfl (ck_one _ _ _ _) ?_)
  (try simp only [Act.put])
  go_wp2_with fail
  have HR := Lh (setRow_heap w2 (w.heap.size + 1) _ #[.int .i64 (b 0), .int .i64 (b 1), .int .i64 (b 2), .int .i64 (b 3)] _ _ HZ4.o)
  refine bodyPost_ret_by (results_cell_row rfl _ _ (w.heap.size + 1) 96 _ (0, 0) _ rfl HR.o Tryz.underlying96 rfl size_ck) rfl ?_
  refine ⟨by rw [HM.o], by rw [HS.o]; exact HX4.o.kept (rowK (by omega)), ⟨HF4.o.os, HF4.o.tape, HF4.o.output, by have := HF4.o.size; simpa [World.setRow] using this, fun g hg hf => (rowK (by omega)).trans (HF4.o.block g hg hf)⟩⟩
 subst h3
 have HM : Hid (tickM x ⟨t, 3, a, rw⟩ = maxC b (x.wd a)) := by
  unfold tickM
  rw [if_pos rfl, HBb.o]
  exact Lh rfl
 have k2 := HE2.o.cell (i := 2) rfl
 have y0 : w2.cell? ⟨gx, 16 + a * 4, none⟩ = some (.int .i64 (x.wd a 0)) := HX2.o.cell (tL_w _ ha (i := 0) (by omega))
 have y1 : w2.cell? ⟨gx, 16 + a * 4 + 1, none⟩ = some (.int .i64 (x.wd a 1)) := HX2.o.cell (tL_w _ ha (i := 1) (by omega))
 have y2 : w2.cell? ⟨gx, 16 + a * 4 + 2, none⟩ = some (.int .i64 (x.wd a 2)) := HX2.o.cell (tL_w _ ha (i := 2) (by omega))
 have y3 : w2.cell? ⟨gx, 16 + a * 4 + 3, none⟩ = some (.int .i64 (x.wd a 3)) := HX2.o.cell (tL_w _ ha (i := 3) (by omega))
 go_upto_region 4 with fail
 go_quiet (fail)
 obtain ⟨w3, hw3, hb3⟩ : ∃ Z9, Z9 = w2.drewN nq /\ Below w2.heap.size w2 Z9 := ⟨_, rfl, (Below.refl _ _).drewN _⟩
 rw [<- hw3]
 have HT3 : Hid (TkI gx x t 3 a rw w b 0 w3) := by
  refine ⟨?_, HE2.o.below hb3 HE2.o.lt, HZ2.o.below hb3 HZ2.o.lt, HF2.o.trans (Fr.of hb3)⟩
  have h9 := HX2.o.below hb3 HX2.o.lt
  have he : fjC b (x.wd a) 0 = b := by funext k; unfold fjC; rw [if_neg (by omega)]
  rw [he]
  exact h9
 clear hw3 hb3 k1 k2 y0 y1 y2 y3 HX2 HE2 HZ2 HF2
 go_upto_region 5 with fail
 go_loopg [33] 4 (fun gk i wr => ∃ j : Nat, j + gk = 4 /\ i = .int .i64 j /\ Hid (TkI gx x t 3 a rw w b j wr))
 case atStart => exact ⟨0, by omega, rfl, HT3⟩
 case round =>
  obtain ⟨j, hj, rfl, HT⟩ := hrel
  have hjj : j = 0 ∨ j = 1 ∨ j = 2 ∨ j = 3 ∨ j = 4 := by omega
  rcases hjj with rfl | hjj
  ·have o0 : wr.cell? ⟨gx, t * 4, none⟩ = some (.int .i64 (b 0)) := HT.o.x.cell ((tL_m _ ht (i := 0) (by omega)).trans (by simp [TS.own, fjC]))
   have of := HT.o.x.frozen (t * 4)
   have d4 : decide ((0 : Int) < 4) = true := rfl
   have HSt : Hid (∀ v, v = maxC b (x.wd a) 0 -> TkI gx x t 3 a rw w b 1 (wr.setCell ⟨gx, t * 4, none⟩ (.int .i64 v)).drew) := fun v hv => HT.o.next ht (by omega) hgx hv
   have hix := idx4_0 (x.wd a 0) (x.wd a 1) (x.wd a 2) (x.wd a 3)
   go_upto_region 7 with fail
   go_still_tail 10, (by kernel_rfl)
   go_wp2_with fail
   all_goals (
    go_roundg (gk - 1)
    case measure => omega
    case rel => exact ⟨1, by omega, by go_num, HSt.o _ (by unfold maxC; split <;> omega)⟩)
  rcases hjj with rfl | hjj
  ·have o0 : wr.cell? ⟨gx, t * 4 + 1, none⟩ = some (.int .i64 (b 1)) := HT.o.x.cell ((tL_m _ ht (i := 1) (by omega)).trans (by simp [TS.own, fjC]))
   have of := HT.o.x.frozen (t * 4 + 1)
   have d4 : decide ((1 : Int) < 4) = true := rfl
   have HSt : Hid (∀ v, v = maxC b (x.wd a) 1 -> TkI gx x t 3 a rw w b 2 (wr.setCell ⟨gx, t * 4 + 1, none⟩ (.int .i64 v)).drew) := fun v hv => HT.o.next ht (by omega) hgx hv
   have hix := idx4_1 (x.wd a 0) (x.wd a 1) (x.wd a 2) (x.wd a 3)
   go_upto_region 7 with fail
   go_still_tail 10, (by kernel_rfl)
   go_wp2_with fail
   all_goals (
    go_roundg (gk - 1)
    case measure => omega
    case rel => exact ⟨2, by omega, by go_num, HSt.o _ (by unfold maxC; split <;> omega)⟩)
  rcases hjj with rfl | hjj
  ·have o0 : wr.cell? ⟨gx, t * 4 + 2, none⟩ = some (.int .i64 (b 2)) := HT.o.x.cell ((tL_m _ ht (i := 2) (by omega)).trans (by simp [TS.own, fjC]))
   have of := HT.o.x.frozen (t * 4 + 2)
   have d4 : decide ((2 : Int) < 4) = true := rfl
   have HSt : Hid (∀ v, v = maxC b (x.wd a) 2 -> TkI gx x t 3 a rw w b 3 (wr.setCell ⟨gx, t * 4 + 2, none⟩ (.int .i64 v)).drew) := fun v hv => HT.o.next ht (by omega) hgx hv
   have hix := idx4_2 (x.wd a 0) (x.wd a 1) (x.wd a 2) (x.wd a 3)
   go_upto_region 7 with fail
   go_still_tail 10, (by kernel_rfl)
   go_wp2_with fail
   all_goals (
    go_roundg (gk - 1)
    case measure => omega
    case rel => exact ⟨3, by omega, by go_num, HSt.o _ (by unfold maxC; split <;> omega)⟩)
  rcases hjj with rfl | hjj
  ·have o0 : wr.cell? ⟨gx, t * 4 + 3, none⟩ = some (.int .i64 (b 3)) := HT.o.x.cell ((tL_m _ ht (i := 3) (by omega)).trans (by simp [TS.own, fjC]))
   have of := HT.o.x.frozen (t * 4 + 3)
   have d4 : decide ((3 : Int) < 4) = true := rfl
   have HSt : Hid (∀ v, v = maxC b (x.wd a) 3 -> TkI gx x t 3 a rw w b 4 (wr.setCell ⟨gx, t * 4 + 3, none⟩ (.int .i64 v)).drew) := fun v hv => HT.o.next ht (by omega) hgx hv
   have hix := idx4_3 (x.wd a 0) (x.wd a 1) (x.wd a 2) (x.wd a 3)
   go_upto_region 7 with fail
   go_still_tail 10, (by kernel_rfl)
   go_wp2_with fail
   all_goals (
    go_roundg (gk - 1)
    case measure => omega
    case rel => exact ⟨4, by omega, by go_num, HSt.o _ (by unfold maxC; split <;> omega)⟩)
  ·subst hjj
   have HE4 := Lh HT.o.e
   have d4 : decide ((4 : Int) < 4) = false := rfl
   have k3 := HE4.o.cell (i := 3) rfl
   have HF4' : Hid (tL (x.own t (fjC b (x.wd a) 4)) = tL (x.own t (maxC b (x.wd a)))) := tL_congr (fun i k hi hk => by
    unfold TS.own
    dsimp only
    split
    ·unfold fjC
     rw [if_pos hk]
    ·rfl) (fun _ _ _ _ => rfl)
   have HX4 : Hid (Blk wr gx 100 (tL (x.own t (maxC b (x.wd a))))) := by
    have h9 := HT.o.x
    rw [HF4'.o] at h9
    exact h9
   have HZ4 := Lh HT.o.z
   have HF4 := Lh HT.o.f
   obtain ⟨m, hm⟩ : ∃ m, m = maxC b (x.wd a) := ⟨_, rfl⟩
   rw [<- hm] at HX4 HM
   have HMm := Lh hm
   clear HT HF4' hm
   cases rw with
   | false =>
    have HS : Hid (tL (tickS x ⟨t, 3, a, false⟩) = tL (x.own t m)) := tL_congr (fun i k _ _ => by
     unfold tickS TS.own
     dsimp only
     rw [HM.o]) (fun i k _ _ => by
     unfold tickS TS.own
     dsimp only
     rw [if_neg (fun h => by cases h.2.1)])
    have v0 : wr.cell? ⟨gx, t * 4, none⟩ = some (.int .i64 (m 0)) := HX4.o.cell ((tL_m _ ht (i := 0) (by omega)).trans (by simp [TS.own]))
    have v1 : wr.cell? ⟨gx, t * 4 + 1, none⟩ = some (.int .i64 (m 1)) := HX4.o.cell ((tL_m _ ht (i := 1) (by omega)).trans (by simp [TS.own]))
    have v2 : wr.cell? ⟨gx, t * 4 + 2, none⟩ = some (.int .i64 (m 2)) := HX4.o.cell ((tL_m _ ht (i := 2) (by omega)).trans (by simp [TS.own]))
    have v3 : wr.cell? ⟨gx, t * 4 + 3, none⟩ = some (.int .i64 (m 3)) := HX4.o.cell ((tL_m _ ht (i := 3) (by omega)).trans (by simp [TS.own]))
    go_upto_region 11 with fail
    go_wp2_with (refine wpList_store_row rfl _ _ _ rfl (w.heap.size + 1) #[.int .i64 (m 0), .int .i64 (m 1), .int .i64 (m 2), .int .i64 (m 3)] rfl rfl 96 _ HZ4.o size_ck rfl (ck_one _ _ _ _) ?_)
    (try simp only [Act.put])
    go_wp2_with fail
    have HR := Lh (setRow_heap wr (w.heap.size + 1) _ #[.int .i64 (m 0), .int .i64 (m 1), .int .i64 (m 2), .int .i64 (m 3)] _ _ HZ4.o)
    refine bodyPost_ret_by (results_cell_row rfl _ _ (w.heap.size + 1) 96 _ (0, 0) _ rfl HR.o Tryz.underlying96 rfl size_ck) rfl ?_
    refine ⟨by rw [HM.o], by rw [HS.o]; exact HX4.o.kept (rowK (by omega)), ⟨HF4.o.os, HF4.o.tape, HF4.o.output, by have := HF4.o.size; simpa [World.setRow] using this, fun g hg hf => (rowK (by omega)).trans (HF4.o.block g hg hf)⟩⟩
   | true =>
    have HS : Hid (tL (tickS x ⟨t, 3, a, true⟩) = tL ⟨(x.own t m).m, fun i => if i = a then m else (x.own t m).wd i⟩) := tL_congr (fun i k _ _ => by
     unfold tickS TS.own
     dsimp only
     rw [HM.o]) (fun i k _ _ => by
     unfold tickS TS.own
     dsimp only
     by_cases hi : i = a
     ·rw [if_pos ⟨rfl, rfl, hi⟩, if_pos hi, HM.o]
     ·rw [if_neg (fun h => hi h.2.2), if_neg hi])
    have k2 := HE4.o.cell (i := 2) rfl
    have v0 : wr.cell? ⟨gx, t * 4, none⟩ = some (.int .i64 (m 0)) := HX4.o.cell ((tL_m _ ht (i := 0) (by omega)).trans (by simp [TS.own]))
    have v1 : wr.cell? ⟨gx, t * 4 + 1, none⟩ = some (.int .i64 (m 1)) := HX4.o.cell ((tL_m _ ht (i := 1) (by omega)).trans (by simp [TS.own]))
    have v2 : wr.cell? ⟨gx, t * 4 + 2, none⟩ = some (.int .i64 (m 2)) := HX4.o.cell ((tL_m _ ht (i := 2) (by omega)).trans (by simp [TS.own]))
    have v3 : wr.cell? ⟨gx, t * 4 + 3, none⟩ = some (.int .i64 (m 3)) := HX4.o.cell ((tL_m _ ht (i := 3) (by omega)).trans (by simp [TS.own]))
    have y0 : wr.cell? ⟨gx, 16 + a * 4, none⟩ = some (.int .i64 (x.wd a 0)) := HX4.o.cell (tL_w _ ha (i := 0) (by omega))
    have y1 : wr.cell? ⟨gx, 16 + a * 4 + 1, none⟩ = some (.int .i64 (x.wd a 1)) := HX4.o.cell (tL_w _ ha (i := 1) (by omega))
    have y2 : wr.cell? ⟨gx, 16 + a * 4 + 2, none⟩ = some (.int .i64 (x.wd a 2)) := HX4.o.cell (tL_w _ ha (i := 2) (by omega))
    have y3 : wr.cell? ⟨gx, 16 + a * 4 + 3, none⟩ = some (.int .i64 (x.wd a 3)) := HX4.o.cell (tL_w _ ha (i := 3) (by omega))
    have z0 := HX4.o.frozen (16 + a * 4)
    have z1 := HX4.o.frozen (16 + a * 4 + 1)
    have z2 := HX4.o.frozen (16 + a * 4 + 2)
    have z3 := HX4.o.frozen (16 + a * 4 + 3)
    go_upto_region 10 with fail
    go_still_tail 8, (by kernel_rfl)
    go_upto_region 11 with fail
    obtain ⟨w5, hw5, HX5, HZ5, HF5⟩ : ∃ Z9, Z9 = ((((wr.setCell ⟨gx, 16 + a * 4, none⟩ (.int .i64 (m 0))).setCell ⟨gx, 16 + a * 4 + 1, none⟩ (.int .i64 (m 1))).setCell ⟨gx, 16 + a * 4 + 2, none⟩ (.int .i64 (m 2))).setCell ⟨gx, 16 + a * 4 + 3, none⟩ (.int .i64 (m 3))).drew /\ Hid (Blk Z9 gx 100 (tL ⟨(x.own t m).m, fun i => if i = a then m else (x.own t m).wd i⟩)) /\ Hid (Blk Z9 (w.heap.size + 1) 96 [.int .i64 0, .int .i64 0, .int .i64 0, .int .i64 0]) /\ Hid (Fr (fun g => g = gx) w Z9) := by
     refine ⟨_, rfl, ?_, (((HZ4.o.far (by dsimp only; omega) _).far (by dsimp only; omega) _).far (by dsimp only; omega) _).far (by dsimp only; omega) _, ((((HF4.o.setCell (p := ⟨gx, 16 + a * 4, none⟩) rfl _).setCell (p := ⟨gx, 16 + a * 4 + 1, none⟩) rfl _).setCell (p := ⟨gx, 16 + a * 4 + 2, none⟩) rfl _).setCell (p := ⟨gx, 16 + a * 4 + 3, none⟩) rfl _).drew⟩
     have h9 := (((HX4.o.set_ (16 + a * 4) (.int .i64 (m 0))).set_ (16 + a * 4 + 1) (.int .i64 (m 1))).set_ (16 + a * 4 + 2) (.int .i64 (m 2))).set_ (16 + a * 4 + 3) (.int .i64 (m 3))
     rw [tL_word _ ha] at h9
     exact h9
    rw [<- hw5]
    clear hw5 y0 y1 y2 y3 z0 z1 z2 z3 v0 v1 v2 v3 k2 k3 HX4 HZ4 HF4
    have HX4 := HX5
    have HZ4 := HZ5
    have HF4 := HF5
    have v0 : w5.cell? ⟨gx, t * 4, none⟩ = some (.int .i64 (m 0)) := HX4.o.cell ((tL_m _ ht (i := 0) (by omega)).trans (by simp [TS.own]))
    have v1 : w5.cell? ⟨gx, t * 4 + 1, none⟩ = some (.int .i64 (m 1)) := HX4.o.cell ((tL_m _ ht (i := 1) (by omega)).trans (by simp [TS.own]))
    have v2 : w5.cell? ⟨gx, t * 4 + 2, none⟩ = some (.int .i64 (m 2)) := HX4.o.cell ((tL_m _ ht (i := 2) (by omega)).trans (by simp [TS.own]))
    have v3 : w5.cell? ⟨gx, t * 4 + 3, none⟩ = some (.int .i64 (m 3)) := HX4.o.cell ((tL_m _ ht (i := 3) (by omega)).trans (by simp [TS.own]))
    go_upto_region 11 with fail
    go_wp2_with (refine wpList_store_row rfl _ _ _ rfl (w.heap.size + 1) #[.int .i64 (m 0), .int .i64 (m 1), .int .i64 (m 2), .int .i64 (m 3)] rfl rfl 96 _ HZ4.o size_ck rfl (ck_one _ _ _ _) ?_)
    (try simp only [Act.put])
    go_wp2_with fail
    have HR := Lh (setRow_heap w5 (w.heap.size + 1) _ #[.int .i64 (m 0), .int .i64 (m 1), .int .i64 (m 2), .int .i64 (m 3)] _ _ HZ4.o)
    refine bodyPost_ret_by (results_cell_row rfl _ _ (w.heap.size + 1) 96 _ (0, 0) _ rfl HR.o Tryz.underlying96 rfl size_ck) rfl ?_
    refine ⟨by rw [HM.o], by rw [HS.o]; exact HX4.o.kept (rowK (by omega)), ⟨HF4.o.os, HF4.o.tape, HF4.o.output, by have := HF4.o.size; simpa [World.setRow] using this, fun g hg hf => (rowK (by omega)).trans (HF4.o.block g hg hf)⟩⟩
end Go.Proofs.YtgjdgapfnfhklaaGreat
