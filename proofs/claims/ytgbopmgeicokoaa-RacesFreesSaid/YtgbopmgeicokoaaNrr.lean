/-
  races.node.races: an event's races, by the numbers kept beside a node.
-/
import Derived.Test.YtgbopmgeicokoaaNrc
import Derived.Deep.RegionHeld3
namespace Go.Proofs.Ytgbopmgeicokoaa
open Go.RowKit

/-- the numbers behind an event -/
def lastU (la : Int → Nat → Nat → Int) (e : Ev) (v : Int) : Int → Nat → Nat → Int :=
  if e.k = 1 then setL la 0 e.a e.t v else if e.k = 2 then setL la 1 e.a e.t v else if e.wr = true then setL (setL la 2 e.a e.t v) 3 e.a e.t v else setL la 2 e.a e.t v
def NrcR (gn : Nat) (pre post : List Value) (x : TS) (la : Int → Nat → Nat → Int) (e : Ev) (w : World) (en : Ending) (w' : World) : Prop :=
  en = .returned (.bool (foundB x la e 4)) ∧ NB w' gn pre post (tickS x e) (lastU la e (tickM x e e.t)) ∧ Fr (fun g => g = gn) w w'
theorem foundB_next {x : TS} {la : Int → Nat → Nat → Int} {e : Ev} {t : Nat} {b : Bool} (h : foundB x la e t = b) : foundB x la e (t + 1) = (b || (!decide (t = e.t) && lateB x la e t)) := by rw [foundB, h]
theorem Fr.blk {F : Nat → Prop} {W W' : World} {g : Nat} {t : TypeId} {cs : List Value} (h : Fr F W W') (hb : Blk W g t cs) (hg : ¬ F g) : Blk W' g t cs := hb.kept (h.block g hb.lt hg)
/-- what stands at a round -/
structure NrI (gn : Nat) (pre post : List Value) (y : TS) (la : Int → Nat → Nat → Int) (t0 a : Nat) (kd : Int) (rw : Bool) (m : Clk) (w : World) (g5 : Nat) (W : World) : Prop where
  nb : NB W gn pre post y la
  e : Blk W w.heap.size 120 [.int .i64 t0, .int .i64 kd, .int .i64 a, .bool rw]
  n : Blk W g5 173 (ints (clkL 4 m))
  f : Fr (fun g => g = gn) w W
theorem NrI.on {gn : Nat} {pre post : List Value} {y : TS} {la : Int → Nat → Nat → Int} {t0 a : Nat} {kd : Int} {rw : Bool} {m : Clk} {w : World} {g5 : Nat} {W W' : World} (h : NrI gn pre post y la t0 a kd rw m w g5 W) (hb : Below W.heap.size W W') : NrI gn pre post y la t0 a kd rw m w g5 W' :=
  ⟨h.nb.on hb, h.e.below hb h.e.lt, h.n.below hb h.n.lt, h.f.trans (Fr.of hb)⟩

set_option maxRecDepth 100000 in
set_option maxHeartbeats 16000000 in
theorem races_any (gn : Nat) (pre post : List Value) (x : TS) (la : Int → Nat → Nat → Int) (t0 : Nat) (kd : Int) (a : Nat) (rw : Bool) (w : World) (hx : NB w gn pre post x la) (ht : t0 < 4) (ha : a < 6) (hwf : EvWf ⟨t0, kd, a, rw⟩) :
    Calls Try.prog 97 #[.pointer (some ⟨gn, 0, none⟩), .agg #[.int .i64 t0, .int .i64 kd, .int .i64 a, .bool rw]] w (NrcR gn pre post x la ⟨t0, kd, a, rw⟩ w) := by
  obtain ⟨w0, hw0⟩ : ∃ w0 : World, w0 = w.alloc (.cells #[.int .i64 t0, .int .i64 kd, .int .i64 a, .bool rw] 120) := ⟨_, rfl⟩
  have HE0 : Hid (Blk w0 w.heap.size 120 [.int .i64 t0, .int .i64 kd, .int .i64 a, .bool rw]) := by rw [hw0]; exact Blk.new w 120 [.int .i64 t0, .int .i64 kd, .int .i64 a, .bool rw]
  have hF0 : Below w.heap.size w w0 := by rw [hw0]; exact (Below.refl _ _).alloc (Nat.le_refl _) _
  have HN0 := Lib.hid (hx.on hF0)
  have HF0 := Lib.hid hF0
  have hgn := hx.b.lt
  have HWe := Lib.hid hw0
  have HWf := Lib.hid hwf
  have hz0 : w.heap.size < w0.heap.size := HE0.out.lt
  clear hx hw0 hF0 hwf
  have e0 : (0 : Int) ≤ t0 := by omega
  have e1 : (t0 : Int) < 4 := by omega
  have e2 : (0 : Int) ≤ a := by omega
  have e3 : (a : Int) < 6 := by omega
  go_enter Try.func97, Try.ntmps97
  go_upto_region 1 with fail
  rw [← HWe.out]
  clear HWe
  obtain ⟨m, hm⟩ : ∃ m, m = tickM x ⟨t0, kd, a, rw⟩ := ⟨_, rfl⟩
  have HM := Lib.hid hm
  clear hm
  go_cut [5] (fun s5 wc => ∃ g5, s5 = .pointer (some ⟨g5, 0, none⟩) ∧ w.heap.size < g5 ∧ Hid (NrI gn pre post (tickS x ⟨t0, kd, a, rw⟩) la t0 a kd rw m w g5 wc))
  case first =>
    refine wp_region_held_drew (S := fun W => Blk W w.heap.size 120 [.int .i64 t0, .int .i64 kd, .int .i64 a, .bool rw]) (by kernel_rfl) HE0.out (fun hS => ?_)
    refine wpAnyH_take (i := 0) (v := .pointer (some ⟨gn, 0, none⟩)) rfl (by kernel_rfl) (by kernel_rfl) (by kernel_rfl) (fun _ _ _ h => h) (Or.inl ⟨by rfl, ?_⟩) (by assumption) ?_
    · (intro W hSw; (try dsimp only at hSw); go_simp)
    show wpAnyH _ _ _ _ _ _ _ (Act.put _ (some 12) _) _
    simp only [Act.put, List.setIfInBounds_toArray, List.set_cons_zero, List.set_cons_succ]
    refine wpAnyH_take (i := 1) (v := .pointer (some ⟨gn, 0, none⟩)) rfl (by kernel_rfl) (by kernel_rfl) (by kernel_rfl) (fun _ _ _ h => h) (Or.inl ⟨by rfl, ?_⟩) (by assumption) ?_
    · (intro W hSw; (try dsimp only at hSw); go_simp)
    show wpAnyH _ _ _ _ _ _ _ (Act.put _ (some 13) _) _
    simp only [Act.put, List.setIfInBounds_toArray, List.set_cons_zero, List.set_cons_succ]
    refine wpAnyH_take (i := 2) (v := .pointer (some ⟨gn, 4, none⟩)) rfl (by kernel_rfl) (by kernel_rfl) (by kernel_rfl) (fun _ _ _ h => h) (Or.inl ⟨by rfl, ?_⟩) (by assumption) ?_
    · (intro W hSw; (try dsimp only at hSw); go_simp)
    show wpAnyH _ _ _ _ _ _ _ (Act.put _ (some 14) _) _
    simp only [Act.put, List.setIfInBounds_toArray, List.set_cons_zero, List.set_cons_succ]
    refine wpAnyH_take (i := 3) (v := .pointer (some ⟨gn, 30, none⟩)) rfl (by kernel_rfl) (by kernel_rfl) (by kernel_rfl) (fun _ _ _ h => h) (Or.inl ⟨by rfl, ?_⟩) (by assumption) ?_
    · (intro W hSw; (try dsimp only at hSw); go_simp)
    show wpAnyH _ _ _ _ _ _ _ (Act.put _ (some 15) _) _
    simp only [Act.put, List.setIfInBounds_toArray, List.set_cons_zero, List.set_cons_succ]
    refine wpAnyH_take (i := 4) (v := .agg #[.int .i64 t0, .int .i64 kd, .int .i64 a, .bool rw]) rfl (by kernel_rfl) (by kernel_rfl) (by kernel_rfl) (fun _ _ _ h => h) (Or.inl ⟨by rfl, ?_⟩) (by assumption) ?_
    · (intro W hSw; (try dsimp only at hSw); have a0 := hSw.cell (i := 0) rfl; have a1 := hSw.cell (i := 1) rfl; have a2 := hSw.cell (i := 2) rfl; have a3 := hSw.cell (i := 3) rfl; go_simp)
    show wpAnyH _ _ _ _ _ _ _ (Act.put _ (some 16) _) _
    simp only [Act.put, List.setIfInBounds_toArray, List.set_cons_zero, List.set_cons_succ]
    obtain ⟨V0, hV9, HNV0, HEV0, HFV0⟩ : ∃ Z9, Z9 = w0.drew ∧ Hid (NB Z9 gn pre post x la) ∧ Hid (Blk Z9 w.heap.size 120 [.int .i64 t0, .int .i64 kd, .int .i64 a, .bool rw]) ∧ Hid (Fr (fun g => g = gn) w Z9) := ⟨_, rfl, HN0.out.on (Below.refl _ _).drew, HE0.out, (Fr.of HF0.out).drew⟩
    rw [← hV9]
    clear hV9
    refine wpAnyH_ready (rs := [5, 6]) (by kernel_rfl) (by simp) (AllReadyH.cons rfl (fun K1 hK1 => ?_) (AllReadyH.cons rfl (fun K1 hK1 => ?_) AllReadyH.nil))
    · rw [if_pos (by rfl)]
      go_simp
      go_at_call 91
      refine (tickn_any gn pre (lastL la ++ post) x t0 kd a rw V0 (HNV0.out.tb) ht ha).mono ?_
      rintro e V1 ⟨rfl, hbV1, hfV1⟩
      have HNV1 : Hid (NB V1 gn pre post (tickS x ⟨t0, kd, a, rw⟩) la) := NB.of hbV1
      have HEV1 := Lib.hid (hfV1.blk HEV0.out (fun h9 => by have h8 : w.heap.size = gn := h9; omega))
      have HFV1 : Hid (Fr (fun g => g = gn) w V1) := HFV0.out.trans hfV1
      have hzV1 := hfV1.size
      clear hbV1 hfV1
      refine hK1.out _ _ HEV1.out (fun hS1 => ?_)
      refine wpAnyH_ready (rs := [6]) (by kernel_rfl) (by simp) (AllReadyH.cons rfl (fun K2 hK2 => ?_) (AllReadyH.nil))
      rw [if_pos (by rfl)]
      go_simp
      refine hK2.out _ _ (HEV1.out.alloc _) (fun hS2 => ?_)
      obtain ⟨g5, hg5⟩ : ∃ g5, g5 = V1.heap.size := ⟨_, rfl⟩
      obtain ⟨V2, hV2, HZV2, HNV2, HEV2, HFV2, hzV2⟩ : ∃ Z9, Z9 = V1.alloc (.cells #[.int .i64 0, .int .i64 0, .int .i64 0, .int .i64 0] 173) ∧ Hid (Blk Z9 g5 173 [.int .i64 0, .int .i64 0, .int .i64 0, .int .i64 0]) ∧ Hid (NB Z9 gn pre post (tickS x ⟨t0, kd, a, rw⟩) la) ∧ Hid (Blk Z9 w.heap.size 120 [.int .i64 t0, .int .i64 kd, .int .i64 a, .bool rw]) ∧ Hid (Fr (fun g => g = gn) w Z9) ∧ V1.heap.size ≤ Z9.heap.size := ⟨_, rfl, by rw [hg5]; exact Blk.new _ _ _, HNV1.out.on ((Below.refl _ _).alloc (Nat.le_refl _) _), HEV1.out.alloc _, HFV1.out.alloc _, by simp⟩
      have hg5g : gn < g5 := by have := HNV1.out.b.lt; omega
      have hg5w : w.heap.size < g5 := by have := HEV1.out.lt; omega
      rw [← hV2, ← hg5]
      clear hV2 hg5
      refine wpAnyH_ready (rs := [7]) (by kernel_rfl) (by simp) (AllReadyH.cons rfl (fun K3 hK3 => ?_) (AllReadyH.nil))
      rw [if_pos (by rfl)]
      refine wp_store_row _ _ _ rfl g5 #[.int .i64 (tickM x ⟨t0, kd, a, rw⟩ 0), .int .i64 (tickM x ⟨t0, kd, a, rw⟩ 1), .int .i64 (tickM x ⟨t0, kd, a, rw⟩ 2), .int .i64 (tickM x ⟨t0, kd, a, rw⟩ 3)] rfl rfl 173 _ HZV2.out size_ck rfl (ck_one _ _ _ _) ?_
      refine hK3.out _ _ (HEV2.out.kept (rowK (by omega))) (fun _ => ?_)
      refine wpAnyH_done (by kernel_rfl) ?_ _
      have HNx : Hid (NrI gn pre post (tickS x ⟨t0, kd, a, rw⟩) la t0 a kd rw m w g5 (V2.setRow g5 #[.int .i64 (tickM x ⟨t0, kd, a, rw⟩ 0), .int .i64 (tickM x ⟨t0, kd, a, rw⟩ 1), .int .i64 (tickM x ⟨t0, kd, a, rw⟩ 2), .int .i64 (tickM x ⟨t0, kd, a, rw⟩ 3)])) := by
        refine ⟨⟨HNV2.out.p, HNV2.out.b.kept (rowK (by omega))⟩, HEV2.out.kept (rowK (by omega)), ?_, ⟨HFV2.out.os, HFV2.out.tape, HFV2.out.output, by have := HFV2.out.size; simpa [World.setRow] using this, fun g hg hf => (rowK (by omega)).trans (HFV2.out.block g hg hf)⟩⟩
        rw [HM.out]
        exact setRow_heap V2 g5 _ #[.int .i64 (tickM x ⟨t0, kd, a, rw⟩ 0), .int .i64 (tickM x ⟨t0, kd, a, rw⟩ 1), .int .i64 (tickM x ⟨t0, kd, a, rw⟩ 2), .int .i64 (tickM x ⟨t0, kd, a, rw⟩ 3)] _ _ HZV2.out
      go_wp2_with fail
      go_meet
      exact ⟨g5, rfl, hg5w, HNx⟩
    · rw [if_pos (by rfl)]
      go_simp
      refine hK1.out _ _ (HEV0.out.alloc _) (fun hS1 => ?_)
      obtain ⟨g5, hg5⟩ : ∃ g5, g5 = V0.heap.size := ⟨_, rfl⟩
      obtain ⟨V1, hV1, HZV1, HNV1, HEV1, HFV1, hzV1⟩ : ∃ Z9, Z9 = V0.alloc (.cells #[.int .i64 0, .int .i64 0, .int .i64 0, .int .i64 0] 173) ∧ Hid (Blk Z9 g5 173 [.int .i64 0, .int .i64 0, .int .i64 0, .int .i64 0]) ∧ Hid (NB Z9 gn pre post x la) ∧ Hid (Blk Z9 w.heap.size 120 [.int .i64 t0, .int .i64 kd, .int .i64 a, .bool rw]) ∧ Hid (Fr (fun g => g = gn) w Z9) ∧ V0.heap.size ≤ Z9.heap.size := ⟨_, rfl, by rw [hg5]; exact Blk.new _ _ _, HNV0.out.on ((Below.refl _ _).alloc (Nat.le_refl _) _), HEV0.out.alloc _, HFV0.out.alloc _, by simp⟩
      have hg5g : gn < g5 := by have := HNV0.out.b.lt; omega
      have hg5w : w.heap.size < g5 := by have := HEV0.out.lt; omega
      rw [← hV1, ← hg5]
      clear hV1 hg5
      refine wpAnyH_ready (rs := [5]) (by kernel_rfl) (by simp) (AllReadyH.cons rfl (fun K2 hK2 => ?_) (AllReadyH.nil))
      rw [if_pos (by rfl)]
      go_simp
      go_at_call 91
      refine (tickn_any gn pre (lastL la ++ post) x t0 kd a rw V1 (HNV1.out.tb) ht ha).mono ?_
      rintro e V2 ⟨rfl, hbV2, hfV2⟩
      have HNV2 : Hid (NB V2 gn pre post (tickS x ⟨t0, kd, a, rw⟩) la) := NB.of hbV2
      have HEV2 := Lib.hid (hfV2.blk HEV1.out (fun h9 => by have h8 : w.heap.size = gn := h9; omega))
      have HFV2 : Hid (Fr (fun g => g = gn) w V2) := HFV1.out.trans hfV2
      have hzV2 := hfV2.size
      have HZV2 := Lib.hid (hfV2.blk HZV1.out (fun h9 => by have h8 : g5 = gn := h9; omega))
      clear hbV2 hfV2
      refine hK2.out _ _ HEV2.out (fun hS2 => ?_)
      refine wpAnyH_ready (rs := [7]) (by kernel_rfl) (by simp) (AllReadyH.cons rfl (fun K3 hK3 => ?_) (AllReadyH.nil))
      rw [if_pos (by rfl)]
      refine wp_store_row _ _ _ rfl g5 #[.int .i64 (tickM x ⟨t0, kd, a, rw⟩ 0), .int .i64 (tickM x ⟨t0, kd, a, rw⟩ 1), .int .i64 (tickM x ⟨t0, kd, a, rw⟩ 2), .int .i64 (tickM x ⟨t0, kd, a, rw⟩ 3)] rfl rfl 173 _ HZV2.out size_ck rfl (ck_one _ _ _ _) ?_
      refine hK3.out _ _ (HEV2.out.kept (rowK (by omega))) (fun _ => ?_)
      refine wpAnyH_done (by kernel_rfl) ?_ _
      have HNx : Hid (NrI gn pre post (tickS x ⟨t0, kd, a, rw⟩) la t0 a kd rw m w g5 (V2.setRow g5 #[.int .i64 (tickM x ⟨t0, kd, a, rw⟩ 0), .int .i64 (tickM x ⟨t0, kd, a, rw⟩ 1), .int .i64 (tickM x ⟨t0, kd, a, rw⟩ 2), .int .i64 (tickM x ⟨t0, kd, a, rw⟩ 3)])) := by
        refine ⟨⟨HNV2.out.p, HNV2.out.b.kept (rowK (by omega))⟩, HEV2.out.kept (rowK (by omega)), ?_, ⟨HFV2.out.os, HFV2.out.tape, HFV2.out.output, by have := HFV2.out.size; simpa [World.setRow] using this, fun g hg hf => (rowK (by omega)).trans (HFV2.out.block g hg hf)⟩⟩
        rw [HM.out]
        exact setRow_heap V2 g5 _ #[.int .i64 (tickM x ⟨t0, kd, a, rw⟩ 0), .int .i64 (tickM x ⟨t0, kd, a, rw⟩ 1), .int .i64 (tickM x ⟨t0, kd, a, rw⟩ 2), .int .i64 (tickM x ⟨t0, kd, a, rw⟩ 3)] _ _ HZV2.out
      go_wp2_with fail
      go_meet
      exact ⟨g5, rfl, hg5w, HNx⟩
  case rest =>
    obtain ⟨g5, rfl, hg5, HI⟩ := hcut
    clear HE0 HN0 HF0 hz0
    go_upto_region 4 with fail
    go_loopg [6, 18] 4 (fun gk v6 i wr => ∃ (t : Nat) (b : Bool), t + gk = 4 ∧ i = .int .i64 t ∧ v6 = .bool b ∧ foundB x la ⟨t0, kd, a, rw⟩ t = b ∧ Hid (NrI gn pre post (tickS x ⟨t0, kd, a, rw⟩) la t0 a kd rw m w g5 wr))
    case atStart => exact ⟨0, false, by omega, rfl, rfl, rfl, HI⟩
    case round =>
      clear HI
      obtain ⟨t, b, htk, rfl, rfl, hfb, HJ⟩ := hrel
      by_cases hlt : t < 4
      · have f1 : (t : Int) < 4 := by omega
        have f0 : (0 : Int) ≤ t := by omega
        have HFb := Lib.hid hfb
        clear hfb
        go_upto_region 6 with fail
        obtain ⟨g7, hg7⟩ : ∃ g7, g7 = wr.heap.size := ⟨_, rfl⟩
        obtain ⟨x1, hx1, H7, HJ1⟩ : ∃ Z9, Z9 = wr.alloc (.cells #[.int .i64 t] 3) ∧ Hid (Blk Z9 g7 3 [.int .i64 t]) ∧ Hid (NrI gn pre post (tickS x ⟨t0, kd, a, rw⟩) la t0 a kd rw m w g5 Z9) := ⟨_, rfl, by rw [hg7]; exact Blk.new _ _ _, HJ.out.on ((Below.refl _ _).alloc (Nat.le_refl _) _)⟩
        rw [← hx1, ← hg7]
        clear hx1 hg7
        have c7 : x1.cell? ⟨g7, 0, none⟩ = some (.int .i64 t) := H7.out.cell rfl
        have a0 : x1.cell? ⟨w.heap.size, 0, none⟩ = some (.int .i64 t0) := HJ1.out.e.cell rfl
        by_cases hte : t = t0
        · have d1 : ((t : Int) == (t0 : Int)) = true := by simp; omega
          have d2 : (t : Int) = (t0 : Int) := by omega
          go_wp2_with fail
          go_roundg (gk - 1)
          case measure => omega
          case rel => exact ⟨t + 1, b, by omega, by go_num, rfl, by rw [foundB_next HFb.out]; simp [hte], HJ1⟩
        · have d1 : ((t : Int) == (t0 : Int)) = false := by simp; omega
          have d2 : ¬ (t : Int) = (t0 : Int) := by omega
          go_upto_region 7 with fail
          have HSo : Hid (∀ W, Below x1.heap.size x1 W → W.cell? ⟨w.heap.size, 2, none⟩ = some (.int .i64 a) ∧ W.cell? ⟨g7, 0, none⟩ = some (.int .i64 t) ∧ W.cell? ⟨gn, 70 + a * 16 + t * 4, none⟩ = some (.int .i64 (la (kdOf 0) a t)) ∧ W.cell? ⟨gn, 70 + a * 16 + t * 4 + 1, none⟩ = some (.int .i64 (la (kdOf 1) a t)) ∧ W.cell? ⟨gn, 70 + a * 16 + t * 4 + 2, none⟩ = some (.int .i64 (la (kdOf 2) a t)) ∧ W.cell? ⟨gn, 70 + a * 16 + t * 4 + 3, none⟩ = some (.int .i64 (la (kdOf 3) a t))) := fun W hW => by
            have hn := HJ1.out.on hW
            exact ⟨hn.e.cell rfl, (H7.out.below hW H7.out.lt).cell rfl, hn.nb.lastq (by omega) ha hlt (by decide), hn.nb.lastq (by omega) ha hlt (by decide), hn.nb.lastq (by omega) ha hlt (by decide), hn.nb.lastq (by omega) ha hlt (by decide)⟩
          clear c7 a0 d1 d2
          refine wp_region_held_drew (S := fun W => W.cell? ⟨w.heap.size, 2, none⟩ = some (.int .i64 a) ∧ W.cell? ⟨g7, 0, none⟩ = some (.int .i64 t) ∧ W.cell? ⟨gn, 70 + a * 16 + t * 4, none⟩ = some (.int .i64 (la (kdOf 0) a t)) ∧ W.cell? ⟨gn, 70 + a * 16 + t * 4 + 1, none⟩ = some (.int .i64 (la (kdOf 1) a t)) ∧ W.cell? ⟨gn, 70 + a * 16 + t * 4 + 2, none⟩ = some (.int .i64 (la (kdOf 2) a t)) ∧ W.cell? ⟨gn, 70 + a * 16 + t * 4 + 3, none⟩ = some (.int .i64 (la (kdOf 3) a t))) (by kernel_rfl) (HSo.out _ (Below.refl _ _).drew) (fun hS => ?_)
          refine wpAnyH_take (i := 0) (v := .pointer (some ⟨gn, 0, none⟩)) rfl (by kernel_rfl) (by kernel_rfl) (by kernel_rfl) (fun _ _ _ h => h) (Or.inl ⟨by rfl, ?_⟩) (by assumption) ?_
          · (intro W hSw; (try dsimp only at hSw); go_simp)
          show wpAnyH _ _ _ _ _ _ _ (Act.put _ (some 25) _) _
          simp only [Act.put, List.setIfInBounds_toArray, List.set_cons_zero, List.set_cons_succ]
          refine wpAnyH_take (i := 1) (v := .pointer (some ⟨w.heap.size, 2, none⟩)) rfl (by kernel_rfl) (by kernel_rfl) (by kernel_rfl) (fun _ _ _ h => h) (Or.inl ⟨by rfl, ?_⟩) (by assumption) ?_
          · (intro W hSw; (try dsimp only at hSw); go_simp)
          show wpAnyH _ _ _ _ _ _ _ (Act.put _ (some 26) _) _
          simp only [Act.put, List.setIfInBounds_toArray, List.set_cons_zero, List.set_cons_succ]
          refine wpAnyH_take (i := 2) (v := .int .i64 a) rfl (by kernel_rfl) (by kernel_rfl) (by kernel_rfl) (fun _ _ _ h => h) (Or.inl ⟨by rfl, ?_⟩) (by assumption) ?_
          · (intro W hSw; (try dsimp only at hSw); go_simp)
          show wpAnyH _ _ _ _ _ _ _ (Act.put _ (some 27) _) _
          simp only [Act.put, List.setIfInBounds_toArray, List.set_cons_zero, List.set_cons_succ]
          refine wpAnyH_take (i := 3) (v := .int .i64 t) rfl (by kernel_rfl) (by kernel_rfl) (by kernel_rfl) (fun _ _ _ h => h) (Or.inl ⟨by rfl, ?_⟩) (by assumption) ?_
          · (intro W hSw; (try dsimp only at hSw); go_simp)
          show wpAnyH _ _ _ _ _ _ _ (Act.put _ (some 28) _) _
          simp only [Act.put, List.setIfInBounds_toArray, List.set_cons_zero, List.set_cons_succ]
          refine wpAnyH_take (i := 4) (v := .pointer (some ⟨gn, 0, none⟩)) rfl (by kernel_rfl) (by kernel_rfl) (by kernel_rfl) (fun _ _ _ h => h) (Or.inl ⟨by rfl, ?_⟩) (by assumption) ?_
          · (intro W hSw; (try dsimp only at hSw); go_simp)
          show wpAnyH _ _ _ _ _ _ _ (Act.put _ (some 29) _) _
          simp only [Act.put, List.setIfInBounds_toArray, List.set_cons_zero, List.set_cons_succ]
          refine wpAnyH_take (i := 5) (v := .pointer (some ⟨gn, 4, none⟩)) rfl (by kernel_rfl) (by kernel_rfl) (by kernel_rfl) (fun _ _ _ h => h) (Or.inl ⟨by rfl, ?_⟩) (by assumption) ?_
          · (intro W hSw; (try dsimp only at hSw); go_simp)
          show wpAnyH _ _ _ _ _ _ _ (Act.put _ (some 30) _) _
          simp only [Act.put, List.setIfInBounds_toArray, List.set_cons_zero, List.set_cons_succ]
          refine wpAnyH_take (i := 6) (v := .pointer (some ⟨gn, 70, none⟩)) rfl (by kernel_rfl) (by kernel_rfl) (by kernel_rfl) (fun _ _ _ h => h) (Or.inl ⟨by rfl, ?_⟩) (by assumption) ?_
          · (intro W hSw; (try dsimp only at hSw); go_simp)
          show wpAnyH _ _ _ _ _ _ _ (Act.put _ (some 31) _) _
          simp only [Act.put, List.setIfInBounds_toArray, List.set_cons_zero, List.set_cons_succ]
          refine wpAnyH_take (i := 7) (v := .pointer (some ⟨gn, 70 + a * 16, none⟩)) rfl (by kernel_rfl) (by kernel_rfl) (by kernel_rfl) (fun _ _ _ h => h) (Or.inl ⟨by rfl, ?_⟩) (by assumption) ?_
          · (intro W hSw; (try dsimp only at hSw); go_simp)
          show wpAnyH _ _ _ _ _ _ _ (Act.put _ (some 32) _) _
          simp only [Act.put, List.setIfInBounds_toArray, List.set_cons_zero, List.set_cons_succ]
          refine wpAnyH_take (i := 8) (v := .pointer (some ⟨gn, 70 + a * 16 + t * 4, none⟩)) rfl (by kernel_rfl) (by kernel_rfl) (by kernel_rfl) (fun _ _ _ h => h) (Or.inl ⟨by rfl, ?_⟩) (by assumption) ?_
          · (intro W hSw; (try dsimp only at hSw); go_simp)
          show wpAnyH _ _ _ _ _ _ _ (Act.put _ (some 33) _) _
          simp only [Act.put, List.setIfInBounds_toArray, List.set_cons_zero, List.set_cons_succ]
          refine wpAnyH_take (i := 9) (v := .agg #[.int .i64 (la (kdOf 0) a t), .int .i64 (la (kdOf 1) a t), .int .i64 (la (kdOf 2) a t), .int .i64 (la (kdOf 3) a t)]) rfl (by kernel_rfl) (by kernel_rfl) (by kernel_rfl) (fun _ _ _ h => h) (Or.inl ⟨by rfl, ?_⟩) (by assumption) ?_
          · (intro W hSw; (try dsimp only at hSw); go_simp)
          show wpAnyH _ _ _ _ _ _ _ (Act.put _ (some 34) _) _
          simp only [Act.put, List.setIfInBounds_toArray, List.set_cons_zero, List.set_cons_succ]
          obtain ⟨V0, hV9, HVb⟩ : ∃ Z9, Z9 = x1.drew ∧ Hid (Below x1.heap.size x1 Z9) := ⟨_, rfl, (Below.refl _ _).drew⟩
          rw [← hV9]
          clear hV9
          refine wpAnyH_ready (rs := [10]) (by kernel_rfl) (by simp) (AllReadyH.cons rfl (fun K1 hK1 => ?_) (AllReadyH.nil))
          rw [if_pos (by rfl)]
          go_simp
          refine hK1.out _ _ (HSo.out _ (HVb.out.alloc HVb.out.size _)) (fun _ => ?_)
          refine wpAnyH_ready (rs := [11]) (by kernel_rfl) (by simp) (AllReadyH.cons rfl (fun K2 hK2 => ?_) (AllReadyH.nil))
          rw [if_pos (by rfl)]
          have hx4 : Blk (V0.alloc (.cells #[.int .i64 0, .int .i64 0, .int .i64 0, .int .i64 0] 173)) V0.heap.size 173 [.int .i64 0, .int .i64 0, .int .i64 0, .int .i64 0] := Blk.new V0 173 [.int .i64 0, .int .i64 0, .int .i64 0, .int .i64 0]
          refine wp_store_row _ _ _ rfl V0.heap.size #[.int .i64 (la (kdOf 0) a t), .int .i64 (la (kdOf 1) a t), .int .i64 (la (kdOf 2) a t), .int .i64 (la (kdOf 3) a t)] rfl rfl 173 _ hx4 size_ck rfl (ck_one _ _ _ _) ?_
          have hb4 : Below x1.heap.size x1 ((V0.alloc (.cells #[.int .i64 0, .int .i64 0, .int .i64 0, .int .i64 0] 173)).setRow V0.heap.size #[.int .i64 (la (kdOf 0) a t), .int .i64 (la (kdOf 1) a t), .int .i64 (la (kdOf 2) a t), .int .i64 (la (kdOf 3) a t)]) := rowB (HVb.out.alloc HVb.out.size _) HVb.out.size
          refine hK2.out _ _ (HSo.out _ hb4) (fun _ => ?_)
          refine wpAnyH_done (by kernel_rfl) ?_ _
          obtain ⟨g8, hg8⟩ : ∃ g8, g8 = V0.heap.size := ⟨_, rfl⟩
          obtain ⟨x2, hx2, H8, H7b, HJ2⟩ : ∃ Z9, Z9 = (V0.alloc (.cells #[.int .i64 0, .int .i64 0, .int .i64 0, .int .i64 0] 173)).setRow V0.heap.size #[.int .i64 (la (kdOf 0) a t), .int .i64 (la (kdOf 1) a t), .int .i64 (la (kdOf 2) a t), .int .i64 (la (kdOf 3) a t)] ∧ Hid (Blk Z9 g8 173 [.int .i64 (la (kdOf 0) a t), .int .i64 (la (kdOf 1) a t), .int .i64 (la (kdOf 2) a t), .int .i64 (la (kdOf 3) a t)]) ∧ Hid (Blk Z9 g7 3 [.int .i64 t]) ∧ Hid (NrI gn pre post (tickS x ⟨t0, kd, a, rw⟩) la t0 a kd rw m w g5 Z9) := ⟨_, rfl, by rw [hg8]; exact setRow_heap _ _ _ #[.int .i64 (la (kdOf 0) a t), .int .i64 (la (kdOf 1) a t), .int .i64 (la (kdOf 2) a t), .int .i64 (la (kdOf 3) a t)] _ _ hx4, H7.out.below hb4 H7.out.lt, HJ1.out.on hb4⟩
          rw [← hx2, ← hg8]
          clear hx2 hg8 hx4 hb4 hS HSo HVb
          have HLate : Hid (∀ q : Nat, q < 4 → ∀ W, Below x2.heap.size x2 W → Calls Try.prog 125 #[.int .i64 q, .pointer (some ⟨g5, 0, none⟩), .pointer (some ⟨g7, 0, none⟩), .pointer (some ⟨g8, 0, none⟩)] W (BoolR (decide (m t < la (kdOf q) a t)) W)) := fun q hq W hW => by
            refine late_any W g5 g7 g8 q t (m t) (la (kdOf q) a t) ((HJ2.out.on hW).n.cell (clkV_get hlt)) ((H7b.out.below hW H7b.out.lt).cell rfl) ((H8.out.below hW H8.out.lt).cell ?_) hlt hq
            match q, hq with
            | 0, _ => rfl
            | 1, _ => rfl
            | 2, _ => rfl
            | 3, _ => rfl
          have hmf : ∀ fn first cap w, (Instr.makeFunc fn first cap).run Try.prog w = .ok (.func fn first cap) w := fun _ _ _ _ => rfl
          have k1 : x2.cell? ⟨w.heap.size, 1, none⟩ = some (.int .i64 kd) := HJ2.out.e.cell rfl
          have k3 : x2.cell? ⟨w.heap.size, 3, none⟩ = some (.bool rw) := HJ2.out.e.cell rfl
          rcases HWf.out with ⟨hk, hr⟩ | ⟨hk, hr⟩ | hk
          · have hk : kd = 1 := hk
            have hr : rw = false := hr
            subst hk hr
            have HLb : Hid (lateB x la ⟨t0, 1, a, false⟩ t = (decide (m t < la (kdOf 1) a t) || decide (m t < la (kdOf 3) a t))) := by
              unfold lateB
              dsimp only
              rw [← HM.out]
              exact Lib.hid rfl
            cases b
            case true =>
              have HBx2 : Hid (Below x2.heap.size x2 x2) := Below.refl _ _
              go_upto_region 10 with fail
              have HFin := Lib.hid (HJ2.out.on HBx2.out)
              go_wp2_with fail
              go_roundg (gk - 1)
              case measure => omega
              case rel => exact ⟨t + 1, true, by omega, by go_num, rfl, by rw [foundB_next HFb.out]; rfl, HFin⟩
            case false =>
              have HBx2 : Hid (Below x2.heap.size x2 x2) := Below.refl _ _
              go_wp2_with fail
              refine (HLate.out 1 (by decide) _ HBx2.out).mono ?_
              rintro e y0 ⟨rfl, hb9⟩
              have HBy0 := Lib.hid (HBx2.out.trans (hb9.mono HBx2.out.size))
              clear hb9
              cases hq1 : decide (m t < la (kdOf 1) a t) with
              | true =>
                have HFin := Lib.hid (HJ2.out.on HBy0.out)
                go_wp2_with fail
                go_roundg (gk - 1)
                case measure => omega
                case rel => exact ⟨t + 1, true, by omega, by go_num, rfl, by rw [foundB_next HFb.out, HLb.out, hq1]; simp [hte], HFin⟩
              | false =>
                go_wp2_with fail
                refine (HLate.out 3 (by decide) _ HBy0.out).mono ?_
                rintro e y1 ⟨rfl, hb9⟩
                have HBy1 := Lib.hid (HBy0.out.trans (hb9.mono HBy0.out.size))
                clear hb9
                cases hq3 : decide (m t < la (kdOf 3) a t) with
                | true =>
                  have HFin := Lib.hid (HJ2.out.on HBy1.out)
                  go_wp2_with fail
                  go_roundg (gk - 1)
                  case measure => omega
                  case rel => exact ⟨t + 1, true, by omega, by go_num, rfl, by rw [foundB_next HFb.out, HLb.out, hq3]; simp [hte], HFin⟩
                | false =>
                  have HFin := Lib.hid (HJ2.out.on HBy1.out)
                  go_wp2_with fail
                  go_roundg (gk - 1)
                  case measure => omega
                  case rel => exact ⟨t + 1, false, by omega, by go_num, rfl, by rw [foundB_next HFb.out, HLb.out]; simp [*], HFin⟩
          · have hk : kd = 2 := hk
            have hr : rw = true := hr
            subst hk hr
            have HLb : Hid (lateB x la ⟨t0, 2, a, true⟩ t = (decide (m t < la (kdOf 0) a t) || decide (m t < la (kdOf 1) a t) || decide (m t < la (kdOf 2) a t))) := by
              unfold lateB
              dsimp only
              rw [← HM.out]
              exact Lib.hid rfl
            cases b
            case true =>
              have HBx2 : Hid (Below x2.heap.size x2 x2) := Below.refl _ _
              go_upto_region 10 with fail
              have HFin := Lib.hid (HJ2.out.on HBx2.out)
              go_wp2_with fail
              go_roundg (gk - 1)
              case measure => omega
              case rel => exact ⟨t + 1, true, by omega, by go_num, rfl, by rw [foundB_next HFb.out]; rfl, HFin⟩
            case false =>
              have HBx2 : Hid (Below x2.heap.size x2 x2) := Below.refl _ _
              go_wp2_with fail
              refine (HLate.out 0 (by decide) _ HBx2.out).mono ?_
              rintro e y0 ⟨rfl, hb9⟩
              have HBy0 := Lib.hid (HBx2.out.trans (hb9.mono HBx2.out.size))
              clear hb9
              cases hq0 : decide (m t < la (kdOf 0) a t) with
              | true =>
                have HFin := Lib.hid (HJ2.out.on HBy0.out)
                go_wp2_with fail
                go_roundg (gk - 1)
                case measure => omega
                case rel => exact ⟨t + 1, true, by omega, by go_num, rfl, by rw [foundB_next HFb.out, HLb.out, hq0]; simp [hte], HFin⟩
              | false =>
                go_wp2_with fail
                refine (HLate.out 1 (by decide) _ HBy0.out).mono ?_
                rintro e y1 ⟨rfl, hb9⟩
                have HBy1 := Lib.hid (HBy0.out.trans (hb9.mono HBy0.out.size))
                clear hb9
                cases hq1 : decide (m t < la (kdOf 1) a t) with
                | true =>
                  have HFin := Lib.hid (HJ2.out.on HBy1.out)
                  go_wp2_with fail
                  go_roundg (gk - 1)
                  case measure => omega
                  case rel => exact ⟨t + 1, true, by omega, by go_num, rfl, by rw [foundB_next HFb.out, HLb.out, hq1]; simp [hte], HFin⟩
                | false =>
                  go_wp2_with fail
                  refine (HLate.out 2 (by decide) _ HBy1.out).mono ?_
                  rintro e y2 ⟨rfl, hb9⟩
                  have HBy2 := Lib.hid (HBy1.out.trans (hb9.mono HBy1.out.size))
                  clear hb9
                  cases hq2 : decide (m t < la (kdOf 2) a t) with
                  | true =>
                    have HFin := Lib.hid (HJ2.out.on HBy2.out)
                    go_wp2_with fail
                    go_roundg (gk - 1)
                    case measure => omega
                    case rel => exact ⟨t + 1, true, by omega, by go_num, rfl, by rw [foundB_next HFb.out, HLb.out, hq2]; simp [hte], HFin⟩
                  | false =>
                    have HFin := Lib.hid (HJ2.out.on HBy2.out)
                    go_wp2_with fail
                    go_roundg (gk - 1)
                    case measure => omega
                    case rel => exact ⟨t + 1, false, by omega, by go_num, rfl, by rw [foundB_next HFb.out, HLb.out]; simp [*], HFin⟩
          · have hk : kd = 3 := hk
            subst hk
            cases rw
            case false =>
              have HLb : Hid (lateB x la ⟨t0, 3, a, false⟩ t = (decide (m t < la (kdOf 1) a t))) := by
                unfold lateB
                dsimp only
                rw [← HM.out]
                exact Lib.hid (by simp [kdOf])
              cases b
              case true =>
                have HBx2 : Hid (Below x2.heap.size x2 x2) := Below.refl _ _
                go_upto_region 10 with fail
                have HFin := Lib.hid (HJ2.out.on HBx2.out)
                go_wp2_with fail
                go_roundg (gk - 1)
                case measure => omega
                case rel => exact ⟨t + 1, true, by omega, by go_num, rfl, by rw [foundB_next HFb.out]; rfl, HFin⟩
              case false =>
                have HBx2 : Hid (Below x2.heap.size x2 x2) := Below.refl _ _
                go_wp2_with fail
                refine (HLate.out 1 (by decide) _ HBx2.out).mono ?_
                rintro e y0 ⟨rfl, hb9⟩
                have HBy0 := Lib.hid (HBx2.out.trans (hb9.mono HBx2.out.size))
                clear hb9
                cases hq1 : decide (m t < la (kdOf 1) a t) with
                | true =>
                  have HFin := Lib.hid (HJ2.out.on HBy0.out)
                  go_wp2_with fail
                  go_roundg (gk - 1)
                  case measure => omega
                  case rel => exact ⟨t + 1, true, by omega, by go_num, rfl, by rw [foundB_next HFb.out, HLb.out, hq1]; simp [hte], HFin⟩
                | false =>
                  have k3y0 : y0.cell? ⟨w.heap.size, 3, none⟩ = some (.bool false) := (HJ2.out.on HBy0.out).e.cell rfl
                  have HFin := Lib.hid (HJ2.out.on HBy0.out)
                  go_wp2_with fail
                  go_roundg (gk - 1)
                  case measure => omega
                  case rel => exact ⟨t + 1, false, by omega, by go_num, rfl, by rw [foundB_next HFb.out, HLb.out]; simp [*], HFin⟩
            case true =>
              have HLb : Hid (lateB x la ⟨t0, 3, a, true⟩ t = (decide (m t < la (kdOf 1) a t) || decide (m t < la (kdOf 0) a t))) := by
                unfold lateB
                dsimp only
                rw [← HM.out]
                exact Lib.hid (by simp [kdOf])
              cases b
              case true =>
                have HBx2 : Hid (Below x2.heap.size x2 x2) := Below.refl _ _
                go_upto_region 10 with fail
                have HFin := Lib.hid (HJ2.out.on HBx2.out)
                go_wp2_with fail
                go_roundg (gk - 1)
                case measure => omega
                case rel => exact ⟨t + 1, true, by omega, by go_num, rfl, by rw [foundB_next HFb.out]; rfl, HFin⟩
              case false =>
                have HBx2 : Hid (Below x2.heap.size x2 x2) := Below.refl _ _
                go_wp2_with fail
                refine (HLate.out 1 (by decide) _ HBx2.out).mono ?_
                rintro e y0 ⟨rfl, hb9⟩
                have HBy0 := Lib.hid (HBx2.out.trans (hb9.mono HBx2.out.size))
                clear hb9
                cases hq1 : decide (m t < la (kdOf 1) a t) with
                | true =>
                  have HFin := Lib.hid (HJ2.out.on HBy0.out)
                  go_wp2_with fail
                  go_roundg (gk - 1)
                  case measure => omega
                  case rel => exact ⟨t + 1, true, by omega, by go_num, rfl, by rw [foundB_next HFb.out, HLb.out, hq1]; simp [hte], HFin⟩
                | false =>
                  have k3y0 : y0.cell? ⟨w.heap.size, 3, none⟩ = some (.bool true) := (HJ2.out.on HBy0.out).e.cell rfl
                  go_wp2_with fail
                  refine (HLate.out 0 (by decide) _ HBy0.out).mono ?_
                  rintro e y1 ⟨rfl, hb9⟩
                  have HBy1 := Lib.hid (HBy0.out.trans (hb9.mono HBy0.out.size))
                  clear hb9
                  cases hq0 : decide (m t < la (kdOf 0) a t) with
                  | true =>
                    have HFin := Lib.hid (HJ2.out.on HBy1.out)
                    go_wp2_with fail
                    go_roundg (gk - 1)
                    case measure => omega
                    case rel => exact ⟨t + 1, true, by omega, by go_num, rfl, by rw [foundB_next HFb.out, HLb.out, hq0]; simp [hte], HFin⟩
                  | false =>
                    have k3y1 : y1.cell? ⟨w.heap.size, 3, none⟩ = some (.bool true) := (HJ2.out.on HBy1.out).e.cell rfl
                    have HFin := Lib.hid (HJ2.out.on HBy1.out)
                    go_wp2_with fail
                    go_roundg (gk - 1)
                    case measure => omega
                    case rel => exact ⟨t + 1, false, by omega, by go_num, rfl, by rw [foundB_next HFb.out, HLb.out]; simp [*], HFin⟩

      · obtain rfl : t = 4 := by omega
        have HFo : Hid (foundB x la ⟨t0, kd, a, rw⟩ 4 = b) := Lib.hid hfb
        clear hfb
        rcases HWf.out with ⟨hk, hr⟩ | ⟨hk, hr⟩ | hk
        · have hk : kd = 1 := hk
          have hr : rw = false := hr
          subst hk hr
          have HJe : Hid (NrI gn pre post (tickS x ⟨t0, 1, a, false⟩) la t0 a 1 false m w g5 wr) := HJ
          have a0 : wr.cell? ⟨w.heap.size, 0, none⟩ = some (.int .i64 t0) := HJe.out.e.cell rfl
          have a2 : wr.cell? ⟨w.heap.size, 2, none⟩ = some (.int .i64 a) := HJe.out.e.cell rfl
          go_upto_region 15 with fail
          go_quiet (fail)
          obtain ⟨z0, hz0, hbz⟩ : ∃ Z9, Z9 = wr.drewN nq ∧ Below wr.heap.size wr Z9 := ⟨_, rfl, (Below.refl _ _).drewN _⟩
          rw [← hz0]
          have HZ0 := Lib.hid (HJe.out.on hbz)
          clear hz0 hbz a0 a2
          have a0 : z0.cell? ⟨w.heap.size, 0, none⟩ = some (.int .i64 t0) := HZ0.out.e.cell rfl
          have a1 : z0.cell? ⟨w.heap.size, 1, none⟩ = some (.int .i64 1) := HZ0.out.e.cell rfl
          have a3 : z0.cell? ⟨w.heap.size, 3, none⟩ = some (.bool false) := HZ0.out.e.cell rfl
          have n0 : z0.cell? ⟨g5, t0, none⟩ = some (.int .i64 (m t0)) := HZ0.out.n.cell (clkV_get ht)
          have l0 : z0.cell? ⟨gn, 70 + a * 16 + t0 * 4, none⟩ = some (.int .i64 (la (kdOf 0) a t0)) := HZ0.out.nb.lastq (by omega) ha ht (by decide)
          have lf0 := HZ0.out.nb.b.frozen (70 + a * 16 + t0 * 4)
          have HNe : Hid (NB (z0.setCell ⟨gn, 70 + a * 16 + t0 * 4, none⟩ (.int .i64 (m t0))) gn pre post (tickS x ⟨t0, 1, a, false⟩) (setL (la) 0 a t0 (m t0))) := HZ0.out.nb.put (by omega) ha ht (by decide) _
          have HFe : Hid (Fr (fun g => g = gn) w (z0.setCell ⟨gn, 70 + a * 16 + t0 * 4, none⟩ (.int .i64 (m t0)))) := HZ0.out.f.setCell (p := ⟨gn, 70 + a * 16 + t0 * 4, none⟩) rfl _
          go_wp2_with fail
          go_ret
          refine ⟨by rw [HFo.out]; rfl, ?_, HFe.out⟩
          have h9 := HNe.out
          unfold lastU
          rw [← HM.out]
          exact h9
        · have hk : kd = 2 := hk
          have hr : rw = true := hr
          subst hk hr
          have HJe : Hid (NrI gn pre post (tickS x ⟨t0, 2, a, true⟩) la t0 a 2 true m w g5 wr) := HJ
          have a0 : wr.cell? ⟨w.heap.size, 0, none⟩ = some (.int .i64 t0) := HJe.out.e.cell rfl
          have a2 : wr.cell? ⟨w.heap.size, 2, none⟩ = some (.int .i64 a) := HJe.out.e.cell rfl
          go_upto_region 15 with fail
          go_quiet (fail)
          obtain ⟨z0, hz0, hbz⟩ : ∃ Z9, Z9 = wr.drewN nq ∧ Below wr.heap.size wr Z9 := ⟨_, rfl, (Below.refl _ _).drewN _⟩
          rw [← hz0]
          have HZ0 := Lib.hid (HJe.out.on hbz)
          clear hz0 hbz a0 a2
          have a0 : z0.cell? ⟨w.heap.size, 0, none⟩ = some (.int .i64 t0) := HZ0.out.e.cell rfl
          have a1 : z0.cell? ⟨w.heap.size, 1, none⟩ = some (.int .i64 2) := HZ0.out.e.cell rfl
          have a3 : z0.cell? ⟨w.heap.size, 3, none⟩ = some (.bool true) := HZ0.out.e.cell rfl
          have n0 : z0.cell? ⟨g5, t0, none⟩ = some (.int .i64 (m t0)) := HZ0.out.n.cell (clkV_get ht)
          have l0 : z0.cell? ⟨gn, 70 + a * 16 + t0 * 4 + 1, none⟩ = some (.int .i64 (la (kdOf 1) a t0)) := HZ0.out.nb.lastq (by omega) ha ht (by decide)
          have lf0 := HZ0.out.nb.b.frozen (70 + a * 16 + t0 * 4 + 1)
          have HNe : Hid (NB (z0.setCell ⟨gn, 70 + a * 16 + t0 * 4 + 1, none⟩ (.int .i64 (m t0))) gn pre post (tickS x ⟨t0, 2, a, true⟩) (setL (la) 1 a t0 (m t0))) := HZ0.out.nb.put (by omega) ha ht (by decide) _
          have HFe : Hid (Fr (fun g => g = gn) w (z0.setCell ⟨gn, 70 + a * 16 + t0 * 4 + 1, none⟩ (.int .i64 (m t0)))) := HZ0.out.f.setCell (p := ⟨gn, 70 + a * 16 + t0 * 4 + 1, none⟩) rfl _
          go_wp2_with fail
          go_ret
          refine ⟨by rw [HFo.out]; rfl, ?_, HFe.out⟩
          have h9 := HNe.out
          unfold lastU
          rw [← HM.out]
          exact h9
        · have hk : kd = 3 := hk
          subst hk
          cases rw
          case false =>
            have HJe : Hid (NrI gn pre post (tickS x ⟨t0, 3, a, false⟩) la t0 a 3 false m w g5 wr) := HJ
            have a0 : wr.cell? ⟨w.heap.size, 0, none⟩ = some (.int .i64 t0) := HJe.out.e.cell rfl
            have a2 : wr.cell? ⟨w.heap.size, 2, none⟩ = some (.int .i64 a) := HJe.out.e.cell rfl
            go_upto_region 15 with fail
            go_quiet (fail)
            obtain ⟨z0, hz0, hbz⟩ : ∃ Z9, Z9 = wr.drewN nq ∧ Below wr.heap.size wr Z9 := ⟨_, rfl, (Below.refl _ _).drewN _⟩
            rw [← hz0]
            have HZ0 := Lib.hid (HJe.out.on hbz)
            clear hz0 hbz a0 a2
            have a0 : z0.cell? ⟨w.heap.size, 0, none⟩ = some (.int .i64 t0) := HZ0.out.e.cell rfl
            have a1 : z0.cell? ⟨w.heap.size, 1, none⟩ = some (.int .i64 3) := HZ0.out.e.cell rfl
            have a3 : z0.cell? ⟨w.heap.size, 3, none⟩ = some (.bool false) := HZ0.out.e.cell rfl
            have n0 : z0.cell? ⟨g5, t0, none⟩ = some (.int .i64 (m t0)) := HZ0.out.n.cell (clkV_get ht)
            have l0 : z0.cell? ⟨gn, 70 + a * 16 + t0 * 4 + 2, none⟩ = some (.int .i64 (la (kdOf 2) a t0)) := HZ0.out.nb.lastq (by omega) ha ht (by decide)
            have lf0 := HZ0.out.nb.b.frozen (70 + a * 16 + t0 * 4 + 2)
            have HNe : Hid (NB (z0.setCell ⟨gn, 70 + a * 16 + t0 * 4 + 2, none⟩ (.int .i64 (m t0))) gn pre post (tickS x ⟨t0, 3, a, false⟩) (setL (la) 2 a t0 (m t0))) := HZ0.out.nb.put (by omega) ha ht (by decide) _
            have HFe : Hid (Fr (fun g => g = gn) w (z0.setCell ⟨gn, 70 + a * 16 + t0 * 4 + 2, none⟩ (.int .i64 (m t0)))) := HZ0.out.f.setCell (p := ⟨gn, 70 + a * 16 + t0 * 4 + 2, none⟩) rfl _
            go_wp2_with fail
            go_ret
            refine ⟨by rw [HFo.out]; rfl, ?_, HFe.out⟩
            have h9 := HNe.out
            unfold lastU
            rw [← HM.out]
            exact h9
          case true =>
            have HJe : Hid (NrI gn pre post (tickS x ⟨t0, 3, a, true⟩) la t0 a 3 true m w g5 wr) := HJ
            have a0 : wr.cell? ⟨w.heap.size, 0, none⟩ = some (.int .i64 t0) := HJe.out.e.cell rfl
            have a2 : wr.cell? ⟨w.heap.size, 2, none⟩ = some (.int .i64 a) := HJe.out.e.cell rfl
            go_upto_region 15 with fail
            go_quiet (fail)
            obtain ⟨z0, hz0, hbz⟩ : ∃ Z9, Z9 = wr.drewN nq ∧ Below wr.heap.size wr Z9 := ⟨_, rfl, (Below.refl _ _).drewN _⟩
            rw [← hz0]
            have HZ0 := Lib.hid (HJe.out.on hbz)
            clear hz0 hbz a0 a2
            have a0 : z0.cell? ⟨w.heap.size, 0, none⟩ = some (.int .i64 t0) := HZ0.out.e.cell rfl
            have a1 : z0.cell? ⟨w.heap.size, 1, none⟩ = some (.int .i64 3) := HZ0.out.e.cell rfl
            have a3 : z0.cell? ⟨w.heap.size, 3, none⟩ = some (.bool true) := HZ0.out.e.cell rfl
            have n0 : z0.cell? ⟨g5, t0, none⟩ = some (.int .i64 (m t0)) := HZ0.out.n.cell (clkV_get ht)
            have l0 : z0.cell? ⟨gn, 70 + a * 16 + t0 * 4 + 2, none⟩ = some (.int .i64 (la (kdOf 2) a t0)) := HZ0.out.nb.lastq (by omega) ha ht (by decide)
            have lf0 := HZ0.out.nb.b.frozen (70 + a * 16 + t0 * 4 + 2)
            go_upto_region 19 with fail
            obtain ⟨z1, hz1, HN1, HF1, HE1⟩ : ∃ Z9, Z9 = z0.setCell ⟨gn, 70 + a * 16 + t0 * 4 + 2, none⟩ (.int .i64 (m t0)) ∧ Hid (NB Z9 gn pre post (tickS x ⟨t0, 3, a, true⟩) (setL la 2 a t0 (m t0))) ∧ Hid (Fr (fun g => g = gn) w Z9) ∧ Hid (Blk Z9 w.heap.size 120 [.int .i64 t0, .int .i64 3, .int .i64 a, .bool true]) := ⟨_, rfl, HZ0.out.nb.put (by omega) ha ht (by decide) _, HZ0.out.f.setCell (p := ⟨gn, 70 + a * 16 + t0 * 4 + 2, none⟩) rfl _, HZ0.out.e.far (by dsimp only; omega) _⟩
            rw [← hz1]
            clear hz1 l0 lf0 a3
            have a3 : z1.cell? ⟨w.heap.size, 3, none⟩ = some (.bool true) := HE1.out.cell rfl
            have l1 : z1.cell? ⟨gn, 70 + a * 16 + t0 * 4 + 3, none⟩ = some (.int .i64 (setL la 2 a t0 (m t0) (kdOf 3) a t0)) := HN1.out.lastq (by omega) ha ht (by decide)
            have lf1 := HN1.out.b.frozen (70 + a * 16 + t0 * 4 + 3)
            have HNe : Hid (NB (z1.setCell ⟨gn, 70 + a * 16 + t0 * 4 + 3, none⟩ (.int .i64 (m t0))) gn pre post (tickS x ⟨t0, 3, a, true⟩) (setL (setL la 2 a t0 (m t0)) 3 a t0 (m t0))) := HN1.out.put (by omega) ha ht (by decide) _
            have HFe : Hid (Fr (fun g => g = gn) w (z1.setCell ⟨gn, 70 + a * 16 + t0 * 4 + 3, none⟩ (.int .i64 (m t0)))) := HF1.out.setCell (p := ⟨gn, 70 + a * 16 + t0 * 4 + 3, none⟩) rfl _
            go_wp2_with fail
            go_ret
            refine ⟨by rw [HFo.out]; rfl, ?_, HFe.out⟩
            have h9 := HNe.out
            unfold lastU
            rw [← HM.out]
            exact h9


end Go.Proofs.Ytgbopmgeicokoaa
