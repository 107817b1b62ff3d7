/-
  The law RacesEvents, walked.
-/
import Derived.Test.YtgbopmgeicokoaaRpl
import Derived.Test.YtgbopmgeicokoaaRrc
import Derived.Test.YtgbopmgeicokoaaRck
namespace Go.Proofs.Ytgbopmgeicokoaa
open Go.RowKit
set_option linter.unusedVariables false
set_option linter.unusedSimpArgs false

theorem info_tn : (Try.prog.info? 131).map (fun i => (i.zero, i.size, i.bytes)) = some (some (.agg #[.int .i64 0, .bool false, .int .i64 0]), 3, 24) := by kernel_rfl
theorem tn_one {l : List Tn} : ∀ u ∈ tnVals l, u.oneCell' = true := by
  intro u hu
  obtain ⟨x, _, hx⟩ := List.mem_flatMap.1 hu
  simp at hx
  rcases hx with rfl | rfl | rfl <;> rfl
theorem num27_of (x : Int) (w : World) : Calls Try.prog 24 #[.int .i64 x] w (fun e w' => e = .returned (.int .i64 x) ∧ w' = w) := num27_any x w

set_option maxRecDepth 100000 in
set_option maxHeartbeats 8000000 in
theorem law_events_no (l : Lit) (A : Option Addr) (n k : Nat) (us : List Tn) (c : Int) (w : World) (h : LitAt w w.heap.size l) (hu : Sl w w.heap.size 3 A n (tnVals us)) (hn : n * 24 ≤ 140737488355328) (hk : n ≤ k ∧ k ≤ maxLen) (hc : (okLit l = false ∧ c = 190) ∨ (okLit l = true ∧ 4096 < n ∧ c = 3)) :
    Calls Try.prog 10 #[litV l, .slice A n k] w (BoolR true w) := by
  have hlen : us.length = n := by have := hu.1; rw [tnVals_len] at this; omega
  obtain ⟨it, hit, hitz, hits, hitb⟩ := info_parts info_tn
  obtain ⟨w0, hw0⟩ : ∃ w0 : World, w0 = w.alloc (.cells #[.slice l.wA l.wn l.wk, .slice l.tA l.tn l.tk] 101) := ⟨_, rfl⟩
  have HB0 : Hid (Blk w0 w.heap.size 101 (litL l)) := by rw [hw0]; exact Blk.new w 101 (litL l)
  have HW0 : Hid (Below w.heap.size w w0) := by rw [hw0]; exact (Below.refl _ _).alloc (Nat.le_refl _) _
  have HL0 : Hid (LitAt w0 w0.heap.size l) := (h.keep HW0.out).up HW0.out.size
  have HU0 : Hid (Sl w0 w0.heap.size 3 A n (tnVals us)) := (hu.below HW0.out).up HW0.out.size
  have HLen := Lib.hid hlen
  have HWe := Lib.hid hw0
  have hz0 : w.heap.size < w0.heap.size := HB0.out.lt
  have HSo : Hid (∀ W, Below w0.heap.size w0 W → W.cell? ⟨w.heap.size, 0, none⟩ = some (.slice l.wA l.wn l.wk) ∧ W.cell? ⟨w.heap.size, 1, none⟩ = some (.slice l.tA l.tn l.tk)) := fun W hW => ⟨(HB0.out.below hW HB0.out.lt).cell rfl, (HB0.out.below hW HB0.out.lt).cell rfl⟩
  have Hw0b : Hid (Below w0.heap.size w0 w0) := Below.refl _ _
  clear h hu hw0 hlen
  have HEv : Hid (∀ W A2 k2, Below w0.heap.size w0 W → Sl W W.heap.size 3 A2 n (tnVals us) → Calls Try.prog 43 #[litV l, .slice A2 n k2] W (EvsN c W)) := fun W A2 k2 hW hS => by
    have hL := (HL0.out.keep hW).up hW.size
    rcases hc with ⟨h1, rfl⟩ | ⟨h1, h2, rfl⟩
    · exact events_lit l A2 n k2 W hL h1
    · refine (events_ok l A2 n k2 us W hL hS h1).mono ?_
      intro e w' hp
      exact hp.2 (by omega)
  have HPa : Hid (∀ W A2 k2, Below w0.heap.size w0 W → Sl W W.heap.size 3 A2 n (tnVals us) → Calls Try.prog 44 #[litV l, .slice A2 n k2] W (EvsN c W)) := fun W A2 k2 hW hS => by
    have hL := (HL0.out.keep hW).up hW.size
    rcases hc with ⟨h1, rfl⟩ | ⟨h1, h2, rfl⟩
    · exact pairs_lit l A2 n k2 W hL h1
    · exact pairs_long l A2 n k2 us W hL hS h1 (by omega)
  have HC := Lib.hid hc
  have hk1 := hk.1
  have hk2 : k ≤ 9223372036854775807 := hk.2
  have hcn : c ≠ 0 := by rcases hc with ⟨_, rfl⟩ | ⟨_, _, rfl⟩ <;> decide
  have HCn := Lib.hid hcn
  clear hc hk hcn
  go_enter Try.func10, Try.ntmps10
  go_upto_region 1 with fail
  rw [← HWe.out]
  clear HWe
  go_upto_region 1 with fail
  refine wp_region_held_drew (S := fun W => W.cell? ⟨w.heap.size, 0, none⟩ = some (.slice l.wA l.wn l.wk) ∧ W.cell? ⟨w.heap.size, 1, none⟩ = some (.slice l.tA l.tn l.tk)) (by kernel_rfl) (HSo.out _ (Hw0b.out.drew)) (fun hS => ?_)
  refine wpAnyH_take (i := 0) (v := .agg #[.slice l.wA l.wn l.wk, .slice l.tA l.tn l.tk]) rfl (by kernel_rfl) (by kernel_rfl) (by kernel_rfl) (fun _ _ _ h => h) (Or.inl ⟨by rfl, ?_⟩) (by assumption) ?_
  · (intro W hSw; (try dsimp only at hSw); go_simp)
  show wpAnyH _ _ _ _ _ _ _ (Act.put _ (some 13) _) _
  simp only [Act.put, List.setIfInBounds_toArray, List.set_cons_zero, List.set_cons_succ]
  refine wpAnyH_take (i := 2) (v := .slice A n k) rfl (by kernel_rfl) (by kernel_rfl) (by kernel_rfl) (fun _ _ _ h => h) (Or.inl ⟨by rfl, ?_⟩) (by assumption) ?_
  · (intro W hSw; (try dsimp only at hSw); go_simp)
  show wpAnyH _ _ _ _ _ _ _ (Act.put _ (some 15) _) _
  simp only [Act.put, List.setIfInBounds_toArray, List.set_cons_zero, List.set_cons_succ]
  obtain ⟨V0, hV9, HV0b, HV0c⟩ : ∃ Z9, Z9 = w0.drew ∧ Hid (Below w0.heap.size w0 Z9) ∧ Hid (Below w0.heap.size w0 Z9) := ⟨_, rfl, Hw0b.out.drew, (Below.refl _ _).drew⟩
  rw [← hV9]
  clear hV9
  refine wpAnyH_ready (rs := [1]) (by kernel_rfl) (by simp) (AllReadyH.cons rfl (fun K1 hK1 => ?_) (AllReadyH.nil))
  rw [if_pos (by rfl)]
  go_simp
  have hbA := HV0b.out.alloc HV0b.out.size (.cells #[] 131)
  have hbC := HV0c.out.alloc HV0c.out.size (.cells #[] 131)
  refine hK1.out _ _ (HSo.out _ hbA) (fun hS1 => ?_)
  refine wpAnyH_ready (rs := [3]) (by kernel_rfl) (by simp) (AllReadyH.cons rfl (fun K2 hK2 => ?_) (AllReadyH.nil))
  refine step_app0 _ (by rfl) _ _ 102 (by rfl) V0.heap.size 131 it (.agg #[.int .i64 0, .bool false, .int .i64 0]) 3 24 Try.underlying102 hit hitz hits hitb rfl (by decide) _ (by rfl) (made_e _ _ _ (Nat.le_refl _)) w0.heap.size A n k (tnVals us) (by rfl) (HU0.out.below hbA) tn_one (by simp only [maxLen]; omega) (by omega) (by rw [World.size_alloc]; omega) ?_
  intro A2 k2 V2 hown2 hb2 _ hk21 hk22
  have HV2b := Lib.hid (hbA.trans (hb2.mono hbA.size))
  have H12 := Lib.hid (hbC.trans (hb2.mono hbC.size))
  have HU2 : Hid (Sl V2 V2.heap.size 3 A2 n (tnVals us)) := Sl.of_own hown2
  clear hown2 hb2
  refine hK2.out _ _ (HSo.out _ HV2b.out) (fun hS2 => ?_)
  refine wpAnyH_ready (rs := [4]) (by kernel_rfl) (by simp) (AllReadyH.cons rfl (fun K3 hK3 => ?_) (AllReadyH.nil))
  rw [if_pos (by rfl)]
  go_simp
  go_at_call 43
  refine (HEv.out V2 A2 k2 HV2b.out HU2.out).mono ?_
  rintro e w1 ⟨rfl, hb3⟩
  have Hw1b := Lib.hid (HV2b.out.trans (hb3.mono HV2b.out.size))
  refine hK3.out _ _ (HSo.out _ Hw1b.out) (fun hS3 => ?_)
  refine wpAnyH_take (i := 5) (v := .tuple #[.slice none 0 0, .int .i64 c]) rfl (by kernel_rfl) (by kernel_rfl) (by kernel_rfl) (fun _ _ _ h => h) (Or.inl ⟨by rfl, ?_⟩) (hS3) ?_
  · (intro W hSw; (try dsimp only at hSw); go_simp)
  show wpAnyH _ _ _ _ _ _ _ (Act.put _ (some 12) _) _
  simp only [Act.put, List.setIfInBounds_toArray, List.set_cons_zero, List.set_cons_succ]
  refine wpAnyH_take (i := 6) (v := .slice none 0 0) rfl (by kernel_rfl) (by kernel_rfl) (by kernel_rfl) (fun _ _ _ h => h) (Or.inl ⟨by rfl, ?_⟩) (hS3) ?_
  · (intro W hSw; (try dsimp only at hSw); go_simp)
  show wpAnyH _ _ _ _ _ _ _ (Act.put _ (some 18) _) _
  simp only [Act.put, List.setIfInBounds_toArray, List.set_cons_zero, List.set_cons_succ]
  refine wpAnyH_take (i := 7) (v := .int .i64 c) rfl (by kernel_rfl) (by kernel_rfl) (by kernel_rfl) (fun _ _ _ h => h) (Or.inl ⟨by rfl, ?_⟩) (hS3) ?_
  · (intro W hSw; (try dsimp only at hSw); go_simp)
  show wpAnyH _ _ _ _ _ _ _ (Act.put _ (some 19) _) _
  simp only [Act.put, List.setIfInBounds_toArray, List.set_cons_zero, List.set_cons_succ]
  refine wpAnyH_take (i := 8) (v := .slice none 0 0) rfl (by kernel_rfl) (by kernel_rfl) (by kernel_rfl) (fun _ _ _ h => h) (Or.inl ⟨by rfl, ?_⟩) (hS3) ?_
  · (intro W hSw; (try dsimp only at hSw); go_simp)
  show wpAnyH _ _ _ _ _ _ _ (Act.put _ (some 5) _) _
  simp only [Act.put, List.setIfInBounds_toArray, List.set_cons_zero, List.set_cons_succ]
  refine wpAnyH_take (i := 9) (v := .int .i64 c) rfl (by kernel_rfl) (by kernel_rfl) (by kernel_rfl) (fun _ _ _ h => h) (Or.inl ⟨by rfl, ?_⟩) (hS3) ?_
  · (intro W hSw; (try dsimp only at hSw); go_simp)
  show wpAnyH _ _ _ _ _ _ _ (Act.put _ (some 6) _) _
  simp only [Act.put, List.setIfInBounds_toArray, List.set_cons_zero, List.set_cons_succ]
  refine wpAnyH_done (by kernel_rfl) ?_ _
  clear hS hS1 hS2 hS3 hb3 hbA hbC HV0b HV0c H12
  go_upto_region 2 with fail
  refine wp_region_held_drew (S := fun W => W.cell? ⟨w.heap.size, 0, none⟩ = some (.slice l.wA l.wn l.wk) ∧ W.cell? ⟨w.heap.size, 1, none⟩ = some (.slice l.tA l.tn l.tk)) (by kernel_rfl) (HSo.out _ (Hw1b.out.drew)) (fun hS => ?_)
  refine wpAnyH_take (i := 0) (v := .agg #[.slice l.wA l.wn l.wk, .slice l.tA l.tn l.tk]) rfl (by kernel_rfl) (by kernel_rfl) (by kernel_rfl) (fun _ _ _ h => h) (Or.inl ⟨by rfl, ?_⟩) (by assumption) ?_
  · (intro W hSw; (try dsimp only at hSw); go_simp)
  show wpAnyH _ _ _ _ _ _ _ (Act.put _ (some 21) _) _
  simp only [Act.put, List.setIfInBounds_toArray, List.set_cons_zero, List.set_cons_succ]
  refine wpAnyH_take (i := 2) (v := .slice A n k) rfl (by kernel_rfl) (by kernel_rfl) (by kernel_rfl) (fun _ _ _ h => h) (Or.inl ⟨by rfl, ?_⟩) (by assumption) ?_
  · (intro W hSw; (try dsimp only at hSw); go_simp)
  show wpAnyH _ _ _ _ _ _ _ (Act.put _ (some 23) _) _
  simp only [Act.put, List.setIfInBounds_toArray, List.set_cons_zero, List.set_cons_succ]
  obtain ⟨V0, hV9, HV0b, HV0c⟩ : ∃ Z9, Z9 = w1.drew ∧ Hid (Below w0.heap.size w0 Z9) ∧ Hid (Below w1.heap.size w1 Z9) := ⟨_, rfl, Hw1b.out.drew, (Below.refl _ _).drew⟩
  rw [← hV9]
  clear hV9
  refine wpAnyH_ready (rs := [1]) (by kernel_rfl) (by simp) (AllReadyH.cons rfl (fun K1 hK1 => ?_) (AllReadyH.nil))
  rw [if_pos (by rfl)]
  go_simp
  have hbA := HV0b.out.alloc HV0b.out.size (.cells #[] 131)
  have hbC := HV0c.out.alloc HV0c.out.size (.cells #[] 131)
  refine hK1.out _ _ (HSo.out _ hbA) (fun hS1 => ?_)
  refine wpAnyH_ready (rs := [3]) (by kernel_rfl) (by simp) (AllReadyH.cons rfl (fun K2 hK2 => ?_) (AllReadyH.nil))
  refine step_app0 _ (by rfl) _ _ 102 (by rfl) V0.heap.size 131 it (.agg #[.int .i64 0, .bool false, .int .i64 0]) 3 24 Try.underlying102 hit hitz hits hitb rfl (by decide) _ (by rfl) (made_e _ _ _ (Nat.le_refl _)) w0.heap.size A n k (tnVals us) (by rfl) (HU0.out.below hbA) tn_one (by simp only [maxLen]; omega) (by omega) (by rw [World.size_alloc]; omega) ?_
  intro A2 k2 V2 hown2 hb2 _ hk21 hk22
  have HV2b := Lib.hid (hbA.trans (hb2.mono hbA.size))
  have H12 := Lib.hid (hbC.trans (hb2.mono hbC.size))
  have HU2 : Hid (Sl V2 V2.heap.size 3 A2 n (tnVals us)) := Sl.of_own hown2
  clear hown2 hb2
  refine hK2.out _ _ (HSo.out _ HV2b.out) (fun hS2 => ?_)
  refine wpAnyH_ready (rs := [4]) (by kernel_rfl) (by simp) (AllReadyH.cons rfl (fun K3 hK3 => ?_) (AllReadyH.nil))
  rw [if_pos (by rfl)]
  go_simp
  go_at_call 44
  refine (HPa.out V2 A2 k2 HV2b.out HU2.out).mono ?_
  rintro e w2 ⟨rfl, hb3⟩
  have Hw2b := Lib.hid (HV2b.out.trans (hb3.mono HV2b.out.size))
  refine hK3.out _ _ (HSo.out _ Hw2b.out) (fun hS3 => ?_)
  refine wpAnyH_take (i := 5) (v := .tuple #[.slice none 0 0, .int .i64 c]) rfl (by kernel_rfl) (by kernel_rfl) (by kernel_rfl) (fun _ _ _ h => h) (Or.inl ⟨by rfl, ?_⟩) (hS3) ?_
  · (intro W hSw; (try dsimp only at hSw); go_simp)
  show wpAnyH _ _ _ _ _ _ _ (Act.put _ (some 20) _) _
  simp only [Act.put, List.setIfInBounds_toArray, List.set_cons_zero, List.set_cons_succ]
  refine wpAnyH_take (i := 6) (v := .slice none 0 0) rfl (by kernel_rfl) (by kernel_rfl) (by kernel_rfl) (fun _ _ _ h => h) (Or.inl ⟨by rfl, ?_⟩) (hS3) ?_
  · (intro W hSw; (try dsimp only at hSw); go_simp)
  show wpAnyH _ _ _ _ _ _ _ (Act.put _ (some 26) _) _
  simp only [Act.put, List.setIfInBounds_toArray, List.set_cons_zero, List.set_cons_succ]
  refine wpAnyH_take (i := 7) (v := .int .i64 c) rfl (by kernel_rfl) (by kernel_rfl) (by kernel_rfl) (fun _ _ _ h => h) (Or.inl ⟨by rfl, ?_⟩) (hS3) ?_
  · (intro W hSw; (try dsimp only at hSw); go_simp)
  show wpAnyH _ _ _ _ _ _ _ (Act.put _ (some 27) _) _
  simp only [Act.put, List.setIfInBounds_toArray, List.set_cons_zero, List.set_cons_succ]
  refine wpAnyH_take (i := 8) (v := .slice none 0 0) rfl (by kernel_rfl) (by kernel_rfl) (by kernel_rfl) (fun _ _ _ h => h) (Or.inl ⟨by rfl, ?_⟩) (hS3) ?_
  · (intro W hSw; (try dsimp only at hSw); go_simp)
  show wpAnyH _ _ _ _ _ _ _ (Act.put _ (some 7) _) _
  simp only [Act.put, List.setIfInBounds_toArray, List.set_cons_zero, List.set_cons_succ]
  refine wpAnyH_take (i := 9) (v := .int .i64 c) rfl (by kernel_rfl) (by kernel_rfl) (by kernel_rfl) (fun _ _ _ h => h) (Or.inl ⟨by rfl, ?_⟩) (hS3) ?_
  · (intro W hSw; (try dsimp only at hSw); go_simp)
  show wpAnyH _ _ _ _ _ _ _ (Act.put _ (some 8) _) _
  simp only [Act.put, List.setIfInBounds_toArray, List.set_cons_zero, List.set_cons_succ]
  refine wpAnyH_done (by kernel_rfl) ?_ _
  clear hS hS1 hS2 hS3 hb3 hbA hbC HV0b HV0c H12
  clear HEv HPa HSo
  have hL2 := HB0.out.below Hw2b.out HB0.out.lt
  have q0 : w2.cell? ⟨w.heap.size, 0, none⟩ = some (.slice l.wA l.wn l.wk) := hL2.cell rfl
  have q1 : w2.cell? ⟨w.heap.size, 1, none⟩ = some (.slice l.tA l.tn l.tk) := hL2.cell rfl
  clear hL2
  have b1 : (c != c) = false := by simp
  have b2 : (c != 0) = true := by simpa using HCn.out
  go_upto_region 4 with fail
  go_wp2_with fail
  refine (rlcheck_any l w2 ((HL0.out.keep Hw2b.out).up Hw2b.out.size)).mono ?_
  rintro e w3 ⟨rfl, hb9⟩
  have HB3 := Lib.hid (HW0.out.trans ((Hw2b.out.trans (hb9.mono Hw2b.out.size)).mono HW0.out.size))
  clear hb9 q0 q1
  rcases HC.out with ⟨h1, rfl⟩ | ⟨h1, h2, rfl⟩
  · rw [h1]
    have b3 : ((190 : Int) != 190) = false := rfl
    go_wp2_with fail
    refine (num27_any _ _).mono ?_
    rintro e w7 ⟨rfl, rfl⟩
    go_wp2_with fail
    refine (num27_any _ _).mono ?_
    rintro e w8 ⟨rfl, rfl⟩
    go_wp2_with fail
    go_ret
    exact ⟨rfl, HB3.out⟩
  · rw [h1]
    have b3 : decide ((4096 : Int) < n) = true := by simp; omega
    have b4 : (4096 : Int) < n := by omega
    have b5 : ((3 : Int) != 3) = false := rfl
    go_wp2_with fail
    refine (num27_any _ _).mono ?_
    rintro e w7 ⟨rfl, rfl⟩
    go_wp2_with fail
    refine (num27_any _ _).mono ?_
    rintro e w8 ⟨rfl, rfl⟩
    go_wp2_with fail
    go_ret
    exact ⟨rfl, HB3.out⟩
end Go.Proofs.Ytgbopmgeicokoaa
