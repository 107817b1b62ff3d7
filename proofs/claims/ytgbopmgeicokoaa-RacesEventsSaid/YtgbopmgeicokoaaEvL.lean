/-
  The law RacesEvents, walked.
-/
import Derived.Test.YtgbopmgeicokoaaEvN
namespace Go.Proofs.Ytgbopmgeicokoaa
open Go.RowKit
set_option linter.unusedVariables false
set_option linter.unusedSimpArgs false

theorem sameraces_any (rs : List Rk) (A A2 : Option Addr) (n k k2 : Nat) (w : World) (h : Sl w w.heap.size 3 A n (rkVals rs)) (h2 : Sl w w.heap.size 3 A2 n (rkVals rs)) (hn : n ≤ maxLen) :
    Calls Try.prog 47 #[.slice A n k, .slice A2 n k2] w (BoolR true w) := by
  have hl : rs.length = n := by have := h.1; rw [rkVals_len] at this; omega
  have H := Lib.hid h
  have H2 := Lib.hid h2
  have HL := Lib.hid hl
  unfold maxLen at hn
  clear h h2 hl
  have b1 : ((n : Int) != (n : Int)) = false := by simp
  go_enter Try.func47, Try.ntmps47
  go_wp2_with fail
  go_loopg [5] n (fun gk i wr => ∃ q : Nat, q + gk = n ∧ i = .int .i64 q ∧ Hid (Below w.heap.size w wr))
  case atStart => exact ⟨0, by omega, rfl, Below.refl _ _⟩
  case round =>
    obtain ⟨q, hq, rfl, HB⟩ := hrel
    by_cases hlt : q < n
    · obtain ⟨x, hx⟩ := at_lt (show q < rs.length by rw [HL.out]; exact hlt)
      obtain ⟨b, o, rfl, hb, hc⟩ := (H.out.below HB.out).2 (by omega)
      obtain ⟨b', o', rfl, hb', hc'⟩ := (H2.out.below HB.out).2 (by omega)
      have c0 := hc (q * 3) _ (rkVals_get hx 0 (by omega))
      have c1 := hc (q * 3 + 1) _ (rkVals_get hx 1 (by omega))
      have c2 := hc (q * 3 + 2) _ (rkVals_get hx 2 (by omega))
      have d0 := hc' (q * 3) _ (rkVals_get hx 0 (by omega))
      have d1 := hc' (q * 3 + 1) _ (rkVals_get hx 1 (by omega))
      have d2 := hc' (q * 3 + 2) _ (rkVals_get hx 2 (by omega))
      rw [← Nat.add_assoc] at c1 c2 d1 d2
      have f1 : (q : Int) < n := by omega
      have f0 : (0 : Int) ≤ q := by omega
      clear hc hc' hx
      obtain ⟨x1, x2, x3⟩ := x
      go_upto_region 6 with fail
      go_quiet (fail)
      have HB2 := Lib.hid (HB.out.trans ((Below.refl wr.heap.size wr).drewN nq |>.mono HB.out.size))
      go_wp2_with fail
      go_roundg (gk - 1)
      case measure => omega
      case rel => exact ⟨q + 1, by omega, by go_num, HB2⟩
    · obtain rfl : q = n := by omega
      go_wp2_with fail
      go_ret
      exact ⟨rfl, HB.out⟩

set_option maxRecDepth 100000 in
set_option maxHeartbeats 16000000 in
theorem law_events_ok (l : Lit) (A : Option Addr) (n k : Nat) (us : List Tn) (w : World) (h : LitAt w w.heap.size l) (hu : Sl w w.heap.size 3 A n (tnVals us)) (hk : n ≤ k ∧ k ≤ maxLen) (hok : okLit l = true) (hle : n ≤ 4096) :
    Calls Try.prog 10 #[litV l, .slice A n k] w (BoolR true w) := by
  have hn : n * 24 ≤ 140737488355328 := by omega
  have hlen : us.length = n := by have := hu.1; rw [tnVals_len] at this; omega
  obtain ⟨it, hit, hitz, hits, hitb⟩ := info_parts info_tn
  obtain ⟨w0, hw0⟩ : ∃ w0 : World, w0 = w.alloc (.cells #[.slice l.wA l.wn l.wk, .slice l.tA l.tn l.tk] 101) := ⟨_, rfl⟩
  have HB0 : Hid (Blk w0 w.heap.size 101 (litL l)) := by rw [hw0]; exact Blk.new w 101 (litL l)
  have HW0 : Hid (Below w.heap.size w w0) := by rw [hw0]; exact (Below.refl _ _).alloc (Nat.le_refl _) _
  have HL0 : Hid (LitAt w0 w0.heap.size l) := (h.keep HW0.out).up HW0.out.size
  have HU0 : Hid (Sl w0 w0.heap.size 3 A n (tnVals us)) := (hu.below HW0.out).up HW0.out.size
  have HLen := Lib.hid hlen
  have HWe := Lib.hid hw0
  have hz0 : w.heap.size < w0.heap.size := HB0.out.lt
  have HSo : Hid (∀ W, Below w0.heap.size w0 W → W.cell? ⟨w.heap.size, 0, none⟩ = some (.slice l.wA l.wn l.wk) ∧ W.cell? ⟨w.heap.size, 1, none⟩ = some (.slice l.tA l.tn l.tk)) := fun W hW => ⟨(HB0.out.below hW HB0.out.lt).cell rfl, (HB0.out.below hW HB0.out.lt).cell rfl⟩
  have Hw0b : Hid (Below w0.heap.size w0 w0) := Below.refl _ _
  clear h hu hw0 hlen
  obtain ⟨n1, n2, n3, n4⟩ := okLit_num hok
  have HEv : Hid (∀ W A2 k2, Below w0.heap.size w0 W → Sl W W.heap.size 3 A2 n (tnVals us) → Calls Try.prog 43 #[litV l, .slice A2 n k2] W (EvsR l us W)) := fun W A2 k2 hW hS => by
    refine (events_ok l A2 n k2 us W ((HL0.out.keep hW).up hW.size) hS hok).mono ?_
    intro e w' hp
    exact hp.1 hle
  have HPa : Hid (∀ W A2 k2, Below w0.heap.size w0 W → Sl W W.heap.size 3 A2 n (tnVals us) → Calls Try.prog 44 #[litV l, .slice A2 n k2] W (ParR (playE l us us.length) W)) := fun W A2 k2 hW hS => pairs_ok l A2 n k2 us W ((HL0.out.keep hW).up hW.size) hS hok hle
  have HOk : Hid (∀ e ∈ (playE l us us.length), EvOk l e) := playE_ok hok us _
  have hel : (playE l us us.length).length ≤ n := by have h9 := playE_len l us us.length; have h8 := HLen.out; omega
  have hrl := rcsE_len (playE l us us.length) (playE l us us.length).length
  have hk1 := hk.1
  have hk2 : k ≤ 9223372036854775807 := hk.2
  clear hk
  go_enter Try.func10, Try.ntmps10
  go_upto_region 1 with fail
  rw [← HWe.out]
  clear HWe
  have hlu := HLen.out
  obtain ⟨es, hes⟩ : ∃ es, es = playE l us us.length := ⟨_, rfl⟩
  have HEs := Lib.hid hes
  unfold EvsR at HEv
  rw [← hes] at HEv HPa HOk hel hrl
  obtain ⟨m, hm⟩ : ∃ m, m = es.length := ⟨_, rfl⟩
  rw [← hm] at HEv hel hrl
  have HM := Lib.hid hm
  obtain ⟨r, hr⟩ : ∃ r, r = (rcsE es m).length := ⟨_, rfl⟩
  unfold ParR at HPa
  rw [← hm, ← hr] at HPa
  rw [← hr] at hrl
  have HR := Lib.hid hr
  clear hes hm hr hlu
  go_upto_region 1 with fail
  refine wp_region_held_drew (S := fun W => W.cell? ⟨w.heap.size, 0, none⟩ = some (.slice l.wA l.wn l.wk) ∧ W.cell? ⟨w.heap.size, 1, none⟩ = some (.slice l.tA l.tn l.tk)) (by kernel_rfl) (HSo.out _ (Hw0b.out.drew)) (fun hS => ?_)
  refine wpAnyH_take (i := 0) (v := .agg #[.slice l.wA l.wn l.wk, .slice l.tA l.tn l.tk]) rfl (by kernel_rfl) (by kernel_rfl) (by kernel_rfl) (fun _ _ _ h => h) (Or.inl ⟨by rfl, ?_⟩) (by assumption) ?_
  · (intro W hSw; (try dsimp only at hSw); go_simp)
  show wpAnyH _ _ _ _ _ _ _ (Act.put _ (some 13) _) _
  simp only [Act.put, List.setIfInBounds_toArray, List.set_cons_zero, List.set_cons_succ]
  refine wpAnyH_take (i := 2) (v := .slice A n k) rfl (by kernel_rfl) (by kernel_rfl) (by kernel_rfl) (fun _ _ _ h => h) (Or.inl ⟨by rfl, ?_⟩) (by assumption) ?_
  · (intro W hSw; (try dsimp only at hSw); go_simp)
  show wpAnyH _ _ _ _ _ _ _ (Act.put _ (some 15) _) _
  simp only [Act.put, List.setIfInBounds_toArray, List.set_cons_zero, List.set_cons_succ]
  obtain ⟨V0, hV9, HV0b, HV0c⟩ : ∃ Z9, Z9 = w0.drew ∧ Hid (Below w0.heap.size w0 Z9) ∧ Hid (Below w0.heap.size w0 Z9) := ⟨_, rfl, Hw0b.out.drew, (Below.refl _ _).drew⟩
  rw [← hV9]
  clear hV9
  refine wpAnyH_ready (rs := [1]) (by kernel_rfl) (by simp) (AllReadyH.cons rfl (fun K1 hK1 => ?_) (AllReadyH.nil))
  rw [if_pos (by rfl)]
  go_simp
  have hbA := HV0b.out.alloc HV0b.out.size (.cells #[] 131)
  have hbC := HV0c.out.alloc HV0c.out.size (.cells #[] 131)
  refine hK1.out _ _ (HSo.out _ hbA) (fun hS1 => ?_)
  refine wpAnyH_ready (rs := [3]) (by kernel_rfl) (by simp) (AllReadyH.cons rfl (fun K2 hK2 => ?_) (AllReadyH.nil))
  refine step_app0 _ (by rfl) _ _ 102 (by rfl) V0.heap.size 131 it (.agg #[.int .i64 0, .bool false, .int .i64 0]) 3 24 Try.underlying102 hit hitz hits hitb rfl (by decide) _ (by rfl) (made_e _ _ _ (Nat.le_refl _)) w0.heap.size A n k (tnVals us) (by rfl) (HU0.out.below hbA) tn_one (by simp only [maxLen]; omega) (by omega) (by rw [World.size_alloc]; omega) ?_
  intro A2 k2 V2 hown2 hb2 _ hk21 hk22
  have HV2b := Lib.hid (hbA.trans (hb2.mono hbA.size))
  have H12 := Lib.hid (hbC.trans (hb2.mono hbC.size))
  have HU2 : Hid (Sl V2 V2.heap.size 3 A2 n (tnVals us)) := Sl.of_own hown2
  clear hown2 hb2
  refine hK2.out _ _ (HSo.out _ HV2b.out) (fun hS2 => ?_)
  refine wpAnyH_ready (rs := [4]) (by kernel_rfl) (by simp) (AllReadyH.cons rfl (fun K3 hK3 => ?_) (AllReadyH.nil))
  rw [if_pos (by rfl)]
  go_simp
  go_at_call 43
  refine (HEv.out V2 A2 k2 HV2b.out HU2.out).mono ?_
  rintro e w1 ⟨A4, k4, rfl, hown4, hb3⟩
  have HO4 := Lib.hid hown4
  have Hw1b := Lib.hid (HV2b.out.trans (hb3.mono HV2b.out.size))
  refine hK3.out _ _ (HSo.out _ Hw1b.out) (fun hS3 => ?_)
  refine wpAnyH_take (i := 5) (v := .tuple #[.slice A4 m k4, .int .i64 0]) rfl (by kernel_rfl) (by kernel_rfl) (by kernel_rfl) (fun _ _ _ h => h) (Or.inl ⟨by rfl, ?_⟩) (hS3) ?_
  · (intro W hSw; (try dsimp only at hSw); go_simp)
  show wpAnyH _ _ _ _ _ _ _ (Act.put _ (some 12) _) _
  simp only [Act.put, List.setIfInBounds_toArray, List.set_cons_zero, List.set_cons_succ]
  refine wpAnyH_take (i := 6) (v := .slice A4 m k4) rfl (by kernel_rfl) (by kernel_rfl) (by kernel_rfl) (fun _ _ _ h => h) (Or.inl ⟨by rfl, ?_⟩) (hS3) ?_
  · (intro W hSw; (try dsimp only at hSw); go_simp)
  show wpAnyH _ _ _ _ _ _ _ (Act.put _ (some 18) _) _
  simp only [Act.put, List.setIfInBounds_toArray, List.set_cons_zero, List.set_cons_succ]
  refine wpAnyH_take (i := 7) (v := .int .i64 0) rfl (by kernel_rfl) (by kernel_rfl) (by kernel_rfl) (fun _ _ _ h => h) (Or.inl ⟨by rfl, ?_⟩) (hS3) ?_
  · (intro W hSw; (try dsimp only at hSw); go_simp)
  show wpAnyH _ _ _ _ _ _ _ (Act.put _ (some 19) _) _
  simp only [Act.put, List.setIfInBounds_toArray, List.set_cons_zero, List.set_cons_succ]
  refine wpAnyH_take (i := 8) (v := .slice A4 m k4) rfl (by kernel_rfl) (by kernel_rfl) (by kernel_rfl) (fun _ _ _ h => h) (Or.inl ⟨by rfl, ?_⟩) (hS3) ?_
  · (intro W hSw; (try dsimp only at hSw); go_simp)
  show wpAnyH _ _ _ _ _ _ _ (Act.put _ (some 5) _) _
  simp only [Act.put, List.setIfInBounds_toArray, List.set_cons_zero, List.set_cons_succ]
  refine wpAnyH_take (i := 9) (v := .int .i64 0) rfl (by kernel_rfl) (by kernel_rfl) (by kernel_rfl) (fun _ _ _ h => h) (Or.inl ⟨by rfl, ?_⟩) (hS3) ?_
  · (intro W hSw; (try dsimp only at hSw); go_simp)
  show wpAnyH _ _ _ _ _ _ _ (Act.put _ (some 6) _) _
  simp only [Act.put, List.setIfInBounds_toArray, List.set_cons_zero, List.set_cons_succ]
  refine wpAnyH_done (by kernel_rfl) ?_ _
  clear hS hS1 hS2 hS3 hb3 hbA hbC HV0b HV0c H12
  clear HV2b HU2 hk21 hk22 hown4
  go_upto_region 2 with fail
  refine wp_region_held_drew (S := fun W => W.cell? ⟨w.heap.size, 0, none⟩ = some (.slice l.wA l.wn l.wk) ∧ W.cell? ⟨w.heap.size, 1, none⟩ = some (.slice l.tA l.tn l.tk)) (by kernel_rfl) (HSo.out _ (Hw1b.out.drew)) (fun hS => ?_)
  refine wpAnyH_take (i := 0) (v := .agg #[.slice l.wA l.wn l.wk, .slice l.tA l.tn l.tk]) rfl (by kernel_rfl) (by kernel_rfl) (by kernel_rfl) (fun _ _ _ h => h) (Or.inl ⟨by rfl, ?_⟩) (by assumption) ?_
  · (intro W hSw; (try dsimp only at hSw); go_simp)
  show wpAnyH _ _ _ _ _ _ _ (Act.put _ (some 21) _) _
  simp only [Act.put, List.setIfInBounds_toArray, List.set_cons_zero, List.set_cons_succ]
  refine wpAnyH_take (i := 2) (v := .slice A n k) rfl (by kernel_rfl) (by kernel_rfl) (by kernel_rfl) (fun _ _ _ h => h) (Or.inl ⟨by rfl, ?_⟩) (by assumption) ?_
  · (intro W hSw; (try dsimp only at hSw); go_simp)
  show wpAnyH _ _ _ _ _ _ _ (Act.put _ (some 23) _) _
  simp only [Act.put, List.setIfInBounds_toArray, List.set_cons_zero, List.set_cons_succ]
  obtain ⟨V0, hV9, HV0b, HV0c⟩ : ∃ Z9, Z9 = w1.drew ∧ Hid (Below w0.heap.size w0 Z9) ∧ Hid (Below w1.heap.size w1 Z9) := ⟨_, rfl, Hw1b.out.drew, (Below.refl _ _).drew⟩
  rw [← hV9]
  clear hV9
  refine wpAnyH_ready (rs := [1]) (by kernel_rfl) (by simp) (AllReadyH.cons rfl (fun K1 hK1 => ?_) (AllReadyH.nil))
  rw [if_pos (by rfl)]
  go_simp
  have hbA := HV0b.out.alloc HV0b.out.size (.cells #[] 131)
  have hbC := HV0c.out.alloc HV0c.out.size (.cells #[] 131)
  refine hK1.out _ _ (HSo.out _ hbA) (fun hS1 => ?_)
  refine wpAnyH_ready (rs := [3]) (by kernel_rfl) (by simp) (AllReadyH.cons rfl (fun K2 hK2 => ?_) (AllReadyH.nil))
  refine step_app0 _ (by rfl) _ _ 102 (by rfl) V0.heap.size 131 it (.agg #[.int .i64 0, .bool false, .int .i64 0]) 3 24 Try.underlying102 hit hitz hits hitb rfl (by decide) _ (by rfl) (made_e _ _ _ (Nat.le_refl _)) w0.heap.size A n k (tnVals us) (by rfl) (HU0.out.below hbA) tn_one (by simp only [maxLen]; omega) (by omega) (by rw [World.size_alloc]; omega) ?_
  intro A2 k2 V2 hown2 hb2 _ hk21 hk22
  have HV2b := Lib.hid (hbA.trans (hb2.mono hbA.size))
  have H12 := Lib.hid (hbC.trans (hb2.mono hbC.size))
  have HU2 : Hid (Sl V2 V2.heap.size 3 A2 n (tnVals us)) := Sl.of_own hown2
  clear hown2 hb2
  refine hK2.out _ _ (HSo.out _ HV2b.out) (fun hS2 => ?_)
  refine wpAnyH_ready (rs := [4]) (by kernel_rfl) (by simp) (AllReadyH.cons rfl (fun K3 hK3 => ?_) (AllReadyH.nil))
  rw [if_pos (by rfl)]
  go_simp
  go_at_call 44
  refine (HPa.out V2 A2 k2 HV2b.out HU2.out).mono ?_
  rintro e w2 ⟨A5, k5, rfl, hown5, hb3⟩
  have HO5 := Lib.hid hown5
  have HO4' := Lib.hid (HO4.out.below (H12.out.trans (hb3.mono H12.out.size)))
  have Hw2b := Lib.hid (HV2b.out.trans (hb3.mono HV2b.out.size))
  refine hK3.out _ _ (HSo.out _ Hw2b.out) (fun hS3 => ?_)
  refine wpAnyH_take (i := 5) (v := .tuple #[.slice A5 r k5, .int .i64 0]) rfl (by kernel_rfl) (by kernel_rfl) (by kernel_rfl) (fun _ _ _ h => h) (Or.inl ⟨by rfl, ?_⟩) (hS3) ?_
  · (intro W hSw; (try dsimp only at hSw); go_simp)
  show wpAnyH _ _ _ _ _ _ _ (Act.put _ (some 20) _) _
  simp only [Act.put, List.setIfInBounds_toArray, List.set_cons_zero, List.set_cons_succ]
  refine wpAnyH_take (i := 6) (v := .slice A5 r k5) rfl (by kernel_rfl) (by kernel_rfl) (by kernel_rfl) (fun _ _ _ h => h) (Or.inl ⟨by rfl, ?_⟩) (hS3) ?_
  · (intro W hSw; (try dsimp only at hSw); go_simp)
  show wpAnyH _ _ _ _ _ _ _ (Act.put _ (some 26) _) _
  simp only [Act.put, List.setIfInBounds_toArray, List.set_cons_zero, List.set_cons_succ]
  refine wpAnyH_take (i := 7) (v := .int .i64 0) rfl (by kernel_rfl) (by kernel_rfl) (by kernel_rfl) (fun _ _ _ h => h) (Or.inl ⟨by rfl, ?_⟩) (hS3) ?_
  · (intro W hSw; (try dsimp only at hSw); go_simp)
  show wpAnyH _ _ _ _ _ _ _ (Act.put _ (some 27) _) _
  simp only [Act.put, List.setIfInBounds_toArray, List.set_cons_zero, List.set_cons_succ]
  refine wpAnyH_take (i := 8) (v := .slice A5 r k5) rfl (by kernel_rfl) (by kernel_rfl) (by kernel_rfl) (fun _ _ _ h => h) (Or.inl ⟨by rfl, ?_⟩) (hS3) ?_
  · (intro W hSw; (try dsimp only at hSw); go_simp)
  show wpAnyH _ _ _ _ _ _ _ (Act.put _ (some 7) _) _
  simp only [Act.put, List.setIfInBounds_toArray, List.set_cons_zero, List.set_cons_succ]
  refine wpAnyH_take (i := 9) (v := .int .i64 0) rfl (by kernel_rfl) (by kernel_rfl) (by kernel_rfl) (fun _ _ _ h => h) (Or.inl ⟨by rfl, ?_⟩) (hS3) ?_
  · (intro W hSw; (try dsimp only at hSw); go_simp)
  show wpAnyH _ _ _ _ _ _ _ (Act.put _ (some 8) _) _
  simp only [Act.put, List.setIfInBounds_toArray, List.set_cons_zero, List.set_cons_succ]
  refine wpAnyH_done (by kernel_rfl) ?_ _
  clear hS hS1 hS2 hS3 hb3 hbA hbC HV0b HV0c H12
  clear HEv HPa HSo HV2b HU2 hown5 HO4
  have hL2 := HB0.out.below Hw2b.out HB0.out.lt
  have q0 : w2.cell? ⟨w.heap.size, 0, none⟩ = some (.slice l.wA l.wn l.wk) := hL2.cell rfl
  have q1 : w2.cell? ⟨w.heap.size, 1, none⟩ = some (.slice l.tA l.tn l.tk) := hL2.cell rfl
  clear hL2
  have b3 : decide ((4096 : Int) < n) = false := by simp; omega
  have b4 : ¬ (4096 : Int) < n := by omega
  have b5 : ((0 : Int) != 0) = false := rfl
  go_upto_region 4 with fail
  go_wp2_with fail
  refine (rlcheck_any l w2 ((HL0.out.keep Hw2b.out).up Hw2b.out.size)).mono ?_
  rintro e w3 ⟨rfl, hb9⟩
  have HB3 := Lib.hid (Hw2b.out.trans (hb9.mono Hw2b.out.size))
  have HO4 := Lib.hid (HO4'.out.below hb9)
  have HO6 := Lib.hid (HO5.out.below hb9)
  clear hb9 q0 q1 HO4' HO5
  rw [hok]
  go_wp2_with fail
  refine (num27_any _ _).mono ?_
  rintro e w7 ⟨rfl, rfl⟩
  go_wp2_with fail
  refine (num27_any _ _).mono ?_
  rintro e w8 ⟨rfl, rfl⟩
  have hL2 := HB0.out.below HB3.out HB0.out.lt
  have q0 : w8.cell? ⟨w.heap.size, 0, none⟩ = some (.slice l.wA l.wn l.wk) := hL2.cell rfl
  have q1 : w8.cell? ⟨w.heap.size, 1, none⟩ = some (.slice l.tA l.tn l.tk) := hL2.cell rfl
  clear hL2
  go_wp2_with fail
  refine (rplay_any l A n k us w8 ((HL0.out.keep HB3.out).up HB3.out.size) ((HU0.out.below HB3.out).up HB3.out.size) hok hle).mono ?_
  unfold RplR
  rw [← HEs.out, HLen.out]
  rintro e w9 ⟨M, rfl, hrs, hb9⟩
  clear q0 q1
  have hx1 : Blk (w9.alloc (.cells #[.slice none 0 0, .slice none 0 0, .slice none 0 0, .slice none 0 0, .slice none 0 0, .slice none 0 0, .slice none 0 0] 116)) w9.heap.size 116 [.slice none 0 0, .slice none 0 0, .slice none 0 0, .slice none 0 0, .slice none 0 0, .slice none 0 0, .slice none 0 0] := Blk.new w9 116 [.slice none 0 0, .slice none 0 0, .slice none 0 0, .slice none 0 0, .slice none 0 0, .slice none 0 0, .slice none 0 0]
  obtain ⟨vA, vk, hvE, hvk1, hvk2⟩ := own_form hrs.ev
  have HvE := Lib.hid hvE
  unfold rsV
  rw [hvE]
  clear hvE
  go_upto_region 13 with (refine wpList_store_row rfl _ _ _ rfl w9.heap.size #[.slice (some ⟨M.h.gw, 0, none⟩) l.wn M.h.kw, .slice (some ⟨M.h.gr, 0, none⟩) l.tn M.h.kr, .slice (some ⟨M.h.gp, 0, none⟩) l.tn M.h.kp, .slice (some ⟨M.h.gb, 0, none⟩) l.tn M.h.kb, .slice (some ⟨M.gm, 0, none⟩) l.tn M.km, .slice (some ⟨M.gd, 0, none⟩) l.wn M.kd, .slice vA es.length vk] rfl rfl 116 _ hx1 size_st7 rfl (st7_one _ _ _ _ _ _ _ _ _ _ _ _ _ _ _ _ _ _ _ _ _) ?_)
  (try simp only [Act.put])
  go_upto_region 13 with fail
  obtain ⟨gs, hgs⟩ : ∃ gs, gs = w9.heap.size := ⟨_, rfl⟩
  obtain ⟨x0, hx0, HG, HE, HO4z, HO6z, HBz⟩ : ∃ Z9, Z9 = (w9.alloc (.cells #[.slice none 0 0, .slice none 0 0, .slice none 0 0, .slice none 0 0, .slice none 0 0, .slice none 0 0, .slice none 0 0] 116)).setRow w9.heap.size #[.slice (some ⟨M.h.gw, 0, none⟩) l.wn M.h.kw, .slice (some ⟨M.h.gr, 0, none⟩) l.tn M.h.kr, .slice (some ⟨M.h.gp, 0, none⟩) l.tn M.h.kp, .slice (some ⟨M.h.gb, 0, none⟩) l.tn M.h.kb, .slice (some ⟨M.gm, 0, none⟩) l.tn M.km, .slice (some ⟨M.gd, 0, none⟩) l.wn M.kd, .slice vA es.length vk] ∧ Hid (Blk Z9 gs 116 (stL M.h l.tn l.wn ++ [.slice (some ⟨M.gm, 0, none⟩) l.tn M.km, .slice (some ⟨M.gd, 0, none⟩) l.wn M.kd, .slice vA es.length vk])) ∧ Hid (EvcAt Z9 Z9.heap.size l.tn es M.cs vA) ∧ Hid (Sl Z9 Z9.heap.size 4 A4 m (evVals es)) ∧ Hid (Sl Z9 Z9.heap.size 3 A5 r (rkVals (rcsE es m))) ∧ Hid (Below w.heap.size w Z9) := by
    have hA : Below w9.heap.size w9 ((w9.alloc (.cells #[.slice none 0 0, .slice none 0 0, .slice none 0 0, .slice none 0 0, .slice none 0 0, .slice none 0 0, .slice none 0 0] 116)).setRow w9.heap.size #[.slice (some ⟨M.h.gw, 0, none⟩) l.wn M.h.kw, .slice (some ⟨M.h.gr, 0, none⟩) l.tn M.h.kr, .slice (some ⟨M.h.gp, 0, none⟩) l.tn M.h.kp, .slice (some ⟨M.h.gb, 0, none⟩) l.tn M.h.kb, .slice (some ⟨M.gm, 0, none⟩) l.tn M.km, .slice (some ⟨M.gd, 0, none⟩) l.wn M.kd, .slice vA es.length vk]) := rowB ((Below.refl _ _).alloc (Nat.le_refl _) _) (Nat.le_refl _)
    have hr2 := hrs.on hA
    refine ⟨_, rfl, ?_, ⟨?_, hr2.cl, fun j p hp => (hr2.cr j p hp).2.sl⟩, ?_, ?_, ?_⟩
    · rw [hgs]
      exact setRow_heap _ _ _ #[.slice (some ⟨M.h.gw, 0, none⟩) l.wn M.h.kw, .slice (some ⟨M.h.gr, 0, none⟩) l.tn M.h.kr, .slice (some ⟨M.h.gp, 0, none⟩) l.tn M.h.kp, .slice (some ⟨M.h.gb, 0, none⟩) l.tn M.h.kb, .slice (some ⟨M.gm, 0, none⟩) l.tn M.km, .slice (some ⟨M.gd, 0, none⟩) l.wn M.kd, .slice vA es.length vk] _ _ hx1
    · have h9 := hr2.ev
      rw [HvE.out] at h9
      exact Sl.of_own h9
    · have h9 := (HO4.out.below hb9).below hA
      exact Lib.hid (Sl.of_own h9)
    · exact Lib.hid (Sl.of_own ((HO6.out.below hb9).below hA))
    · exact Lib.hid (HW0.out.trans ((HB3.out.trans ((hb9.trans (hA.mono hb9.size)).mono HB3.out.size)).mono HW0.out.size))
  rw [← hx0, ← hgs]
  clear hx0 hgs hx1 hrs hb9 HO4 HO6 HB3
  rw [← HM.out]
  have b6 : ((m : Int) != (m : Int)) = false := by simp
  have g6 : x0.cell? ⟨gs, 6, none⟩ = some (.slice vA es.length vk) := HG.out.cell rfl
  rw [← HM.out] at g6
  go_wp2_with fail
  clear g6
  go_loopg [11] m (fun gk i wr => ∃ q : Nat, q + gk = m ∧ i = .int .i64 q ∧ Hid (Below x0.heap.size x0 wr))
  case atStart => exact ⟨0, by omega, rfl, Below.refl _ _⟩
  case round =>
    obtain ⟨q, hq, rfl, HB⟩ := hrel
    have g6 : wr.cell? ⟨gs, 6, none⟩ = some (.slice vA es.length vk) := (HG.out.below HB.out HG.out.lt).cell rfl
    rw [← HM.out] at g6
    by_cases hlt : q < m
    · obtain ⟨e, he⟩ := at_lt (show q < es.length by have := HM.out; omega)
      have HE1 := HE.out.on HB.out
      obtain ⟨p, b1, o1, hp, hA1, hb1, c0, c1, c2, c3, c4⟩ := HE1.at_ he
      subst hA1
      obtain ⟨b', o', rfl, hb', hc'⟩ := (HO4z.out.below HB.out).2 (by omega)
      have d0 := hc' (q * 4) _ (evVals_get he 0 (by omega))
      have d1 := hc' (q * 4 + 1) _ (evVals_get he 1 (by omega))
      have d2 := hc' (q * 4 + 2) _ (evVals_get he 2 (by omega))
      have d3 := hc' (q * 4 + 3) _ (evVals_get he 3 (by omega))
      rw [← Nat.add_assoc] at d1 d2 d3
      have f1 : (q : Int) < m := by omega
      have f0 : (0 : Int) ≤ q := by omega
      clear hc' he hp HE1 c4
      obtain ⟨et, ek, ea, ew⟩ := e
      dsimp only at c0 c1 c2 c3
      go_upto_region 18 with fail
      go_quiet (fail)
      have HB2 := Lib.hid (HB.out.trans ((Below.refl wr.heap.size wr).drewN nq |>.mono HB.out.size))
      go_wp2_with fail
      go_roundg (gk - 1)
      case measure => omega
      case rel => exact ⟨q + 1, by omega, by go_num, HB2⟩
    · have hq1 : m ≤ 100000 := by omega
      obtain rfl : q = m := by omega
      have HBw := Lib.hid (HBz.out.trans (HB.out.mono HBz.out.size))
      go_wp2_with fail
      refine (rpairs_any es M.cs vA l.tn q vk wr ((HE.out.on HB.out).up HB.out.size) HM.out.symm hq1 n2 (fun e he => (HOk.out e he).1)).mono ?_
      unfold RparR
      rw [← HM.out, ← HR.out]
      rintro e wa ⟨A9, k9, rfl, hown9, hb9⟩
      have HS9 := Lib.hid (Sl.of_own hown9)
      have HS5 := Lib.hid ((HO6z.out.below HB.out).up HB.out.size)
      have HS5b := Lib.hid ((HS5.out.below hb9).up hb9.size)
      have HBf := Lib.hid (HBw.out.trans (hb9.mono HBw.out.size))
      clear hown9 hb9
      go_wp2_with fail
      refine (sameraces_any (rcsE es q) A5 A9 r k5 k9 wa HS5b.out HS9.out (by simp only [maxLen]; omega)).mono ?_
      rintro e wb ⟨rfl, hb8⟩
      go_wp2_with fail
      go_ret
      exact ⟨rfl, HBf.out.trans (hb8.mono HBf.out.size)⟩
end Go.Proofs.Ytgbopmgeicokoaa
