/-
  reclaimlaw24.awake is true.
-/
import Derived.Test.YtjnmlgfkiebkgaaLho
namespace Go.Proofs.Ytjnmlgfkiebkgaa
open Go.RowKit
set_option linter.unusedVariables false
set_option linter.unusedSimpArgs false

theorem info_mov : (Try.prog.info? 78).map (fun i => (i.zero, i.size, i.bytes)) = some (some (.agg #[.int .i64 0, .int .i64 0, .int .i64 0, .int .i64 0]), 4, 32) := by kernel_rfl
theorem size_lks : (Try.prog.info? 24).map (·.size) = some 2 := by kernel_rfl
theorem moVals_app (l : List Mo) (v : Mo) : moVals l ++ moL v = moVals (l ++ [v]) := by simp [moVals]
theorem moL_one (v : Mo) : ∀ u ∈ moL v, u.oneCell' = true := by
  intro u hu
  simp at hu
  rcases hu with rfl | rfl | rfl | rfl <;> rfl
/-- moves in a row of one's own -/
def MovR (B n : Nat) (l : List Mo) (w : World) (e : Ending) (w' : World) : Prop := ∃ A c, e = .returned (.slice A n c) ∧ n = l.length ∧ w'.ownsRow B 78 4 (.slice A n c) n (moVals l) ∧ Below B w w'
set_option maxRecDepth 100000 in
set_option maxHeartbeats 2000000 in
theorem steps_any (ms : List Mo) (t : Int) (n B : Nat) (A : Option Addr) (c : Nat) (w : World) (hB : B ≤ w.heap.size) (h : w.ownsRow B 78 4 (.slice A ms.length c) ms.length (moVals ms)) (hn : ms.length + n ≤ 1000) :
    Calls Try.prog 31 #[.slice A ms.length c, .int .i64 t, .int .i64 n] w (MovR B (ms.length + n) (ms ++ List.replicate n ⟨t, 0, 0, 0⟩) w) := by
  obtain ⟨i1, hi1, hi1z, hi1s, hi1b⟩ := info_parts info_mov
  have HO := Lib.hid h
  clear h
  go_enter Try.func31, Try.ntmps31
  go_wp2_with fail
  go_loopg [0, 7] n (fun gk s0 i wr => ∃ (j : Nat) (A7 : Option Addr) (k7 : Nat), j + gk = n ∧ i = .int .i64 j ∧ s0 = .slice A7 (ms.length + j) k7 ∧ Hid (Below B w wr) ∧ B ≤ wr.heap.size ∧ Hid (wr.ownsRow B 78 4 s0 (ms.length + j) (moVals (ms ++ List.replicate j ⟨t, 0, 0, 0⟩))))
  case atStart => exact ⟨0, A, c, by omega, rfl, rfl, Below.refl _ _, hB, by show World.ownsRow _ _ _ _ _ _ _; simpa using HO.out⟩
  case round =>
    obtain ⟨j, A7, k7, hj, rfl, rfl, hBr, hzr, hO⟩ := hrel
    by_cases hlt : j < n
    · have e1 : (j : Int) < n := by omega
      go_wp2_with (at_builtin; go_must (refine wpList_app _ rfl _ _ 51 rfl B 78 i1 (.agg #[.int .i64 0, .int .i64 0, .int .i64 0, .int .i64 0]) 4 32 Try.underlying51 hi1 hi1z hi1s hi1b rfl (by decide) (.slice A7 (ms.length + j) k7) (ms.length + j) (moVals (ms ++ List.replicate j ⟨t, 0, 0, 0⟩)) rfl (hO.out.alloc _) (wr.heap.size + 1) (some ⟨wr.heap.size, 0, none⟩) 1 1 (moL ⟨t, 0, 0, 0⟩) rfl (((Blk.new wr 78 _).sl rfl).up (by simp)) (moL_one _) (ms.length + j + 1) rfl _ rfl _ rfl (by simp only [maxLen]; omega) (by omega) (by rw [World.size_alloc]; omega) ?_; intro A9 k9 w9 hown9 hg9 hat9 hk9 hk9'))
      go_roundg (gk - 1)
      case measure => omega
      case rel =>
        refine ⟨j + 1, A9, k9, by omega, by go_num, rfl, (hBr.out.alloc hzr _).grown hg9 (by rw [World.size_alloc]; omega) (fun r hr => (hO.out.lt r hr).1), ?_, ?_⟩
        · have := hg9.4; rw [World.size_alloc] at this; omega
        · show World.ownsRow _ _ _ _ _ _ _
          rw [List.replicate_succ', ← List.append_assoc, ← moVals_app]
          exact hown9
    · obtain rfl : j = n := by omega
      go_wp2_with fail
      go_ret
      exact ⟨A7, k7, rfl, by simp, hO.out, hBr.out⟩
set_option maxRecDepth 100000 in
theorem small_any (w : World) : Calls Try.prog 32 #[] w fun e w' => e = .returned (.agg #[.int .i64 2, .int .i64 2]) ∧ Below w.heap.size w w' := by
  go_enter Try.func32, Try.ntmps32
  go_wp2_with fail
  refine bodyPost_ret_by (results_cell_row rfl _ _ w.heap.size 24 #[.int .i64 2, .int .i64 2] (0, 0) _ rfl (Blk.new w 24 [.int .i64 2, .int .i64 2]) Try.underlying24 rfl size_lks) rfl ?_
  exact ⟨rfl, (Below.refl _ _).alloc (Nat.le_refl _) _⟩
end Go.Proofs.Ytjnmlgfkiebkgaa
namespace Go.Proofs.Ytjnmlgfkiebkgaa
open Go.RowKit
set_option linter.unusedVariables false
set_option linter.unusedSimpArgs false

theorem own_some {w : World} {base : Nat} {e : TypeId} {size : Nat} {v : Value} {n : Nat} {xs : List Value} (h : w.ownsRow base e size v n xs) (hn : 0 < n) :
    ∃ g cap, v = .slice (some ⟨g, 0, none⟩) n cap := by
  rcases h.2 with ⟨_, h0⟩ | ⟨g, cap, cur, hv, _⟩
  · omega
  · exact ⟨g, cap, hv⟩
def awMs : List Mo := [⟨0, 120, 0, 0⟩, ⟨0, 0, 0, 0⟩, ⟨0, 0, 0, 0⟩, ⟨0, 0, 0, 0⟩, ⟨1, 120, 0, 0⟩, ⟨1, 0, 0, 0⟩, ⟨1, 0, 0, 0⟩, ⟨1, 0, 0, 0⟩, ⟨1, 0, 0, 0⟩, ⟨0, 124, 0, 0⟩, ⟨0, 0, 0, 0⟩, ⟨0, 0, 0, 0⟩, ⟨0, 121, 0, 0⟩, ⟨0, 0, 0, 0⟩, ⟨1, 0, 0, 0⟩]
def awC : List Cal := [⟨0, 120, 0, 0, 0, 3, 2, 1, 0⟩, ⟨1, 120, 0, 0, 4, 14, 6, 1, 0⟩, ⟨0, 124, 0, 0, 9, 11, -1, 2, 0⟩, ⟨0, 121, 0, 0, 12, 13, -1, 1, 0⟩]
def awW : List Int := [1, 2, 1]
def awS : List St := [⟨0, false, 3, 12⟩, ⟨1, false, 14, -1⟩]
def awT : List Cal := [⟨0, 124, 0, 0, 9, 11, -1, 2, 0⟩]
theorem aw_calls : ((mc0 2 2).moves_ awMs).calls = awC := by kernel_rfl
theorem aw_words : ((mc0 2 2).moves_ awMs).words = awW := by kernel_rfl
theorem aw_log : ((mc0 2 2).moves_ awMs).log.length = 11 := by kernel_rfl
theorem aw_st0 : stays0 awC = awS := by kernel_rfl
theorem aw_tc0 : awC.filter Cal.isTouch = awT := by kernel_rfl
theorem aw_holds : holdsP awS awT awW = true := by kernel_rfl
theorem aw_sty : styS (stays0 awC) awS := by
  rw [aw_st0]
  have h := sty_small awS (by decide)
  have h2 : Sort.insertionSort (ltOf styC) awS.toArray 0 awS.length = awS.toArray := insS_id (ltOf styC) awS.toArray (by
    intro i h0 hi
    have hi' : i < 2 := hi
    obtain rfl : i = 1 := by omega
    rfl)
  rw [h2] at h
  exact h
theorem aw_cal : calS (awC.filter Cal.isTouch) awT := by
  rw [aw_tc0]
  have h := cal_small awT (by decide)
  have h2 : Sort.insertionSort (ltOf calC) awT.toArray 0 awT.length = awT.toArray := insS_id (ltOf calC) awT.toArray (by
    intro i h0 hi
    have hi' : i < 1 := hi
    omega)
  rw [h2] at h
  exact h
def AwR (w : World) (e : Ending) (w' : World) : Prop :=
  ∃ gc kc At kt gw kw, e = .returned (.tuple #[.agg #[.slice (some ⟨gc, 0, none⟩) 4 kc, .slice At 11 kt, .slice none 0 0, .slice (some ⟨gw, 0, none⟩) 3 kw], .int .i64 0]) ∧
    w'.ownsRow w.heap.size 62 9 (.slice (some ⟨gc, 0, none⟩) 4 kc) 4 (calVals awC) ∧ w'.ownsRow w.heap.size 34 1 (.slice (some ⟨gw, 0, none⟩) 3 kw) 3 (u64s awW) ∧ Below w.heap.size w w'
theorem aw_play (A : Option Addr) (c : Nat) (w : World) (h : Sl w w.heap.size 4 A 15 (moVals awMs)) :
    Calls Try.prog 24 #[.agg #[.int .i64 2, .int .i64 2], .slice A 15 c] w (AwR w) := by
  have h0 : ∀ w, Calls Try.prog 27 #[.agg #[.int .i64 ((2 : Nat) : Int), .int .i64 2]] w (fun e w' => ∃ M, e = .returned (.tuple #[.pointer (some ⟨M.x, 0, none⟩), .int .i64 0]) ∧ MM w' w.heap.size M (mc0 2 ((2 : Nat) : Int)) ∧ Below w.heap.size w w') :=
    fun w => lnew_any 2 2 (by rfl) (by omega) (words_p2 2 (by omega) (by omega)) (by decide) (fun me w => rules_2 2 me w) w
  have h1 := lplay_any 2 2 kok2 (by omega) h0 awMs A c w h (by decide) (by
    intro v hv
    simp only [awMs, List.mem_cons, List.not_mem_nil, or_false] at hv
    rcases hv with rfl | rfl | rfl | rfl | rfl | rfl | rfl | rfl | rfl | rfl | rfl | rfl | rfl | rfl | rfl <;> decide) (by
      show (((mc0 2 2).moves_ awMs).log.length ≤ 100000 ∧ ((mc0 2 2).moves_ awMs).calls.length ≤ 100000 ∧ ((mc0 2 2).moves_ awMs).words.length ≤ 8192)
      rw [aw_log, aw_calls, aw_words]; decide)
  refine Calls.mono h1 ?_
  show ∀ e w', PlayR ((mc0 2 2).moves_ awMs) w e w' → _
  rintro e w' ⟨Ac, kc, At, kt, Aw, kw, rfl, o1, o2, o3, hb⟩
  rw [aw_calls] at o1 ⊢
  rw [aw_words] at o3 ⊢
  rw [aw_log]
  obtain ⟨gc, kc', e1⟩ := own_some o1 (by decide)
  obtain ⟨gw, kw', e3⟩ := own_some o3 (by decide)
  injection e1 with e1 _ e1'
  injection e3 with e3 _ e3'
  subst e1 e1' e3 e3'
  exact ⟨gc, _, At, kt, gw, _, rfl, o1, o3, hb⟩
end Go.Proofs.Ytjnmlgfkiebkgaa
namespace Go.Proofs.Ytjnmlgfkiebkgaa
open Go.RowKit
set_option linter.unusedVariables false
set_option linter.unusedSimpArgs false

theorem steps_at (ms ms' : List Mo) (t z : Int) (m n N B : Nat) (hm : ms.length = m) (hz : (n : Int) = z) (hN : m + n = N) (h' : ms ++ List.replicate n ⟨t, 0, 0, 0⟩ = ms') (A : Option Addr) (c : Nat) (w : World) (hB : B ≤ w.heap.size) (h : w.ownsRow B 78 4 (.slice A m c) m (moVals ms)) (hn : N ≤ 1000) :
    Calls Try.prog 31 #[.slice A m c, .int .i64 t, .int .i64 z] w (MovR B N ms' w) := by
  subst hm hz hN h'
  exact steps_any ms t n B A c w hB h hn
set_option maxRecDepth 100000 in
set_option maxHeartbeats 4000000 in
theorem awake_any (w : World) : Calls Try.prog 12 #[] w (BoolR true w) := by
  obtain ⟨i1, hi1, hi1z, hi1s, hi1b⟩ := info_parts info_mov
  go_enter Try.func12, Try.ntmps12
  go_wp2_with fail
  refine (steps_at [⟨0, 120, 0, 0⟩] (awMs.take 4) 0 3 1 3 4 w.heap.size rfl rfl rfl rfl _ _ _ (by simp) (World.ownsRow_lit w #[.int .i64 0, .int .i64 120, .int .i64 0, .int .i64 0] 1 (Nat.le_refl _) (by decide) rfl) (by decide)).mono ?_
  rintro e w1 ⟨A1, c1, rfl, -, ho1, hb1⟩
  have HB1 : Hid (Below w.heap.size w w1) := ((Below.refl _ _).alloc (Nat.le_refl _) _).trans hb1
  have HO1 := Lib.hid ho1
  have hz1 : w.heap.size ≤ w1.heap.size := by have := hb1.size; rw [World.size_alloc] at this; omega
  clear hb1 ho1
  go_wp2_with (at_builtin; go_must (refine wpList_app _ rfl _ _ 51 rfl w.heap.size 78 i1 (.agg #[.int .i64 0, .int .i64 0, .int .i64 0, .int .i64 0]) 4 32 Try.underlying51 hi1 hi1z hi1s hi1b rfl (by decide) (.slice A1 4 c1) 4 (moVals (awMs.take 4)) rfl (HO1.out.alloc _) (w1.heap.size + 1) (some ⟨w1.heap.size, 0, none⟩) 1 1 (moL ⟨1, 120, 0, 0⟩) rfl (((Blk.new w1 78 _).sl rfl).up (by simp)) (moL_one _) 5 rfl (moVals (awMs.take 5)) rfl _ rfl (by decide) (by omega) (by rw [World.size_alloc]; omega) ?_; intro B1 d1 v1 hown hg _ _ _))
  have hq : w.heap.size ≤ v1.heap.size := by have := hg.4; rw [World.size_alloc] at this; omega
  have HV1 : Hid (Below w.heap.size w v1) := (HB1.out.alloc hz1 _).grown hg (by rw [World.size_alloc]; omega) (fun r hr => (HO1.out.lt r hr).1)
  have HC1 : Hid (Calls Try.prog 31 #[.slice B1 5 d1, .int .i64 1, .int .i64 4] v1 (MovR w.heap.size 9 (awMs.take 9) v1)) := steps_at (awMs.take 5) (awMs.take 9) 1 4 5 4 9 w.heap.size rfl rfl rfl rfl _ _ _ hq hown (by decide)
  clear hown hg
  go_wp2_with fail
  refine HC1.out.mono ?_
  rintro e w2 ⟨A2, c2, rfl, -, ho2, hb2⟩
  have HB2 : Hid (Below w.heap.size w w2) := HV1.out.trans hb2
  have HO2 := Lib.hid ho2
  have hz2 : w.heap.size ≤ w2.heap.size := Nat.le_trans hq hb2.size
  clear hb2 ho2 HC1 HV1 hq hz1 HO1 HB1
  go_wp2_with (at_builtin; go_must (refine wpList_app _ rfl _ _ 51 rfl w.heap.size 78 i1 (.agg #[.int .i64 0, .int .i64 0, .int .i64 0, .int .i64 0]) 4 32 Try.underlying51 hi1 hi1z hi1s hi1b rfl (by decide) (.slice A2 9 c2) 9 (moVals (awMs.take 9)) rfl (HO2.out.alloc _) (w2.heap.size + 1) (some ⟨w2.heap.size, 0, none⟩) 1 1 (moL ⟨0, 124, 0, 0⟩) rfl (((Blk.new w2 78 _).sl rfl).up (by simp)) (moL_one _) 10 rfl (moVals (awMs.take 10)) rfl _ rfl (by decide) (by omega) (by rw [World.size_alloc]; omega) ?_; intro B2 d2 v2 hown hg _ _ _))
  have hq : w.heap.size ≤ v2.heap.size := by have := hg.4; rw [World.size_alloc] at this; omega
  have HV2 : Hid (Below w.heap.size w v2) := (HB2.out.alloc hz2 _).grown hg (by rw [World.size_alloc]; omega) (fun r hr => (HO2.out.lt r hr).1)
  have HC2 : Hid (Calls Try.prog 31 #[.slice B2 10 d2, .int .i64 0, .int .i64 2] v2 (MovR w.heap.size 12 (awMs.take 12) v2)) := steps_at (awMs.take 10) (awMs.take 12) 0 2 10 2 12 w.heap.size rfl rfl rfl rfl _ _ _ hq hown (by decide)
  clear hown hg
  go_wp2_with fail
  refine HC2.out.mono ?_
  rintro e w3 ⟨A3, c3, rfl, -, ho3, hb3⟩
  have HB3 : Hid (Below w.heap.size w w3) := HV2.out.trans hb3
  have HO3 := Lib.hid ho3
  have hz3 : w.heap.size ≤ w3.heap.size := Nat.le_trans hq hb3.size
  clear hb3 ho3 HC2 HV2 hq hz2 HO2 HB2
  go_wp2_with (at_builtin; go_must (refine wpList_app _ rfl _ _ 51 rfl w.heap.size 78 i1 (.agg #[.int .i64 0, .int .i64 0, .int .i64 0, .int .i64 0]) 4 32 Try.underlying51 hi1 hi1z hi1s hi1b rfl (by decide) (.slice A3 12 c3) 12 (moVals (awMs.take 12)) rfl (HO3.out.alloc _) (w3.heap.size + 1) (some ⟨w3.heap.size, 0, none⟩) 1 1 (moL ⟨0, 121, 0, 0⟩) rfl (((Blk.new w3 78 _).sl rfl).up (by simp)) (moL_one _) 13 rfl (moVals (awMs.take 13)) rfl _ rfl (by decide) (by omega) (by rw [World.size_alloc]; omega) ?_; intro B3 d3 v3 hown hg _ _ _))
  have hq : w.heap.size ≤ v3.heap.size := by have := hg.4; rw [World.size_alloc] at this; omega
  have HV3 : Hid (Below w.heap.size w v3) := (HB3.out.alloc hz3 _).grown hg (by rw [World.size_alloc]; omega) (fun r hr => (HO3.out.lt r hr).1)
  have HC3 : Hid (Calls Try.prog 31 #[.slice B3 13 d3, .int .i64 0, .int .i64 1] v3 (MovR w.heap.size 14 (awMs.take 14) v3)) := steps_at (awMs.take 13) (awMs.take 14) 0 1 13 1 14 w.heap.size rfl rfl rfl rfl _ _ _ hq hown (by decide)
  clear hown hg
  go_wp2_with fail
  refine HC3.out.mono ?_
  rintro e w4 ⟨A4, c4, rfl, -, ho4, hb4⟩
  have HB4 : Hid (Below w.heap.size w w4) := HV3.out.trans hb4
  have HO4 := Lib.hid ho4
  have hz4 : w.heap.size ≤ w4.heap.size := Nat.le_trans hq hb4.size
  clear hb4 ho4 HC3 HV3 hq hz3 HO3 HB3
  have HC4 : Hid (Calls Try.prog 31 #[.slice A4 14 c4, .int .i64 1, .int .i64 1] w4 (MovR w.heap.size 15 awMs w4)) := steps_at (awMs.take 14) awMs 1 1 14 1 15 w.heap.size rfl rfl rfl rfl _ _ _ hz4 HO4.out (by decide)
  go_wp2_with fail
  refine HC4.out.mono ?_
  rintro e w5 ⟨A5, c5, rfl, -, ho5, hb5⟩
  have HB5 : Hid (Below w.heap.size w w5) := HB4.out.trans hb5
  have HO5 := Lib.hid ho5
  have hz5 : w.heap.size ≤ w5.heap.size := Nat.le_trans hz4 hb5.size
  clear hb5 ho5 HC4 HO4 HB4 hz4
  go_wp2_with fail
  refine (small_any w5).mono ?_
  rintro e w6 ⟨rfl, hb6⟩
  have hz6 := hb6.size
  have HP : Hid (Calls Try.prog 24 #[.agg #[.int .i64 2, .int .i64 2], .slice A5 15 c5] w6 (AwR w6)) := aw_play A5 c5 w6 (Sl.of_own (HO5.out.below hb6))
  have HB6 : Hid (Below w.heap.size w w6) := HB5.out.trans (hb6.mono hz5)
  clear hb6
  go_wp2_with fail
  refine HP.out.mono ?_
  rintro e w7 ⟨gc, kc, At, kt, gw, kw, rfl, o1, o2, hb7⟩
  have hz7 := hb7.size
  have HB7 : Hid (Below w.heap.size w w7) := HB6.out.trans (hb7.mono (by omega))
  have HO1 := Lib.hid o1
  have HO2 := Lib.hid o2
  have l1 : gc < w7.heap.size := (o1.lt gc rfl).2
  have l2 : gw < w7.heap.size := (o2.lt gw rfl).2
  clear hb7 o1 o2 HP HB6
  go_upto_region 7 with fail
  have hb8 : Below w7.heap.size w7 (w7.alloc (.cells #[.slice (some ⟨gc, 0, none⟩) 4 kc, .slice At 11 kt, .slice none 0 0, .slice (some ⟨gw, 0, none⟩) 3 kw] 39)) := (Below.refl _ _).alloc (Nat.le_refl _) _
  have hr8 : Blk (w7.alloc (.cells #[.slice (some ⟨gc, 0, none⟩) 4 kc, .slice At 11 kt, .slice none 0 0, .slice (some ⟨gw, 0, none⟩) 3 kw] 39)) w7.heap.size 39 [.slice (some ⟨gc, 0, none⟩) 4 kc, .slice At 11 kt, .slice none 0 0, .slice (some ⟨gw, 0, none⟩) 3 kw] := Blk.new _ _ _
  generalize w7.alloc (.cells #[.slice (some ⟨gc, 0, none⟩) 4 kc, .slice At 11 kt, .slice none 0 0, .slice (some ⟨gw, 0, none⟩) 3 kw] 39) = w8 at hb8 hr8 ⊢
  have hz8 := hb8.size
  have HB8 : Hid (Below w.heap.size w w8) := HB7.out.trans (hb8.mono (by omega))
  have ho1 := HO1.out.below hb8
  have ho2 := HO2.out.below hb8
  have r0 : w8.cell? ⟨w7.heap.size, 0, none⟩ = some (.slice (some ⟨gc, 0, none⟩) 4 kc) := hr8.cell rfl
  have r1 : w8.cell? ⟨w7.heap.size, 1, none⟩ = some (.slice At 11 kt) := hr8.cell rfl
  have r2 : w8.cell? ⟨w7.heap.size, 2, none⟩ = some (.slice none 0 0) := hr8.cell rfl
  have r3 : w8.cell? ⟨w7.heap.size, 3, none⟩ = some (.slice (some ⟨gw, 0, none⟩) 3 kw) := hr8.cell rfl
  have u0 : w8.cell? ⟨gw, 0, none⟩ = some (.int .u64 1) := ho2.cellAt 0 (by decide)
  have u2 : w8.cell? ⟨gw, 2, none⟩ = some (.int .u64 1) := ho2.cellAt 2 (by decide)
  have HO1' := Lib.hid ho1
  have HO2' := Lib.hid ho2
  have HR8 := Lib.hid hr8
  have hrl := hr8.lt
  clear HO1 HO2 ho1 ho2 hr8 hb8
  go_wp2_with fail
  have HK : Hid (∀ W, Below w8.heap.size w8 W → Calls Try.prog 18 #[.agg #[.int .i64 2, .int .i64 2], .agg #[.slice (some ⟨gc, 0, none⟩) 4 kc, .slice At 11 kt, .slice none 0 0, .slice (some ⟨gw, 0, none⟩) 3 kw]] W (HoldsR true W)) := fun W hW => by
    have h := holds_any 2 2 rfl awC awW (some ⟨gc, 0, none⟩) At none (some ⟨gw, 0, none⟩) kc 11 kt 0 0 kw W ((Sl.of_own (HO1'.out.below hW))) ((Sl.of_own (HO2'.out.below hW))) (by decide) (by decide) (own_cap HO1'.out) awS aw_sty awT aw_cal
    rw [aw_holds] at h
    exact h
  have HS : Hid (∀ W, Below w8.heap.size w8 W → Below w8.heap.size w8 W ∧ W.cell? ⟨w7.heap.size, 0, none⟩ = some (.slice (some ⟨gc, 0, none⟩) 4 kc) ∧ W.cell? ⟨w7.heap.size, 1, none⟩ = some (.slice At 11 kt) ∧ W.cell? ⟨w7.heap.size, 2, none⟩ = some (.slice none 0 0) ∧ W.cell? ⟨w7.heap.size, 3, none⟩ = some (.slice (some ⟨gw, 0, none⟩) 3 kw)) := fun W hB => ⟨hB, (HR8.out.below hB hrl).cell rfl, (HR8.out.below hB hrl).cell rfl, (HR8.out.below hB hrl).cell rfl, (HR8.out.below hB hrl).cell rfl⟩
  have HS8 := Lib.hid (HS.out w8 (Below.refl _ _))
  go_cut [3, 4] (fun s3 s4 wc => s3 = .int .i64 0 ∧ s4 = .bool true ∧ Below w8.heap.size w8 wc)
  case first =>
    go_region_held3 (fun W => Below w8.heap.size w8 W ∧ W.cell? ⟨w7.heap.size, 0, none⟩ = some (.slice (some ⟨gc, 0, none⟩) 4 kc) ∧ W.cell? ⟨w7.heap.size, 1, none⟩ = some (.slice At 11 kt) ∧ W.cell? ⟨w7.heap.size, 2, none⟩ = some (.slice none 0 0) ∧ W.cell? ⟨w7.heap.size, 3, none⟩ = some (.slice (some ⟨gw, 0, none⟩) 3 kw))
      ((refine HS.out _ ?_; go_split_ands; first | assumption | exact (Below.refl _ _).drew | exact Below.trans ‹Below w8.heap.size w8 _› (hb9.mono (‹Below w8.heap.size w8 _›).size)))
      (first | (go_at_call 32; refine (small_any _).mono ?_; rintro e W9 ⟨rfl, hb9⟩) | (go_at_call 18; refine (HK.out _ (by first | assumption | exact And.left ‹Below w8.heap.size w8 _ ∧ _›)).mono ?_; rintro e W9 ⟨rfl, hb9⟩))
    all_goals (go_wp2_with fail; go_meet; go_split_ands)
    all_goals exact ⟨rfl, rfl, by assumption⟩
  case rest =>
    obtain ⟨rfl, rfl, hb9⟩ := hcut
    obtain ⟨w9, rfl⟩ : ∃ w9 : World, w9 = wc := ⟨_, rfl⟩
    have hr9 := HR8.out.below hb9 hrl
    have ho9 := HO1'.out.below hb9
    have r0 : w9.cell? ⟨w7.heap.size, 0, none⟩ = some (.slice (some ⟨gc, 0, none⟩) 4 kc) := hr9.cell rfl
    have v0 : w9.cell? ⟨gc, 14, none⟩ = some (.int .i64 14) := ho9.cellAt 14 (by decide)
    have v1 : w9.cell? ⟨gc, 15, none⟩ = some (.int .i64 6) := ho9.cellAt 15 (by decide)
    have v2 : w9.cell? ⟨gc, 25, none⟩ = some (.int .i64 2) := ho9.cellAt 25 (by decide)
    have v3 : w9.cell? ⟨gc, 26, none⟩ = some (.int .i64 0) := ho9.cellAt 26 (by decide)
    have HF : Hid (Below w.heap.size w w9) := HB8.out.trans (hb9.mono (by omega))
    have nq := ans_eql 2 0 2 0
    have gq := ans_guard
    have hgl : gc < w9.heap.size := (ho9.lt gc rfl).2
    clear hr9 ho9 hb9
    go_wp2_with fail
    go_ret
    exact ⟨rfl, HF.out⟩
end Go.Proofs.Ytjnmlgfkiebkgaa
