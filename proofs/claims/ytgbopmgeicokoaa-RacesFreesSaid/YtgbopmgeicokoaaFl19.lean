/-
  reclaimref19.Flat: a state as a list of numbers.
-/
import Derived.Test.YtgbopmgeicokoaaCpd
import Derived.Test.YtgbopmgeicokoaaEvt0
import Derived.Test.YtgbopmgeicokoaaClk0
namespace Go.Proofs.Ytgbopmgeicokoaa
open Go.RowKit
set_option linter.unusedSimpArgs false
set_option linter.unusedVariables false

theorem own_lowF {w : World} {base base' e size n : Nat} {v : Value} {xs : List Value} (h : w.ownsRow base e size v n xs) (hb : base' ≤ base) : w.ownsRow base' e size v n xs := ⟨h.1, h.2.imp id fun ⟨g, cap, cur, e1, h1, h2⟩ => ⟨g, cap, cur, e1, Nat.le_trans hb h1, h2⟩⟩
def flatAt (S : LS) (j : Nat) : List Int := S.ws ++ (List.range j).flatMap fun t => [S.r t 0, S.r t 1, S.r t 2, S.r t 3, (S.p t : Int), 0]
theorem flatAt_next (S : LS) (j : Nat) : ints (flatAt S (j + 1)) = ints (flatAt S j) ++ [.int .i64 (S.r j 0), .int .i64 (S.r j 1), .int .i64 (S.r j 2), .int .i64 (S.r j 3), .int .i64 (S.p j), .int .i64 0] := by
  unfold flatAt
  rw [List.range_succ, List.flatMap_append]
  simp [ints]
theorem flatAt_len {S : LS} {nw : Nat} (h : S.ws.length = nw) : ∀ j, (flatAt S j).length = nw + 6 * j
  | 0 => by simp [flatAt, h]
  | j + 1 => by
    have := flatAt_len h j
    unfold flatAt at this ⊢
    rw [List.range_succ, List.flatMap_append]
    simp at this ⊢
    omega
/-- numbers in memory of their own -/
def FltR (xs : List Int) (w : World) (e : Ending) (w' : World) : Prop := ∃ A k, e = .returned (.slice A xs.length k) ∧ w'.ownsRow w.heap.size 3 1 (.slice A xs.length k) xs.length (ints xs) ∧ Below w.heap.size w w'
theorem row_one (a b c d e f : Int) : ∀ u ∈ [Value.int .i64 a, .int .i64 b, .int .i64 c, .int .i64 d, .int .i64 e, .int .i64 f], u.oneCell' = true := by
  intro u hu
  simp at hu
  rcases hu with rfl | rfl | rfl | rfl | rfl | rfl <;> rfl
theorem info_iF : (Try.prog.info? 3).map (fun i => (i.zero, i.size, i.bytes)) = some (some (.int .i64 0), 1, 8) := by kernel_rfl

set_option maxRecDepth 100000 in
set_option maxHeartbeats 16000000 in
theorem flat19_any (h : SH) (n nw : Nat) (S : LS) (w : World) (hs : StAt w h n nw S) (hn : n ≤ 4) (hnw : nw ≤ 6) :
    Calls Try.prog 127 #[stV h n nw] w (FltR (flatAt S n) w) := by
  obtain ⟨w0, hw0⟩ : ∃ w0 : World, w0 = w.alloc (.cells #[.slice (some ⟨h.gw, 0, none⟩) nw h.kw, .slice (some ⟨h.gr, 0, none⟩) n h.kr, .slice (some ⟨h.gp, 0, none⟩) n h.kp, .slice (some ⟨h.gb, 0, none⟩) n h.kb] 113) := ⟨_, rfl⟩
  have HZ0 : Hid (Blk w0 w.heap.size 113 (stL h n nw)) := by rw [hw0]; exact Lib.hid (Blk.new w 113 (stL h n nw))
  have HW0 : Hid (Below w.heap.size w w0) := by rw [hw0]; exact Lib.hid ((Below.refl _ _).alloc (Nat.le_refl _) _)
  have HS0 := Lib.hid (hs.on HW0.out)
  have HWe := Lib.hid hw0
  have HL := Lib.hid (flatAt_len hs.wlen n)
  have hz0 : w.heap.size < w0.heap.size := HZ0.out.lt
  obtain ⟨ii, hii, hiiz, hiis, hiib⟩ := info_parts info_iF
  clear hs hw0
  go_enter Try.func127, Try.ntmps127
  go_upto_region 1 with fail
  rw [← HWe.out]
  clear HWe
  have c0 : w0.cell? ⟨w.heap.size, 0, none⟩ = some (.slice (some ⟨h.gw, 0, none⟩) nw h.kw) := HZ0.out.cell rfl
  go_upto_region 3 with (at_builtin; go_must (refine wpList_app _ rfl _ _ 30 rfl w0.heap.size 3 ii (.int .i64 0) 1 8 Try.underlying30 hii hiiz hiis hiib rfl (by decide) (.slice none 0 0) 0 [] rfl (World.ownsRow_nil _ _ _ _) w0.heap.size (some ⟨h.gw, 0, none⟩) nw h.kw (ints S.ws) rfl HS0.out.w.sl ints_one' (nw + 6 * 0) (by omega) (ints (flatAt S 0)) (by simp [flatAt]) _ rfl (by simp only [maxLen]; omega) (by omega) (Nat.le_refl _) ?_; intro A0 k0 w1 hown hg hat hk7 hk8))
  have HO1 := Lib.hid hown
  have HB1 : Hid (Below w0.heap.size w0 w1) := Lib.hid ((Below.refl _ _).grown hg (Nat.le_refl _) (fun q hq => by cases hq))
  clear hown hg hat c0
  go_wp2_with fail
  go_loopg [3, 4] n (fun gk v i wr => ∃ (j : Nat) (v9 : Value), j + gk = n ∧ i = .int .i64 j ∧ v = v9 ∧ Hid (wr.ownsRow w0.heap.size 3 1 v9 (nw + 6 * j) (ints (flatAt S j))) ∧ Hid (Below w0.heap.size w0 wr))
  case atStart => exact ⟨0, _, by omega, rfl, rfl, HO1, HB1⟩
  case round =>
    obtain ⟨j, v, hj, rfl, hv9, HO, HB⟩ := hrel
    subst hv9
    have c1 : wr.cell? ⟨w.heap.size, 1, none⟩ = some (.slice (some ⟨h.gr, 0, none⟩) n h.kr) := (HZ0.out.below HB.out HZ0.out.lt).cell rfl
    by_cases hlt : j < n
    · have e1 : (j : Int) < n := by omega
      have e0 : (0 : Int) ≤ j := by omega
      have d1 : decide (j < n) = true := by simpa using hlt
      have HSo : Hid (∀ W, Below w0.heap.size w0 W → W.cell? ⟨w.heap.size, 1, none⟩ = some (.slice (some ⟨h.gr, 0, none⟩) n h.kr) ∧ W.cell? ⟨w.heap.size, 2, none⟩ = some (.slice (some ⟨h.gp, 0, none⟩) n h.kp) ∧ W.cell? ⟨w.heap.size, 3, none⟩ = some (.slice (some ⟨h.gb, 0, none⟩) n h.kb) ∧ W.cell? ⟨h.gr, j * 4, none⟩ = some (.int .i64 (S.r j 0)) ∧ W.cell? ⟨h.gr, j * 4 + 1, none⟩ = some (.int .i64 (S.r j 1)) ∧ W.cell? ⟨h.gr, j * 4 + 2, none⟩ = some (.int .i64 (S.r j 2)) ∧ W.cell? ⟨h.gr, j * 4 + 3, none⟩ = some (.int .i64 (S.r j 3)) ∧ W.cell? ⟨h.gp, j, none⟩ = some (.int .i64 (S.p j)) ∧ W.cell? ⟨h.gb, j, none⟩ = some (.slice none 0 0)) := Lib.hid fun W hW => by
        have hs := HS0.out.on hW
        have hz := HZ0.out.below hW HZ0.out.lt
        have hr : ∀ q, q < 4 → W.cell? ⟨h.gr, j * 4 + q, none⟩ = some (.int .i64 (S.r j q)) := fun q hq => hs.reg (LS.r_at (S := S) (t := j) (q := q) (by rw [hs.rlen]; omega))
        exact ⟨hz.cell rfl, hz.cell rfl, hz.cell rfl, hr 0 (by omega), hr 1 (by omega), hr 2 (by omega), hr 3 (by omega), hs.place (LS.p_at (S := S) (t := j) (by rw [hs.plen]; exact hlt)), hs.buf hlt⟩
      obtain ⟨A, k, hv, hk1, hk2⟩ := own_form HO.out
      subst hv
      go_upto_region 6 with fail
      clear c1
      refine wp_region_held_drew (S := fun W => W.cell? ⟨w.heap.size, 1, none⟩ = some (.slice (some ⟨h.gr, 0, none⟩) n h.kr) ∧ W.cell? ⟨w.heap.size, 2, none⟩ = some (.slice (some ⟨h.gp, 0, none⟩) n h.kp) ∧ W.cell? ⟨w.heap.size, 3, none⟩ = some (.slice (some ⟨h.gb, 0, none⟩) n h.kb) ∧ W.cell? ⟨h.gr, j * 4, none⟩ = some (.int .i64 (S.r j 0)) ∧ W.cell? ⟨h.gr, j * 4 + 1, none⟩ = some (.int .i64 (S.r j 1)) ∧ W.cell? ⟨h.gr, j * 4 + 2, none⟩ = some (.int .i64 (S.r j 2)) ∧ W.cell? ⟨h.gr, j * 4 + 3, none⟩ = some (.int .i64 (S.r j 3)) ∧ W.cell? ⟨h.gp, j, none⟩ = some (.int .i64 (S.p j)) ∧ W.cell? ⟨h.gb, j, none⟩ = some (.slice none 0 0)) (by kernel_rfl) (HSo.out _ HB.out.drew) (fun hS => ?_)
      refine wpAnyH_take (i := 0) (v := .slice A (nw + 6 * j) k) rfl (by kernel_rfl) (by kernel_rfl) (by kernel_rfl) (fun _ _ _ h => h) (Or.inl ⟨by rfl, ?_⟩) (by assumption) ?_
      · (intro W hSw; (try dsimp only at hSw); obtain ⟨z1, z2, z3, z4, z5, z6, z7, z8, z9⟩ := hSw; go_simp)
      show wpAnyH _ _ _ _ _ _ _ (Act.put _ (some 17) _) _
      simp only [Act.put, List.setIfInBounds_toArray, List.set_cons_zero, List.set_cons_succ]
      refine wpAnyH_take (i := 1) (v := .pointer (some ⟨w.heap.size, 1, none⟩)) rfl (by kernel_rfl) (by kernel_rfl) (by kernel_rfl) (fun _ _ _ h => h) (Or.inl ⟨by rfl, ?_⟩) (by assumption) ?_
      · (intro W hSw; (try dsimp only at hSw); obtain ⟨z1, z2, z3, z4, z5, z6, z7, z8, z9⟩ := hSw; go_simp)
      show wpAnyH _ _ _ _ _ _ _ (Act.put _ (some 18) _) _
      simp only [Act.put, List.setIfInBounds_toArray, List.set_cons_zero, List.set_cons_succ]
      refine wpAnyH_take (i := 2) (v := .slice (some ⟨h.gr, 0, none⟩) n h.kr) rfl (by kernel_rfl) (by kernel_rfl) (by kernel_rfl) (fun _ _ _ h => h) (Or.inl ⟨by rfl, ?_⟩) (by assumption) ?_
      · (intro W hSw; (try dsimp only at hSw); obtain ⟨z1, z2, z3, z4, z5, z6, z7, z8, z9⟩ := hSw; go_simp)
      show wpAnyH _ _ _ _ _ _ _ (Act.put _ (some 19) _) _
      simp only [Act.put, List.setIfInBounds_toArray, List.set_cons_zero, List.set_cons_succ]
      refine wpAnyH_take (i := 3) (v := .int .i64 j) rfl (by kernel_rfl) (by kernel_rfl) (by kernel_rfl) (fun _ _ _ h => h) (Or.inl ⟨by rfl, ?_⟩) (by assumption) ?_
      · (intro W hSw; (try dsimp only at hSw); obtain ⟨z1, z2, z3, z4, z5, z6, z7, z8, z9⟩ := hSw; go_simp)
      show wpAnyH _ _ _ _ _ _ _ (Act.put _ (some 20) _) _
      simp only [Act.put, List.setIfInBounds_toArray, List.set_cons_zero, List.set_cons_succ]
      refine wpAnyH_take (i := 4) (v := .pointer (some ⟨h.gr, j * 4, none⟩)) rfl (by kernel_rfl) (by kernel_rfl) (by kernel_rfl) (fun _ _ _ h => h) (Or.inl ⟨by rfl, ?_⟩) (by assumption) ?_
      · (intro W hSw; (try dsimp only at hSw); obtain ⟨z1, z2, z3, z4, z5, z6, z7, z8, z9⟩ := hSw; go_simp)
      show wpAnyH _ _ _ _ _ _ _ (Act.put _ (some 21) _) _
      simp only [Act.put, List.setIfInBounds_toArray, List.set_cons_zero, List.set_cons_succ]
      refine wpAnyH_take (i := 5) (v := .pointer (some ⟨h.gr, j * 4, none⟩)) rfl (by kernel_rfl) (by kernel_rfl) (by kernel_rfl) (fun _ _ _ h => h) (Or.inl ⟨by rfl, ?_⟩) (by assumption) ?_
      · (intro W hSw; (try dsimp only at hSw); obtain ⟨z1, z2, z3, z4, z5, z6, z7, z8, z9⟩ := hSw; go_simp)
      show wpAnyH _ _ _ _ _ _ _ (Act.put _ (some 22) _) _
      simp only [Act.put, List.setIfInBounds_toArray, List.set_cons_zero, List.set_cons_succ]
      refine wpAnyH_take (i := 6) (v := .int .i64 (S.r j 0)) rfl (by kernel_rfl) (by kernel_rfl) (by kernel_rfl) (fun _ _ _ h => h) (Or.inl ⟨by rfl, ?_⟩) (by assumption) ?_
      · (intro W hSw; (try dsimp only at hSw); obtain ⟨z1, z2, z3, z4, z5, z6, z7, z8, z9⟩ := hSw; go_simp)
      show wpAnyH _ _ _ _ _ _ _ (Act.put _ (some 23) _) _
      simp only [Act.put, List.setIfInBounds_toArray, List.set_cons_zero, List.set_cons_succ]
      refine wpAnyH_take (i := 7) (v := .pointer (some ⟨w.heap.size, 1, none⟩)) rfl (by kernel_rfl) (by kernel_rfl) (by kernel_rfl) (fun _ _ _ h => h) (Or.inl ⟨by rfl, ?_⟩) (by assumption) ?_
      · (intro W hSw; (try dsimp only at hSw); obtain ⟨z1, z2, z3, z4, z5, z6, z7, z8, z9⟩ := hSw; go_simp)
      show wpAnyH _ _ _ _ _ _ _ (Act.put _ (some 24) _) _
      simp only [Act.put, List.setIfInBounds_toArray, List.set_cons_zero, List.set_cons_succ]
      refine wpAnyH_take (i := 8) (v := .slice (some ⟨h.gr, 0, none⟩) n h.kr) rfl (by kernel_rfl) (by kernel_rfl) (by kernel_rfl) (fun _ _ _ h => h) (Or.inl ⟨by rfl, ?_⟩) (by assumption) ?_
      · (intro W hSw; (try dsimp only at hSw); obtain ⟨z1, z2, z3, z4, z5, z6, z7, z8, z9⟩ := hSw; go_simp)
      show wpAnyH _ _ _ _ _ _ _ (Act.put _ (some 25) _) _
      simp only [Act.put, List.setIfInBounds_toArray, List.set_cons_zero, List.set_cons_succ]
      refine wpAnyH_take (i := 9) (v := .int .i64 j) rfl (by kernel_rfl) (by kernel_rfl) (by kernel_rfl) (fun _ _ _ h => h) (Or.inl ⟨by rfl, ?_⟩) (by assumption) ?_
      · (intro W hSw; (try dsimp only at hSw); obtain ⟨z1, z2, z3, z4, z5, z6, z7, z8, z9⟩ := hSw; go_simp)
      show wpAnyH _ _ _ _ _ _ _ (Act.put _ (some 26) _) _
      simp only [Act.put, List.setIfInBounds_toArray, List.set_cons_zero, List.set_cons_succ]
      refine wpAnyH_take (i := 10) (v := .pointer (some ⟨h.gr, j * 4, none⟩)) rfl (by kernel_rfl) (by kernel_rfl) (by kernel_rfl) (fun _ _ _ h => h) (Or.inl ⟨by rfl, ?_⟩) (by assumption) ?_
      · (intro W hSw; (try dsimp only at hSw); obtain ⟨z1, z2, z3, z4, z5, z6, z7, z8, z9⟩ := hSw; go_simp)
      show wpAnyH _ _ _ _ _ _ _ (Act.put _ (some 27) _) _
      simp only [Act.put, List.setIfInBounds_toArray, List.set_cons_zero, List.set_cons_succ]
      refine wpAnyH_take (i := 11) (v := .pointer (some ⟨h.gr, j * 4 + 1, none⟩)) rfl (by kernel_rfl) (by kernel_rfl) (by kernel_rfl) (fun _ _ _ h => h) (Or.inl ⟨by rfl, ?_⟩) (by assumption) ?_
      · (intro W hSw; (try dsimp only at hSw); obtain ⟨z1, z2, z3, z4, z5, z6, z7, z8, z9⟩ := hSw; go_simp)
      show wpAnyH _ _ _ _ _ _ _ (Act.put _ (some 28) _) _
      simp only [Act.put, List.setIfInBounds_toArray, List.set_cons_zero, List.set_cons_succ]
      refine wpAnyH_take (i := 12) (v := .int .i64 (S.r j 1)) rfl (by kernel_rfl) (by kernel_rfl) (by kernel_rfl) (fun _ _ _ h => h) (Or.inl ⟨by rfl, ?_⟩) (by assumption) ?_
      · (intro W hSw; (try dsimp only at hSw); obtain ⟨z1, z2, z3, z4, z5, z6, z7, z8, z9⟩ := hSw; go_simp)
      show wpAnyH _ _ _ _ _ _ _ (Act.put _ (some 29) _) _
      simp only [Act.put, List.setIfInBounds_toArray, List.set_cons_zero, List.set_cons_succ]
      refine wpAnyH_take (i := 13) (v := .pointer (some ⟨w.heap.size, 1, none⟩)) rfl (by kernel_rfl) (by kernel_rfl) (by kernel_rfl) (fun _ _ _ h => h) (Or.inl ⟨by rfl, ?_⟩) (by assumption) ?_
      · (intro W hSw; (try dsimp only at hSw); obtain ⟨z1, z2, z3, z4, z5, z6, z7, z8, z9⟩ := hSw; go_simp)
      show wpAnyH _ _ _ _ _ _ _ (Act.put _ (some 30) _) _
      simp only [Act.put, List.setIfInBounds_toArray, List.set_cons_zero, List.set_cons_succ]
      refine wpAnyH_take (i := 14) (v := .slice (some ⟨h.gr, 0, none⟩) n h.kr) rfl (by kernel_rfl) (by kernel_rfl) (by kernel_rfl) (fun _ _ _ h => h) (Or.inl ⟨by rfl, ?_⟩) (by assumption) ?_
      · (intro W hSw; (try dsimp only at hSw); obtain ⟨z1, z2, z3, z4, z5, z6, z7, z8, z9⟩ := hSw; go_simp)
      show wpAnyH _ _ _ _ _ _ _ (Act.put _ (some 31) _) _
      simp only [Act.put, List.setIfInBounds_toArray, List.set_cons_zero, List.set_cons_succ]
      refine wpAnyH_take (i := 15) (v := .int .i64 j) rfl (by kernel_rfl) (by kernel_rfl) (by kernel_rfl) (fun _ _ _ h => h) (Or.inl ⟨by rfl, ?_⟩) (by assumption) ?_
      · (intro W hSw; (try dsimp only at hSw); obtain ⟨z1, z2, z3, z4, z5, z6, z7, z8, z9⟩ := hSw; go_simp)
      show wpAnyH _ _ _ _ _ _ _ (Act.put _ (some 32) _) _
      simp only [Act.put, List.setIfInBounds_toArray, List.set_cons_zero, List.set_cons_succ]
      refine wpAnyH_take (i := 16) (v := .pointer (some ⟨h.gr, j * 4, none⟩)) rfl (by kernel_rfl) (by kernel_rfl) (by kernel_rfl) (fun _ _ _ h => h) (Or.inl ⟨by rfl, ?_⟩) (by assumption) ?_
      · (intro W hSw; (try dsimp only at hSw); obtain ⟨z1, z2, z3, z4, z5, z6, z7, z8, z9⟩ := hSw; go_simp)
      show wpAnyH _ _ _ _ _ _ _ (Act.put _ (some 33) _) _
      simp only [Act.put, List.setIfInBounds_toArray, List.set_cons_zero, List.set_cons_succ]
      refine wpAnyH_take (i := 17) (v := .pointer (some ⟨h.gr, j * 4 + 2, none⟩)) rfl (by kernel_rfl) (by kernel_rfl) (by kernel_rfl) (fun _ _ _ h => h) (Or.inl ⟨by rfl, ?_⟩) (by assumption) ?_
      · (intro W hSw; (try dsimp only at hSw); obtain ⟨z1, z2, z3, z4, z5, z6, z7, z8, z9⟩ := hSw; go_simp)
      show wpAnyH _ _ _ _ _ _ _ (Act.put _ (some 34) _) _
      simp only [Act.put, List.setIfInBounds_toArray, List.set_cons_zero, List.set_cons_succ]
      refine wpAnyH_take (i := 18) (v := .int .i64 (S.r j 2)) rfl (by kernel_rfl) (by kernel_rfl) (by kernel_rfl) (fun _ _ _ h => h) (Or.inl ⟨by rfl, ?_⟩) (by assumption) ?_
      · (intro W hSw; (try dsimp only at hSw); obtain ⟨z1, z2, z3, z4, z5, z6, z7, z8, z9⟩ := hSw; go_simp)
      show wpAnyH _ _ _ _ _ _ _ (Act.put _ (some 35) _) _
      simp only [Act.put, List.setIfInBounds_toArray, List.set_cons_zero, List.set_cons_succ]
      refine wpAnyH_take (i := 19) (v := .pointer (some ⟨w.heap.size, 1, none⟩)) rfl (by kernel_rfl) (by kernel_rfl) (by kernel_rfl) (fun _ _ _ h => h) (Or.inl ⟨by rfl, ?_⟩) (by assumption) ?_
      · (intro W hSw; (try dsimp only at hSw); obtain ⟨z1, z2, z3, z4, z5, z6, z7, z8, z9⟩ := hSw; go_simp)
      show wpAnyH _ _ _ _ _ _ _ (Act.put _ (some 36) _) _
      simp only [Act.put, List.setIfInBounds_toArray, List.set_cons_zero, List.set_cons_succ]
      refine wpAnyH_take (i := 20) (v := .slice (some ⟨h.gr, 0, none⟩) n h.kr) rfl (by kernel_rfl) (by kernel_rfl) (by kernel_rfl) (fun _ _ _ h => h) (Or.inl ⟨by rfl, ?_⟩) (by assumption) ?_
      · (intro W hSw; (try dsimp only at hSw); obtain ⟨z1, z2, z3, z4, z5, z6, z7, z8, z9⟩ := hSw; go_simp)
      show wpAnyH _ _ _ _ _ _ _ (Act.put _ (some 37) _) _
      simp only [Act.put, List.setIfInBounds_toArray, List.set_cons_zero, List.set_cons_succ]
      refine wpAnyH_take (i := 21) (v := .int .i64 j) rfl (by kernel_rfl) (by kernel_rfl) (by kernel_rfl) (fun _ _ _ h => h) (Or.inl ⟨by rfl, ?_⟩) (by assumption) ?_
      · (intro W hSw; (try dsimp only at hSw); obtain ⟨z1, z2, z3, z4, z5, z6, z7, z8, z9⟩ := hSw; go_simp)
      show wpAnyH _ _ _ _ _ _ _ (Act.put _ (some 38) _) _
      simp only [Act.put, List.setIfInBounds_toArray, List.set_cons_zero, List.set_cons_succ]
      refine wpAnyH_take (i := 22) (v := .pointer (some ⟨h.gr, j * 4, none⟩)) rfl (by kernel_rfl) (by kernel_rfl) (by kernel_rfl) (fun _ _ _ h => h) (Or.inl ⟨by rfl, ?_⟩) (by assumption) ?_
      · (intro W hSw; (try dsimp only at hSw); obtain ⟨z1, z2, z3, z4, z5, z6, z7, z8, z9⟩ := hSw; go_simp)
      show wpAnyH _ _ _ _ _ _ _ (Act.put _ (some 39) _) _
      simp only [Act.put, List.setIfInBounds_toArray, List.set_cons_zero, List.set_cons_succ]
      refine wpAnyH_take (i := 23) (v := .pointer (some ⟨h.gr, j * 4 + 3, none⟩)) rfl (by kernel_rfl) (by kernel_rfl) (by kernel_rfl) (fun _ _ _ h => h) (Or.inl ⟨by rfl, ?_⟩) (by assumption) ?_
      · (intro W hSw; (try dsimp only at hSw); obtain ⟨z1, z2, z3, z4, z5, z6, z7, z8, z9⟩ := hSw; go_simp)
      show wpAnyH _ _ _ _ _ _ _ (Act.put _ (some 40) _) _
      simp only [Act.put, List.setIfInBounds_toArray, List.set_cons_zero, List.set_cons_succ]
      refine wpAnyH_take (i := 24) (v := .int .i64 (S.r j 3)) rfl (by kernel_rfl) (by kernel_rfl) (by kernel_rfl) (fun _ _ _ h => h) (Or.inl ⟨by rfl, ?_⟩) (by assumption) ?_
      · (intro W hSw; (try dsimp only at hSw); obtain ⟨z1, z2, z3, z4, z5, z6, z7, z8, z9⟩ := hSw; go_simp)
      show wpAnyH _ _ _ _ _ _ _ (Act.put _ (some 41) _) _
      simp only [Act.put, List.setIfInBounds_toArray, List.set_cons_zero, List.set_cons_succ]
      refine wpAnyH_take (i := 25) (v := .pointer (some ⟨w.heap.size, 2, none⟩)) rfl (by kernel_rfl) (by kernel_rfl) (by kernel_rfl) (fun _ _ _ h => h) (Or.inl ⟨by rfl, ?_⟩) (by assumption) ?_
      · (intro W hSw; (try dsimp only at hSw); obtain ⟨z1, z2, z3, z4, z5, z6, z7, z8, z9⟩ := hSw; go_simp)
      show wpAnyH _ _ _ _ _ _ _ (Act.put _ (some 42) _) _
      simp only [Act.put, List.setIfInBounds_toArray, List.set_cons_zero, List.set_cons_succ]
      refine wpAnyH_take (i := 26) (v := .slice (some ⟨h.gp, 0, none⟩) n h.kp) rfl (by kernel_rfl) (by kernel_rfl) (by kernel_rfl) (fun _ _ _ h => h) (Or.inl ⟨by rfl, ?_⟩) (by assumption) ?_
      · (intro W hSw; (try dsimp only at hSw); obtain ⟨z1, z2, z3, z4, z5, z6, z7, z8, z9⟩ := hSw; go_simp)
      show wpAnyH _ _ _ _ _ _ _ (Act.put _ (some 43) _) _
      simp only [Act.put, List.setIfInBounds_toArray, List.set_cons_zero, List.set_cons_succ]
      refine wpAnyH_take (i := 27) (v := .int .i64 j) rfl (by kernel_rfl) (by kernel_rfl) (by kernel_rfl) (fun _ _ _ h => h) (Or.inl ⟨by rfl, ?_⟩) (by assumption) ?_
      · (intro W hSw; (try dsimp only at hSw); obtain ⟨z1, z2, z3, z4, z5, z6, z7, z8, z9⟩ := hSw; go_simp)
      show wpAnyH _ _ _ _ _ _ _ (Act.put _ (some 44) _) _
      simp only [Act.put, List.setIfInBounds_toArray, List.set_cons_zero, List.set_cons_succ]
      refine wpAnyH_take (i := 28) (v := .pointer (some ⟨h.gp, j, none⟩)) rfl (by kernel_rfl) (by kernel_rfl) (by kernel_rfl) (fun _ _ _ h => h) (Or.inl ⟨by rfl, ?_⟩) (by assumption) ?_
      · (intro W hSw; (try dsimp only at hSw); obtain ⟨z1, z2, z3, z4, z5, z6, z7, z8, z9⟩ := hSw; go_simp)
      show wpAnyH _ _ _ _ _ _ _ (Act.put _ (some 45) _) _
      simp only [Act.put, List.setIfInBounds_toArray, List.set_cons_zero, List.set_cons_succ]
      refine wpAnyH_take (i := 29) (v := .int .i64 (S.p j)) rfl (by kernel_rfl) (by kernel_rfl) (by kernel_rfl) (fun _ _ _ h => h) (Or.inl ⟨by rfl, ?_⟩) (by assumption) ?_
      · (intro W hSw; (try dsimp only at hSw); obtain ⟨z1, z2, z3, z4, z5, z6, z7, z8, z9⟩ := hSw; go_simp)
      show wpAnyH _ _ _ _ _ _ _ (Act.put _ (some 46) _) _
      simp only [Act.put, List.setIfInBounds_toArray, List.set_cons_zero, List.set_cons_succ]
      refine wpAnyH_take (i := 30) (v := .pointer (some ⟨w.heap.size, 3, none⟩)) rfl (by kernel_rfl) (by kernel_rfl) (by kernel_rfl) (fun _ _ _ h => h) (Or.inl ⟨by rfl, ?_⟩) (by assumption) ?_
      · (intro W hSw; (try dsimp only at hSw); obtain ⟨z1, z2, z3, z4, z5, z6, z7, z8, z9⟩ := hSw; go_simp)
      show wpAnyH _ _ _ _ _ _ _ (Act.put _ (some 47) _) _
      simp only [Act.put, List.setIfInBounds_toArray, List.set_cons_zero, List.set_cons_succ]
      refine wpAnyH_take (i := 31) (v := .slice (some ⟨h.gb, 0, none⟩) n h.kb) rfl (by kernel_rfl) (by kernel_rfl) (by kernel_rfl) (fun _ _ _ h => h) (Or.inl ⟨by rfl, ?_⟩) (by assumption) ?_
      · (intro W hSw; (try dsimp only at hSw); obtain ⟨z1, z2, z3, z4, z5, z6, z7, z8, z9⟩ := hSw; go_simp)
      show wpAnyH _ _ _ _ _ _ _ (Act.put _ (some 48) _) _
      simp only [Act.put, List.setIfInBounds_toArray, List.set_cons_zero, List.set_cons_succ]
      refine wpAnyH_take (i := 32) (v := .int .i64 j) rfl (by kernel_rfl) (by kernel_rfl) (by kernel_rfl) (fun _ _ _ h => h) (Or.inl ⟨by rfl, ?_⟩) (by assumption) ?_
      · (intro W hSw; (try dsimp only at hSw); obtain ⟨z1, z2, z3, z4, z5, z6, z7, z8, z9⟩ := hSw; go_simp)
      show wpAnyH _ _ _ _ _ _ _ (Act.put _ (some 49) _) _
      simp only [Act.put, List.setIfInBounds_toArray, List.set_cons_zero, List.set_cons_succ]
      refine wpAnyH_take (i := 33) (v := .pointer (some ⟨h.gb, j, none⟩)) rfl (by kernel_rfl) (by kernel_rfl) (by kernel_rfl) (fun _ _ _ h => h) (Or.inl ⟨by rfl, ?_⟩) (by assumption) ?_
      · (intro W hSw; (try dsimp only at hSw); obtain ⟨z1, z2, z3, z4, z5, z6, z7, z8, z9⟩ := hSw; go_simp)
      show wpAnyH _ _ _ _ _ _ _ (Act.put _ (some 50) _) _
      simp only [Act.put, List.setIfInBounds_toArray, List.set_cons_zero, List.set_cons_succ]
      refine wpAnyH_take (i := 34) (v := .slice none 0 0) rfl (by kernel_rfl) (by kernel_rfl) (by kernel_rfl) (fun _ _ _ h => h) (Or.inl ⟨by rfl, ?_⟩) (by assumption) ?_
      · (intro W hSw; (try dsimp only at hSw); obtain ⟨z1, z2, z3, z4, z5, z6, z7, z8, z9⟩ := hSw; go_simp)
      show wpAnyH _ _ _ _ _ _ _ (Act.put _ (some 51) _) _
      simp only [Act.put, List.setIfInBounds_toArray, List.set_cons_zero, List.set_cons_succ]
      refine wpAnyH_take (i := 35) (v := .int .i64 0) rfl (by kernel_rfl) (by kernel_rfl) (by kernel_rfl) (fun _ _ _ h => h) (Or.inl ⟨by rfl, ?_⟩) (by assumption) ?_
      · (intro W hSw; (try dsimp only at hSw); obtain ⟨z1, z2, z3, z4, z5, z6, z7, z8, z9⟩ := hSw; go_simp)
      show wpAnyH _ _ _ _ _ _ _ (Act.put _ (some 52) _) _
      simp only [Act.put, List.setIfInBounds_toArray, List.set_cons_zero, List.set_cons_succ]
      obtain ⟨V, hV9, HVb, HVo⟩ : ∃ Z9, Z9 = wr.drew ∧ Hid (Below w0.heap.size w0 Z9) ∧ Hid (Z9.ownsRow w0.heap.size 3 1 (.slice A (nw + 6 * j) k) (nw + 6 * j) (ints (flatAt S j))) := ⟨_, rfl, HB.out.drew, Lib.hid (HO.out.below (Below.refl _ _).drew)⟩
      rw [← hV9]
      clear hV9
      refine wpAnyH_ready (rs := [36]) (by kernel_rfl) (by simp) (AllReadyH.cons rfl (fun K1 hK1 => ?_) (AllReadyH.nil))
      rw [if_pos (by rfl)]
      go_simp
      have hbA := HVb.out.alloc HVb.out.size (.cells #[.int .i64 (S.r j 0), .int .i64 (S.r j 1), .int .i64 (S.r j 2), .int .i64 (S.r j 3), .int .i64 (S.p j), .int .i64 0] 3)
      refine hK1.out _ _ (HSo.out _ hbA) (fun _ => ?_)
      refine wpAnyH_ready (rs := [37]) (by kernel_rfl) (by simp) (AllReadyH.cons rfl (fun K2 hK2 => ?_) (AllReadyH.nil))
      refine step_app _ (by rfl) _ _ 30 (by rfl) w0.heap.size 3 ii (.int .i64 0) 1 8 Try.underlying30 hii hiiz hiis hiib rfl (by decide) (.slice A (nw + 6 * j) k) (nw + 6 * j) (ints (flatAt S j)) (by rfl) (HVo.out.alloc _) (V.heap.size + 1) (some ⟨V.heap.size, 0, none⟩) 6 6 [.int .i64 (S.r j 0), .int .i64 (S.r j 1), .int .i64 (S.r j 2), .int .i64 (S.r j 3), .int .i64 (S.p j), .int .i64 0] (by rfl) (((Blk.new V 3 _).sl rfl).up (by simp)) (row_one _ _ _ _ _ _) (nw + 6 * (j + 1)) (by omega) _ rfl _ rfl (by simp only [maxLen]; omega) (by omega) (by have := HVb.out.size; rw [World.size_alloc]; omega) ?_
      intro A9 k9 W9 hown9 hg9 hat9 hk91 hk92
      have hbB : Below w0.heap.size w0 W9 := hbA.grown hg9 hbA.size (fun q hq => (HVo.out.lt q hq).1)
      refine hK2.out _ _ (HSo.out _ hbB) (fun hS4 => ?_)
      refine wpAnyH_take (i := 38) (v := .slice A9 (nw + 6 * (j + 1)) k9) rfl (by kernel_rfl) (by kernel_rfl) (by kernel_rfl) (fun _ _ _ h => h) (Or.inl ⟨by rfl, ?_⟩) (hS4) ?_
      · (intro W hSw; (try dsimp only at hSw); obtain ⟨z1, z2, z3, z4, z5, z6, z7, z8, z9⟩ := hSw; go_simp)
      show wpAnyH _ _ _ _ _ _ _ (Act.put _ (some 3) _) _
      simp only [Act.put, List.setIfInBounds_toArray, List.set_cons_zero, List.set_cons_succ]
      refine wpAnyH_done (by kernel_rfl) ?_ _
      have HO9 : Hid (W9.ownsRow w0.heap.size 3 1 (.slice A9 (nw + 6 * (j + 1)) k9) (nw + 6 * (j + 1)) (ints (flatAt S (j + 1)))) := by rw [flatAt_next]; exact Lib.hid hown9
      have HB9 := Lib.hid hbB
      have z3 : W9.cell? ⟨w.heap.size, 3, none⟩ = some (.slice (some ⟨h.gb, 0, none⟩) n h.kb) := hS4.2.2.1
      have z9 : W9.cell? ⟨h.gb, j, none⟩ = some (.slice none 0 0) := hS4.2.2.2.2.2.2.2.2
      clear hS4 hbB hbA hown9 hg9 hat9 hS HSo HVo HVb HO HB
      go_wp2_with fail
      obtain ⟨ga, rfl⟩ : ∃ ga : Nat, ga = gk := ⟨_, rfl⟩
      go_loopg [3, 5] 0 (fun gk v i wr => v = .slice A9 (nw + 6 * (j + 1)) k9 ∧ i = .int .i64 0 ∧ wr = W9)
      case atStart => exact ⟨rfl, rfl, rfl⟩
      case round =>
        obtain ⟨rfl, rfl, rfl⟩ := hrel
        go_wp2_with fail
        go_roundg (ga - 1)
        case measure => omega
        case rel => exact ⟨j + 1, _, by omega, by go_num, rfl, HO9, HB9⟩
    · obtain rfl : j = n := by omega
      obtain ⟨A, k, hv, hk1, hk2⟩ := own_form HO.out
      subst hv
      go_wp2_with fail
      go_ret
      refine ⟨A, k, congrArg (fun N => Ending.returned (Value.slice A N k)) HL.out.symm, ?_, HW0.out.trans (HB.out.mono HW0.out.size)⟩
      rw [HL.out]
      exact own_lowF HO.out HW0.out.size
end Go.Proofs.Ytgbopmgeicokoaa
