/-
  Play of whatever lock that may be: one access a step at most, so the bounds hold; fit.
-/
import Derived.Test.YtjnmlgfkiebkgaaLsa
import Derived.Test.YtjnmlgfkiebkgaaLsm
namespace Go.Proofs.Ytjnmlgfkiebkgaa
open Go.RowKit
set_option linter.unusedVariables false
set_option linter.unusedSimpArgs false

def fitT (T k : Int) : Int := bif rangeB T k 1 7 then T else 2
def fitK (T k : Int) : Int := bif rangeB T k 1 7 then k else 2
theorem fit_range (T k : Int) : rangeB (fitT T k) (fitK T k) 1 7 = true := by
  unfold fitT fitK
  cases h : rangeB T k 1 7
  · rfl
  · exact h
def FitR (T k : Int) (A : Option Addr) (n c : Nat) (w : World) (e : Ending) (w' : World) : Prop := e = .returned (.tuple #[.agg #[.int .i64 (fitT T k), .int .i64 (fitK T k)], .slice A (min n 65536) c]) ∧ Below w.heap.size w w'
set_option maxRecDepth 100000 in
set_option maxHeartbeats 4000000 in
theorem fit_yes (T k : Int) (hk : rangeB T k 1 7 = true) (A : Option Addr) (n c : Nat) (hA : n = 0 ∨ ∃ b o, A = some ⟨b, o, none⟩) (hn1 : n ≤ c) (hn2 : c ≤ 9223372036854775807) (w : World) : Calls Try.prog 23 #[.agg #[.int .i64 T, .int .i64 k], .slice A n c] w (FitR T k A n c w) := by
  have e1 : fitT T k = T := by unfold fitT; rw [hk]; rfl
  have e2 : fitK T k = k := by unfold fitK; rw [hk]; rfl
  unfold FitR
  rw [e1, e2]
  obtain ⟨m, hm⟩ : ∃ m, m = min n 65536 := ⟨_, rfl⟩
  rw [← hm]
  have HM := Lib.hid hm
  clear hm
  have HK := Lib.hid hk
  clear hk e1 e2
  go_enter Try.func23, Try.ntmps23
  go_upto_region 1 with fail
  have hb0 : Below w.heap.size w ((w.alloc (.cells #[.int .i64 T, .int .i64 k] 24)).alloc (.cells #[.int .i64 0, .int .i64 0] 24)) := ((Below.refl _ _).alloc (Nat.le_refl _) _).alloc (by simp) _
  have hr0 : Blk ((w.alloc (.cells #[.int .i64 T, .int .i64 k] 24)).alloc (.cells #[.int .i64 0, .int .i64 0] 24)) w.heap.size 24 [.int .i64 T, .int .i64 k] := (Blk.new w _ _).alloc _
  have hq0 : Blk ((w.alloc (.cells #[.int .i64 T, .int .i64 k] 24)).alloc (.cells #[.int .i64 0, .int .i64 0] 24)) (w.heap.size + 1) 24 [.int .i64 0, .int .i64 0] := new1_blk' _ _ _ _
  generalize (w.alloc (.cells #[.int .i64 T, .int .i64 k] 24)).alloc (.cells #[.int .i64 0, .int .i64 0] 24) = w0 at hb0 hr0 hq0 ⊢
  have hrl := hr0.lt
  have hql := hq0.lt
  have d0 : w0.cell? ⟨w.heap.size, 0, none⟩ = some (.int .i64 T) := hr0.cell rfl
  have d1 : w0.cell? ⟨w.heap.size, 1, none⟩ = some (.int .i64 k) := hr0.cell rfl
  have HB0 := Lib.hid hb0
  have HR0 := Lib.hid hr0
  have HQ0 := Lib.hid hq0
  clear hb0 hr0 hq0
  go_wp2_with fail
  refine (rlocks_any T k _).mono ?_
  rw [HK.out]
  rintro e w1 ⟨rfl, hb1⟩
  have hr1 := HR0.out.below hb1 hrl
  have hq1 := HQ0.out.below hb1 hql
  have hl1 := hr1.lt
  have hm1 := hq1.lt
  have HB1 := Lib.hid (HB0.out.trans (hb1.mono (by omega)))
  have HR1 := Lib.hid hr1
  have HQ1 := Lib.hid hq1
  clear hb1 hr1 hq1 d0 d1
  have d0 : w1.cell? ⟨w.heap.size, 0, none⟩ = some (.int .i64 T) := HR1.out.cell rfl
  have d1 : w1.cell? ⟨w.heap.size, 1, none⟩ = some (.int .i64 k) := HR1.out.cell rfl
  have c0 : w1.cell? ⟨w.heap.size + 1, 0, none⟩ = some (.int .i64 0) := HQ1.out.cell rfl
  have c1 : w1.cell? ⟨w.heap.size + 1, 1, none⟩ = some (.int .i64 0) := HQ1.out.cell rfl
  have h0 := HQ1.out.frozen 0
  have h1 := HQ1.out.frozen 1
  by_cases hlong : 65536 < n
  · have t1 : (65536 : Int) < n := by omega
    have t2 : (65536 : Int) ≤ n := by omega
    have t3 : (65536 : Int) ≤ c := by omega
    have t4 : (65536 : Nat) ≤ c := by omega
    have e9 : m = 65536 := by rw [HM.out]; omega
    have HE := Lib.hid e9
    clear e9
    obtain ⟨b9, o9, rfl⟩ : ∃ b o, A = some ⟨b, o, none⟩ := hA.resolve_left (by omega)
    go_wp2_with fail
    refine bodyPost_ret_by (results_cell_rowp rfl _ _ (w.heap.size + 1) 24 #[.int .i64 T, .int .i64 k] (0, 0) _ rfl ((HQ1.out.set_ 0 (.int .i64 T)).set_ 1 (.int .i64 k)) Try.underlying24 rfl size_lks) rfl ?_
    exact ⟨by rw [HE.out]; rfl, ((HB1.out.setCell (p := ⟨w.heap.size + 1, 0, none⟩) (by dsimp only; omega) _).setCell (p := ⟨w.heap.size + 1, 1, none⟩) (by dsimp only; omega) _)⟩
  · have t1 : ¬ (65536 : Int) < n := by omega
    have e9 : m = n := by rw [HM.out]; omega
    have HE := Lib.hid e9
    clear e9
    go_wp2_with fail
    refine bodyPost_ret_by (results_cell_rowp rfl _ _ (w.heap.size + 1) 24 #[.int .i64 T, .int .i64 k] (0, 0) _ rfl ((HQ1.out.set_ 0 (.int .i64 T)).set_ 1 (.int .i64 k)) Try.underlying24 rfl size_lks) rfl ?_
    exact ⟨by rw [HE.out]; rfl, ((HB1.out.setCell (p := ⟨w.heap.size + 1, 0, none⟩) (by dsimp only; omega) _).setCell (p := ⟨w.heap.size + 1, 1, none⟩) (by dsimp only; omega) _)⟩
set_option maxRecDepth 100000 in
set_option maxHeartbeats 4000000 in
theorem fit_no (T k : Int) (hk : rangeB T k 1 7 = false) (A : Option Addr) (n c : Nat) (hA : n = 0 ∨ ∃ b o, A = some ⟨b, o, none⟩) (hn1 : n ≤ c) (hn2 : c ≤ 9223372036854775807) (w : World) : Calls Try.prog 23 #[.agg #[.int .i64 T, .int .i64 k], .slice A n c] w (FitR T k A n c w) := by
  have e1 : fitT T k = 2 := by unfold fitT; rw [hk]; rfl
  have e2 : fitK T k = 2 := by unfold fitK; rw [hk]; rfl
  unfold FitR
  rw [e1, e2]
  obtain ⟨m, hm⟩ : ∃ m, m = min n 65536 := ⟨_, rfl⟩
  rw [← hm]
  have HM := Lib.hid hm
  clear hm
  have HK := Lib.hid hk
  clear hk e1 e2
  go_enter Try.func23, Try.ntmps23
  go_upto_region 1 with fail
  have hb0 : Below w.heap.size w ((w.alloc (.cells #[.int .i64 T, .int .i64 k] 24)).alloc (.cells #[.int .i64 0, .int .i64 0] 24)) := ((Below.refl _ _).alloc (Nat.le_refl _) _).alloc (by simp) _
  have hr0 : Blk ((w.alloc (.cells #[.int .i64 T, .int .i64 k] 24)).alloc (.cells #[.int .i64 0, .int .i64 0] 24)) w.heap.size 24 [.int .i64 T, .int .i64 k] := (Blk.new w _ _).alloc _
  have hq0 : Blk ((w.alloc (.cells #[.int .i64 T, .int .i64 k] 24)).alloc (.cells #[.int .i64 0, .int .i64 0] 24)) (w.heap.size + 1) 24 [.int .i64 0, .int .i64 0] := new1_blk' _ _ _ _
  generalize (w.alloc (.cells #[.int .i64 T, .int .i64 k] 24)).alloc (.cells #[.int .i64 0, .int .i64 0] 24) = w0 at hb0 hr0 hq0 ⊢
  have hrl := hr0.lt
  have hql := hq0.lt
  have d0 : w0.cell? ⟨w.heap.size, 0, none⟩ = some (.int .i64 T) := hr0.cell rfl
  have d1 : w0.cell? ⟨w.heap.size, 1, none⟩ = some (.int .i64 k) := hr0.cell rfl
  have HB0 := Lib.hid hb0
  have HR0 := Lib.hid hr0
  have HQ0 := Lib.hid hq0
  clear hb0 hr0 hq0
  go_wp2_with fail
  refine (rlocks_any T k _).mono ?_
  rw [HK.out]
  rintro e w1 ⟨rfl, hb1⟩
  have hr1 := HR0.out.below hb1 hrl
  have hq1 := HQ0.out.below hb1 hql
  have hl1 := hr1.lt
  have hm1 := hq1.lt
  have HB1 := Lib.hid (HB0.out.trans (hb1.mono (by omega)))
  have HR1 := Lib.hid hr1
  have HQ1 := Lib.hid hq1
  clear hb1 hr1 hq1 d0 d1
  go_wp2_with fail
  refine (small_any _).mono ?_
  rintro e w2 ⟨rfl, hb2⟩
  have hr2 := HR1.out.below hb2 hl1
  have hq2 := HQ1.out.below hb2 hm1
  have hl2 := hr2.lt
  have hm2 := hq2.lt
  have HB2 := Lib.hid (HB1.out.trans (hb2.mono (by omega)))
  have d0 : w2.cell? ⟨w.heap.size, 0, none⟩ = some (.int .i64 T) := hr2.cell rfl
  have d1 : w2.cell? ⟨w.heap.size, 1, none⟩ = some (.int .i64 k) := hr2.cell rfl
  have c0 : w2.cell? ⟨w.heap.size + 1, 0, none⟩ = some (.int .i64 0) := hq2.cell rfl
  have c1 : w2.cell? ⟨w.heap.size + 1, 1, none⟩ = some (.int .i64 0) := hq2.cell rfl
  have f0 := hr2.frozen 0
  have f1 := hr2.frozen 1
  have h0 := hq2.frozen 0
  have h1 := hq2.frozen 1
  have HR2 := Lib.hid hr2
  have HQ2 := Lib.hid hq2
  clear hb2 hr2 hq2
  by_cases hlong : 65536 < n
  · have t1 : (65536 : Int) < n := by omega
    have t2 : (65536 : Int) ≤ n := by omega
    have t3 : (65536 : Int) ≤ c := by omega
    have t4 : (65536 : Nat) ≤ c := by omega
    have e9 : m = 65536 := by rw [HM.out]; omega
    have HE := Lib.hid e9
    clear e9
    obtain ⟨b9, o9, rfl⟩ : ∃ b o, A = some ⟨b, o, none⟩ := hA.resolve_left (by omega)
    go_wp2_with fail
    refine bodyPost_ret_by (results_cell_rowp rfl _ _ (w.heap.size + 1) 24 #[.int .i64 2, .int .i64 2] (0, 0) _ rfl (((((HQ2.out.far (p := ⟨w.heap.size, 0, none⟩) (by dsimp only; omega) (.int .i64 2)).far (p := ⟨w.heap.size, 1, none⟩) (by dsimp only; omega) (.int .i64 2))).set_ 0 (.int .i64 2)).set_ 1 (.int .i64 2)) Try.underlying24 rfl size_lks) rfl ?_
    exact ⟨by rw [HE.out]; rfl, ((((HB2.out.setCell (p := ⟨w.heap.size, 0, none⟩) (by dsimp only; omega) _).setCell (p := ⟨w.heap.size, 1, none⟩) (by dsimp only; omega) _).setCell (p := ⟨w.heap.size + 1, 0, none⟩) (by dsimp only; omega) _).setCell (p := ⟨w.heap.size + 1, 1, none⟩) (by dsimp only; omega) _)⟩
  · have t1 : ¬ (65536 : Int) < n := by omega
    have e9 : m = n := by rw [HM.out]; omega
    have HE := Lib.hid e9
    clear e9
    go_wp2_with fail
    refine bodyPost_ret_by (results_cell_rowp rfl _ _ (w.heap.size + 1) 24 #[.int .i64 2, .int .i64 2] (0, 0) _ rfl (((((HQ2.out.far (p := ⟨w.heap.size, 0, none⟩) (by dsimp only; omega) (.int .i64 2)).far (p := ⟨w.heap.size, 1, none⟩) (by dsimp only; omega) (.int .i64 2))).set_ 0 (.int .i64 2)).set_ 1 (.int .i64 2)) Try.underlying24 rfl size_lks) rfl ?_
    exact ⟨by rw [HE.out]; rfl, ((((HB2.out.setCell (p := ⟨w.heap.size, 0, none⟩) (by dsimp only; omega) _).setCell (p := ⟨w.heap.size, 1, none⟩) (by dsimp only; omega) _).setCell (p := ⟨w.heap.size + 1, 0, none⟩) (by dsimp only; omega) _).setCell (p := ⟨w.heap.size + 1, 1, none⟩) (by dsimp only; omega) _)⟩
theorem fit_any (T k : Int) (A : Option Addr) (n c : Nat) (hA : n = 0 ∨ ∃ b o, A = some ⟨b, o, none⟩) (hn : n ≤ c ∧ c ≤ maxLen) (w : World) : Calls Try.prog 23 #[.agg #[.int .i64 T, .int .i64 k], .slice A n c] w (FitR T k A n c w) := by
  have hn2 : c ≤ 9223372036854775807 := by have := hn.2; simp only [maxLen] at this; omega
  cases hk : rangeB T k 1 7 with
  | true => exact fit_yes T k hk A n c hA hn.1 hn2 w
  | false => exact fit_no T k hk A n c hA hn.1 hn2 w
end Go.Proofs.Ytjnmlgfkiebkgaa
namespace Go.Proofs.Ytjnmlgfkiebkgaa
open Go.RowKit
set_option linter.unusedVariables false
set_option linter.unusedSimpArgs false

/-- a step's part at the desk: at most one access, by the thread whose step it is, in this move -/
structure Ac1 (d d' : Dk) : Prop where
  len : d'.words.length = d.words.length
  log : ∃ l : List Ac, d'.log = d.log ++ l ∧ l.length ≤ 1 ∧ ∀ a ∈ l, a.mv = d.now ∧ a.th = d.th
  now : d'.now = d.now
  th : d'.th = d.th
theorem Ac1.refl (d : Dk) : Ac1 d d := ⟨rfl, ⟨[], by simp, by simp, by simp⟩, rfl, rfl⟩
theorem ac1_load (d : Dk) (a : Int) : Ac1 d (d.load a).2 := by
  unfold Dk.load
  cases d.opn a
  · exact Ac1.refl d
  · exact ⟨rfl, ⟨_, rfl, by simp, by simp⟩, rfl, rfl⟩
theorem ac1_store (d : Dk) (a w : Int) : Ac1 d (d.store a w) := by
  unfold Dk.store
  cases d.opn a
  · exact Ac1.refl d
  · exact ⟨by simp, ⟨_, rfl, by simp, by simp⟩, rfl, rfl⟩
theorem ac1_swap (d : Dk) (a o w : Int) : Ac1 d (d.swap a o w).2 := by
  unfold Dk.swap
  cases d.opn a
  · exact Ac1.refl d
  · cases d.word a == o
    · exact ⟨rfl, ⟨_, rfl, by simp, by simp⟩, rfl, rfl⟩
    · exact ⟨by simp, ⟨_, rfl, by simp, by simp⟩, rfl, rfl⟩
theorem Ac1.point {d d' : Dk} (h : Ac1 d d') : Ac1 d d'.point := ⟨h.len, h.log, h.now, h.th⟩
theorem Ac1.answer {d d' : Dk} (h : Ac1 d d') (k v : Int) : Ac1 d (d'.answer k v) := ⟨h.len, h.log, h.now, h.th⟩
theorem ac_if {b : Bool} {d : Dk} {x y : Bool × Lk × Dk} (hx : Ac1 d x.2.2) (hy : Ac1 d y.2.2) : Ac1 d (cond b x y).2.2 := by cases b <;> assumption
theorem ac1_up {l : Lk} {d d' : Dk} (h : Ac1 d d') : Ac1 d (l.up d').2.2 := ac_if h h.point
theorem ac1_acq (l : Lk) (d : Dk) : Ac1 d (l.acq d).2.2 :=
  ac_if (ac_if (ac1_load _ _) (ac_if (ac_if (ac1_swap _ _ _ _).point (ac1_swap _ _ _ _)) (ac1_load _ _)))
    (ac_if (ac_if (ac1_store _ _ _) (ac_if (ac1_load _ _) (ac_if (ac_if (ac1_swap _ _ _ _).point (ac1_swap _ _ _ _)) (ac1_load _ _))))
      (ac_if (ac_if (ac1_store _ _ _) (ac_if (ac1_load _ _) (ac_if (ac_if (ac_if (ac1_swap _ _ _ _).point (ac1_swap _ _ _ _).point) (ac1_swap _ _ _ _)) (ac_if (ac1_store _ _ _) (ac_if (ac1_store _ _ _) (ac_if (ac1_load _ _) (ac1_load _ _)))))))
        (ac_if (ac_if (ac1_store _ _ _) (ac_if (ac1_store _ _ _) (ac_if (ac_if (ac1_load _ _) (ac_if (ac1_up (ac1_load _ _)) (ac1_load _ _))) (ac_if (ac1_load _ _) (ac1_up (ac1_load _ _))))))
          (ac_if (ac_if (ac1_store _ _ _) (ac_if (ac1_load _ _) (ac_if (ac1_store _ _ _) (ac_if (ac1_store _ _ _).point (ac_if (ac1_load _ _) (ac_if (ac1_load _ _) (ac1_load _ _))))))) (ac_if (ac1_swap _ _ _ _).point (ac1_swap _ _ _ _))))))
theorem ac1_rel (l : Lk) (d : Dk) : Ac1 d (l.rel d).2.2 :=
  ac_if (ac1_store _ _ _) (ac_if (ac1_store _ _ _) (ac_if (ac_if (ac1_load _ _) (ac_if (ac_if (ac1_swap _ _ _ _) (ac1_swap _ _ _ _)) (ac1_store _ _ _))) (ac_if (ac1_store _ _ _) (ac_if (ac1_store _ _ _) (ac1_store _ _ _)))))
/-- beginning makes no access -/
theorem beg_words (l : Lk) (d : Dk) : (l.beg d).2.2.words = d.words ∧ (l.beg d).2.2.log = d.log ∧ (l.beg d).2.2.now = d.now ∧ (l.beg d).2.2.th = d.th ∧ (l.beg d).2.2.used = d.used := by
  unfold Lk.beg
  cases l.kd == 5
  · exact ⟨rfl, rfl, rfl, rfl, rfl⟩
  · cases decide (1 < l.all) <;> exact ⟨rfl, rfl, rfl, rfl, rfl⟩
theorem ac1_step (s : Ts) : Ac1 s.d s.step.d := by
  obtain ⟨o, p, l, al, sh, d⟩ := s
  cases p with
  | acq => exact ac1_acq l d
  | rel => exact ac1_rel l d
  | shr b w k =>
    cases k
    · exact ac1_load _ _
    · unfold Ts.step
      dsimp only
      cases (d.swap 1 (uw w) (uw (iw (w + b)))).1
      · exact ac1_swap _ _ _ _
      · cases decide (0 < b)
        · exact ac1_swap _ _ _ _
        · exact (ac1_swap _ _ _ _).point
  | tch c k =>
    cases k
    · exact ac1_load _ _
    · exact (ac1_store _ _ _).answer _ _
theorem ready_words (s : Ts) : s.ready.d.words = s.d.words ∧ s.ready.d.log = s.d.log ∧ s.ready.d.now = s.d.now ∧ s.ready.d.th = s.d.th ∧ s.ready.d.used = s.d.used := by
  obtain ⟨o, p, l, al, sh, d⟩ := s
  cases p with
  | acq => exact beg_words l d
  | _ => exact ⟨rfl, rfl, rfl, rfl, rfl⟩
theorem ac1_ready (s : Ts) : Ac1 s.d s.ready.d := by
  obtain ⟨h1, h2, h3, h4, _⟩ := ready_words s
  exact ⟨by rw [h1], ⟨[], by rw [h2]; simp, by simp, by simp⟩, h3, h4⟩
/-- the desk's part of a whole step -/
theorem ac1_whole (s : Ts) (b : Bool) : Ac1 s.d (let s1 := bif b then s else s.ready; bif s1.over then s1 else s1.step).d := by
  dsimp only
  cases b
  · dsimp only [cond_false]
    have h1 := ac1_ready s
    cases s.ready.over
    · have h2 := ac1_step s.ready
      obtain ⟨l1, l2, l3, l4, l5⟩ := ready_words s
      obtain ⟨m1, ⟨l, m2, m3, m4⟩, m5, m6⟩ := h2
      exact ⟨m1.trans (by rw [l1]), ⟨l, by rw [← l2]; exact m2, m3, fun a ha => by rw [← l3, ← l4]; exact m4 a ha⟩, m5.trans l3, m6.trans l4⟩
    · exact h1
  · dsimp only [cond_true]
    cases s.over
    · exact ac1_step s
    · exact Ac1.refl _
theorem step_bnd (m : Mc) (t : Nat) (h : Th) (p : Tp) : (m.step t h p).words.length = m.words.length ∧ (m.step t h p).log.length ≤ m.log.length + 1 ∧ (m.step t h p).calls.length = m.calls.length ∧ (m.step t h p).moves = m.moves + 1 ∧ (m.step t h p).ths.length = m.ths.length := by
  have h1 := ac1_whole ⟨false, p, h.lk, h.alone, h.shares, ⟨m.words, m.log, t, m.moves, false, (m.calls[h.last.toNat]?.getD cal0).pt, h.ak, h.av⟩⟩ h.ready
  obtain ⟨e1, ⟨l, e2, e3, _⟩, _⟩ := h1
  refine ⟨e1, ?_, List.length_set, rfl, List.length_set⟩
  have : (m.step t h p).log = m.log ++ l := e2
  rw [this, List.length_append]
  omega
theorem move_bnd (m : Mc) (v : Mo) : (m.move v).2.words.length = m.words.length ∧ (m.move v).2.log.length ≤ m.log.length + 1 ∧ (m.move v).2.calls.length ≤ m.calls.length + 1 ∧ (m.move v).2.ths.length = m.ths.length := by
  have h0 : m.words.length = m.words.length ∧ m.log.length ≤ m.log.length + 1 ∧ m.calls.length ≤ m.calls.length + 1 ∧ m.ths.length = m.ths.length := ⟨rfl, by omega, by omega, rfl⟩
  unfold Mc.move
  cases decide (65536 ≤ m.moves)
  · cases decide (v.th < 0)
    · dsimp only [cond_false]
      cases m.ths[v.th.toNat]? with
      | none => exact h0
      | some h =>
        dsimp only
        cases h.task with
        | some p =>
          dsimp only
          cases v.op == 0
          · exact h0
          · obtain ⟨a, b, c, _, e⟩ := step_bnd m v.th.toNat h p
            exact ⟨a, b, by show _ ≤ _; dsimp only [cond_true]; omega, e⟩
        | none =>
          dsimp only
          cases v.op == 0
          · dsimp only [cond_false]
            cases m.make h v.op with
            | none => exact h0
            | some p => exact ⟨rfl, by show m.log.length ≤ _; omega, by show (m.calls ++ _).length ≤ _; simp, List.length_set⟩
          · exact h0
    · exact h0
  · exact h0
theorem moves_bnd (l : List Mo) (m : Mc) : (m.moves_ l).words.length = m.words.length ∧ (m.moves_ l).log.length ≤ m.log.length + l.length ∧ (m.moves_ l).calls.length ≤ m.calls.length + l.length ∧ (m.moves_ l).ths.length = m.ths.length := by
  induction l generalizing m with
  | nil => exact ⟨rfl, by simp [Mc.moves_], by simp [Mc.moves_], rfl⟩
  | cons v l ih =>
    obtain ⟨a, b, c, e⟩ := ih (m.move v).2
    obtain ⟨a', b', c', e'⟩ := move_bnd m v
    simp only [Mc.moves_, List.length_cons]
    exact ⟨a.trans a', by omega, by omega, e.trans e'⟩
theorem rules_all {T k : Int} (h : rangeB T k 1 7 = true) (me : Nat) (w : World) : Calls Try.prog 42 #[.agg #[.int .i64 T, .int .i64 k], .int .i64 me] w (RulR k T me w) := by
  obtain ⟨t, rfl, h1, h2, rfl | rfl | rfl | rfl | rfl | rfl | rfl⟩ := range_nat h
  · exact rules_1 _ me w
  · exact rules_2 _ me w
  · exact rules_3 _ me w
  · exact rules_4 _ me w
  · exact rules_5 _ me w
  · exact rules_6 _ me w
  · exact rules_7 _ me w
theorem new_all {T k : Int} (h : rangeB T k 1 7 = true) (w : World) : Calls Try.prog 27 #[.agg #[.int .i64 T, .int .i64 k]] w (fun e w' => ∃ M, e = .returned (.tuple #[.pointer (some ⟨M.x, 0, none⟩), .int .i64 0]) ∧ MM w' w.heap.size M (mc0 k T) ∧ Below w.heap.size w w') := by
  have hl := lkWords_len h
  have hw := fun w => words_all h w
  have hr := fun me w => rules_all h me w
  obtain ⟨t, rfl, h1, h2, hk⟩ := range_nat h
  exact lnew_any k t h ⟨h1, h2⟩ hw ⟨by omega, by omega⟩ hr w
theorem kok_range {T k : Int} (h : rangeB T k 1 7 = true) : KOk k := by
  obtain ⟨t, rfl, h1, h2, hk⟩ := range_nat h
  exact kok_all (by omega)
/-- a script of a lock that may be -/
theorem play_fit {T k : Int} (hk : rangeB T k 1 7 = true) (ms : List Mo) (A : Option Addr) (n c : Nat) (hl : ms.length = n) (w : World) (h : Sl w w.heap.size 4 A n (moVals ms)) (hn : n ≤ 65536) (hop : ∀ v ∈ ms, -9223372036854775808 ≤ v.op ∧ v.op ≤ 9223372036854775807) :
    Calls Try.prog 24 #[.agg #[.int .i64 T, .int .i64 k], .slice A n c] w (PlayR ((mc0 k T).moves_ ms) w) := by
  subst hl
  have hw := lkWords_len hk
  obtain ⟨b1, b2, b3, _⟩ := moves_bnd ms (mc0 k T)
  have l0 : (mc0 k T).log.length = 0 := rfl
  have l1 : (mc0 k T).calls.length = 0 := rfl
  have l2 : (mc0 k T).words.length = (lkWords k T).length := rfl
  have hnew := fun w => new_all hk w
  have K := kok_range hk
  obtain ⟨t, rfl, h1, h2, _⟩ := range_nat hk
  exact lplay_any k t K ⟨h1, h2⟩ hnew ms A c w h hn hop ⟨by omega, by omega, by omega⟩
end Go.Proofs.Ytjnmlgfkiebkgaa
