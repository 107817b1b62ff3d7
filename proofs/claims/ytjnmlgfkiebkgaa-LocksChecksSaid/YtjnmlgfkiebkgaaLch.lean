/-
  LocksChecks's law is true of all locks.
-/
import Derived.Test.YtjnmlgfkiebkgaaLsm
namespace Go.Proofs.Ytjnmlgfkiebkgaa
open Go.RowKit
set_option linter.unusedVariables false
set_option linter.unusedSimpArgs false

set_option maxRecDepth 100000 in
set_option maxHeartbeats 4000000 in
theorem law_checks_no (T k : Int) (hk : rangeB T k 1 7 = false) (w : World) : Calls Try.prog 3 #[.agg #[.int .i64 T, .int .i64 k]] w (BoolR true w) := by
  have HK := Lib.hid hk
  clear hk
  go_enter Try.func3, Try.ntmps3
  go_upto_region 1 with fail
  have hb0 : Below w.heap.size w (w.alloc (.cells #[.int .i64 T, .int .i64 k] 24)) := (Below.refl _ _).alloc (Nat.le_refl _) _
  have hr0 : Blk (w.alloc (.cells #[.int .i64 T, .int .i64 k] 24)) w.heap.size 24 [.int .i64 T, .int .i64 k] := Blk.new _ _ _
  generalize w.alloc (.cells #[.int .i64 T, .int .i64 k] 24) = w0 at hb0 hr0 ⊢
  have hrl := hr0.lt
  have d0 : w0.cell? ⟨w.heap.size, 0, none⟩ = some (.int .i64 T) := hr0.cell rfl
  have d1 : w0.cell? ⟨w.heap.size, 1, none⟩ = some (.int .i64 k) := hr0.cell rfl
  have HB0 := Lib.hid hb0
  have HR0 := Lib.hid hr0
  clear hb0 hr0
  go_wp2_with fail
  refine (locksck_any T k _).mono ?_
  rw [HK.out]
  rintro e w1 ⟨rfl, hb1⟩
  have hr1 := HR0.out.below hb1 hrl
  have hl1 := hr1.lt
  have HB1 := Lib.hid (HB0.out.trans (hb1.mono (by omega)))
  have HR1 := Lib.hid hr1
  have d0 : w1.cell? ⟨w.heap.size, 0, none⟩ = some (.int .i64 T) := hr1.cell rfl
  have d1 : w1.cell? ⟨w.heap.size, 1, none⟩ = some (.int .i64 k) := hr1.cell rfl
  clear hb1 hr1
  go_wp2_with fail
  refine (words_no T k HK.out _).mono ?_
  rintro e w2 ⟨rfl, hb2⟩
  have hr2 := HR1.out.below hb2 hl1
  have hl2 := hr2.lt
  have HB2 := Lib.hid (HB1.out.trans (hb2.mono (by omega)))
  have HR2 := Lib.hid hr2
  clear hb2 hr2
  go_wp2_with fail
  refine (awake_any _).mono ?_
  rintro e w3 ⟨rfl, hb3⟩
  have hr3 := HR2.out.below hb3 hl2
  have hl3 := hr3.lt
  have HB3 := Lib.hid (HB2.out.trans (hb3.mono (by omega)))
  have HR3 := Lib.hid hr3
  clear hb3 hr3
  go_wp2_with fail
  refine (locksck_any 0 0 _).mono ?_
  rw [show rangeB 0 0 1 7 = false from rfl]
  rintro e w4 ⟨rfl, hb4⟩
  have hr4 := HR3.out.below hb4 hl3
  have hl4 := hr4.lt
  have HB4 := Lib.hid (HB3.out.trans (hb4.mono (by omega)))
  have d0 : w4.cell? ⟨w.heap.size, 0, none⟩ = some (.int .i64 T) := hr4.cell rfl
  have d1 : w4.cell? ⟨w.heap.size, 1, none⟩ = some (.int .i64 k) := hr4.cell rfl
  clear hb4 hr4
  go_wp2_with fail
  refine (rlocks_any T k _).mono ?_
  rw [HK.out]
  rintro e w5 ⟨rfl, hb5⟩
  have HB5 := Lib.hid (HB4.out.trans (hb5.mono (by omega)))
  clear hb5
  go_wp2_with fail
  go_ret
  exact ⟨rfl, HB5.out⟩
theorem info_u64 : (Try.prog.info? 34).map (fun i => (i.zero, i.size, i.bytes)) = some (some (.int .u64 0), 1, 8) := by kernel_rfl
/-- a row of numbers that is not that block's -/
def RowN (B n g : Nat) (v : Value) (w : World) : Prop := ∃ xs, w.ownsRow B 34 1 v n xs ∧ v.ownBlock ≠ some g
theorem blk_own {w : World} {g B n : Nat} {t : TypeId} {cs : List Value} (h : Blk w g t cs) (hB : B ≤ g) (hl : cs.length = n) (hm : n ≤ maxLen) : w.ownsRow B t 1 (.slice (some ⟨g, 0, none⟩) n n) n cs :=
  ⟨by omega, .inr ⟨g, n, cs.toArray, rfl, hB, h, Nat.le_refl _, hm, by simp; omega, by rw [List.take_of_length_le (by simp; omega)]⟩⟩
theorem blk_off {w w' : World} {g q : Nat} {t : TypeId} {cs : List Value} (h : Blk w q t cs) (hg : w.grownBy w' (some g)) (hne : g ≠ q) : Blk w' q t cs := by
  have hl := h.lt
  exact (hg.5 q hl (fun e => hne (by injection e with e; exact e.symm))).trans h
theorem blk_off' {w w' : World} {q : Nat} {row : Option Nat} {t : TypeId} {cs : List Value} (h : Blk w q t cs) (hg : w.grownBy w' row) (hne : row ≠ some q) : Blk w' q t cs := by
  have hl := h.lt
  exact (hg.5 q hl (fun e => hne e.symm)).trans h
set_option maxRecDepth 100000 in
set_option maxHeartbeats 8000000 in
theorem law_checks_yes (T k : Int) (hk : rangeB T k 1 7 = true) (w : World) : Calls Try.prog 3 #[.agg #[.int .i64 T, .int .i64 k]] w (BoolR true w) := by
  obtain ⟨i1, hi1, hi1z, hi1s, hi1b⟩ := info_parts info_u64
  have hll := lkWords_len hk
  have hu := u64s_len (lkWords k T)
  obtain ⟨l, hl⟩ : ∃ l, l = lkWords k T := ⟨_, rfl⟩
  have HW : Hid (∀ w, Calls Try.prog 11 #[.agg #[.int .i64 T, .int .i64 k]] w (WdsR l okV w)) := by rw [hl]; exact words_all hk
  have HV : Hid (∀ w, Calls Try.prog 15 #[.agg #[.int .i64 T, .int .i64 k]] w (WdsR l idV w)) := by rw [hl]; exact rwords_all hk
  rw [← hl] at hll hu
  clear hl
  have HK := Lib.hid hk
  have HU := Lib.hid hu
  have hl2 := hll.1
  have hl100 := hll.2
  clear hk hll hu
  go_enter Try.func3, Try.ntmps3
  go_upto_region 1 with fail
  have hb0 : Below w.heap.size w (w.alloc (.cells #[.int .i64 T, .int .i64 k] 24)) := (Below.refl _ _).alloc (Nat.le_refl _) _
  have hr0 : Blk (w.alloc (.cells #[.int .i64 T, .int .i64 k] 24)) w.heap.size 24 [.int .i64 T, .int .i64 k] := Blk.new _ _ _
  generalize w.alloc (.cells #[.int .i64 T, .int .i64 k] 24) = w0 at hb0 hr0 ⊢
  have hrl := hr0.lt
  have d0 : w0.cell? ⟨w.heap.size, 0, none⟩ = some (.int .i64 T) := hr0.cell rfl
  have d1 : w0.cell? ⟨w.heap.size, 1, none⟩ = some (.int .i64 k) := hr0.cell rfl
  have HB0 := Lib.hid hb0
  have HR0 := Lib.hid hr0
  clear hb0 hr0
  go_wp2_with fail
  refine (locksck_any T k _).mono ?_
  rw [HK.out]
  rintro e w1 ⟨rfl, hb1⟩
  have hr1 := HR0.out.below hb1 hrl
  have hl1 := hr1.lt
  have HB1 := Lib.hid (HB0.out.trans (hb1.mono (by omega)))
  have HR1 := Lib.hid hr1
  have d0 : w1.cell? ⟨w.heap.size, 0, none⟩ = some (.int .i64 T) := hr1.cell rfl
  have d1 : w1.cell? ⟨w.heap.size, 1, none⟩ = some (.int .i64 k) := hr1.cell rfl
  clear hb1 hr1
  go_wp2_with fail
  refine (HW.out _).mono ?_
  rintro e w2 ⟨g2, rfl, hg2, hx2, hb2⟩
  have hr2 := HR1.out.below hb2 hl1
  have hl2' := hr2.lt
  have hgl2 := hg2.lt
  have HG2 := Lib.hid hg2
  have HB2 := Lib.hid (HB1.out.trans (hb2.mono (by omega)))
  have HR2 := Lib.hid hr2
  clear hb2 hr2 hg2
  go_wp2_with fail
  refine (awake_any _).mono ?_
  rintro e w3 ⟨rfl, hb3⟩
  have hr3 := HR2.out.below hb3 hl2'
  have hl3 := hr3.lt
  have hg3 := HG2.out.below hb3 hgl2
  have hgl3 := hg3.lt
  have HG3 := Lib.hid hg3
  have HB3 := Lib.hid (HB2.out.trans (hb3.mono (by omega)))
  have HR3 := Lib.hid hr3
  clear hb3 hr3 hg3
  go_wp2_with fail
  refine (locksck_any 0 0 _).mono ?_
  rw [show rangeB 0 0 1 7 = false from rfl]
  rintro e w4 ⟨rfl, hb4⟩
  have hr4 := HR3.out.below hb4 hl3
  have hl4 := hr4.lt
  have hg4 := HG3.out.below hb4 hgl3
  have hgl4 := hg4.lt
  have HG4 := Lib.hid hg4
  have HB4 := Lib.hid (HB3.out.trans (hb4.mono (by omega)))
  have HR4 := Lib.hid hr4
  have d0 : w4.cell? ⟨w.heap.size, 0, none⟩ = some (.int .i64 T) := hr4.cell rfl
  have d1 : w4.cell? ⟨w.heap.size, 1, none⟩ = some (.int .i64 k) := hr4.cell rfl
  clear hb4 hr4 hg4
  go_wp2_with fail
  refine (rlocks_any T k _).mono ?_
  rw [HK.out]
  rintro e w5 ⟨rfl, hb5⟩
  have hr5 := HR4.out.below hb5 hl4
  have hl5 := hr5.lt
  have hg5 := HG4.out.below hb5 hgl4
  have hgl5 := hg5.lt
  have HG5 := Lib.hid hg5
  have HB5 := Lib.hid (HB4.out.trans (hb5.mono (by omega)))
  have HR5 := Lib.hid hr5
  have d0 : w5.cell? ⟨w.heap.size, 0, none⟩ = some (.int .i64 T) := hr5.cell rfl
  have d1 : w5.cell? ⟨w.heap.size, 1, none⟩ = some (.int .i64 k) := hr5.cell rfl
  clear hb5 hr5 hg5
  go_wp2_with fail
  refine (HV.out _).mono ?_
  rintro e w6 ⟨g6, rfl, hg6, hx6, hb6⟩
  have hr6 := HR5.out.below hb6 hl5
  have hl6 := hr6.lt
  have hq6 := HG5.out.below hb6 hgl5
  have HS6 := Lib.hid (hq6.sl (sz := 1) (n := l.length) (by rw [HU.out]; omega))
  have HS7 := Lib.hid (hg6.sl (sz := 1) (n := l.length) (by rw [HU.out]; omega))
  have hgl6 := hq6.lt
  have HG6 := Lib.hid hq6
  have HB6 := Lib.hid (HB5.out.trans (hb6.mono (by omega)))
  have HR6 := Lib.hid hr6
  clear hb6 hr6 hg6 hq6
  go_wp2_with fail
  refine (samew_any l _ _ _ _ _ HS6.out HS7.out (by omega)).mono ?_
  rintro e w7 ⟨rfl, hb7⟩
  have hr7 := HR6.out.below hb7 hl6
  have hl7 := hr7.lt
  have hq7 := HG6.out.below hb7 hgl6
  have hgl7 := hq7.lt
  have HG7 := Lib.hid hq7
  have HB7 := Lib.hid (HB6.out.trans (hb7.mono (by omega)))
  have HR7 := Lib.hid hr7
  have d0 : w7.cell? ⟨w.heap.size, 0, none⟩ = some (.int .i64 T) := hr7.cell rfl
  have d1 : w7.cell? ⟨w.heap.size, 1, none⟩ = some (.int .i64 k) := hr7.cell rfl
  clear hb7 hr7 hq7 HS6 HS7
  go_wp2_with fail
  refine (HW.out _).mono ?_
  rintro e w8 ⟨g8, rfl, hg8, hx8, hb8⟩
  have hr8 := HR7.out.below hb8 hl7
  have hq8 := HG7.out.below hb8 hgl7
  have HB8 := Lib.hid (HB7.out.trans (hb8.mono (by omega)))
  have HR8 := Lib.hid hr8
  have HG8 := Lib.hid hg8
  have hl8 := hr8.lt
  have HQ8 := Lib.hid hq8
  have n1 : w.heap.size ≠ g2 := by omega
  have n2 : g2 ≠ g8 := by omega
  have n3 : w.heap.size ≠ g8 := by omega
  have s8 : w.heap.size + 1 ≤ w8.heap.size := by omega
  have s2 : w.heap.size + 1 ≤ g2 := by omega
  have s9 : w.heap.size + 1 ≤ g8 := by omega
  clear hb8 hr8 hg8 hq8 hx8 hx6 hx2 hl7 hgl7 hl6 hgl6 hgl5 hl5 hl4 hgl4 hl3 hgl3 hgl2 hl2' hl1 hrl HG7 HR7 HB7 HG6 HR6 HB6 HG5 HR5 HB5 HG4 HR4 HB4 HG3 HR3 HB3 HG2 HR2 HB2 HR1 HB1 HR0 HB0
  go_wp2_with fail
  go_loopg [7] l.length (fun gk i wr => ∃ (j : Nat) (cs : List Value), j + gk = l.length ∧ i = .int .i64 j ∧ cs.length = l.length ∧ w.heap.size + 1 ≤ wr.heap.size ∧ Hid (Below w.heap.size w wr) ∧ Hid (Blk wr w.heap.size 24 [.int .i64 T, .int .i64 k]) ∧ Hid (Blk wr g8 34 (u64s l)) ∧ Hid (Blk wr g2 34 cs))
  case atStart => exact ⟨0, u64s l, by omega, rfl, HU.out, s8, HB8.out, HR8.out, HG8.out, HQ8.out⟩
  case round =>
    obtain ⟨j, cs, hj, rfl, hcs, hzr, hB, hR, hG, hQ⟩ := hrel
    by_cases hlt : j < l.length
    · have e1 : (j : Int) < l.length := by omega
      have e0 : (0 : Int) ≤ j := by omega
      obtain ⟨z, hz⟩ := at_lt (l := cs) (j := j) (by omega)
      have v0 : wr.cell? ⟨g2, j, none⟩ = some z := hQ.out.cell hz
      have f0 := hQ.out.frozen j
      have hgl := hQ.out.lt
      clear hz
      go_wp2_with fail
      go_roundg (gk - 1)
      case measure => omega
      case rel => exact ⟨j + 1, cs.set j (.int .u64 77), by omega, by go_num, by simp [hcs], by simpa using hzr, hB.out.setCell (p := ⟨g2, j, none⟩) (Nat.le_of_succ_le s2) _, hR.out.far (p := ⟨g2, j, none⟩) n1 _, hG.out.far (p := ⟨g2, j, none⟩) n2.symm _, hQ.out.set_ j _⟩
    · obtain rfl : j = l.length := by omega
      obtain ⟨w9, rfl⟩ : ∃ w9 : World, w9 = wr := ⟨_, rfl⟩
      have hgl8 := hG.out.lt
      go_wp2_with (at_builtin; go_must (refine wpList_app _ rfl _ _ 27 rfl (w.heap.size + 1) 34 i1 (.int .u64 0) 1 8 Try.underlying27 hi1 hi1z hi1s hi1b rfl (by decide) (.slice (some ⟨g2, 0, none⟩) l.length l.length) l.length cs rfl ((blk_own hQ.out s2 hcs (by simp only [maxLen]; omega)).alloc _) (w9.heap.size + 1) (some ⟨w9.heap.size, 0, none⟩) 1 1 [.int .u64 78] rfl (((Blk.new w9 34 _).sl rfl).up (by simp)) (by intro u hu; simp at hu; subst hu; rfl) (l.length + 1) rfl _ rfl _ rfl (by simp only [maxLen]; omega) (by omega) (by rw [World.size_alloc]; omega) ?_; intro A0 k0 v9 hown9 hg9 hat9 hk9 hk9'))
      have hgs := hg9.4
      rw [World.size_alloc] at hgs
      have HBv : Hid (Below w.heap.size w v9) := (hB.out.alloc (Nat.le_of_succ_le hzr) _).grown hg9 (by rw [World.size_alloc]; omega) (fun r hr => by injection hr with hr; subst hr; exact Nat.le_of_succ_le s2)
      have HRv : Hid (Blk v9 w.heap.size 24 [.int .i64 T, .int .i64 k]) := blk_off' (hR.out.alloc _) hg9 (fun e => by injection e with e; exact n1 e.symm)
      have HGv : Hid (Blk v9 g8 34 (u64s l)) := blk_off' (hG.out.alloc _) hg9 (fun e => by injection e with e; exact n2 e)
      have HOv : Hid (RowN (w.heap.size + 1) (l.length + 1) g8 (.slice A0 (l.length + 1) k0) v9) := ⟨_, hown9, fun e => by
        rcases hat9 with h9 | h9
        · rw [h9] at e; injection e with e; exact n2 e
        · rw [h9, World.size_alloc] at e; injection e with e; omega⟩
      have hzv : w.heap.size + 1 ≤ v9.heap.size := by omega
      clear hown9 hg9 hat9 hk9 hk9' hgs hgl8 hQ hG hR hB
      go_wp2_with fail
      go_loopg [8, 9] 70 (fun gk s i wr => ∃ (j : Nat) (A8 : Option Addr) (k8 : Nat), j + gk = 70 ∧ i = .int .i64 j ∧ s = .slice A8 (l.length + 1 + j) k8 ∧ w.heap.size + 1 ≤ wr.heap.size ∧ Hid (Below w.heap.size w wr) ∧ Hid (Blk wr w.heap.size 24 [.int .i64 T, .int .i64 k]) ∧ Hid (Blk wr g8 34 (u64s l)) ∧ Hid (RowN (w.heap.size + 1) (l.length + 1 + j) g8 s wr))
      case atStart => exact ⟨0, A0, k0, by omega, rfl, rfl, hzv, HBv.out, HRv.out, HGv.out, HOv.out⟩
      case round =>
        obtain ⟨j, A8, k8, hj, rfl, rfl, hzr, hB, hR, hG, hO⟩ := hrel
        obtain ⟨xs, hO1, hO2⟩ := hO.out
        by_cases hlt : j < 70
        · have e1 : (j : Int) < 70 := by omega
          have hgl8 := hG.out.lt
          go_wp2_with (at_builtin; go_must (refine wpList_app _ rfl _ _ 27 rfl (w.heap.size + 1) 34 i1 (.int .u64 0) 1 8 Try.underlying27 hi1 hi1z hi1s hi1b rfl (by decide) (.slice A8 (l.length + 1 + j) k8) (l.length + 1 + j) xs rfl (hO1.alloc _) (wr.heap.size + 1) (some ⟨wr.heap.size, 0, none⟩) 1 1 [.int .u64 79] rfl (((Blk.new wr 34 _).sl rfl).up (by simp)) (by intro u hu; simp at hu; subst hu; rfl) (l.length + 1 + j + 1) rfl _ rfl _ rfl (by simp only [maxLen]; omega) (by omega) (by rw [World.size_alloc]; omega) ?_; intro A9 k9 v9 hown9 hg9 hat9 hk9 hk9'))
          have hgs := hg9.4
          rw [World.size_alloc] at hgs
          go_roundg (gk - 1)
          case measure => omega
          case rel =>
            exact ⟨j + 1, A9, k9, by omega, by go_num, rfl, by omega, (hB.out.alloc (Nat.le_of_succ_le hzr) _).grown hg9 (by rw [World.size_alloc]; omega) (fun r hr => Nat.le_of_succ_le (hO1.lt r hr).1), blk_off' (hR.out.alloc _) hg9 (fun e => by have := (hO1.lt _ e).1; omega), blk_off' (hG.out.alloc _) hg9 hO2, _, hown9, fun e => by
              rcases hat9 with h9 | h9
              · rw [h9] at e; exact hO2 e
              · rw [h9, World.size_alloc] at e; injection e with e; omega⟩
        · obtain rfl : j = 70 := by omega
          have hlr := hR.out.lt
          have hlg := hG.out.lt
          have d0 : wr.cell? ⟨w.heap.size, 0, none⟩ = some (.int .i64 T) := hR.out.cell rfl
          have d1 : wr.cell? ⟨w.heap.size, 1, none⟩ = some (.int .i64 k) := hR.out.cell rfl
          clear hO1 hO2 hO
          go_wp2_with fail
          refine (HV.out _).mono ?_
          rintro e v6 ⟨g6, rfl, hg6, hx6, hb6⟩
          have HS6 := Lib.hid ((hG.out.below hb6 hlg).sl (sz := 1) (n := l.length) (by rw [HU.out]; omega))
          have HS7 := Lib.hid (hg6.sl (sz := 1) (n := l.length) (by rw [HU.out]; omega))
          have HB6 := Lib.hid (hB.out.trans (hb6.mono (by omega)))
          have hz6 := hb6.size
          clear hg6 hb6
          go_wp2_with fail
          refine (samew_any l _ _ _ _ _ HS6.out HS7.out (by omega)).mono ?_
          rintro e v7 ⟨rfl, hb7⟩
          have HB7 := Lib.hid (HB6.out.trans (hb7.mono (by omega)))
          clear hb7
          go_wp2_with fail
          go_ret
          exact ⟨rfl, HB7.out⟩
theorem law_checks (T k : Int) (w : World) : Calls Try.prog 3 #[.agg #[.int .i64 T, .int .i64 k]] w (BoolR true w) := by
  cases hk : rangeB T k 1 7 with
  | false => exact law_checks_no T k hk w
  | true => exact law_checks_yes T k hk w
end Go.Proofs.Ytjnmlgfkiebkgaa
