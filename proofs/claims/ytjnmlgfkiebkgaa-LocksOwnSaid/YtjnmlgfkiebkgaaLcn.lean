/-
  slices.Clone of calls, of accesses, of no shifts; memory.Words.
-/
import Derived.Test.YtjnmlgfkiebkgaaLnw
import Derived.Test.YtjnmlgfkiebkgaaLms
namespace Go.Proofs.Ytjnmlgfkiebkgaa
open Go.RowKit
set_option linter.unusedVariables false
set_option linter.unusedSimpArgs false

theorem ca_ones (l : List Cal) : ∀ u ∈ calVals l, u.oneCell' = true := by
  intro u hu
  unfold calVals at hu
  obtain ⟨x, _, hx⟩ := List.mem_flatMap.1 hu
  simp [calL] at hx
  rcases hx with h | h | h | h | h | h | h | h | h <;> subst h <;> rfl
theorem ac_ones (l : List Ac) : ∀ u ∈ acVals l, u.oneCell' = true := by
  intro u hu
  unfold acVals at hu
  obtain ⟨x, _, hx⟩ := List.mem_flatMap.1 hu
  simp [acL] at hx
  rcases hx with h | h | h | h | h | h | h <;> subst h <;> rfl
theorem acVals_len (l : List Ac) : (acVals l).length = l.length * 7 := by
  induction l with
  | nil => rfl
  | cons h l ih => simp only [acVals, List.flatMap_cons, List.length_append, List.length_cons, List.length_nil] at ih ⊢; omega
theorem info_cac : (Try.prog.info? 62).map (fun i => (i.zero, i.size, i.bytes)) = some (some (.agg #[.int .i64 0, .int .i64 0, .int .i64 0, .int .i64 0, .int .i64 0, .int .i64 0, .int .i64 0, .int .i64 0, .int .i64 0]), 9, 72) := by kernel_rfl
set_option maxRecDepth 100000 in
set_option maxHeartbeats 4000000 in
theorem cac_any (b k : Nat) (l : List Cal) (w : World) (h : Sl w w.heap.size 9 (some ⟨b, 0, none⟩) l.length (calVals l)) (hn : l.length ≤ 100000) :
    Calls Try.prog 50 #[.slice (some ⟨b, 0, none⟩) l.length k] w (fun e w' => ∃ A k', e = .returned (.slice A l.length k') ∧ w'.ownsRow w.heap.size 62 9 (.slice A l.length k') l.length (calVals l) ∧ Below w.heap.size w w') := by
  obtain ⟨i1, hi1, hi1z, hi1s, hi1b⟩ := info_parts info_cac
  have HS := Lib.hid h
  clear h
  have qT : ∀ (w : World) (a : Option Addr) (n c : Nat), (binOp .eql 35 (.slice a n c) (.slice none 0 0)).run Try.prog w = .ok (.bool a.isNone) w := fun w a n c => Lib.run_eql_slice_nil w _ _ a n c 0 0 Try.underlying35
  go_enter Try.func50, Try.ntmps50
  go_wp2_with (at_builtin; go_must (refine wpList_app0 _ rfl _ _ 35 rfl w.heap.size 62 i1 (.agg #[.int .i64 0, .int .i64 0, .int .i64 0, .int .i64 0, .int .i64 0, .int .i64 0, .int .i64 0, .int .i64 0, .int .i64 0]) 9 72 Try.underlying35 hi1 hi1z hi1s hi1b rfl (by decide) (some ⟨w.heap.size, 0, none⟩) rfl (made_e w 62 9 (Nat.le_refl _)) w.heap.size (some ⟨b, 0, none⟩) l.length k (calVals l) rfl (HS.out.below ((Below.refl _ _).alloc (Nat.le_refl _) _)) (ca_ones l) (by simp only [maxLen]; omega) (by omega) (by simp) ?_; intro A7 k7 w7 hown7 hb7 hA7 hk7 hk8))
  go_ret
  exact ⟨A7, k7, rfl, hown7, ((Below.refl _ _).alloc (Nat.le_refl _) _).trans (hb7.mono (by simp))⟩
set_option maxRecDepth 100000 in
set_option maxHeartbeats 1000000 in
theorem cac_nil (w : World) : Calls Try.prog 50 #[.slice none 0 0] w (fun e w' => e = .returned (.slice none 0 0) ∧ w' = w) := by
  have qT : ∀ (w : World) (a : Option Addr) (n c : Nat), (binOp .eql 35 (.slice a n c) (.slice none 0 0)).run Try.prog w = .ok (.bool a.isNone) w := fun w a n c => Lib.run_eql_slice_nil w _ _ a n c 0 0 Try.underlying35
  go_enter Try.func50, Try.ntmps50
  go_wp2_with fail
  go_ret
  exact ⟨rfl, rfl⟩
/-- a row of the call's own, whatever its header, cloned -/
theorem cac_own {B : Nat} {v : Value} (l : List Cal) (w : World) (h : w.ownsRow B 62 9 v l.length (calVals l)) (hn : l.length ≤ 100000) :
    Calls Try.prog 50 #[v] w (fun e w' => ∃ A k', e = .returned (.slice A l.length k') ∧ w'.ownsRow w.heap.size 62 9 (.slice A l.length k') l.length (calVals l) ∧ Below w.heap.size w w') := by
  rcases h.2 with ⟨rfl, h0⟩ | ⟨g, cap, cur, rfl, hB, hg, h1, h2, h3, h4⟩
  · refine (cac_nil w).mono ?_
    rintro e w' ⟨rfl, rfl⟩
    have hl : l = [] := List.eq_nil_of_length_eq_zero h0
    subst hl
    exact ⟨none, 0, rfl, World.ownsRow_nil _ _ _ _, Below.refl _ _⟩
  · exact cac_any g cap l w (Sl.of_own h) hn
theorem info_caa : (Try.prog.info? 66).map (fun i => (i.zero, i.size, i.bytes)) = some (some (.agg #[.int .i64 0, .int .i64 0, .int .i64 0, .int .i64 0, .int .u64 0, .int .u64 0, .int .u64 0]), 7, 56) := by kernel_rfl
set_option maxRecDepth 100000 in
set_option maxHeartbeats 4000000 in
theorem caa_any (b k : Nat) (l : List Ac) (w : World) (h : Sl w w.heap.size 7 (some ⟨b, 0, none⟩) l.length (acVals l)) (hn : l.length ≤ 100000) :
    Calls Try.prog 61 #[.slice (some ⟨b, 0, none⟩) l.length k] w (fun e w' => ∃ A k', e = .returned (.slice A l.length k') ∧ w'.ownsRow w.heap.size 66 7 (.slice A l.length k') l.length (acVals l) ∧ Below w.heap.size w w') := by
  obtain ⟨i1, hi1, hi1z, hi1s, hi1b⟩ := info_parts info_caa
  have HS := Lib.hid h
  clear h
  have qT : ∀ (w : World) (a : Option Addr) (n c : Nat), (binOp .eql 36 (.slice a n c) (.slice none 0 0)).run Try.prog w = .ok (.bool a.isNone) w := fun w a n c => Lib.run_eql_slice_nil w _ _ a n c 0 0 Try.underlying36
  go_enter Try.func61, Try.ntmps61
  go_wp2_with (at_builtin; go_must (refine wpList_app0 _ rfl _ _ 36 rfl w.heap.size 66 i1 (.agg #[.int .i64 0, .int .i64 0, .int .i64 0, .int .i64 0, .int .u64 0, .int .u64 0, .int .u64 0]) 7 56 Try.underlying36 hi1 hi1z hi1s hi1b rfl (by decide) (some ⟨w.heap.size, 0, none⟩) rfl (made_e w 66 7 (Nat.le_refl _)) w.heap.size (some ⟨b, 0, none⟩) l.length k (acVals l) rfl (HS.out.below ((Below.refl _ _).alloc (Nat.le_refl _) _)) (ac_ones l) (by simp only [maxLen]; omega) (by omega) (by simp) ?_; intro A7 k7 w7 hown7 hb7 hA7 hk7 hk8))
  go_ret
  exact ⟨A7, k7, rfl, hown7, ((Below.refl _ _).alloc (Nat.le_refl _) _).trans (hb7.mono (by simp))⟩
set_option maxRecDepth 100000 in
set_option maxHeartbeats 1000000 in
theorem caa_nil (w : World) : Calls Try.prog 61 #[.slice none 0 0] w (fun e w' => e = .returned (.slice none 0 0) ∧ w' = w) := by
  have qT : ∀ (w : World) (a : Option Addr) (n c : Nat), (binOp .eql 36 (.slice a n c) (.slice none 0 0)).run Try.prog w = .ok (.bool a.isNone) w := fun w a n c => Lib.run_eql_slice_nil w _ _ a n c 0 0 Try.underlying36
  go_enter Try.func61, Try.ntmps61
  go_wp2_with fail
  go_ret
  exact ⟨rfl, rfl⟩
/-- a row of the call's own, whatever its header, cloned -/
theorem caa_own {B : Nat} {v : Value} (l : List Ac) (w : World) (h : w.ownsRow B 66 7 v l.length (acVals l)) (hn : l.length ≤ 100000) :
    Calls Try.prog 61 #[v] w (fun e w' => ∃ A k', e = .returned (.slice A l.length k') ∧ w'.ownsRow w.heap.size 66 7 (.slice A l.length k') l.length (acVals l) ∧ Below w.heap.size w w') := by
  rcases h.2 with ⟨rfl, h0⟩ | ⟨g, cap, cur, rfl, hB, hg, h1, h2, h3, h4⟩
  · refine (caa_nil w).mono ?_
    rintro e w' ⟨rfl, rfl⟩
    have hl : l = [] := List.eq_nil_of_length_eq_zero h0
    subst hl
    exact ⟨none, 0, rfl, World.ownsRow_nil _ _ _ _, Below.refl _ _⟩
  · exact caa_any g cap l w (Sl.of_own h) hn
set_option maxRecDepth 100000 in
set_option maxHeartbeats 1000000 in
theorem cas_nil (w : World) : Calls Try.prog 51 #[.slice none 0 0] w (fun e w' => e = .returned (.slice none 0 0) ∧ w' = w) := by
  have qT : ∀ (w : World) (a : Option Addr) (n c : Nat), (binOp .eql 37 (.slice a n c) (.slice none 0 0)).run Try.prog w = .ok (.bool a.isNone) w := fun w a n c => Lib.run_eql_slice_nil w _ _ a n c 0 0 Try.underlying37
  go_enter Try.func51, Try.ntmps51
  go_wp2_with fail
  go_ret
  exact ⟨rfl, rfl⟩
set_option maxRecDepth 100000 in
set_option maxHeartbeats 1000000 in
theorem mwords_any {y wb k : Nat} (l : List Int) (w : World) (h0 : w.cell? ⟨y, 0, none⟩ = some (.slice (some ⟨wb, 0, none⟩) l.length k)) (hr : Rw w wb 34 1 l.length k (u64s l)) (hn : l.length ≤ 8192) :
    Calls Try.prog 52 #[.pointer (some ⟨y, 0, none⟩)] w (ClonR l w) := by
  have HS := Lib.hid hr
  clear hr
  go_enter Try.func52, Try.ntmps52
  go_wp2_with fail
  refine (clonw_any wb k l _ (HS.out.sl) hn).mono ?_
  rintro e w1 ⟨A1, k1, rfl, ho1, hb1⟩
  go_wp2_with fail
  go_ret
  exact ⟨A1, k1, rfl, ho1, hb1⟩
set_option maxRecDepth 100000 in
set_option maxHeartbeats 1000000 in
/-- Log hands out a closure over its two boxes -/
theorem log_any (y : Nat) (z : Int) (w : World) : Calls Try.prog 53 #[.pointer (some ⟨y, 0, none⟩), .int .i64 z] w (fun e w' => e = .returned (.func (.func 60) #[] #[.pointer (some ⟨w.heap.size, 0, none⟩), .pointer (some ⟨w.heap.size + 1, 0, none⟩)]) ∧
    w' = (w.alloc (.cells #[.pointer (some ⟨y, 0, none⟩)] 119)).alloc (.cells #[.int .i64 z] 3)) := by
  go_enter Try.func53, Try.ntmps53
  go_wp2_with fail
  go_ret
  exact ⟨rfl, rfl⟩
end Go.Proofs.Ytjnmlgfkiebkgaa
