/-
  SameWords of equal lists; Words of locks that may not be; both Words of locks that may be.
-/
import Derived.Test.YtjnmlgfkiebkgaaLaw
namespace Go.Proofs.Ytjnmlgfkiebkgaa
open Go.RowKit
set_option linter.unusedVariables false
set_option linter.unusedSimpArgs false

theorem u64s_at9 {l : List Int} {j : Nat} {z : Int} (h : l[j]? = some z) : (u64s l)[j]? = some (.int .u64 z) := by simp [u64s, h]
theorem u64s_len (l : List Int) : (u64s l).length = l.length := by simp [u64s]
set_option maxRecDepth 100000 in
theorem samew_any (l : List Int) (A B : Option Addr) (c d : Nat) (w : World) (hA : Sl w w.heap.size 1 A l.length (u64s l)) (hB : Sl w w.heap.size 1 B l.length (u64s l)) (hn : l.length ≤ 140737488355328) :
    Calls Try.prog 14 #[.slice A l.length c, .slice B l.length d] w (BoolR true w) := by
  have HA := Lib.hid hA
  have HB := Lib.hid hB
  have e9 : ((l.length : Int) != l.length) = false := by simp
  clear hA hB
  go_enter Try.func14, Try.ntmps14
  go_wp2_with fail
  go_loopg [5] l.length (fun gk i wr => ∃ (j : Nat), j + gk = l.length ∧ i = .int .i64 j ∧ Hid (Below w.heap.size w wr))
  case atStart => exact ⟨0, by omega, rfl, Below.refl _ _⟩
  case round =>
    obtain ⟨j, hj, rfl, hBr⟩ := hrel
    by_cases hlt : j < l.length
    · obtain ⟨z, hz⟩ := at_lt hlt
      have e1 : (j : Int) < l.length := by omega
      have e0 : (0 : Int) ≤ j := by omega
      have hzr := hBr.out.size
      obtain ⟨ba, fa, rfl, hba, hca⟩ := (HA.out.below hBr.out).2 (by omega)
      obtain ⟨bb, fb, rfl, hbb, hcb⟩ := (HB.out.below hBr.out).2 (by omega)
      have v1 : wr.cell? ⟨ba, fa + j, none⟩ = some (.int .u64 z) := hca j _ (u64s_at9 hz)
      have v2 : wr.cell? ⟨bb, fb + j, none⟩ = some (.int .u64 z) := hcb j _ (u64s_at9 hz)
      have hla : ba < wr.heap.size := by omega
      have hlb : bb < wr.heap.size := by omega
      have e8 : (z != z) = false := by simp
      clear hca hcb hz
      go_upto_region 6 with fail
      go_region
      go_wp2_with fail
      go_roundg (gk - 1)
      case measure => omega
      case rel => exact ⟨j + 1, by omega, by go_num, by first | exact hBr.out | exact hBr.out.drew⟩
    · obtain rfl : j = l.length := by omega
      go_wp2_with fail
      go_ret
      exact ⟨rfl, hBr.out⟩
set_option maxRecDepth 100000 in
theorem words_no (T k : Int) (hk : rangeB T k 1 7 = false) (w : World) : Calls Try.prog 11 #[.agg #[.int .i64 T, .int .i64 k]] w fun e w' => e = .returned (.tuple #[.slice none 0 0, .int .i64 240]) ∧ Below w.heap.size w w' := by
  go_enter Try.func11, Try.ntmps11
  go_wp2_with fail
  refine (locksck_any T k _).mono ?_
  rw [hk]
  rintro e w1 ⟨rfl, hb⟩
  have HBW : Hid (Below w.heap.size w w1) := ((Below.refl _ _).alloc (Nat.le_refl _) _).trans (hb.mono (by simp))
  clear hb hk
  go_wp2_with fail
  go_ret2
  exact ⟨rfl, HBW.out⟩
theorem range_nat {T k : Int} (h : rangeB T k 1 7 = true) : ∃ t : Nat, T = t ∧ 1 ≤ t ∧ t ≤ 16 ∧ (k = 1 ∨ k = 2 ∨ k = 3 ∨ k = 4 ∨ k = 5 ∨ k = 6 ∨ k = 7) := by
  simp only [rangeB, Bool.and_eq_true, decide_eq_true_eq] at h
  exact ⟨T.toNat, by omega, by omega, by omega, by omega⟩
theorem words_all {T k : Int} (h : rangeB T k 1 7 = true) (w : World) : Calls Try.prog 11 #[.agg #[.int .i64 T, .int .i64 k]] w (WdsR (lkWords k T) okV w) := by
  obtain ⟨t, rfl, h1, h2, rfl | rfl | rfl | rfl | rfl | rfl | rfl⟩ := range_nat h
  · exact words_p1 t h1 h2 w
  · exact words_p2 t h1 h2 w
  · exact words_p3 t h1 h2 w
  · exact words_p4 t h1 h2 w
  · exact words_p5 t h1 h2 w
  · exact words_p6 t h1 h2 w
  · exact words_p7 t h1 h2 w
theorem rwords_all {T k : Int} (h : rangeB T k 1 7 = true) (w : World) : Calls Try.prog 15 #[.agg #[.int .i64 T, .int .i64 k]] w (WdsR (lkWords k T) idV w) := by
  obtain ⟨t, rfl, h1, h2, rfl | rfl | rfl | rfl | rfl | rfl | rfl⟩ := range_nat h
  · exact words_r1 t h1 h2 w
  · exact words_r2 t h1 h2 w
  · exact words_r3 t h1 h2 w
  · exact words_r4 t h1 h2 w
  · exact words_r5 t h1 h2 w
  · exact words_r6 t h1 h2 w
  · exact words_r7 t h1 h2 w
theorem lkWords_len {T k : Int} (h : rangeB T k 1 7 = true) : 2 ≤ (lkWords k T).length ∧ (lkWords k T).length ≤ 100 := by
  obtain ⟨t, rfl, h1, h2, rfl | rfl | rfl | rfl | rfl | rfl | rfl⟩ := range_nat h <;> simp [lkWords] <;> omega
end Go.Proofs.Ytjnmlgfkiebkgaa
